/- Into an element; slice literals. -/
import Derived.Test.YtcgeekjfbjcofaaEvMake3
set_option linter.unusedSimpArgs false
set_option linter.unusedVariables false
namespace Go.Proofs.Ev
section
variable {w : World} {H : Heap} {pl : Pl} {P : Program}
/-- The step of a store into an element. -/
theorem elem_step {t : Ty} {sh sh' : Option (List Nat)} {ys : List t.El} {i k off sz : Nat} {H' : Heap} {ids : List Nat} {e y : t.El} {rs : List R} {us : List Value} {f1 : Nat → Cell → Prop} {b m n cap : Nat}
    (hr : HRel H pl w) (hl : look H i = some (.arr sh t ys)) (hh : pl.hdr i = .slice (some ⟨b, m, none⟩) n cap) (hk : ys[k]? = some e) (hoff : off + sz ≤ t.sz) (hrs : rs.length = sz) (hus : us.length = sz)
    (hy : t.cells y = (t.cells e).take off ++ rs ++ (t.cells e).drop (off + sz)) (hone : ∀ u ∈ us, one u = true)
    (hin : ∀ j r, rs[j]? = some r → ∃ u, us[j]? = some u ∧ Inner w H pl sh' r u (f1 j)) (hf1 : ∀ j p, j < sz → f1 j p → ∃ k B, mem k ids = true ∧ look H k = some B ∧ B.isBox = false ∧ pl.fp k p)
    (hf2 : ∀ j j' p, j < sz → j' < sz → f1 j p → f1 j' p → j = j') (hsh : (sh = none ∧ sh' = none) ∨ ∃ d d', sh = some d ∧ sh' = some d' ∧ ∀ k, mem k d = true → mem k d' = true)
    (hit' : hit (ids ++ [i]) (sh'.getD []) = false) (hi : mem i ids = false) (ht : Turned H H' (ids, ids ++ [i]) i (.arr sh' t (ys.set k y))) :
    ∃ w', (storeCells ⟨b, m + (k * t.sz + off), none⟩ us).run P w = .ok () w' ∧ ∃ fp', StepTo H H' (ids, ids ++ [i]) pl (pl.set i (pl.hdr i) fp') w w' := by
  obtain ⟨⟨a, cap', b', o, vs, fs, hhd, hcap, ha, hreg, hc, hrr, hd1, hd2, hfp⟩⟩ := (hr.blk i _ hl).rowI
  have hklt : k < ys.length := (List.getElem?_eq_some_iff.1 hk).1
  rw [hh] at hhd
  cases hhd
  have hab : b = b' ∧ m = o := by
    rcases ha with h | h
    · omega
    · cases h; exact ⟨rfl, rfl⟩
  obtain ⟨rfl, rfl⟩ := hab
  have hown := hr.own_there
  have hpos : k * t.sz + off + sz ≤ cap * t.sz := by
    have : (k + 1) * t.sz ≤ cap * t.sz := Nat.mul_le_mul_right _ (by omega)
    rw [Nat.succ_mul] at this; omega
  have hcell : ∀ j, j < us.length → ∃ u, w.at? (b, m + (k * t.sz + off) + j) = some u ∧ w.ice? (b, m + (k * t.sz + off) + j) = false := fun j hj => by
    obtain ⟨⟨u, q1⟩, q2⟩ := hreg (k * t.sz + off + j) (by omega)
    rw [show m + (k * t.sz + off) + j = m + (k * t.sz + off + j) from by omega]
    exact ⟨u, q1, q2⟩
  have hst := run_storeCells_cells (P := P) b (m + (k * t.sz + off)) us 0 w (fun j hj => by
      obtain ⟨u, q1, _⟩ := hcell j hj
      simp only [Nat.add_zero]
      have q1 : w.cell? ⟨b, m + (k * t.sz + off) + j, none⟩ = some u := q1
      rw [q1]; rfl) (fun j hj => by
      obtain ⟨u, _, q2⟩ := hcell j hj
      simp only [Nat.add_zero]; exact q2) (fun u hu => one_oneCell (hone u hu))
  simp only [Nat.add_zero] at hst
  have hcellin : ∀ j, j < us.length → (w.setCells b (m + (k * t.sz + off)) us).at? (b, m + (k * t.sz + off) + j) = us[j]? := fun j hj => by
    have := World.cell?_setCells_in b us (m + (k * t.sz + off)) w (fun j hj => by
      obtain ⟨u, q1, _⟩ := hcell j hj
      have q1 : w.cell? ⟨b, m + (k * t.sz + off) + j, none⟩ = some u := q1
      rw [q1]; rfl) j hj
    rw [List.getElem?_eq_getElem hj]
    simpa [World.at?] using this
  have hcellout : ∀ p u, w.at? p = some u → ¬ (p.1 = b ∧ m + (k * t.sz + off) ≤ p.2 ∧ p.2 < m + (k * t.sz + off) + us.length) → (w.setCells b (m + (k * t.sz + off)) us).at? p = some u := fun p u hp hno => by
    unfold World.at? at *
    rw [World.cell?_setCells_out b _ _ w _ (fun e1 _ => by simp at e1; simp; omega)]
    exact hp
  have hice : ∀ p, (w.setCells b (m + (k * t.sz + off)) us).ice? p = w.ice? p := fun p => World.frozen?_setCells _ _ _ _ _
  have hregin : ∀ p, reg b m (cap * t.sz) p → pl.fp i p := fun p hp => (hfp p).2 (.inl hp)
  have hfsin : ∀ i' j r p, cellIn t ys i' j r → fs i' j p → pl.fp i p := fun i' j r p hx hf => (hfp p).2 (.inr ⟨i', j, r, hx, hf⟩)
  have hsep : ∀ j p, j < sz → f1 j p → ¬ pl.fp i p := fun j p hj hf hp => by
    obtain ⟨k', B, g1, g2, _, g4⟩ := hf1 j p hj hf
    have := hr.dis k' i B _ p g2 hl g4 hp
    subst this
    rw [hi] at g1; exact nomatch g1
  have hmi : mem i (ids ++ [i]) = true := by rw [mem_append]; simp [mem]
  refine ⟨_, hst, fun p => reg b m (cap * t.sz) p ∨ (∃ i' j r, cellIn t ys i' j r ∧ ¬ (i' = k ∧ off ≤ j ∧ j < off + sz) ∧ fs i' j p) ∨ ∃ j, j < sz ∧ f1 j p, ?_⟩
  refine turn_step (Grown.setCells _ _ _ _) hr ht (fun x hx => by show mem x (ids ++ [i]) = true; rw [mem_append, show mem x ids = true from hx]; rfl) (fun x hx => ?_) (.inr ⟨_, hl, hmi, by simp [Blk.like], rfl⟩) (fun p u hp hno => ⟨hcellout p u hp fun hin => ?_, hice p⟩) (fun p hp => ?_) (fun p hp => ?_) fun hkp => ?_
  · have hx : mem x (ids ++ [i]) = true := hx
    rw [mem_append] at hx
    cases h : mem x ids
    · rw [h] at hx
      simp only [mem, Bool.false_or] at hx
      cases hb : Nat.beq i x
      · rw [hb] at hx; exact nomatch hx
      · exact .inr (Nat.eq_of_beq_eq_true hb).symm
    · exact .inl rfl
  · exact hno i _ hmi hl (hregin p ⟨hin.1, by omega, by omega⟩)
  · cases hq : w.at? p with
    | none => rfl
    | some u =>
      by_cases hin : p.1 = b ∧ m + (k * t.sz + off) ≤ p.2 ∧ p.2 < m + (k * t.sz + off) + us.length
      · obtain ⟨p1, p2⟩ := p
        obtain ⟨e1, e2, e3⟩ := hin
        simp only at e1 e2 e3
        subst e1
        have := hcellin (p2 - (m + (k * t.sz + off))) (by omega)
        rw [show m + (k * t.sz + off) + (p2 - (m + (k * t.sz + off))) = p2 from by omega, hp, List.getElem?_eq_getElem (by omega)] at this
        exact nomatch this
      · rw [hcellout p u hq hin] at hp; exact nomatch hp
  · rcases hp with hp | ⟨i', j, r, hx, _, hf⟩ | ⟨j, hj, hf⟩
    · exact .inr ⟨i, _, hmi, hl, hregin p hp⟩
    · exact .inr ⟨i, _, hmi, hl, hfsin i' j r p hx hf⟩
    · obtain ⟨k', B, g1, g2, _, g4⟩ := hf1 j p hj hf
      exact .inr ⟨k', B, by rw [mem_append, g1]; rfl, g2, g4⟩
  · have hcases : ∀ {i' j r}, cellIn t (ys.set k y) i' j r → (i' = k ∧ off ≤ j ∧ j < off + sz ∧ rs[j - off]? = some r) ∨ (¬ (i' = k ∧ off ≤ j ∧ j < off + sz) ∧ cellIn t ys i' j r) := fun {i' j r} hx => by
      have hj := (cellIn_lt hx).2
      obtain ⟨x, hx1, hx2⟩ := hx
      by_cases hik : i' = k
      · subst hik
        rw [List.getElem?_set_self hklt] at hx1
        cases hx1
        rw [hy] at hx2
        have hcl : (t.cells e).length = t.sz := Ty.cells_length t e
        have hto : ((t.cells e).take off).length = off := by rw [List.length_take]; omega
        by_cases c1 : off ≤ j ∧ j < off + sz
        · rw [List.append_assoc, List.getElem?_append_right (by omega), List.getElem?_append_left (by omega), hto] at hx2
          exact .inl ⟨rfl, c1.1, c1.2, hx2⟩
        · refine .inr ⟨fun h => c1 h.2, e, hk, ?_⟩
          by_cases c2 : j < off
          · rw [List.append_assoc, List.getElem?_append_left (by omega), List.getElem?_take, if_pos c2] at hx2
            exact hx2
          · rw [List.append_assoc, List.getElem?_append_right (by omega), List.getElem?_append_right (by omega), List.getElem?_drop, hto, show off + sz + (j - off - rs.length) = j from by omega] at hx2
            exact hx2
      · rw [List.getElem?_set_ne (fun h => hik h.symm)] at hx1
        exact .inr ⟨fun h => hik h.1, x, hx1, hx2⟩
    have hsplit : ∀ {i' j}, j < t.sz → i' ≠ k ∨ ¬ (off ≤ j ∧ j < off + sz) → ¬ (m + (k * t.sz + off) ≤ m + (i' * t.sz + j) ∧ m + (i' * t.sz + j) < m + (k * t.sz + off) + us.length) := fun {i' j} hj hne ⟨g1, g2⟩ => by
      by_cases e : i' = k
      · subst e
        rcases hne with h | h
        · exact h rfl
        · exact h ⟨by omega, by omega⟩
      · rcases Nat.lt_or_gt_of_ne e with h | h
        · have : (i' + 1) * t.sz ≤ k * t.sz := Nat.mul_le_mul_right _ h
          rw [Nat.succ_mul] at this; omega
        · have : (k + 1) * t.sz ≤ i' * t.sz := Nat.mul_le_mul_right _ h
          rw [Nat.succ_mul] at this; omega
    have hnoreg : ∀ j p, j < sz → f1 j p → ¬ reg b m (cap * t.sz) p := fun j p hj hf hp => hsep j p hj hf (hregin p hp)
    have frameD : ∀ {r : R} {u : Value} {f : Cell → Prop}, RepD w r u f → (∀ p, f p → ¬ reg b m (cap * t.sz) p) → RepD (w.setCells b (m + (k * t.sz + off)) us) r u f := fun h hno => h.frame fun p u hf hu => ⟨hcellout p u hu fun hin => hno p hf ⟨hin.1, by omega, by omega⟩, hice p⟩
    have frameR : ∀ {r : R} {u : Value} {d d' : List Nat}, RepR w (okd H pl d) r u → (∀ k, mem k d = true → mem k d' = true) → hit (ids ++ [i]) d' = false → RepR (w.setCells b (m + (k * t.sz + off)) us) (okd H' (pl.set i (.slice (some ⟨b, m, none⟩) ys.length cap) fun p => reg b m (cap * t.sz) p ∨ (∃ i' j r, cellIn t ys i' j r ∧ ¬ (i' = k ∧ off ≤ j ∧ j < off + sz) ∧ fs i' j p) ∨ ∃ j, j < sz ∧ f1 j p) d') r u := fun {r u d d'} h hd hh2 =>
      h.frame fun p u hp hu => (hh ▸ hkp).k2 d' p u (fun x hx => hit_false _ d' hh2 x hx) (okd_mono hd hp) hu
    refine BlkRep.of_rowI ⟨some ⟨b, m, none⟩, cap, b, m, fun i' j => if i' = k ∧ off ≤ j ∧ j < off + sz then (us[j - off]?).getD undef else vs i' j, fun i' j => if i' = k ∧ off ≤ j ∧ j < off + sz then f1 (j - off) else fs i' j, by simp [Pl.set, hh], by simpa using hcap, .inr rfl, fun j hj => ⟨?_, (hice _).trans (hreg j hj).2⟩, fun i' j r hx => ?_, fun i' j r hx => ?_, fun i' j r p hx hf => ?_, fun i' j r i2 j2 r2 p hx hx' hf hf' => ?_, fun p => ?_⟩
    · by_cases hin : k * t.sz + off ≤ j ∧ j < k * t.sz + off + us.length
      · have := hcellin (j - (k * t.sz + off)) (by omega)
        rw [show m + (k * t.sz + off) + (j - (k * t.sz + off)) = m + j from by omega] at this
        exact ⟨_, this.trans (List.getElem?_eq_getElem (by omega))⟩
      · obtain ⟨u, hu⟩ := (hreg j hj).1
        exact ⟨u, hcellout _ u hu fun h => hin ⟨by have := h.2.1; simp at this; omega, by have := h.2.2; simp at this; omega⟩⟩
    · rcases hcases hx with ⟨rfl, g1, g2, g3⟩ | ⟨g1, g2⟩
      · rw [if_pos ⟨rfl, g1, g2⟩]
        obtain ⟨u, hu, _⟩ := hin _ _ g3
        have := hcellin (j - off) (by omega)
        rw [show m + (i' * t.sz + off) + (j - off) = m + (i' * t.sz + j) from by omega] at this
        rw [this, hu]; rfl
      · rw [if_neg g1]
        exact hcellout _ _ (hc _ _ _ g2) fun h => hsplit (cellIn_lt g2).2 (by by_cases e : i' = k; exact .inr fun h => g1 ⟨e, h⟩; exact .inl e) ⟨h.2.1, h.2.2⟩
    · rcases hcases hx with ⟨rfl, g1, g2, g3⟩ | ⟨g1, g2⟩
      · simp only [g1, g2, and_self, if_true]
        obtain ⟨u, hu, hI⟩ := hin _ _ g3
        rw [hu, Option.getD_some]
        rcases hsh with ⟨rfl, rfl⟩ | ⟨d, d', rfl, rfl, hdd⟩
        · exact frameD hI fun p hf => hnoreg _ p (by omega) hf
        · rw [hh]; exact ⟨frameR hI.1 (fun _ h => h) hit', hI.2⟩
      · simp only [if_neg g1]
        have hI := hrr _ _ _ g2
        rcases hsh with ⟨rfl, rfl⟩ | ⟨d, d', rfl, rfl, hdd⟩
        · exact frameD hI fun p hf => hd1 _ _ _ p g2 hf
        · rw [hh]; exact ⟨frameR hI.1 hdd hit', hI.2⟩
    · rcases hcases hx with ⟨rfl, g1, g2, g3⟩ | ⟨g1, g2⟩
      · simp only [g1, g2, and_self, if_true] at hf
        exact hnoreg _ p (by omega) hf
      · simp only [if_neg g1] at hf
        exact hd1 _ _ _ p g2 hf
    · rcases hcases hx with ⟨rfl, g1, g2, g3⟩ | ⟨g1, g2⟩ <;> rcases hcases hx' with ⟨rfl, q1, q2, q3⟩ | ⟨q1, q2⟩
      · simp only [g1, g2, and_self, if_true] at hf
        simp only [q1, q2, and_self, if_true] at hf'
        have := hf2 _ _ p (by omega) (by omega) hf hf'
        exact ⟨rfl, by omega⟩
      · simp only [g1, g2, and_self, if_true] at hf
        simp only [if_neg q1] at hf'
        exact (hsep _ p (by omega) hf (hfsin _ _ _ p q2 hf')).elim
      · simp only [if_neg g1] at hf
        simp only [q1, q2, and_self, if_true] at hf'
        exact (hsep _ p (by omega) hf' (hfsin _ _ _ p g2 hf)).elim
      · simp only [if_neg g1] at hf
        simp only [if_neg q1] at hf'
        exact hd2 _ _ _ _ _ _ p g2 q2 hf hf'
    · simp only [Pl.set, if_true]
      constructor
      · rintro (h | ⟨i', j, r, hx, hne, hf⟩ | ⟨j, hj, hf⟩)
        · exact .inl h
        · obtain ⟨x, hx1, hx2⟩ := hx
          have hj := (cellIn_lt ⟨x, hx1, hx2⟩).2
          obtain ⟨r', hr'⟩ := cellIn_of (t := t) (xs := ys.set k y) (i := i') (j := j) (by rw [List.length_set]; exact (List.getElem?_eq_some_iff.1 hx1).1) hj
          exact .inr ⟨i', j, r', hr', by simp only [if_neg hne]; exact hf⟩
        · obtain ⟨r', hr'⟩ := cellIn_of (t := t) (xs := ys.set k y) (i := k) (j := off + j) (by rw [List.length_set]; exact hklt) (by omega)
          exact .inr ⟨k, off + j, r', hr', by rw [if_pos (show k = k ∧ off ≤ off + j ∧ off + j < off + sz from ⟨rfl, by omega, by omega⟩), Nat.add_sub_cancel_left]; exact hf⟩
      · rintro (h | ⟨i', j, r, hx, hf⟩)
        · exact .inl h
        · rcases hcases hx with ⟨rfl, g1, g2, g3⟩ | ⟨g1, g2⟩
          · simp only [g1, g2, and_self, if_true] at hf
            exact .inr (.inr ⟨_, by omega, hf⟩)
          · simp only [if_neg g1] at hf
            exact .inr (.inl ⟨_, _, _, g2, g1, hf⟩)
end
end Go.Proofs.Ev
