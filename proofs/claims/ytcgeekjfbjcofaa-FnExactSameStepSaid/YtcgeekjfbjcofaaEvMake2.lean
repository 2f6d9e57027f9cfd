/- Operations that make arrays: soundness. -/
import Derived.Test.YtcgeekjfbjcofaaEvMake
set_option linter.unusedSimpArgs false
set_option linter.unusedVariables false
namespace Go.Proofs.Ev
section
variable {w : World} {H : Heap} {pl : Pl} {t : Ty}
theorem cellIn_append {xs ys : List t.El} {i j : Nat} {r : R} (h : cellIn t (xs ++ ys) i j r) : (i < xs.length ∧ cellIn t xs i j r) ∨ (xs.length ≤ i ∧ cellIn t ys (i - xs.length) j r) := by
  obtain ⟨x, hx, hr⟩ := h
  by_cases c : i < xs.length
  · exact .inl ⟨c, x, by rwa [List.getElem?_append_left c] at hx, hr⟩
  · exact .inr ⟨by omega, x, by rwa [List.getElem?_append_right (by omega)] at hx, hr⟩
theorem Row.nil (inner : R → Value → (Cell → Prop) → Prop) : Nonempty (Row w inner t [] (.slice none 0 0) (fun _ => False)) :=
  ⟨none, 0, 0, 0, fun _ _ => undef, fun _ _ _ => False, rfl, Nat.le_refl _, .inl rfl, fun j hj => by simp at hj, fun i j r ⟨x, hx, _⟩ => by simp at hx, fun i j r ⟨x, hx, _⟩ => by simp at hx,
    fun i j r p ⟨x, hx, _⟩ => by simp at hx, fun i j r _ _ _ p ⟨x, hx, _⟩ => by simp at hx, fun p => ⟨fun h => h.elim, fun h => h.elim (fun h => by have := h.2; simp at this) fun ⟨i, j, r, ⟨x, hx, _⟩, _⟩ => by simp at hx⟩⟩
theorem divmod_cell {xs : List t.El} {i j : Nat} {r : R} (hx : cellIn t xs i j r) : (i * t.sz + j) / t.sz = i ∧ (i * t.sz + j) % t.sz = j := by
  have hj := (cellIn_lt hx).2
  exact ⟨by rw [Nat.mul_comm, Nat.mul_add_div t.sz_pos, Nat.div_eq_of_lt hj]; simp, by rw [Nat.mul_comm, Nat.mul_add_mod, Nat.mod_eq_of_lt hj]⟩
theorem cell_back {xs : List t.El} {k : Nat} (hk : k < xs.length * t.sz) : ∃ r, cellIn t xs (k / t.sz) (k % t.sz) r := cellIn_of (by rw [Nat.div_lt_iff_lt_mul t.sz_pos]; exact hk) (Nat.mod_lt _ t.sz_pos)
theorem divmod_back (k : Nat) : k / t.sz * t.sz + k % t.sz = k := by rw [Nat.mul_comm]; exact Nat.div_add_mod _ _
/-- The row behind an 'append'. -/
theorem append_row {sh sh1 sh' : Option (List Nat)} {xs ys : List t.El} {fp0 : Cell → Prop} {u0 ux : Value} {ids G : List Nat} {T ty e : TypeId} {ti : TypeInfo} {z : Value} {P : Program} {n : Nat} {H' : Heap}
    (hr : HRel H pl w) (hT : P.underlying T = some (.slice e)) (hi : P.info? e = some ti) (hz : ti.zero = some z) (hzs : z.cells.size = ti.size) (hsz : ti.size = t.sz) (hb : ti.bytes ≤ 512)
    (hrow : Nonempty (Row w (Inner w H pl sh) t xs u0 fp0)) (hfp0 : ∀ p, fp0 p → ∃ k B, mem k G = true ∧ mem k ids = false ∧ look H k = some B ∧ pl.fp k p)
    (hsrc : Src w H pl sh1 ids t ys ux) (hids : ∀ k, mem k ids = true → mem k G = true) (hj : joinSh sh sh1 = some sh') (hhit : hit G (sh'.getD []) = false)
    (hlen : xs.length + ys.length ≤ maxN) (hn : look H n = none) (hH' : Turned H H' (G, G ++ []) n (.arr sh' t (xs ++ ys))) :
    ∃ u' fp' w', (Builtin.append_ #[T, T] ty #[u0, ux]).run P w = .ok u' w' ∧ StepTo H H' (G, G ++ []) pl (pl.set n u' fp') w w' := by
  obtain ⟨⟨a, cap, b, o, vs, fs, rfl, hcap, ha, hreg, hc, hrr, hd1, hd2, hfp⟩⟩ := hrow
  obtain ⟨⟨x, c, news, fs1, rfl, hnl, hnews, hone, hin1, hown1, hdis1⟩⟩ := hsrc
  have hown := hr.own_there
  have holds : ∀ j u, ((List.range (xs.length * t.sz)).map (fun k => vs (k / t.sz) (k % t.sz)))[j]? = some u → w.at? (b, o + j) = some u := fun j u hu => by
    have hlt : j < xs.length * t.sz := by have := (List.getElem?_eq_some_iff.1 hu).1; simpa using this
    rw [range_get hlt] at hu; cases hu
    obtain ⟨r, hx⟩ := cell_back hlt
    have := hc _ _ _ hx
    rwa [divmod_back] at this
  obtain ⟨a', cap', b', o', w', hrun, A⟩ := append_run (P := P) (w := w) (ty := ty) (n := ys.length) (c := c) (x := x) (news := news) hT hi hz hzs hcap ha (by rw [hsz]; exact hreg) (by rw [hsz]; simp) holds (by rw [hsz]; exact hnl) hnews (fun u hu => one_oneCell (hone u hu)) hb hlen
  rw [hsz] at A
  have hreg0 : ∀ p, reg b o (cap * t.sz) p → ∃ k B, mem k G = true ∧ mem k ids = false ∧ look H k = some B ∧ pl.fp k p := fun p hp => hfp0 p ((hfp p).2 (.inl hp))
  have hfs0 : ∀ i j r p, cellIn t xs i j r → fs i j p → ∃ k B, mem k G = true ∧ mem k ids = false ∧ look H k = some B ∧ pl.fp k p := fun i j r p hx hf => hfp0 p ((hfp p).2 (.inr ⟨i, j, r, hx, hf⟩))
  have hsep : ∀ p, (∃ k B, mem k G = true ∧ mem k ids = false ∧ look H k = some B ∧ pl.fp k p) → (∃ k B, mem k ids = true ∧ look H k = some B ∧ B.isBox = false ∧ pl.fp k p) → False := fun p ⟨k, B, _, g2, g3, g4⟩ ⟨k', B', q1, q2, _, q4⟩ => by
    have := hr.dis k k' B B' p g3 q2 g4 q4
    subst this
    rw [g2] at q1; exact nomatch q1
  have hfs1reg : ∀ i j r p, cellIn t ys i j r → fs1 i j p → ¬ reg b o (cap * t.sz) p := fun i j r p hx hf hp => hsep p (hreg0 p hp) (hown1 i j r p hx hf)
  have hnewreg : ∀ p, reg b' o' (cap' * t.sz) p → ¬ reg b o (cap * t.sz) p → w.at? p = none := fun p hp hno => (A.hfp p hp).resolve_right hno
  have nocase : ∀ p, reg b' o' (cap' * t.sz) p → ¬ reg b o (cap * t.sz) p → (∃ k B, look H k = some B ∧ pl.fp k p) → False := fun p hp hno ⟨k, B, g1, g2⟩ => by
    obtain ⟨u, hu⟩ := hown k B p g1 g2
    rw [hnewreg p hp hno] at hu; exact nomatch hu
  refine ⟨_, fun p => reg b' o' (cap' * t.sz) p ∨ (∃ i j r, cellIn t xs i j r ∧ fs i j p) ∨ ∃ i j r, cellIn t ys i j r ∧ fs1 i j p, w', hrun, ?_⟩
  refine turn_step A.gr hr hH' (fun i hi => by show mem i (G ++ []) = true; rw [List.append_nil]; exact hi) (fun i hi => .inl (by have hi : mem i (G ++ []) = true := hi; rwa [List.append_nil] at hi)) (.inl hn) (fun p u hp hno => A.hout p u hp fun hre => ?_) A.hdom (fun p hp => ?_) fun hk => ?_
  · obtain ⟨k, B, g1, _, g3, g4⟩ := hreg0 p hre
    exact hno k B (by rw [List.append_nil]; exact g1) g3 g4
  · rcases hp with hp | ⟨i, j, r, hx, hf⟩ | ⟨i, j, r, hx, hf⟩
    · rcases A.hfp p hp with h | h
      · exact .inl h
      · obtain ⟨k, B, g1, _, g3, g4⟩ := hreg0 p h
        exact .inr ⟨k, B, by rw [List.append_nil]; exact g1, g3, g4⟩
    · obtain ⟨k, B, g1, _, g3, g4⟩ := hfs0 i j r p hx hf
      exact .inr ⟨k, B, by rw [List.append_nil]; exact g1, g3, g4⟩
    · obtain ⟨k, B, g1, g2, _, g4⟩ := hown1 i j r p hx hf
      exact .inr ⟨k, B, by rw [List.append_nil]; exact hids k g1, g2, g4⟩
  · refine BlkRep.of_rowI ⟨a', cap', b', o', fun i j => if i < xs.length then vs i j else (news[(i - xs.length) * t.sz + j]?).getD undef, fun i j => if i < xs.length then fs i j else fs1 (i - xs.length) j, ?_, by rw [List.length_append]; exact A.le, A.ha, A.hreg, fun i j r hx => ?_, fun i j r hx => ?_, fun i j r p hx hf => ?_, fun i j r i' j' r' p hx hx' hf hf' => ?_, fun p => ?_⟩
    · simp [Pl.set]
    · rcases cellIn_append hx with ⟨hlt, hx⟩ | ⟨hge, hx⟩
      · rw [if_pos hlt]
        refine A.hold _ _ ?_
        rw [range_get (cell_lt hx), (divmod_cell hx).1, (divmod_cell hx).2]
      · rw [if_neg (by omega)]
        obtain ⟨v, g1, _⟩ := hin1 _ _ _ hx
        rw [g1, Option.getD_some]
        have := A.hnew _ _ g1
        rw [show i * t.sz + j = xs.length * t.sz + ((i - xs.length) * t.sz + j) from by rw [← Nat.add_assoc, ← Nat.add_mul]; congr 2; omega]
        exact this
    · have frameD : ∀ {r : R} {u : Value} {f : Cell → Prop}, RepD w r u f → (∀ p, f p → ¬ reg b o (cap * t.sz) p) → RepD w' r u f := fun h hno => h.frame fun p u hf hu => A.hout p u hu (hno p hf)
      have frameR : ∀ {r : R} {u : Value} {d d' : List Nat}, RepR w (okd H pl d) r u → (∀ k, mem k d = true → mem k d' = true) → hit G d' = false → RepR w' (okd H' (pl.set n (.slice a' (xs.length + ys.length) cap') fun p => reg b' o' (cap' * t.sz) p ∨ (∃ i j r, cellIn t xs i j r ∧ fs i j p) ∨ ∃ i j r, cellIn t ys i j r ∧ fs1 i j p) d') r u := fun {r u d d'} h hd hh =>
        h.frame fun p u hp hu => hk.k2 d' p u (fun i hi => by show mem i (G ++ []) = false; rw [List.append_nil]; exact hit_false G d' hh i hi) (okd_mono hd hp) hu
      rcases cellIn_append hx with ⟨hlt, hx⟩ | ⟨hge, hx⟩
      · simp only [if_pos hlt]
        have := hrr i j r hx
        cases sh with
        | none =>
          cases sh1 with
          | none => cases hj; exact frameD this fun p hf => hd1 i j r p hx hf
          | some d1 => exact nomatch hj
        | some d0 =>
          cases sh1 with
          | none => exact nomatch hj
          | some d1 =>
            cases hj
            exact ⟨frameR this.1 (fun k hk => by rw [mem_append, hk]; rfl) hhit, this.2⟩
      · simp only [if_neg (show ¬ i < xs.length by omega)]
        obtain ⟨v, g1, g2⟩ := hin1 _ _ _ hx
        rw [g1, Option.getD_some]
        cases sh with
        | none =>
          cases sh1 with
          | none => cases hj; exact frameD g2 fun p hf => hfs1reg _ _ _ p hx hf
          | some d1 => exact nomatch hj
        | some d0 =>
          cases sh1 with
          | none => exact nomatch hj
          | some d1 =>
            cases hj
            exact ⟨frameR g2.1 (fun k hk => by rw [mem_append, hk, Bool.or_true]) hhit, g2.2⟩
    · intro hre
      rcases cellIn_append hx with ⟨hlt, hx⟩ | ⟨hge, hx⟩
      · simp only [if_pos hlt] at hf
        obtain ⟨k, B, g1, _, g3, g4⟩ := hfs0 i j r p hx hf
        exact nocase p hre (hd1 i j r p hx hf) ⟨k, B, g3, g4⟩
      · simp only [if_neg (show ¬ i < xs.length by omega)] at hf
        obtain ⟨k, B, g1, g2, _, g4⟩ := hown1 _ j r p hx hf
        exact nocase p hre (hfs1reg _ j r p hx hf) ⟨k, B, g2, g4⟩
    · rcases cellIn_append hx with ⟨hlt, hx⟩ | ⟨hge, hx⟩ <;> rcases cellIn_append hx' with ⟨hlt', hx'⟩ | ⟨hge', hx'⟩
      · simp only [if_pos hlt] at hf
        simp only [if_pos hlt'] at hf'
        exact hd2 i j r i' j' r' p hx hx' hf hf'
      · simp only [if_pos hlt] at hf
        simp only [if_neg (show ¬ i' < xs.length by omega)] at hf'
        exact (hsep p (hfs0 i j r p hx hf) (hown1 _ _ _ p hx' hf')).elim
      · simp only [if_neg (show ¬ i < xs.length by omega)] at hf
        simp only [if_pos hlt'] at hf'
        exact (hsep p (hfs0 _ _ _ p hx' hf') (hown1 _ _ _ p hx hf)).elim
      · simp only [if_neg (show ¬ i < xs.length by omega)] at hf
        simp only [if_neg (show ¬ i' < xs.length by omega)] at hf'
        have := hdis1 _ _ _ _ _ _ p hx hx' hf hf'
        exact ⟨by omega, this.2⟩
    · simp only [Pl.set, if_true]
      constructor
      · rintro (h | ⟨i, j, r, hx, hf⟩ | ⟨i, j, r, hx, hf⟩)
        · exact .inl h
        · have hlt := (cellIn_lt hx).1
          obtain ⟨y, hy, hyr⟩ := hx
          exact .inr ⟨i, j, r, ⟨y, by rw [List.getElem?_append_left hlt]; exact hy, hyr⟩, by simp only [if_pos hlt]; exact hf⟩
        · obtain ⟨y, hy, hyr⟩ := hx
          exact .inr ⟨xs.length + i, j, r, ⟨y, by rw [List.getElem?_append_right (by omega), Nat.add_sub_cancel_left]; exact hy, hyr⟩, by simp only [if_neg (show ¬ xs.length + i < xs.length by omega), Nat.add_sub_cancel_left]; exact hf⟩
      · rintro (h | ⟨i, j, r, hx, hf⟩)
        · exact .inl h
        · rcases cellIn_append hx with ⟨hlt, hx⟩ | ⟨hge, hx⟩
          · simp only [if_pos hlt] at hf; exact .inr (.inl ⟨i, j, r, hx, hf⟩)
          · simp only [if_neg (show ¬ i < xs.length by omega)] at hf; exact .inr (.inr ⟨_, j, r, hx, hf⟩)
end
end Go.Proofs.Ev
