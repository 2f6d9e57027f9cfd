/- Elements that come into an array. -/
import Derived.Test.YtcgeekjfbjcofaaEvApd
set_option linter.unusedSimpArgs false
set_option linter.unusedVariables false
namespace Go.Proofs.Ev
def Inner (w : World) (H : Heap) (pl : Pl) (sh : Option (List Nat)) (r : R) (u : Value) (f : Cell → Prop) : Prop :=
  match sh with
  | none => RepD w r u f
  | some d => RepR w (okd H pl d) r u ∧ ∀ p, ¬ f p
theorem one_oneCell {u : Value} (h : one u = true) : u.oneCell' = true := by cases u <;> simp_all [one, Value.oneCell']
theorem RepD.isOne {w : World} {r : R} {u : Value} {f : Cell → Prop} (h : RepD w r u f) : one u = true := by cases h <;> rfl
theorem Inner.isOne {w : World} {H : Heap} {pl : Pl} {sh : Option (List Nat)} {r : R} {u : Value} {f : Cell → Prop} (h : Inner w H pl sh r u f) : one u = true := by
  cases sh with
  | none => exact RepD.isOne h
  | some d => exact RepR.isOne h.1
theorem BlkRep.rowI {w : World} {H : Heap} {pl : Pl} {i : Nat} {sh : Option (List Nat)} {t : Ty} {xs : List t.El} (h : BlkRep w H pl i (.arr sh t xs)) : Nonempty (Row w (Inner w H pl sh) t xs (pl.hdr i) (pl.fp i)) := by
  cases sh <;> exact h
theorem BlkRep.of_rowI {w : World} {H : Heap} {pl : Pl} {i : Nat} {sh : Option (List Nat)} {t : Ty} {xs : List t.El} (h : Nonempty (Row w (Inner w H pl sh) t xs (pl.hdr i) (pl.fp i))) : BlkRep w H pl i (.arr sh t xs) := by
  cases sh <;> exact h
/-- Elements as they lie somewhere, to be taken over: 'ids' are given up for what they own. -/
structure Src (w : World) (H : Heap) (pl : Pl) (sh : Option (List Nat)) (ids : List Nat) (t : Ty) (ys : List t.El) (u : Value) : Prop where
  ex : ∃ (x : Option Addr) (c : Nat) (news : List Value) (fs : Nat → Nat → Cell → Prop), u = .slice x ys.length c ∧ news.length = ys.length * t.sz ∧
    (ys.length = 0 ∨ ∃ A, x = some A ∧ ∀ (j : Nat) (v : Value), news[j]? = some v → w.cell? (A.add j) = some v) ∧ (∀ v ∈ news, one v = true) ∧
    (∀ i j r, cellIn t ys i j r → ∃ v, news[i * t.sz + j]? = some v ∧ Inner w H pl sh r v (fs i j)) ∧
    (∀ i j r p, cellIn t ys i j r → fs i j p → ∃ k B, mem k ids = true ∧ look H k = some B ∧ B.isBox = false ∧ pl.fp k p) ∧
    (∀ i j r i' j' r' p, cellIn t ys i j r → cellIn t ys i' j' r' → fs i j p → fs i' j' p → i = i' ∧ j = j')
theorem flat_ne {t : Ty} (h : flatTy t = true) {xs : List t.El} {i j : Nat} {r : R} (hc : cellIn t xs i j r) : ∀ t' l, r ≠ .sl t' l := by
  obtain ⟨x, _, hr⟩ := hc
  intro t' l e
  subst e
  have hm := List.mem_of_getElem? hr
  cases t with
  | sl t => exact nomatch h
  | int k => simp [Ty.cells] at hm
  | bool => simp [Ty.cells] at hm
  | str => simp [Ty.cells] at hm
  | st s => cases s with
    | shape => simp [Ty.cells, S.cells, shapeC] at hm
    | wish => simp [Ty.cells, S.cells, wishC] at hm
    | _ => exact nomatch h
theorem RepR.toD {w : World} {ok : Cell → Prop} {r : R} {u : Value} (h : RepR w ok r u) (hs : ∀ t l, r ≠ .sl t l) : RepD w r u (fun _ => False) := by
  cases h with
  | int k n => exact .int k n
  | bool b => exact .bool b
  | str l => exact .str l
  | sl t xs => exact (hs t xs rfl).elim
section
variable {w : World} {H : Heap} {pl : Pl} {t : Ty}
/-- The list of f's values. -/
theorem range_get {f : Nat → Value} {n k : Nat} (h : k < n) : ((List.range n).map f)[k]? = some (f k) := by simp [h]
theorem cell_lt {t : Ty} {xs : List t.El} {i j : Nat} {r : R} (h : cellIn t xs i j r) : i * t.sz + j < xs.length * t.sz := off_lt (cellIn_lt h).1 (cellIn_lt h).2 (Nat.le_refl _)
theorem src_of_list (hr : HRel H pl w) {v : SV} {u : Value} {d : List Nat} {ys : List t.El} (h : v.list H t = some (d, ys)) (hv : SVRep w H pl v u) (sh : Option (List Nat)) (hsh : (flatTy t = true ∧ sh = none) ∨ sh = some d) :
    Src w H pl sh [] t ys u := by
  have hl := (list_rep hr h hv).1
  cases hl with
  | sl _ _ a cap b o vs hcap ha hc hrr =>
    have hk : ∀ i j r, cellIn t ys i j r → (i * t.sz + j) / t.sz = i ∧ (i * t.sz + j) % t.sz = j := fun i j r hx => by
      have hj := (cellIn_lt hx).2
      refine ⟨by rw [Nat.mul_comm, Nat.mul_add_div t.sz_pos, Nat.div_eq_of_lt hj]; simp, by rw [Nat.mul_comm, Nat.mul_add_mod, Nat.mod_eq_of_lt hj]⟩
    have hback : ∀ k, k < ys.length * t.sz → ∃ r, cellIn t ys (k / t.sz) (k % t.sz) r := fun k hk => cellIn_of (by rw [Nat.div_lt_iff_lt_mul t.sz_pos]; exact hk) (Nat.mod_lt _ t.sz_pos)
    refine ⟨a, cap, (List.range (ys.length * t.sz)).map (fun k => vs (k / t.sz) (k % t.sz)), fun _ _ _ => False, rfl, by simp, ?_, fun v hv => ?_, fun i j r hx => ⟨vs i j, ?_, ?_⟩, fun i j r p _ hf => hf.elim, fun i j r i' j' r' p _ _ hf => hf.elim⟩
    · rcases ha with rfl | ha
      · exact .inl rfl
      · refine .inr ⟨_, ha, fun k v hv => ?_⟩
        have hlt : k < ys.length * t.sz := by have := (List.getElem?_eq_some_iff.1 hv).1; simpa using this
        rw [range_get hlt] at hv; cases hv
        obtain ⟨r, hx⟩ := hback k hlt
        have := (hc _ _ _ hx).2
        rw [Addr.add_lit]
        rw [show k / t.sz * t.sz + k % t.sz = k from by rw [Nat.mul_comm]; exact Nat.div_add_mod _ _] at this
        exact this
    · obtain ⟨k, hk', rfl⟩ := List.mem_map.1 hv
      have hlt : k < ys.length * t.sz := by simpa using hk'
      obtain ⟨r, hx⟩ := hback k hlt
      exact (hrr _ _ _ hx).isOne
    · rw [range_get (cell_lt hx), (hk i j r hx).1, (hk i j r hx).2]
    · rcases hsh with ⟨hf, rfl⟩ | rfl
      · exact (hrr i j r hx).toD (flat_ne hf hx)
      · exact ⟨hrr i j r hx, fun _ h => h⟩
theorem elsOf_spec {h : Heap} {t : Ty} : ∀ {n : Nat} {cs : List SV} {d : List Nat} {xs : List t.El}, elsOf h t n cs = some (d, xs) →
    xs.length = n ∧ n * t.sz ≤ cs.length ∧ ∀ i j r, cellIn t xs i j r → ∃ v ty d', cs[i * t.sz + j]? = some v ∧ v.asR h ty = some (d', r) ∧ ∀ k, mem k d' = true → mem k d = true
  | 0, cs, ids, xs, e => by cases e; exact ⟨rfl, by simp, fun i j r h => by obtain ⟨x, hx, _⟩ := h; simp at hx⟩
  | n + 1, cs, ids, xs, e => by
    simp only [elsOf, asEl, Option.bind_eq_some_iff, Option.some.injEq, Prod.mk.injEq] at e
    obtain ⟨⟨d, x⟩, ⟨⟨d0, rs⟩, h1, x', hx, hx0⟩, ⟨d', ys⟩, h2, rfl, rfl⟩ := e
    obtain ⟨rfl, rfl⟩ := hx0
    have key : ∀ {ts : List Ty} {vs : List SV} {d : List Nat} {rs : List R}, asRs h ts vs = some (d, rs) → vs.length = ts.length ∧ ∀ (j : Nat) (r : R), rs[j]? = some r → ∃ v ty d', vs[j]? = some v ∧ v.asR h ty = some (d', r) ∧ ∀ k, mem k d' = true → mem k d = true := by
      intro ts
      induction ts with
      | nil => intro vs d rs e; cases vs with
        | nil => cases e; exact ⟨rfl, fun j r hr => by simp at hr⟩
        | cons v vs => exact nomatch e
      | cons t ts ih =>
        intro vs d rs e
        cases vs with
        | nil => exact nomatch e
        | cons v vs =>
          simp only [asRs, Option.bind_eq_some_iff, Option.some.injEq, Prod.mk.injEq] at e
          obtain ⟨⟨d1, r1⟩, q1, ⟨d2, r2⟩, q2, rfl, rfl⟩ := e
          obtain ⟨g1, g2⟩ := ih q2
          refine ⟨by simp [g1], fun j r hr => ?_⟩
          cases j with
          | zero => simp at hr; subst hr; exact ⟨v, t, d1, rfl, q1, fun k hk => by rw [mem_append, hk]; rfl⟩
          | succ j =>
            obtain ⟨v', ty, d', p1, p2, p3⟩ := g2 j r (by simpa using hr)
            exact ⟨v', ty, d', by simpa using p1, p2, fun k hk => by rw [mem_append, p3 k hk, Bool.or_true]⟩
    obtain ⟨g1, g4⟩ := key h1
    obtain ⟨k1, k2, k4⟩ := elsOf_spec h2
    have hc := Ty.ofCells_spec t rs _ hx
    rw [Ty.tys_length, List.length_take] at g1
    rw [List.length_drop] at k2
    refine ⟨by simp [k1], by rw [Nat.succ_mul]; omega, fun i j r hc' => ?_⟩
    rcases cellIn_cons.1 hc' with ⟨rfl, hr⟩ | ⟨i', rfl, hr⟩
    · rw [hc] at hr
      obtain ⟨v, ty, d', q1, q2, q3⟩ := g4 j r hr
      rw [List.getElem?_take] at q1
      split at q1
      · exact ⟨v, ty, d', by rw [Nat.zero_mul, Nat.zero_add]; exact q1, q2, fun k hk => by rw [mem_append, q3 k hk]; rfl⟩
      · exact nomatch q1
    · obtain ⟨v, ty, d'', q1, q2, q3⟩ := k4 i' j r hr
      rw [List.getElem?_drop] at q1
      exact ⟨v, ty, d'', by rw [Nat.succ_mul, show i' * t.sz + t.sz + j = t.sz + (i' * t.sz + j) from by omega]; exact q1, q2, fun k hk => by rw [mem_append, q3 k hk, Bool.or_true]⟩
theorem nodupB_spec : ∀ {l : List Nat}, nodupB l = true → l.Nodup
  | [], _ => List.nodup_nil
  | x :: l, h => by
    simp only [nodupB] at h
    cases hm : mem x l <;> simp only [hm, cond_true, cond_false] at h
    · exact List.nodup_cons.2 ⟨fun h' => by rw [(mem_iff _ _).2 h'] at hm; exact (nomatch hm), nodupB_spec h⟩
    · exact nomatch h
/-- What cells own, cell by cell. -/
theorem took_at (hr : HRel H pl w) {n : Nat} {cs : List SV} {ids : List Nat} {xs : List t.El} (h : absEls H t n cs = some (ids, xs)) (hn : ids.Nodup) :
    (∀ i j r p v, cellIn t xs i j r → cs[i * t.sz + j]? = some v → tookF pl v p → ∃ k B, mem k ids = true ∧ look H k = some B ∧ B.isBox = false ∧ pl.fp k p) ∧
    (∀ i j r i' j' r' p v v', cellIn t xs i j r → cellIn t xs i' j' r' → cs[i * t.sz + j]? = some v → cs[i' * t.sz + j']? = some v' → tookF pl v p → tookF pl v' p → i = i' ∧ j = j') := by
  obtain ⟨h1, h2, h3, h4⟩ := absEls_spec h
  have there : ∀ i j r v k, cellIn t xs i j r → cs[i * t.sz + j]? = some v → v = .own k → (cs.take (n * t.sz))[i * t.sz + j]? = some (.own k) ∧ ∃ B, look H k = some B ∧ B.isBox = false := fun i j r v k hc hv e => by
    subst e
    have hlt := cell_lt hc
    rw [h1] at hlt
    refine ⟨by rw [List.getElem?_take, if_pos hlt]; exact hv, ?_⟩
    obtain ⟨v, ty, g1, g2⟩ := h4 i j r hc
    rw [hv] at g1; cases g1
    obtain ⟨t1, ys, hl⟩ := absR_there g2 rfl
    exact ⟨_, hl, rfl⟩
  refine ⟨fun i j r p v hc hv ⟨k, e, hf⟩ => ?_, fun i j r i' j' r' p v v' hc hc' hv hv' ⟨k, e, hf⟩ ⟨k', e', hf'⟩ => ?_⟩
  · obtain ⟨g1, B, g2, g3⟩ := there i j r v k hc hv e
    exact ⟨k, B, (mem_iff _ _).2 (by rw [h3]; exact tookL_mem g1), g2, g3, hf⟩
  · obtain ⟨g1, B, g2, _⟩ := there i j r v k hc hv e
    obtain ⟨g1', B', g2', _⟩ := there i' j' r' v' k' hc' hv' e'
    have := hr.dis k k' B B' p g2 g2' hf hf'
    subst this
    have hk := tookL_inj (h3 ▸ hn) g1 g1'
    have hj := (cellIn_lt hc).2
    have hj' := (cellIn_lt hc').2
    have e1 : (i * t.sz + j) / t.sz = i := by rw [Nat.mul_comm, Nat.mul_add_div t.sz_pos, Nat.div_eq_of_lt hj]; simp
    have e2 : (i' * t.sz + j') / t.sz = i' := by rw [Nat.mul_comm, Nat.mul_add_div t.sz_pos, Nat.div_eq_of_lt hj']; simp
    have e3 : (i * t.sz + j) % t.sz = j := by rw [Nat.mul_comm, Nat.mul_add_mod, Nat.mod_eq_of_lt hj]
    have e4 : (i' * t.sz + j') % t.sz = j' := by rw [Nat.mul_comm, Nat.mul_add_mod, Nat.mod_eq_of_lt hj']
    exact ⟨by rw [← e1, ← e2, hk], by rw [← e3, ← e4, hk]⟩
theorem src_of_any (hr : HRel H pl w) {v : SV} {u : Value} {sh : Option (List Nat)} {ids : List Nat} {ys : List t.El} (h : anyList H t v = some (sh, ids, ys)) (hv : SVRep w H pl v u) : Src w H pl sh ids t ys u := by
  have lst : ∀ {v : SV}, SVRep w H pl v u → ((v.list H t).bind fun p => cond (flatTy t) (some (none, [], p.2)) (some (some p.1, [], p.2))) = some (sh, ids, ys) → Src w H pl sh ids t ys u := fun {v} hv h => by
    rw [Option.bind_eq_some_iff] at h
    obtain ⟨⟨d, zs⟩, h1, h2⟩ := h
    cases hf : flatTy t <;> simp only [hf, cond_true, cond_false, Option.some.injEq, Prod.mk.injEq] at h2
    · obtain ⟨rfl, rfl, rfl⟩ := h2
      exact src_of_list hr h1 hv _ (.inr rfl)
    · obtain ⟨rfl, rfl, rfl⟩ := h2
      exact src_of_list hr h1 hv _ (.inl ⟨hf, rfl⟩)
  unfold anyList at h
  split at h
  · rename_i i n
    split at h
    · rename_i cs hl
      simp only [Option.bind_eq_some_iff, Option.some.injEq, Prod.mk.injEq] at h
      obtain ⟨⟨sh', ids', zs⟩, h1, rfl, rfl, rfl⟩ := h
      cases hv with
      | bsl _ _ cs2 a hl2 hh =>
        rw [hl] at hl2; cases hl2
        obtain ⟨b, o, q1, q2, q3⟩ := hr.blk i _ hl
        rw [q1] at hh; cases hh
        have mk : ∀ (fs : Nat → Nat → Cell → Prop), zs.length = n → n * t.sz ≤ cs.length →
            (∀ i' j r, cellIn t zs i' j r → ∀ v, cs[i' * t.sz + j]? = some v → ∀ u, SVRep w H pl v u → Inner w H pl sh' r u (fs i' j)) →
            (∀ i' j r p, cellIn t zs i' j r → fs i' j p → ∃ k B, mem k ids' = true ∧ look H k = some B ∧ B.isBox = false ∧ pl.fp k p) →
            (∀ i j r i' j' r' p, cellIn t zs i j r → cellIn t zs i' j' r' → fs i j p → fs i' j' p → i = i' ∧ j = j') → Src w H pl sh' (i :: ids') t zs (.slice (some ⟨b, o, none⟩) n n) := fun fs e1 e2 f1 f2 f3 => by
          subst e1
          have hcell : ∀ k, k < zs.length * t.sz → ∃ v u, cs[k]? = some v ∧ w.at? (b, o + k) = some u ∧ one u = true ∧ SVRep w H pl v u := fun k hk => by
            have hk' : k < cs.length := by omega
            obtain ⟨u, g1, _, g3, g4⟩ := q3 k _ (List.getElem?_eq_getElem hk')
            exact ⟨_, u, List.getElem?_eq_getElem hk', g1, g3, g4⟩
          refine ⟨some ⟨b, o, none⟩, zs.length, (List.range (zs.length * t.sz)).map (fun k => (w.at? (b, o + k)).getD undef), fs, rfl, by simp, .inr ⟨_, rfl, fun k v hv => ?_⟩, fun v hv => ?_, fun i' j r hc => ?_, fun i' j r p hc hf => ?_, f3⟩
          · have hlt : k < zs.length * t.sz := by have := (List.getElem?_eq_some_iff.1 hv).1; simpa using this
            rw [range_get hlt] at hv; cases hv
            obtain ⟨v, u, g1, g2, _⟩ := hcell k hlt
            rw [Addr.add_lit, g2]; exact g2
          · obtain ⟨k, hk', rfl⟩ := List.mem_map.1 hv
            obtain ⟨v, u, g1, g2, g3, _⟩ := hcell k (by simpa using hk')
            rw [g2]; exact g3
          · obtain ⟨v, u, g1, g2, g3, g4⟩ := hcell _ (cell_lt hc)
            exact ⟨u, by rw [range_get (cell_lt hc), g2]; rfl, f1 i' j r hc v g1 u g4⟩
          · obtain ⟨k, B, g1, g2⟩ := f2 i' j r p hc hf
            exact ⟨k, B, by simp only [mem]; cases Nat.beq i k <;> simp [g1], g2⟩
        unfold anyEls at h1
        rw [Option.bind_eq_some_iff] at h1
        obtain ⟨bb, hbb, h1⟩ := h1
        cases bb <;> simp only [cond_true, cond_false] at h1
        rotate_left
        · rw [Option.bind_eq_some_iff] at h1
          obtain ⟨q, hq, h1⟩ := h1
          obtain ⟨ids0, zs0⟩ := q
          cases hn : nodupB ids0 <;> simp only [hn, cond_true, cond_false, Option.some.injEq, Prod.mk.injEq] at h1
          · exact nomatch h1
          · obtain ⟨rfl, rfl, rfl⟩ := h1
            obtain ⟨k1, k2, k3, k4⟩ := absEls_spec hq
            obtain ⟨p1, p2⟩ := took_at hr hq (nodupB_spec hn)
            refine mk (fun i' j p => ∃ v, cs[i' * t.sz + j]? = some v ∧ tookF pl v p) k1 k2 (fun i' j r hc v hv u hu => ?_) (fun i' j r p hc ⟨v, hv, hf⟩ => p1 i' j r p v hc hv hf)
              (fun i j r i' j' r' p hc hc' ⟨v, hv, hf⟩ ⟨v', hv', hf'⟩ => p2 i j r i' j' r' p v v' hc hc' hv hv' hf hf')
            obtain ⟨v', ty, g1, g2⟩ := k4 i' j r hc
            rw [hv] at g1; cases g1
            exact (absR_rep hr g2 hu).congr fun p => ⟨fun h => ⟨v, hv, h⟩, fun ⟨v', hv', h⟩ => by rw [hv] at hv'; cases hv'; exact h⟩
        · simp only [Option.bind_eq_some_iff, Option.some.injEq, Prod.mk.injEq] at h1
          obtain ⟨⟨d, zs0⟩, hq, rfl, rfl, rfl⟩ := h1
          obtain ⟨k1, k2, k4⟩ := elsOf_spec hq
          refine mk (fun _ _ _ => False) k1 k2 (fun i' j r hc v hv u hu => ?_) (fun _ _ _ _ _ hf => hf.elim) (fun _ _ _ _ _ _ _ _ _ hf => hf.elim)
          obtain ⟨v', ty, d', g1, g2, g3⟩ := k4 i' j r hc
          rw [hv] at g1; cases g1
          exact ⟨(asR_rep hr g2 hu).frame fun p u hp hu => ⟨okd_mono g3 hp, hu⟩, fun _ h => h⟩
    · exact nomatch h
  · exact lst hv h
end
end Go.Proofs.Ev
