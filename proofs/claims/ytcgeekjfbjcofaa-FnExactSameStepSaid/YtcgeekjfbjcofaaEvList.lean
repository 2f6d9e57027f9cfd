/- A slot's value as a list. -/
import Derived.Test.YtcgeekjfbjcofaaEvStill4
set_option linter.unusedVariables false
set_option linter.unusedSimpArgs false
namespace Go.Proofs.Ev
section
variable {w : World} {H : Heap} {pl : Pl} {P : Program}
theorem okd_mono {d d' : List Nat} (hd : ∀ i, mem i d = true → mem i d' = true) {p : Cell} (h : okd H pl d p) : okd H pl d' p :=
  ⟨h.1, fun i B hB hm hf => h.2 i B hB (fun h' => hm (hd i h')) hf⟩
theorem okd_own (hr : HRel H pl w) {i : Nat} {sh : Option (List Nat)} {t : Ty} {xs : List t.El} (hl : look H i = some (.arr sh t xs)) {d : List Nat} (hd : mem i d = true) {p : Cell} (h : pl.fp i p) : okd H pl d p := by
  refine ⟨hr.ob i _ p hl h, fun j B hB hm hf => ?_⟩
  have := hr.dis j i B _ p hB hl hf h
  subst this
  rw [hl] at hB; cases hB
  exact nomatch hm hd
theorem mem_append (i : Nat) (l l' : List Nat) : mem i (l ++ l') = (mem i l || mem i l') := by
  rw [Bool.eq_iff_iff]; simp [mem_iff]
/-- A part of an owned row, read only. -/
theorem own_repR (hr : HRel H pl w) {i : Nat} {sh : Option (List Nat)} {t : Ty} {xs : List t.El} (hl : look H i = some (.arr sh t xs)) {a a' : Option Addr} {cap cap' l n : Nat}
    (hh : pl.hdr i = .slice a xs.length cap) (hn : l + n ≤ xs.length) (hc : n ≤ cap') (hc' : l + cap' ≤ cap) (ha : cap' = 0 ∨ a' = a.map (·.add (l * t.sz))) :
    RepR w (okd H pl (i :: sh.getD [])) (.sl t ((xs.drop l).take n)) (.slice a' n cap') := by
  have hmi : mem i (i :: sh.getD []) = true := by simp [mem]
  have hlen : ((xs.drop l).take n).length = n := by simp; omega
  have hcell : ∀ x j r, cellIn t ((xs.drop l).take n) x j r → cellIn t xs (l + x) j r ∧ x < n := fun x j r ⟨e, h1, h2⟩ => by
    rw [List.getElem?_take] at h1
    split at h1
    · rw [List.getElem?_drop] at h1; exact ⟨⟨e, h1, h2⟩, by assumption⟩
    · exact nomatch h1
  have main : ∀ (R : ∃ inner : R → Value → (Cell → Prop) → Prop, (∀ r v f, inner r v f → (∀ p, f p → pl.fp i p) → RepR w (okd H pl (i :: sh.getD [])) r v) ∧ Nonempty (Row w inner t xs (pl.hdr i) (pl.fp i))),
      RepR w (okd H pl (i :: sh.getD [])) (.sl t ((xs.drop l).take n)) (.slice a' n cap') := fun ⟨inner, hin, ⟨R⟩⟩ => by
    obtain ⟨a2, cap2, b, o, vs, fs, q1, q2, q3, q4, q5, q6, q7, q8, q9⟩ := R
    rw [hh] at q1; cases q1
    conv => rhs; rw [← hlen]
    refine .sl t _ a' cap' b (o + l * t.sz) (fun x j => vs (l + x) j) (by omega) ?_ (fun x j r h => ?_) fun x j r h => ?_
    · by_cases h0 : n = 0
      · exact .inl (List.length_eq_zero_iff.1 (by omega))
      · have ha := ha.resolve_left (by omega)
        have q3 := q3.resolve_left (by omega)
        subst q3
        rw [ha, Option.map_some, addr_add]
        exact .inr rfl
    · obtain ⟨h1, h2⟩ := hcell x j r h
      have hlt := off_lt (cellIn_lt h1).1 (cellIn_lt h1).2 q2
      have e : o + l * t.sz + (x * t.sz + j) = o + ((l + x) * t.sz + j) := by rw [Nat.add_mul]; omega
      rw [e]
      exact ⟨okd_own hr hl hmi ((q9 _).2 (.inl ⟨rfl, by simp, by simp; omega⟩)), q5 _ _ _ h1⟩
    · obtain ⟨h1, h2⟩ := hcell x j r h
      exact hin _ _ _ (q6 _ _ _ h1) fun p hp => (q9 p).2 (.inr ⟨_, _, _, h1, hp⟩)
  have hb := hr.blk i _ hl
  cases sh with
  | none => exact main ⟨RepD w, fun r v f h hf => h.repR fun p hp => okd_own hr hl hmi (hf p hp), hb⟩
  | some d => exact main ⟨_, fun r v f h _ => h.1.frame fun p u hp hu => ⟨okd_mono (fun j hj => by simp only [Option.getD_some, mem]; cases Nat.beq i j <;> simp [hj]) hp, hu⟩, hb⟩
theorem list_rep (hr : HRel H pl w) {t : Ty} {v : SV} {u : Value} {d : List Nat} {xs : List t.El} (h : v.list H t = some (d, xs)) (hv : SVRep w H pl v u) :
    RepR w (okd H pl d) (.sl t xs) u ∧ ∃ a cap, u = .slice a xs.length cap := by
  cases hv with
  | r d' x _ hx =>
    simp only [SV.list, Option.bind_eq_some_iff, Option.some.injEq, Prod.mk.injEq] at h
    obtain ⟨ys, hy, rfl, rfl⟩ := h
    have := R.asL_spec hy
    subst this
    obtain ⟨a, cap, rfl, _⟩ := sl_inv (SVRep.r d' _ u hx)
    exact ⟨hx, a, cap, rfl⟩
  | nilS =>
    simp only [SV.list, Option.some.injEq, Prod.mk.injEq] at h
    obtain ⟨rfl, rfl⟩ := h
    exact ⟨.sl t [] none 0 0 0 (fun _ _ => undef) (Nat.le_refl _) (.inl rfl) (fun i j r hc => by have := (cellIn_lt hc).1; simp at this) (fun i j r hc => by have := (cellIn_lt hc).1; simp at this), none, 0, rfl⟩
  | own i sh t' ys hl =>
    simp only [SV.list, hl] at h
    split at h
    · rename_i e; subst e
      simp only [Option.some.injEq, Prod.mk.injEq] at h
      obtain ⟨rfl, rfl⟩ := h
      obtain ⟨a, cap, b, o, hh, hcap, ha⟩ := arr_hdr hr hl
      have := own_repR hr hl (a' := a) (cap' := cap) (l := 0) (n := ys.length) hh (by omega) hcap (by omega) (.inr (by cases a <;> simp [Addr.add]))
      simp only [List.drop_zero, List.take_length] at this
      rw [hh]
      exact ⟨this, a, cap, rfl⟩
    · exact nomatch h
  | sub i o n sh t' ys a a' cap cap' hl hh hn hc hc' ha =>
    simp only [SV.list, hl] at h
    split at h
    · rename_i e; subst e
      simp only [Option.some.injEq, Prod.mk.injEq] at h
      obtain ⟨rfl, rfl⟩ := h
      have hlen : ((ys.drop o).take n).length = n := by simp; omega
      exact ⟨own_repR hr hl hh hn hc hc' ha, a', cap', by rw [hlen]⟩
    · exact nomatch h
  | _ => exact nomatch h
theorem list_repR (hr : HRel H pl w) {t : Ty} {v : SV} {u : Value} {d : List Nat} {xs : List t.El} (h : v.list H t = some (d, xs)) (hv : SVRep w H pl v u) :
    RepR w (okd H pl d) (.sl t xs) u := (list_rep hr h hv).1
theorem asR_rep (hr : HRel H pl w) {t : Ty} {v : SV} {u : Value} {d : List Nat} {r : R} (h : v.asR H t = some (d, r)) (hv : SVRep w H pl v u) : RepR w (okd H pl d) r u := by
  have plain : ∀ {v : SV}, SVRep w H pl v u → (match v with | .r d x => some (d, x) | _ => none : Option (List Nat × R)) = some (d, r) → RepR w (okd H pl d) r u := fun {v} hv h => by
    split at h
    · simp only [Option.some.injEq, Prod.mk.injEq] at h
      obtain ⟨rfl, rfl⟩ := h
      cases hv with
      | r _ _ _ hx => exact hx
    · exact nomatch h
  cases t with
  | sl t' =>
    simp only [SV.asR, Option.bind_eq_some_iff, Option.some.injEq, Prod.mk.injEq] at h
    obtain ⟨⟨d', xs⟩, h1, rfl, rfl⟩ := h
    exact (list_rep hr h1 hv).1
  | st s => exact nomatch h
  | int k => exact plain hv h
  | bool => exact plain hv h
  | str => exact plain hv h
theorem asRs_rep (hr : HRel H pl w) : ∀ {ts : List Ty} {vs : List SV} {us : List Value} {d : List Nat} {rs : List R}, asRs H ts vs = some (d, rs) → vs.length = us.length →
    (∀ (j : Nat) (x : SV) (u : Value), vs[j]? = some x → us[j]? = some u → SVRep w H pl x u) →
    rs.length = us.length ∧ ∀ (j : Nat) (r : R) (u : Value), rs[j]? = some r → us[j]? = some u → RepR w (okd H pl d) r u
  | [], [], us, d, rs, h, hl, _ => by cases h; exact ⟨hl, fun j r u hr _ => by simp at hr⟩
  | t :: ts, v :: vs, u :: us, d, rs, h, hl, hp => by
    simp only [asRs, Option.bind_eq_some_iff, Option.some.injEq, Prod.mk.injEq] at h
    obtain ⟨⟨d1, r1⟩, h1, ⟨d2, rs2⟩, h2, rfl, rfl⟩ := h
    obtain ⟨g1, g2⟩ := asRs_rep hr h2 (by simpa using hl) fun j x u hx hu => hp (j + 1) x u (by simpa using hx) (by simpa using hu)
    refine ⟨by simp [g1], fun j r u' hj hu => ?_⟩
    cases j with
    | zero =>
      simp at hj hu; subst hj hu
      exact (asR_rep hr h1 (hp 0 v u rfl rfl)).frame fun p u hp hu => ⟨okd_mono (fun i hi => by rw [mem_append, hi]; rfl) hp, hu⟩
    | succ j => exact (g2 j r u' (by simpa using hj) (by simpa using hu)).frame fun p u hp hu => ⟨okd_mono (fun i hi => by rw [mem_append, hi, Bool.or_true]) hp, hu⟩
  | [], _ :: _, _, _, _, h, _, _ => nomatch h
  | _ :: _, [], _, _, _, h, _, _ => nomatch h
end
end Go.Proofs.Ev
