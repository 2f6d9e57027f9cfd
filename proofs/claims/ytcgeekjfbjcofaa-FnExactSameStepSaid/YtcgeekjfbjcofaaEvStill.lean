/- Soundness of the operations that neither write nor make memory. -/
import Derived.Test.YtcgeekjfbjcofaaEvSnd
import Derived.Laws.Cells
import Derived.Laws.Sem
set_option linter.unusedVariables false
set_option linter.unusedSimpArgs false
namespace Go.Proofs.Ev
section
variable {w : World} {H : Heap} {pl : Pl}
theorem RepR.scalar {ok : Cell → Prop} {x : R} {v : Value} (h : RepR w ok x v) (ok' : Cell → Prop) (hs : ∀ t xs, x ≠ .sl t xs) : RepR w ok' x v := by
  cases h with
  | int => exact .int _ _
  | bool => exact .bool _
  | str => exact .str _
  | sl t xs => exact (hs t xs rfl).elim
theorem rep_mkR {d : List Nat} {x : R} {v : Value} (h : RepR w (okd H pl d) x v) : SVRep w H pl (mkR d x) v := by
  cases x with
  | sl t xs => exact .r _ _ _ h
  | _ => exact .r _ _ _ (h.scalar _ (fun _ _ e => nomatch e))
theorem RepR.isOne {ok : Cell → Prop} {x : R} {v : Value} (h : RepR w ok x v) : one v = true := by cases h <;> rfl
/-- Slots. -/
def Slots (w : World) (H : Heap) (pl : Pl) (s : List (Nat × SV)) (a : Act) : Prop := ∀ t v, look s t = some v → SVRep w H pl v (a.tmps.getD t undef)
theorem constSV_rep {v : Value} {x : SV} (h : constSV v = some x) : SVRep w H pl x v := by
  unfold constSV at h
  split at h <;> first | (cases h) | skip
  · exact .r _ _ _ (.bool _)
  · exact .r _ _ _ (.int _ _)
  · exact .r _ _ _ (.str _)
  · exact .nilS
  · exact .nilP
theorem constL_rep : ∀ {vs : List Value} {l : List SV}, constL vs = some l → l.length = vs.length ∧ ∀ (j : Nat) (x : SV) (v : Value), l[j]? = some x → vs[j]? = some v → SVRep w H pl x v
  | [], l, h => by cases h; exact ⟨rfl, fun j x v hx _ => by simp at hx⟩
  | v :: vs, l, h => by
    simp only [constL, Option.bind_eq_some_iff, Option.some.injEq] at h
    obtain ⟨x, hx, xs, hxs, rfl⟩ := h
    obtain ⟨h1, h2⟩ := constL_rep hxs
    refine ⟨by simp [h1], fun j y u hy hu => ?_⟩
    cases j with
    | zero => simp at hy hu; subst hy hu; exact constSV_rep hx
    | succ j => exact h2 j y u (by simpa using hy) (by simpa using hu)
theorem constSV_one {v : Value} {x : SV} (h : constSV v = some x) : one v = true := by
  unfold constSV at h
  split at h <;> first | rfl | (cases h)
theorem constL_one : ∀ {vs : List Value} {l : List SV}, constL vs = some l → ∀ (j : Nat) (v : Value), vs[j]? = some v → one v = true
  | [], l, _, j, v, hv => by simp at hv
  | u :: vs, l, h, j, v, hv => by
    simp only [constL, Option.bind_eq_some_iff, Option.some.injEq] at h
    obtain ⟨x, hx, xs, hxs, rfl⟩ := h
    cases j with
    | zero => simp at hv; subst hv; exact constSV_one hx
    | succ j => exact constL_one hxs j v (by simpa using hv)
theorem constV_rep {v : Value} {x : SV} (h : constV v = some x) : SVRep w H pl x v := by
  unfold constV at h
  split at h
  · simp only [Option.bind_eq_some_iff, Option.some.injEq] at h
    obtain ⟨l, hl, rfl⟩ := h
    obtain ⟨h1, h2⟩ := constL_rep (w := w) (H := H) (pl := pl) hl
    refine .agg _ _ (by simpa using h1) (fun j v hv => ?_) fun j x v hx hv => h2 j x v hx (by simpa using hv)
    exact constL_one hl j v (by simpa using hv)
  · exact constSV_rep h
theorem opd_rep {s : List (Nat × SV)} {a : Act} (hs : Slots w H pl s a) {o : Operand} {x : SV} (h : opd s o = some x) : SVRep w H pl x (a.eval o) := by
  cases o with
  | tmp t => exact hs t x h
  | const v => exact constV_rep h
  | func f =>
    simp only [opd, Option.some.injEq] at h; subst h
    exact .fn _ _ _ _ _ rfl (fun j x v hx _ => by simp at hx) rfl (fun j x v hx _ => by simp at hx)
  | global g => exact nomatch h

theorem run_sizeOf' {P : Program} {T : TypeId} {i : TypeInfo} (h : P.info? T = some i) (w : World) : (sizeOf T).run P w = .ok i.size w := by
  simp [sizeOf, typeInfo, h]
theorem und_of_info {P : Program} {T : TypeId} {d : TypeDesc} (h : P.underlying T = some d) (w : World) : (underlying T).run P w = .ok d w := by
  simp [underlying, h]
theorem run_isAgg' {P : Program} {T : TypeId} {d : TypeDesc} (h : P.underlying T = some d) (w : World) : (isAgg T).run P w = .ok (isAggB P T) w := by
  simp only [isAgg, Sem.run_bind, und_of_info h, Result.andThen_ok, isAggB, h]
  cases d <;> rfl
theorem agg_und {P : Program} {T : TypeId} (h : isAggB P T = true) : ∃ d, P.underlying T = some d := by
  unfold isAggB at h
  cases hu : P.underlying T with
  | none => rw [hu] at h; exact nomatch h
  | some d => exact ⟨d, rfl⟩
theorem cellsAt_rep (hr : HRel H pl w) {p : SV} {u : Value} (hp : SVRep w H pl p u) {cs : List SV} (h : cellsAt H p = some cs) :
    ∃ b o, u = .pointer (some ⟨b, o, none⟩) ∧ ∀ (j : Nat) (x : SV), cs[j]? = some x → ∃ y, w.at? (b, o + j) = some y ∧ one y = true ∧ SVRep w H pl x y := by
  cases hp with
  | rptr d cs' b o vs hc hr' =>
    simp only [cellsAt, Option.some.injEq] at h; subst h
    refine ⟨b, o, rfl, fun j x hx => ?_⟩
    rw [List.getElem?_map] at hx
    obtain ⟨r, hj, rfl⟩ := Option.map_eq_some_iff.1 hx
    exact ⟨vs j, (hc j r hj).2, (hr' j r hj).isOne, rep_mkR (hr' j r hj)⟩
  | ptrB i o cs' b k hl hh =>
    simp only [cellsAt, hl, Option.some.injEq] at h; subst h
    obtain ⟨b', o', e, _, hc⟩ := hr.blk i _ hl
    rw [hh] at e; cases e
    refine ⟨b, k + o, rfl, fun j x hx => ?_⟩
    rw [List.getElem?_drop] at hx
    obtain ⟨y, h1, _, h3, h4⟩ := hc _ _ hx
    exact ⟨y, by rw [Nat.add_assoc]; exact h1, h3, h4⟩
  | ptrA i x o sh t xs b k n cap hl hx hh =>
    simp only [cellsAt, hl, Option.bind_eq_some_iff, Option.some.injEq] at h
    obtain ⟨e, he, rfl⟩ := h
    have hb := hr.blk i _ hl
    refine ⟨b, k + (x * t.sz + o), rfl, fun j y hy => ?_⟩
    rw [List.getElem?_drop, List.getElem?_map] at hy
    obtain ⟨r, hj, rfl⟩ := Option.map_eq_some_iff.1 hy
    have hcell : cellIn t xs x (o + j) r := ⟨e, he, hj⟩
    cases sh with
    | none =>
      obtain ⟨R⟩ := hb
      obtain ⟨a', cap', b', o', vs, fs, h1, h2, h3, h4, h5, h6, h7, h8, h9⟩ := R
      rw [hh] at h1; cases h1
      have hne : cap ≠ 0 := by omega
      have h3 := h3.resolve_left hne
      cases h3
      refine ⟨vs x (o + j), by rw [show k + (x * t.sz + o) + j = k + (x * t.sz + (o + j)) from by omega]; exact h5 _ _ _ hcell, ?_, ?_⟩
      · exact ((h6 _ _ _ hcell).repR (ok := fun _ => True) (fun _ _ => trivial)).isOne
      · refine rep_mkR ((h6 _ _ _ hcell).repR fun p hp => ⟨hr.ob i _ p hl ((h9 p).2 (.inr ⟨_, _, _, hcell, hp⟩)), fun i' B hB hm hf => ?_⟩)
        have hp' : pl.fp i p := (h9 p).2 (.inr ⟨_, _, _, hcell, hp⟩)
        have := hr.dis i' i _ _ p hB hl hf hp'
        subst this
        have hbx := hm (by simp [shDeps, mem])
        rw [hl] at hB; cases hB
        simp [Blk.isBox] at hbx
    | some d =>
      obtain ⟨R⟩ := hb
      obtain ⟨a', cap', b', o', vs, fs, h1, h2, h3, h4, h5, h6, h7, h8, h9⟩ := R
      rw [hh] at h1; cases h1
      have hne : cap ≠ 0 := by omega
      have h3 := h3.resolve_left hne
      cases h3
      exact ⟨vs x (o + j), by rw [show k + (x * t.sz + o) + j = k + (x * t.sz + (o + j)) from by omega]; exact h5 _ _ _ hcell, (h6 _ _ _ hcell).1.isOne, rep_mkR (h6 _ _ _ hcell).1⟩
  | _ => exact nomatch h

theorem takeN_spec {α : Type} {n : Nat} {l m : List α} (h : takeN n l = some m) : m.length = n ∧ ∀ j, j < n → m[j]? = l[j]? := by
  unfold takeN at h
  cases hn : Nat.ble n l.length
  · simp [hn] at h
  · simp only [hn, cond_true, Option.some.injEq] at h
    subst h
    have := Nat.le_of_ble_eq_true hn
    exact ⟨by simp [this], fun j hj => by simp [hj]⟩
/-- Cells that lie one behind the other, loaded as one value. -/
theorem load_rep {P : Program} {T : TypeId} {cs : List SV} {v : SV} (h : ofCellsV P T cs = some v) (b o : Nat)
    (hc : ∀ (j : Nat) (x : SV), cs[j]? = some x → ∃ y, w.at? (b, o + j) = some y ∧ one y = true ∧ SVRep w H pl x y) :
    ∃ u, (loadVar T ⟨b, o, none⟩).run P w = .ok u w ∧ SVRep w H pl v u := by
  simp only [ofCellsV, Option.bind_eq_some_iff] at h
  obtain ⟨d, hd, i, hi, l, hl, h⟩ := h
  obtain ⟨h1, h2⟩ := takeN_spec hl
  have hy : ∀ j, j < i.size → ∃ y x, l[j]? = some x ∧ w.at? (b, o + j) = some y ∧ SVRep w H pl x y := fun j hj => by
    have hx : l[j]? = some (l[j]'(by omega)) := List.getElem?_eq_getElem (by omega)
    obtain ⟨y, h3, _, h5⟩ := hc j _ ((h2 j hj) ▸ hx)
    exact ⟨y, _, hx, h3, h5⟩
  cases ha : isAggB P T
  · simp only [ha, cond_false] at h
    match l, h1, hl, h, hy, h2 with
    | [x], h1, hl, h, hy, h2 =>
      simp only [Option.some.injEq] at h; subst h
      have h1 : i.size = 1 := h1.symm
      obtain ⟨y, x', h3, h4, h5⟩ := hy 0 (by omega)
      simp at h3; subst h3
      refine ⟨y, ?_, h5⟩
      have h4 : w.cell? ⟨b, o, none⟩ = some y := h4
      simp [loadVar, run_isAgg' hd, ha, h4]
  · simp only [ha, cond_true, Option.some.injEq] at h; subst h
    let f : Nat → Value := fun j => (w.at? (b, o + j)).getD undef
    have hf : ∀ j, j < i.size → w.cell? (Addr.add ⟨b, o, none⟩ j) = some (f j) := fun j hj => by
      obtain ⟨y, x, _, h4, _⟩ := hy j hj
      have e : Addr.add ⟨b, o, none⟩ j = ⟨b, o + j, none⟩ := by
        unfold Addr.add; split
        · rename_i h0; subst h0; rfl
        · rfl
      rw [e]
      show w.at? (b, o + j) = some (f j)
      simp only [f, h4]; rfl
    have hone : ∀ j, j < i.size → one (f j) = true := fun j hj => by
      have hx : l[j]? = some (l[j]'(by omega)) := List.getElem?_eq_getElem (by omega)
      obtain ⟨y, h3, h4, _⟩ := hc j _ ((h2 j hj) ▸ hx)
      simp only [f, h3]; exact h4
    refine ⟨.agg ((List.range i.size).map f).toArray, ?_, ?_⟩
    · simp [loadVar, run_isAgg' hd, ha, run_sizeOf' hi, run_loadCells (P := P) w ⟨b, o, none⟩ i.size f hf]
    · refine .agg _ _ (by simp [h1]) (fun j v hv => by
        by_cases hj : j < i.size
        · have : v = f j := by simp [hj] at hv; exact hv.symm
          rw [this]; exact hone j hj
        · simp [hj] at hv) fun j x v hx hv => ?_
      have hj : j < i.size := by have := (List.getElem?_eq_some_iff.1 hx).1; omega
      obtain ⟨y, x', h3, h4, h5⟩ := hy j hj
      rw [h3] at hx; cases hx
      have : v = f j := by simp [hj] at hv; exact hv.symm
      subst this
      simp only [f, h4]; exact h5
end
end Go.Proofs.Ev
