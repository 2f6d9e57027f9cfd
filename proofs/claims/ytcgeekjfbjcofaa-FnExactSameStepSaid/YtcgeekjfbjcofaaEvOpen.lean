/- The arguments of a law, read as typed values. -/
import Derived.Test.YtcgeekjfbjcofaaEvGlue
import GoSem.ClaimChange
import Derived.Deep.Slices
import Derived.DataReads
set_option linter.unusedVariables false
set_option linter.unusedSimpArgs false
namespace Go.Proofs.Ev
def R.ty : R → Ty
  | .int k _ => .int k
  | .bool _ => .bool
  | .str _ => .str
  | .sl t _ => .sl t
/-- All numbers lie in their kind's range. -/
inductive R.Wf : R → Prop
  | int (k : IntKind) (n : Int) (h : (Lit.int k n).wf = true) : R.Wf (.int k n)
  | bool (b : Bool) : R.Wf (.bool b)
  | str (l : List UInt8) (h : l.length ≤ maxLen) : R.Wf (.str l)
  | sl (t : Ty) (xs : List t.El) (h : ∀ i j r, cellIn t xs i j r → R.Wf r) (hl : xs.length ≤ maxLen) : R.Wf (.sl t xs)
theorem ofCell_total (t : Ty) (r : R) (h : r.ty = t) (hs : ∀ s, t ≠ .st s) : ∃ x, t.ofCell r = some x := by
  subst h
  cases r with
  | int k n => exact ⟨n, by simp [Ty.ofCell, R.ty]⟩
  | bool b => exact ⟨b, by simp [Ty.ofCell, R.ty]⟩
  | str l => exact ⟨l, by simp [Ty.ofCell, R.ty]⟩
  | sl t xs => exact ⟨xs, by simp [Ty.ofCell, R.ty]⟩
theorem inv_i {r : R} {k : IntKind} (h : r.ty = .int k) : ∃ n, r = .int k n := by cases r <;> simp_all [R.ty]
theorem inv_b {r : R} (h : r.ty = .bool) : ∃ n, r = .bool n := by cases r <;> simp_all [R.ty]
theorem inv_s {r : R} {t : Ty} (h : r.ty = .sl t) : ∃ xs, r = .sl t xs := by
  cases r with
  | sl t' xs => cases h; exact ⟨xs, rfl⟩
  | _ => exact nomatch h
theorem shape_total : (rs : List R) → rs.map R.ty = S.tys .shape → ∃ x, shapeU rs = some x
  | [x0, x1, x2], h => by
    simp only [S.tys, List.map_cons, List.map_nil, List.cons.injEq, and_true] at h
    obtain ⟨h0, h1, h2⟩ := h
    obtain ⟨_, rfl⟩ := inv_i h0
    obtain ⟨_, rfl⟩ := inv_i h1
    obtain ⟨_, rfl⟩ := inv_i h2
    simp [shapeU, R.asI, R.asB, R.asL]
  | [], h => by have := congrArg List.length h; simp [S.tys] at this
  | [_], h => by have := congrArg List.length h; simp [S.tys] at this
  | [_, _], h => by have := congrArg List.length h; simp [S.tys] at this
  | _ :: _ :: _ :: _ :: _, h => by have := congrArg List.length h; simp [S.tys] at this
theorem tensor_total : (rs : List R) → rs.map R.ty = S.tys .tensor → ∃ x, tensorU rs = some x
  | [x0, x1, x2, x3], h => by
    simp only [S.tys, List.map_cons, List.map_nil, List.cons.injEq, and_true] at h
    obtain ⟨h0, h1, h2, h3⟩ := h
    obtain ⟨_, rfl⟩ := inv_i h0
    obtain ⟨_, rfl⟩ := inv_i h1
    obtain ⟨_, rfl⟩ := inv_i h2
    obtain ⟨_, rfl⟩ := inv_s h3
    simp [tensorU, R.asI, R.asB, R.asL]
  | [], h => by have := congrArg List.length h; simp [S.tys] at this
  | [_], h => by have := congrArg List.length h; simp [S.tys] at this
  | [_, _], h => by have := congrArg List.length h; simp [S.tys] at this
  | [_, _, _], h => by have := congrArg List.length h; simp [S.tys] at this
  | _ :: _ :: _ :: _ :: _ :: _, h => by have := congrArg List.length h; simp [S.tys] at this
theorem layer_total : (rs : List R) → rs.map R.ty = S.tys .layer → ∃ x, layerU rs = some x
  | [x0, x1, x2, x3, x4, x5, x6, x7, x8], h => by
    simp only [S.tys, List.map_cons, List.map_nil, List.cons.injEq, and_true] at h
    obtain ⟨h0, h1, h2, h3, h4, h5, h6, h7, h8⟩ := h
    obtain ⟨_, rfl⟩ := inv_i h0
    obtain ⟨_, rfl⟩ := inv_i h1
    obtain ⟨_, rfl⟩ := inv_i h2
    obtain ⟨_, rfl⟩ := inv_i h3
    obtain ⟨_, rfl⟩ := inv_i h4
    obtain ⟨_, rfl⟩ := inv_i h5
    obtain ⟨_, rfl⟩ := inv_i h6
    obtain ⟨_, rfl⟩ := inv_s h7
    obtain ⟨_, rfl⟩ := inv_s h8
    simp [layerU, R.asI, R.asB, R.asL]
  | [], h => by have := congrArg List.length h; simp [S.tys] at this
  | [_], h => by have := congrArg List.length h; simp [S.tys] at this
  | [_, _], h => by have := congrArg List.length h; simp [S.tys] at this
  | [_, _, _], h => by have := congrArg List.length h; simp [S.tys] at this
  | [_, _, _, _], h => by have := congrArg List.length h; simp [S.tys] at this
  | [_, _, _, _, _], h => by have := congrArg List.length h; simp [S.tys] at this
  | [_, _, _, _, _, _], h => by have := congrArg List.length h; simp [S.tys] at this
  | [_, _, _, _, _, _, _], h => by have := congrArg List.length h; simp [S.tys] at this
  | [_, _, _, _, _, _, _, _], h => by have := congrArg List.length h; simp [S.tys] at this
  | _ :: _ :: _ :: _ :: _ :: _ :: _ :: _ :: _ :: _ :: _, h => by have := congrArg List.length h; simp [S.tys] at this
theorem model_total : (rs : List R) → rs.map R.ty = S.tys .model → ∃ x, modelU rs = some x
  | [x0, x1, x2, x3], h => by
    simp only [S.tys, List.map_cons, List.map_nil, List.cons.injEq, and_true] at h
    obtain ⟨h0, h1, h2, h3⟩ := h
    obtain ⟨_, rfl⟩ := inv_i h0
    obtain ⟨_, rfl⟩ := inv_i h1
    obtain ⟨_, rfl⟩ := inv_i h2
    obtain ⟨_, rfl⟩ := inv_s h3
    simp [modelU, R.asI, R.asB, R.asL]
  | [], h => by have := congrArg List.length h; simp [S.tys] at this
  | [_], h => by have := congrArg List.length h; simp [S.tys] at this
  | [_, _], h => by have := congrArg List.length h; simp [S.tys] at this
  | [_, _, _], h => by have := congrArg List.length h; simp [S.tys] at this
  | _ :: _ :: _ :: _ :: _ :: _, h => by have := congrArg List.length h; simp [S.tys] at this
theorem task_total : (rs : List R) → rs.map R.ty = S.tys .task → ∃ x, taskU rs = some x
  | [x0, x1, x2, x3, x4], h => by
    simp only [S.tys, List.map_cons, List.map_nil, List.cons.injEq, and_true] at h
    obtain ⟨h0, h1, h2, h3, h4⟩ := h
    obtain ⟨_, rfl⟩ := inv_i h0
    obtain ⟨_, rfl⟩ := inv_s h1
    obtain ⟨_, rfl⟩ := inv_i h2
    obtain ⟨_, rfl⟩ := inv_i h3
    obtain ⟨_, rfl⟩ := inv_i h4
    simp [taskU, R.asI, R.asB, R.asL]
  | [], h => by have := congrArg List.length h; simp [S.tys] at this
  | [_], h => by have := congrArg List.length h; simp [S.tys] at this
  | [_, _], h => by have := congrArg List.length h; simp [S.tys] at this
  | [_, _, _], h => by have := congrArg List.length h; simp [S.tys] at this
  | [_, _, _, _], h => by have := congrArg List.length h; simp [S.tys] at this
  | _ :: _ :: _ :: _ :: _ :: _ :: _, h => by have := congrArg List.length h; simp [S.tys] at this
theorem request_total : (rs : List R) → rs.map R.ty = S.tys .request → ∃ x, requestU rs = some x
  | [x0, x1, x2, x3, x4, x5, x6, x7, x8, x9, x10, x11, x12], h => by
    simp only [S.tys, List.map_cons, List.map_nil, List.cons.injEq, and_true] at h
    obtain ⟨h0, h1, h2, h3, h4, h5, h6, h7, h8, h9, h10, h11, h12⟩ := h
    obtain ⟨_, rfl⟩ := inv_i h0
    obtain ⟨_, rfl⟩ := inv_i h1
    obtain ⟨_, rfl⟩ := inv_i h2
    obtain ⟨_, rfl⟩ := inv_i h3
    obtain ⟨_, rfl⟩ := inv_i h4
    obtain ⟨_, rfl⟩ := inv_s h5
    obtain ⟨_, rfl⟩ := inv_i h6
    obtain ⟨_, rfl⟩ := inv_i h7
    obtain ⟨_, rfl⟩ := inv_i h8
    obtain ⟨_, rfl⟩ := inv_i h9
    obtain ⟨_, rfl⟩ := inv_s h10
    obtain ⟨_, rfl⟩ := inv_i h11
    obtain ⟨_, rfl⟩ := inv_i h12
    simp [requestU, R.asI, R.asB, R.asL]
  | [], h => by have := congrArg List.length h; simp [S.tys] at this
  | [_], h => by have := congrArg List.length h; simp [S.tys] at this
  | [_, _], h => by have := congrArg List.length h; simp [S.tys] at this
  | [_, _, _], h => by have := congrArg List.length h; simp [S.tys] at this
  | [_, _, _, _], h => by have := congrArg List.length h; simp [S.tys] at this
  | [_, _, _, _, _], h => by have := congrArg List.length h; simp [S.tys] at this
  | [_, _, _, _, _, _], h => by have := congrArg List.length h; simp [S.tys] at this
  | [_, _, _, _, _, _, _], h => by have := congrArg List.length h; simp [S.tys] at this
  | [_, _, _, _, _, _, _, _], h => by have := congrArg List.length h; simp [S.tys] at this
  | [_, _, _, _, _, _, _, _, _], h => by have := congrArg List.length h; simp [S.tys] at this
  | [_, _, _, _, _, _, _, _, _, _], h => by have := congrArg List.length h; simp [S.tys] at this
  | [_, _, _, _, _, _, _, _, _, _, _], h => by have := congrArg List.length h; simp [S.tys] at this
  | [_, _, _, _, _, _, _, _, _, _, _, _], h => by have := congrArg List.length h; simp [S.tys] at this
  | _ :: _ :: _ :: _ :: _ :: _ :: _ :: _ :: _ :: _ :: _ :: _ :: _ :: _ :: _, h => by have := congrArg List.length h; simp [S.tys] at this
theorem step_total : (rs : List R) → rs.map R.ty = S.tys .step → ∃ x, stepU rs = some x
  | [x0, x1, x2, x3, x4, x5, x6, x7], h => by
    simp only [S.tys, List.map_cons, List.map_nil, List.cons.injEq, and_true] at h
    obtain ⟨h0, h1, h2, h3, h4, h5, h6, h7⟩ := h
    obtain ⟨_, rfl⟩ := inv_i h0
    obtain ⟨_, rfl⟩ := inv_i h1
    obtain ⟨_, rfl⟩ := inv_i h2
    obtain ⟨_, rfl⟩ := inv_s h3
    obtain ⟨_, rfl⟩ := inv_i h4
    obtain ⟨_, rfl⟩ := inv_i h5
    obtain ⟨_, rfl⟩ := inv_i h6
    obtain ⟨_, rfl⟩ := inv_s h7
    simp [stepU, R.asI, R.asB, R.asL]
  | [], h => by have := congrArg List.length h; simp [S.tys] at this
  | [_], h => by have := congrArg List.length h; simp [S.tys] at this
  | [_, _], h => by have := congrArg List.length h; simp [S.tys] at this
  | [_, _, _], h => by have := congrArg List.length h; simp [S.tys] at this
  | [_, _, _, _], h => by have := congrArg List.length h; simp [S.tys] at this
  | [_, _, _, _, _], h => by have := congrArg List.length h; simp [S.tys] at this
  | [_, _, _, _, _, _], h => by have := congrArg List.length h; simp [S.tys] at this
  | [_, _, _, _, _, _, _], h => by have := congrArg List.length h; simp [S.tys] at this
  | _ :: _ :: _ :: _ :: _ :: _ :: _ :: _ :: _ :: _, h => by have := congrArg List.length h; simp [S.tys] at this
theorem event_total : (rs : List R) → rs.map R.ty = S.tys .event → ∃ x, eventU rs = some x
  | [x0, x1, x2, x3, x4, x5, x6], h => by
    simp only [S.tys, List.map_cons, List.map_nil, List.cons.injEq, and_true] at h
    obtain ⟨h0, h1, h2, h3, h4, h5, h6⟩ := h
    obtain ⟨_, rfl⟩ := inv_i h0
    obtain ⟨_, rfl⟩ := inv_i h1
    obtain ⟨_, rfl⟩ := inv_i h2
    obtain ⟨_, rfl⟩ := inv_i h3
    obtain ⟨_, rfl⟩ := inv_i h4
    obtain ⟨_, rfl⟩ := inv_i h5
    obtain ⟨_, rfl⟩ := inv_s h6
    simp [eventU, R.asI, R.asB, R.asL]
  | [], h => by have := congrArg List.length h; simp [S.tys] at this
  | [_], h => by have := congrArg List.length h; simp [S.tys] at this
  | [_, _], h => by have := congrArg List.length h; simp [S.tys] at this
  | [_, _, _], h => by have := congrArg List.length h; simp [S.tys] at this
  | [_, _, _, _], h => by have := congrArg List.length h; simp [S.tys] at this
  | [_, _, _, _, _], h => by have := congrArg List.length h; simp [S.tys] at this
  | [_, _, _, _, _, _], h => by have := congrArg List.length h; simp [S.tys] at this
  | _ :: _ :: _ :: _ :: _ :: _ :: _ :: _ :: _, h => by have := congrArg List.length h; simp [S.tys] at this
theorem entry_total : (rs : List R) → rs.map R.ty = S.tys .entry → ∃ x, entryU rs = some x
  | [x0, x1, x2, x3, x4, x5, x6, x7, x8, x9, x10, x11, x12], h => by
    simp only [S.tys, List.map_cons, List.map_nil, List.cons.injEq, and_true] at h
    obtain ⟨h0, h1, h2, h3, h4, h5, h6, h7, h8, h9, h10, h11, h12⟩ := h
    obtain ⟨_, rfl⟩ := inv_i h0
    obtain ⟨_, rfl⟩ := inv_i h1
    obtain ⟨_, rfl⟩ := inv_i h2
    obtain ⟨_, rfl⟩ := inv_i h3
    obtain ⟨_, rfl⟩ := inv_s h4
    obtain ⟨_, rfl⟩ := inv_i h5
    obtain ⟨_, rfl⟩ := inv_i h6
    obtain ⟨_, rfl⟩ := inv_i h7
    obtain ⟨_, rfl⟩ := inv_s h8
    obtain ⟨_, rfl⟩ := inv_i h9
    obtain ⟨_, rfl⟩ := inv_i h10
    obtain ⟨_, rfl⟩ := inv_i h11
    obtain ⟨_, rfl⟩ := inv_b h12
    simp [entryU, R.asI, R.asB, R.asL]
  | [], h => by have := congrArg List.length h; simp [S.tys] at this
  | [_], h => by have := congrArg List.length h; simp [S.tys] at this
  | [_, _], h => by have := congrArg List.length h; simp [S.tys] at this
  | [_, _, _], h => by have := congrArg List.length h; simp [S.tys] at this
  | [_, _, _, _], h => by have := congrArg List.length h; simp [S.tys] at this
  | [_, _, _, _, _], h => by have := congrArg List.length h; simp [S.tys] at this
  | [_, _, _, _, _, _], h => by have := congrArg List.length h; simp [S.tys] at this
  | [_, _, _, _, _, _, _], h => by have := congrArg List.length h; simp [S.tys] at this
  | [_, _, _, _, _, _, _, _], h => by have := congrArg List.length h; simp [S.tys] at this
  | [_, _, _, _, _, _, _, _, _], h => by have := congrArg List.length h; simp [S.tys] at this
  | [_, _, _, _, _, _, _, _, _, _], h => by have := congrArg List.length h; simp [S.tys] at this
  | [_, _, _, _, _, _, _, _, _, _, _], h => by have := congrArg List.length h; simp [S.tys] at this
  | [_, _, _, _, _, _, _, _, _, _, _, _], h => by have := congrArg List.length h; simp [S.tys] at this
  | _ :: _ :: _ :: _ :: _ :: _ :: _ :: _ :: _ :: _ :: _ :: _ :: _ :: _ :: _, h => by have := congrArg List.length h; simp [S.tys] at this
theorem wish_total : (rs : List R) → rs.map R.ty = S.tys .wish → ∃ x, wishU rs = some x
  | [x0, x1, x2], h => by
    simp only [S.tys, List.map_cons, List.map_nil, List.cons.injEq, and_true] at h
    obtain ⟨h0, h1, h2⟩ := h
    obtain ⟨_, rfl⟩ := inv_i h0
    obtain ⟨_, rfl⟩ := inv_i h1
    obtain ⟨_, rfl⟩ := inv_i h2
    simp [wishU, R.asI, R.asB, R.asL]
  | [], h => by have := congrArg List.length h; simp [S.tys] at this
  | [_], h => by have := congrArg List.length h; simp [S.tys] at this
  | [_, _], h => by have := congrArg List.length h; simp [S.tys] at this
  | _ :: _ :: _ :: _ :: _, h => by have := congrArg List.length h; simp [S.tys] at this
theorem ofCells_total (t : Ty) (rs : List R) (h : rs.map R.ty = t.tys) : ∃ x, t.ofCells rs = some x := by
  have single : ∀ {t : Ty}, (∀ s, t ≠ .st s) → t.tys = [t] → rs.map R.ty = t.tys → ∃ r, rs = [r] ∧ r.ty = t := fun {t} _ e h => by
    rw [e] at h
    match rs, h with
    | [r], h => simp at h; exact ⟨r, rfl, h⟩
  cases t with
  | st s => cases s with
    | shape => exact shape_total rs h
    | tensor => exact tensor_total rs h
    | layer => exact layer_total rs h
    | model => exact model_total rs h
    | task => exact task_total rs h
    | request => exact request_total rs h
    | step => exact step_total rs h
    | event => exact event_total rs h
    | entry => exact entry_total rs h
    | wish => exact wish_total rs h
  | int k => obtain ⟨r, rfl, e⟩ := single (t := .int k) (fun s h => nomatch h) rfl h; exact ofCell_total _ r e (fun s h => nomatch h)
  | bool => obtain ⟨r, rfl, e⟩ := single (t := .bool) (fun s h => nomatch h) rfl h; exact ofCell_total _ r e (fun s h => nomatch h)
  | str => obtain ⟨r, rfl, e⟩ := single (t := .str) (fun s h => nomatch h) rfl h; exact ofCell_total _ r e (fun s h => nomatch h)
  | sl t => obtain ⟨r, rfl, e⟩ := single (t := .sl t) (fun s h => nomatch h) rfl h; exact ofCell_total _ r e (fun s h => nomatch h)
/-- The fields' cells, one after the other. -/
def flatFs (P : Program) (g : TypeId → Option (List Ty)) : Nat → List Field → Option (List Ty)
  | _, [] => some []
  | off, f :: l => cond (Nat.beq f.offset off) ((g f.type).bind fun ts => cond (Nat.beq (P.cellsOf f.type) ts.length) ((flatFs P g (off + ts.length) l).bind fun us => some (ts ++ us)) none) none
/-- A type's cells. -/
def flatT (P : Program) (tt : TT) : Nat → TypeId → Option (List Ty)
  | 0, _ => none
  | n + 1, T => match P.underlying T with
    | some (.int k) => some [.int k]
    | some .bool => some [.bool]
    | some .string => some [.str]
    | some (.slice e) => (tt e).bind fun t => (flatT P tt n e).bind fun ts => if ts = t.tys ∧ P.cellsOf e = ts.length then some [.sl t] else none
    | some (.struct fs) => (flatFs P (flatT P tt n) 0 fs.toList).bind fun ts => cond (Nat.beq (P.cellsOf T) ts.length) (some ts) none
    | _ => none
/-- What stands behind a list of cells. -/
def Opened (w : World) (ts : List Ty) (cs : List Value) : Prop :=
  ∃ rs : List R, rs.map R.ty = ts ∧ rs.length = cs.length ∧ ∀ (j : Nat) (r : R) (v : Value), rs[j]? = some r → cs[j]? = some v → RepR w (fun _ => True) r v ∧ r.Wf
theorem Opened.one {w : World} {r : R} {v : Value} (h : RepR w (fun _ => True) r v) (hw : r.Wf) : Opened w [r.ty] [v] :=
  ⟨[r], rfl, rfl, fun j r' v' h1 h2 => by
    cases j with
    | zero => simp at h1 h2; subst h1 h2; exact ⟨h, hw⟩
    | succ j => simp at h1⟩
theorem Opened.append {w : World} {ts us : List Ty} {cs ds : List Value} (h : Opened w ts cs) (g : Opened w us ds) : Opened w (ts ++ us) (cs ++ ds) := by
  obtain ⟨rs, h1, h2, h3⟩ := h
  obtain ⟨qs, g1, g2, g3⟩ := g
  refine ⟨rs ++ qs, by simp [h1, g1], by simp [h2, g2], fun j r v hr hv => ?_⟩
  by_cases c : j < rs.length
  · rw [List.getElem?_append_left c] at hr
    rw [List.getElem?_append_left (by omega)] at hv
    exact h3 j r v hr hv
  · rw [List.getElem?_append_right (by omega)] at hr
    rw [List.getElem?_append_right (by omega), ← h2] at hv
    exact g3 _ r v hr hv
section
variable {H : Type} {enc : TypeId × Value → H} {P : Program} {tt : TT} {w : World} {base : Nat} {sp : Nat → Bool} {held : Bool}
theorem open_fields {g : TypeId → Option (List Ty)} {F : TypeId → List Value → Option (DataW H × List MemPlace)} (hg : ∀ T cs x ts, F T cs = some x → g T = some ts → cs.length = P.cellsOf T → Opened w ts cs) (cs : List Value) :
    ∀ (fs : List Field) (off : Nat) (ts : List Ty) (xs : List (DataW H × List MemPlace)), flatFs P g off fs = some ts → fs.mapM (fun f => F f.type ((cs.drop f.offset).take (P.cellsOf f.type))) = some xs → off + ts.length = cs.length → Opened w ts (cs.drop off)
  | [], off, ts, xs, h, _, hl => by
    cases h
    have : cs.drop off = [] := List.drop_eq_nil_of_le (by simp at hl; omega)
    rw [this]; exact ⟨[], rfl, rfl, fun j r v hr _ => by simp at hr⟩
  | f :: fs, off, ts, xs, h, hm, hl => by
    simp only [flatFs] at h
    cases ho : Nat.beq f.offset off <;> simp only [ho, cond_true, cond_false, Option.bind_eq_some_iff] at h
    · exact nomatch h
    have ho := Nat.eq_of_beq_eq_true ho
    obtain ⟨us, hu, h⟩ := h
    cases hc : Nat.beq (P.cellsOf f.type) us.length <;> simp only [hc, cond_true, cond_false, Option.bind_eq_some_iff, Option.some.injEq] at h
    · exact nomatch h
    have hc := Nat.eq_of_beq_eq_true hc
    obtain ⟨vs, hv, rfl⟩ := h
    rw [List.mapM_cons] at hm
    cases hF : F f.type ((cs.drop f.offset).take (P.cellsOf f.type)) with
    | none => rw [hF] at hm; exact nomatch hm
    | some y =>
      cases hR : fs.mapM (fun f => F f.type ((cs.drop f.offset).take (P.cellsOf f.type))) with
      | none => rw [hF, hR] at hm; exact nomatch hm
      | some ys =>
        rw [List.length_append] at hl
        have h1 := hg _ _ _ _ hF hu (by rw [List.length_take, List.length_drop]; omega)
        have h2 := open_fields hg cs fs (off + us.length) vs ys hv hR (by omega)
        rw [ho, hc] at h1
        have := h1.append h2
        rwa [← List.drop_drop, List.take_append_drop] at this
theorem trod_int {fuel : Nat} {T : TypeId} {cs : List Value} {x : DataW H × List MemPlace} {k : IntKind} (hu : P.underlying T = some (.int k)) (h : DataW.trod enc P w base sp held fuel T cs = some x) : ∃ n, cs = [.int k n] ∧ (Lit.int k n).wf = true := by
  cases fuel with
  | zero => exact nomatch h
  | succ fuel =>
    unfold DataW.trod at h
    simp only [hu] at h
    match cs, h with
    | [.int k' n], h =>
      simp only at h
      split at h
      · rename_i hc; obtain ⟨rfl, hw⟩ := hc; exact ⟨n, rfl, hw⟩
      · exact nomatch h
theorem trod_bool {fuel : Nat} {T : TypeId} {cs : List Value} {x : DataW H × List MemPlace} (hu : P.underlying T = some .bool) (h : DataW.trod enc P w base sp held fuel T cs = some x) : ∃ b, cs = [.bool b] := by
  cases fuel with
  | zero => exact nomatch h
  | succ fuel =>
    unfold DataW.trod at h
    simp only [hu] at h
    match cs, h with
    | [.bool b], h => exact ⟨b, rfl⟩
theorem trod_str {fuel : Nat} {T : TypeId} {cs : List Value} {x : DataW H × List MemPlace} (hu : P.underlying T = some .string) (h : DataW.trod enc P w base sp held fuel T cs = some x) : ∃ s, cs = [.string s] ∧ s.size ≤ maxLen := by
  cases fuel with
  | zero => exact nomatch h
  | succ fuel =>
    unfold DataW.trod at h
    simp only [hu] at h
    match cs, h with
    | [.string s], h =>
      simp only at h
      split at h
      · rename_i hc; exact ⟨s, rfl, hc⟩
      · exact nomatch h
theorem trod_fields {fuel : Nat} {T : TypeId} {cs : List Value} {x : DataW H × List MemPlace} {fs : Array Field} (hu : P.underlying T = some (.struct fs)) (h : DataW.trod enc P w base sp held fuel T cs = some x) :
    ∃ fuel' xs, cs.length = P.cellsOf T ∧ fs.toList.mapM (fun f => DataW.trod enc P w base sp held fuel' f.type ((cs.drop f.offset).take (P.cellsOf f.type))) = some xs := by
  cases fuel with
  | zero => exact nomatch h
  | succ fuel =>
    unfold DataW.trod at h
    simp only [hu] at h
    split at h
    · rename_i hl
      obtain ⟨xs, hx, _⟩ := Option.map_eq_some_iff.1 h
      exact ⟨fuel, xs, hl, hx⟩
    · exact nomatch h
theorem exists_list {α : Type} {Q : Nat → α → Prop} : ∀ (n : Nat), (∀ i, i < n → ∃ x, Q i x) → ∃ l : List α, l.length = n ∧ ∀ (i : Nat) (x : α), l[i]? = some x → Q i x
  | 0, _ => ⟨[], rfl, fun i x h => by simp at h⟩
  | n + 1, h => by
    obtain ⟨l, h1, h2⟩ := exists_list n fun i hi => h i (by omega)
    obtain ⟨x, hx⟩ := h n (by omega)
    refine ⟨l ++ [x], by simp [h1], fun i y hy => ?_⟩
    by_cases c : i < l.length
    · rw [List.getElem?_append_left c] at hy; exact h2 i y hy
    · rw [List.getElem?_append_right (by omega)] at hy
      have hi : i - l.length < 1 := by have := (List.getElem?_eq_some_iff.1 hy).1; simpa using this
      have : i = n := by omega
      subst this
      have : i - l.length = 0 := by omega
      rw [this] at hy; simp at hy; subst hy; exact hx
theorem spot_none {a : Addr} {v : Value} (h : w.cell? a = some v) : a.spot = none := by
  unfold World.cell? at h
  cases hs : a.spot with
  | none => rfl
  | some s => simp [hs] at h; split at h <;> simp_all
theorem range_getN {n j : Nat} (h : j < n) : (List.range n)[j]? = some j := by rw [List.getElem?_eq_getElem (by simpa using h)]; simp
theorem open_cells : ∀ (n fuel : Nat) (T : TypeId) (cs : List Value) (x : DataW H × List MemPlace) (ts : List Ty), DataW.trod enc P w base sp held fuel T cs = some x → flatT P tt n T = some ts → Opened w ts cs
  | 0, _, _, _, _, _, _, h => nomatch h
  | n + 1, fuel, T, cs, x, ts, h, hf => by
    unfold flatT at hf
    split at hf
    · rename_i k hu
      cases hf
      obtain ⟨m, rfl, hw⟩ := trod_int hu h
      exact Opened.one (.int k m) (.int k m hw)
    · rename_i hu
      cases hf
      obtain ⟨b, rfl⟩ := trod_bool hu h
      exact Opened.one (.bool b) (.bool b)
    · rename_i hu
      cases hf
      obtain ⟨s, rfl, hsl⟩ := trod_str hu h
      have : s = ⟨s.data.toList.toArray⟩ := by simp
      rw [this]
      exact Opened.one (.str s.data.toList) (.str _ (by simpa using hsl))
    · rename_i e hu
      simp only [Option.bind_eq_some_iff] at hf
      obtain ⟨t, ht, us, hus, hf⟩ := hf
      split at hf
      · rename_i hc
        obtain ⟨rfl, hsz⟩ := hc
        cases hf
        rw [Ty.tys_length] at hsz
        rcases DataW.trod_slice hu h with ⟨rfl, _⟩ | ⟨a, len, cap, elems, rest, n', _, rfl, _, hb, hlc, hcap, hlen, hel, _⟩
        · exact Opened.one (.sl t [] none 0 0 0 (fun _ _ => undef) (Nat.le_refl _) (.inl rfl) (fun i j r ⟨x, hx, _⟩ => by simp at hx) (fun i j r ⟨x, hx, _⟩ => by simp at hx)) (.sl t [] (fun i j r ⟨x, hx, _⟩ => by simp at hx) (Nat.zero_le _))
        · subst hlen
          have hel' : ∀ i, i < elems.length → ∃ x : t.El, ∃ ds, w.cells? base (a.add (i * P.cellsOf e)) (P.cellsOf e) = some ds ∧ (t.cells x).length = ds.length ∧
              ∀ (j : Nat) (r : R) (v : Value), (t.cells x)[j]? = some r → ds[j]? = some v → RepR w (fun _ => True) r v ∧ r.Wf := fun i hi => by
            have := hel i hi
            rw [List.getElem?_eq_getElem hi] at this
            obtain ⟨ds, h1, h2⟩ := Option.bind_eq_some_iff.1 this
            obtain ⟨rs, g1, g2, g3⟩ := open_cells n n' e ds _ _ h2 hus
            obtain ⟨x, hx⟩ := ofCells_total t rs g1
            have hc := Ty.ofCells_spec t rs x hx
            exact ⟨x, ds, h1, by rw [hc]; exact g2, by rw [hc]; exact g3⟩
          obtain ⟨xs, hxl, hxs⟩ := exists_list elems.length hel'
          have key : ∀ i j r, cellIn t xs i j r → a.spot = none ∧ ∃ v, w.at? (a.block, a.off + (i * t.sz + j)) = some v ∧ RepR w (fun _ => True) r v ∧ r.Wf := fun i j r ⟨x, hx, hr⟩ => by
            obtain ⟨ds, h1, h2, h3⟩ := hxs i x hx
            have hj : j < ds.length := by rw [← h2]; exact (List.getElem?_eq_some_iff.1 hr).1
            unfold World.cells? at h1
            rw [if_pos (by unfold Addr.add; split <;> exact hb)] at h1
            have hl := mapM_some_length h1
            rw [List.length_range] at hl
            have hg := mapM_some_get h1 j j (range_getN (by omega))
            rw [List.getElem?_eq_getElem hj] at hg
            have hsp : a.spot = none := by
              have hi : i < xs.length := (List.getElem?_eq_some_iff.1 hx).1
              obtain ⟨es, q1, q2, _⟩ := hxs 0 _ (List.getElem?_eq_getElem (by omega))
              have hpos := t.sz_pos
              rw [Ty.cells_length] at q2
              unfold World.cells? at q1
              rw [if_pos (by unfold Addr.add; split <;> exact hb)] at q1
              have h0 := mapM_some_get q1 0 0 (range_getN (by omega))
              rw [List.getElem?_eq_getElem (by omega)] at h0
              have hs := spot_none h0
              simpa [Addr.add] using hs
            refine ⟨hsp, ds[j], ?_, h3 j r _ hr (List.getElem?_eq_getElem hj)⟩
            have : (a.add (i * P.cellsOf e)).add j = ⟨a.block, a.off + (i * t.sz + j), none⟩ := by
              obtain ⟨b0, o0, s0⟩ := a
              simp only at hsp; subst hsp
              rw [hsz]
              simp only [Addr.add]
              split <;> split <;> simp <;> omega
            rw [this] at hg
            exact hg
          rw [← hxl]
          have hrep : RepR w (fun _ => True) (.sl t xs) (.slice (some a) xs.length cap) := by
            refine .sl t xs (some a) cap a.block a.off (fun i j => (w.at? (a.block, a.off + (i * t.sz + j))).getD undef) (by omega) ?_ (fun i j r hc => ?_) (fun i j r hc => ?_)
            · cases xs with
              | nil => exact .inl rfl
              | cons x l =>
                right
                obtain ⟨r, hr⟩ := cellIn_of (t := t) (xs := x :: l) (i := 0) (j := 0) (by simp) t.sz_pos
                have := (key 0 0 r hr).1
                obtain ⟨b0, o0, s0⟩ := a
                simp only at this; subst this; rfl
            · obtain ⟨_, v, hv, _⟩ := key i j r hc
              exact ⟨trivial, by rw [hv]; rfl⟩
            · obtain ⟨_, v, hv, hr, _⟩ := key i j r hc
              rw [hv]; exact hr
          exact Opened.one hrep (.sl t xs (fun i j r hc => by obtain ⟨_, v, _, _, hw⟩ := key i j r hc; exact hw) (by omega))
      · exact nomatch hf
    · rename_i fs hu
      simp only [Option.bind_eq_some_iff] at hf
      obtain ⟨us, hus, hf⟩ := hf
      cases hc : Nat.beq (P.cellsOf T) us.length <;> simp only [hc, cond_true, cond_false] at hf
      · exact nomatch hf
      cases hf
      have hc := Nat.eq_of_beq_eq_true hc
      obtain ⟨fuel', xs, hl, hx⟩ := trod_fields hu h
      have := open_fields (F := DataW.trod enc P w base sp held fuel') (fun T cs x ts h1 h2 _ => open_cells n fuel' T cs x ts h1 h2) cs fs.toList 0 _ xs hus hx (by omega)
      simpa using this
    · exact nomatch hf
end
end Go.Proofs.Ev
