/- The evaluator over the model's code, and that it is sound: part 7. -/
import Derived.Test.YthaamopjdieecaaEvK6
import GoSem.ClaimChange
import Derived.Deep.Slices
import Derived.DataReads
import Derived.ProofKit
import Derived.WideKeyArgs
import Derived.IntWalk
set_option linter.unusedVariables false
set_option linter.unusedSimpArgs false
set_option linter.unusedVariables false
set_option linter.unusedSimpArgs false
namespace Go.Proofs.Ev
variable [Tok]
set_option linter.unusedSectionVars false
def R.ty : R → Ty
  | .int k _ => .int k
  | .bool _ => .bool
  | .str _ => .str
  | .sl t _ => .sl t
  | .tok _ => .tok
/-- All numbers lie in their kind's range. -/
inductive R.Wf : R → Prop
  | int (k : IntKind) (n : Int) (h : (Lit.int k n).wf = true) : R.Wf (.int k n)
  | bool (b : Bool) : R.Wf (.bool b)
  | str (l : List UInt8) (h : l.length ≤ maxLen) : R.Wf (.str l)
  | sl (t : Ty) (xs : List t.El) (h : ∀ i j r, cellIn t xs i j r → R.Wf r) (hl : xs.length ≤ maxLen) : R.Wf (.sl t xs)
theorem ofCell_total (t : Ty) (r : R) (h : r.ty = t) (hs : ∀ s, t ≠ .st s) : ∃ x, t.ofCell r = some x := by
  subst h
  cases r with
  | int k n => exact ⟨n, by simp [Ty.ofCell, R.ty]⟩
  | bool b => exact ⟨b, by simp [Ty.ofCell, R.ty]⟩
  | str l => exact ⟨l, by simp [Ty.ofCell, R.ty]⟩
  | sl t xs => exact ⟨xs, by simp [Ty.ofCell, R.ty]⟩
  | tok n => exact ⟨n, by simp [Ty.ofCell, R.ty]⟩
theorem inv_t {r : R} (h : r.ty = .tok) : ∃ n, r = .tok n := by cases r <;> simp_all [R.ty]
theorem inv_i {r : R} {k : IntKind} (h : r.ty = .int k) : ∃ n, r = .int k n := by cases r <;> simp_all [R.ty]
theorem inv_b {r : R} (h : r.ty = .bool) : ∃ n, r = .bool n := by cases r <;> simp_all [R.ty]
theorem inv_s {r : R} {t : Ty} (h : r.ty = .sl t) : ∃ xs, r = .sl t xs := by
  cases r with
  | sl t' xs => cases h; exact ⟨xs, rfl⟩
  | _ => exact nomatch h
theorem shape_total : (rs : List R) → rs.map R.ty = S.tys .shape → ∃ x, shapeU rs = some x
  | [x0, x1, x2], h => by
    simp only [S.tys, List.map_cons, List.map_nil, List.cons.injEq, and_true] at h
    obtain ⟨h0, h1, h2⟩ := h
    obtain ⟨_, rfl⟩ := inv_i h0
    obtain ⟨_, rfl⟩ := inv_i h1
    obtain ⟨_, rfl⟩ := inv_i h2
    simp [shapeU, R.asI, R.asB, R.asL]
  | [], h => by have := congrArg List.length h; simp [S.tys] at this
  | [_], h => by have := congrArg List.length h; simp [S.tys] at this
  | [_, _], h => by have := congrArg List.length h; simp [S.tys] at this
  | _ :: _ :: _ :: _ :: _, h => by have := congrArg List.length h; simp [S.tys] at this
theorem tensor_total : (rs : List R) → rs.map R.ty = S.tys .tensor → ∃ x, tensorU rs = some x
  | [x0, x1, x2, x3], h => by
    simp only [S.tys, List.map_cons, List.map_nil, List.cons.injEq, and_true] at h
    obtain ⟨h0, h1, h2, h3⟩ := h
    obtain ⟨_, rfl⟩ := inv_i h0
    obtain ⟨_, rfl⟩ := inv_i h1
    obtain ⟨_, rfl⟩ := inv_i h2
    obtain ⟨_, rfl⟩ := inv_s h3
    simp [tensorU, R.asI, R.asB, R.asL]
  | [], h => by have := congrArg List.length h; simp [S.tys] at this
  | [_], h => by have := congrArg List.length h; simp [S.tys] at this
  | [_, _], h => by have := congrArg List.length h; simp [S.tys] at this
  | [_, _, _], h => by have := congrArg List.length h; simp [S.tys] at this
  | _ :: _ :: _ :: _ :: _ :: _, h => by have := congrArg List.length h; simp [S.tys] at this
theorem layer_total : (rs : List R) → rs.map R.ty = S.tys .layer → ∃ x, layerU rs = some x
  | [x0, x1, x2, x3, x4, x5, x6, x7, x8], h => by
    simp only [S.tys, List.map_cons, List.map_nil, List.cons.injEq, and_true] at h
    obtain ⟨h0, h1, h2, h3, h4, h5, h6, h7, h8⟩ := h
    obtain ⟨_, rfl⟩ := inv_i h0
    obtain ⟨_, rfl⟩ := inv_i h1
    obtain ⟨_, rfl⟩ := inv_i h2
    obtain ⟨_, rfl⟩ := inv_i h3
    obtain ⟨_, rfl⟩ := inv_i h4
    obtain ⟨_, rfl⟩ := inv_i h5
    obtain ⟨_, rfl⟩ := inv_i h6
    obtain ⟨_, rfl⟩ := inv_s h7
    obtain ⟨_, rfl⟩ := inv_s h8
    simp [layerU, R.asI, R.asB, R.asL]
  | [], h => by have := congrArg List.length h; simp [S.tys] at this
  | [_], h => by have := congrArg List.length h; simp [S.tys] at this
  | [_, _], h => by have := congrArg List.length h; simp [S.tys] at this
  | [_, _, _], h => by have := congrArg List.length h; simp [S.tys] at this
  | [_, _, _, _], h => by have := congrArg List.length h; simp [S.tys] at this
  | [_, _, _, _, _], h => by have := congrArg List.length h; simp [S.tys] at this
  | [_, _, _, _, _, _], h => by have := congrArg List.length h; simp [S.tys] at this
  | [_, _, _, _, _, _, _], h => by have := congrArg List.length h; simp [S.tys] at this
  | [_, _, _, _, _, _, _, _], h => by have := congrArg List.length h; simp [S.tys] at this
  | _ :: _ :: _ :: _ :: _ :: _ :: _ :: _ :: _ :: _ :: _, h => by have := congrArg List.length h; simp [S.tys] at this
theorem model_total : (rs : List R) → rs.map R.ty = S.tys .model → ∃ x, modelU rs = some x
  | [x0, x1, x2, x3], h => by
    simp only [S.tys, List.map_cons, List.map_nil, List.cons.injEq, and_true] at h
    obtain ⟨h0, h1, h2, h3⟩ := h
    obtain ⟨_, rfl⟩ := inv_i h0
    obtain ⟨_, rfl⟩ := inv_i h1
    obtain ⟨_, rfl⟩ := inv_i h2
    obtain ⟨_, rfl⟩ := inv_s h3
    simp [modelU, R.asI, R.asB, R.asL]
  | [], h => by have := congrArg List.length h; simp [S.tys] at this
  | [_], h => by have := congrArg List.length h; simp [S.tys] at this
  | [_, _], h => by have := congrArg List.length h; simp [S.tys] at this
  | [_, _, _], h => by have := congrArg List.length h; simp [S.tys] at this
  | _ :: _ :: _ :: _ :: _ :: _, h => by have := congrArg List.length h; simp [S.tys] at this
theorem task_total : (rs : List R) → rs.map R.ty = S.tys .task → ∃ x, taskU rs = some x
  | [x0, x1, x2, x3, x4], h => by
    simp only [S.tys, List.map_cons, List.map_nil, List.cons.injEq, and_true] at h
    obtain ⟨h0, h1, h2, h3, h4⟩ := h
    obtain ⟨_, rfl⟩ := inv_i h0
    obtain ⟨_, rfl⟩ := inv_s h1
    obtain ⟨_, rfl⟩ := inv_i h2
    obtain ⟨_, rfl⟩ := inv_i h3
    obtain ⟨_, rfl⟩ := inv_i h4
    simp [taskU, R.asI, R.asB, R.asL]
  | [], h => by have := congrArg List.length h; simp [S.tys] at this
  | [_], h => by have := congrArg List.length h; simp [S.tys] at this
  | [_, _], h => by have := congrArg List.length h; simp [S.tys] at this
  | [_, _, _], h => by have := congrArg List.length h; simp [S.tys] at this
  | [_, _, _, _], h => by have := congrArg List.length h; simp [S.tys] at this
  | _ :: _ :: _ :: _ :: _ :: _ :: _, h => by have := congrArg List.length h; simp [S.tys] at this
theorem request_total : (rs : List R) → rs.map R.ty = S.tys .request → ∃ x, requestU rs = some x
  | [x0, x1, x2, x3, x4, x5, x6, x7, x8, x9, x10, x11, x12], h => by
    simp only [S.tys, List.map_cons, List.map_nil, List.cons.injEq, and_true] at h
    obtain ⟨h0, h1, h2, h3, h4, h5, h6, h7, h8, h9, h10, h11, h12⟩ := h
    obtain ⟨_, rfl⟩ := inv_i h0
    obtain ⟨_, rfl⟩ := inv_i h1
    obtain ⟨_, rfl⟩ := inv_i h2
    obtain ⟨_, rfl⟩ := inv_i h3
    obtain ⟨_, rfl⟩ := inv_i h4
    obtain ⟨_, rfl⟩ := inv_s h5
    obtain ⟨_, rfl⟩ := inv_i h6
    obtain ⟨_, rfl⟩ := inv_i h7
    obtain ⟨_, rfl⟩ := inv_i h8
    obtain ⟨_, rfl⟩ := inv_i h9
    obtain ⟨_, rfl⟩ := inv_s h10
    obtain ⟨_, rfl⟩ := inv_i h11
    obtain ⟨_, rfl⟩ := inv_i h12
    simp [requestU, R.asI, R.asB, R.asL]
  | [], h => by have := congrArg List.length h; simp [S.tys] at this
  | [_], h => by have := congrArg List.length h; simp [S.tys] at this
  | [_, _], h => by have := congrArg List.length h; simp [S.tys] at this
  | [_, _, _], h => by have := congrArg List.length h; simp [S.tys] at this
  | [_, _, _, _], h => by have := congrArg List.length h; simp [S.tys] at this
  | [_, _, _, _, _], h => by have := congrArg List.length h; simp [S.tys] at this
  | [_, _, _, _, _, _], h => by have := congrArg List.length h; simp [S.tys] at this
  | [_, _, _, _, _, _, _], h => by have := congrArg List.length h; simp [S.tys] at this
  | [_, _, _, _, _, _, _, _], h => by have := congrArg List.length h; simp [S.tys] at this
  | [_, _, _, _, _, _, _, _, _], h => by have := congrArg List.length h; simp [S.tys] at this
  | [_, _, _, _, _, _, _, _, _, _], h => by have := congrArg List.length h; simp [S.tys] at this
  | [_, _, _, _, _, _, _, _, _, _, _], h => by have := congrArg List.length h; simp [S.tys] at this
  | [_, _, _, _, _, _, _, _, _, _, _, _], h => by have := congrArg List.length h; simp [S.tys] at this
  | _ :: _ :: _ :: _ :: _ :: _ :: _ :: _ :: _ :: _ :: _ :: _ :: _ :: _ :: _, h => by have := congrArg List.length h; simp [S.tys] at this
theorem step_total : (rs : List R) → rs.map R.ty = S.tys .step → ∃ x, stepU rs = some x
  | [x0, x1, x2, x3, x4, x5, x6, x7], h => by
    simp only [S.tys, List.map_cons, List.map_nil, List.cons.injEq, and_true] at h
    obtain ⟨h0, h1, h2, h3, h4, h5, h6, h7⟩ := h
    obtain ⟨_, rfl⟩ := inv_i h0
    obtain ⟨_, rfl⟩ := inv_i h1
    obtain ⟨_, rfl⟩ := inv_i h2
    obtain ⟨_, rfl⟩ := inv_s h3
    obtain ⟨_, rfl⟩ := inv_i h4
    obtain ⟨_, rfl⟩ := inv_i h5
    obtain ⟨_, rfl⟩ := inv_i h6
    obtain ⟨_, rfl⟩ := inv_s h7
    simp [stepU, R.asI, R.asB, R.asL]
  | [], h => by have := congrArg List.length h; simp [S.tys] at this
  | [_], h => by have := congrArg List.length h; simp [S.tys] at this
  | [_, _], h => by have := congrArg List.length h; simp [S.tys] at this
  | [_, _, _], h => by have := congrArg List.length h; simp [S.tys] at this
  | [_, _, _, _], h => by have := congrArg List.length h; simp [S.tys] at this
  | [_, _, _, _, _], h => by have := congrArg List.length h; simp [S.tys] at this
  | [_, _, _, _, _, _], h => by have := congrArg List.length h; simp [S.tys] at this
  | [_, _, _, _, _, _, _], h => by have := congrArg List.length h; simp [S.tys] at this
  | _ :: _ :: _ :: _ :: _ :: _ :: _ :: _ :: _ :: _, h => by have := congrArg List.length h; simp [S.tys] at this
theorem event_total : (rs : List R) → rs.map R.ty = S.tys .event → ∃ x, eventU rs = some x
  | [x0, x1, x2, x3, x4, x5, x6], h => by
    simp only [S.tys, List.map_cons, List.map_nil, List.cons.injEq, and_true] at h
    obtain ⟨h0, h1, h2, h3, h4, h5, h6⟩ := h
    obtain ⟨_, rfl⟩ := inv_i h0
    obtain ⟨_, rfl⟩ := inv_i h1
    obtain ⟨_, rfl⟩ := inv_i h2
    obtain ⟨_, rfl⟩ := inv_i h3
    obtain ⟨_, rfl⟩ := inv_i h4
    obtain ⟨_, rfl⟩ := inv_i h5
    obtain ⟨_, rfl⟩ := inv_s h6
    simp [eventU, R.asI, R.asB, R.asL]
  | [], h => by have := congrArg List.length h; simp [S.tys] at this
  | [_], h => by have := congrArg List.length h; simp [S.tys] at this
  | [_, _], h => by have := congrArg List.length h; simp [S.tys] at this
  | [_, _, _], h => by have := congrArg List.length h; simp [S.tys] at this
  | [_, _, _, _], h => by have := congrArg List.length h; simp [S.tys] at this
  | [_, _, _, _, _], h => by have := congrArg List.length h; simp [S.tys] at this
  | [_, _, _, _, _, _], h => by have := congrArg List.length h; simp [S.tys] at this
  | _ :: _ :: _ :: _ :: _ :: _ :: _ :: _ :: _, h => by have := congrArg List.length h; simp [S.tys] at this
theorem entry_total : (rs : List R) → rs.map R.ty = S.tys .entry → ∃ x, entryU rs = some x
  | [x0, x1, x2, x3, x4, x5, x6, x7, x8, x9, x10, x11, x12], h => by
    simp only [S.tys, List.map_cons, List.map_nil, List.cons.injEq, and_true] at h
    obtain ⟨h0, h1, h2, h3, h4, h5, h6, h7, h8, h9, h10, h11, h12⟩ := h
    obtain ⟨_, rfl⟩ := inv_i h0
    obtain ⟨_, rfl⟩ := inv_i h1
    obtain ⟨_, rfl⟩ := inv_i h2
    obtain ⟨_, rfl⟩ := inv_i h3
    obtain ⟨_, rfl⟩ := inv_s h4
    obtain ⟨_, rfl⟩ := inv_i h5
    obtain ⟨_, rfl⟩ := inv_i h6
    obtain ⟨_, rfl⟩ := inv_i h7
    obtain ⟨_, rfl⟩ := inv_s h8
    obtain ⟨_, rfl⟩ := inv_i h9
    obtain ⟨_, rfl⟩ := inv_i h10
    obtain ⟨_, rfl⟩ := inv_i h11
    obtain ⟨_, rfl⟩ := inv_b h12
    simp [entryU, R.asI, R.asB, R.asL]
  | [], h => by have := congrArg List.length h; simp [S.tys] at this
  | [_], h => by have := congrArg List.length h; simp [S.tys] at this
  | [_, _], h => by have := congrArg List.length h; simp [S.tys] at this
  | [_, _, _], h => by have := congrArg List.length h; simp [S.tys] at this
  | [_, _, _, _], h => by have := congrArg List.length h; simp [S.tys] at this
  | [_, _, _, _, _], h => by have := congrArg List.length h; simp [S.tys] at this
  | [_, _, _, _, _, _], h => by have := congrArg List.length h; simp [S.tys] at this
  | [_, _, _, _, _, _, _], h => by have := congrArg List.length h; simp [S.tys] at this
  | [_, _, _, _, _, _, _, _], h => by have := congrArg List.length h; simp [S.tys] at this
  | [_, _, _, _, _, _, _, _, _], h => by have := congrArg List.length h; simp [S.tys] at this
  | [_, _, _, _, _, _, _, _, _, _], h => by have := congrArg List.length h; simp [S.tys] at this
  | [_, _, _, _, _, _, _, _, _, _, _], h => by have := congrArg List.length h; simp [S.tys] at this
  | [_, _, _, _, _, _, _, _, _, _, _, _], h => by have := congrArg List.length h; simp [S.tys] at this
  | _ :: _ :: _ :: _ :: _ :: _ :: _ :: _ :: _ :: _ :: _ :: _ :: _ :: _ :: _, h => by have := congrArg List.length h; simp [S.tys] at this
theorem wish_total : (rs : List R) → rs.map R.ty = S.tys .wish → ∃ x, wishU rs = some x
  | [x0, x1, x2], h => by
    simp only [S.tys, List.map_cons, List.map_nil, List.cons.injEq, and_true] at h
    obtain ⟨h0, h1, h2⟩ := h
    obtain ⟨_, rfl⟩ := inv_i h0
    obtain ⟨_, rfl⟩ := inv_i h1
    obtain ⟨_, rfl⟩ := inv_i h2
    simp [wishU, R.asI, R.asB, R.asL]
  | [], h => by have := congrArg List.length h; simp [S.tys] at this
  | [_], h => by have := congrArg List.length h; simp [S.tys] at this
  | [_, _], h => by have := congrArg List.length h; simp [S.tys] at this
  | _ :: _ :: _ :: _ :: _, h => by have := congrArg List.length h; simp [S.tys] at this
theorem map_cons_inv {α β : Type} {f : α → β} {rs : List α} {t : β} {ts : List β} (h : rs.map f = t :: ts) : ∃ r rs', rs = r :: rs' ∧ f r = t ∧ rs'.map f = ts := by
  cases rs with
  | nil => exact nomatch h
  | cons r rs => rw [List.map_cons, List.cons.injEq] at h; exact ⟨r, rs, rfl, h.1, h.2⟩
theorem taskK_total (rs : List R) (h : rs.map R.ty = S.tys .taskK) : ∃ x, taskKU rs = some x := by
  obtain ⟨a0, rs, rfl, g0, h⟩ := map_cons_inv h
  obtain ⟨a1, rs, rfl, g1, h⟩ := map_cons_inv h
  obtain ⟨a2, rs, rfl, g2, h⟩ := map_cons_inv h
  obtain ⟨a3, rs, rfl, g3, h⟩ := map_cons_inv h
  obtain ⟨a4, rs, rfl, g4, h⟩ := map_cons_inv h
  rw [List.map_eq_nil_iff] at h
  subst h
  obtain ⟨x0, rfl⟩ := inv_i g0
  obtain ⟨x1, rfl⟩ := inv_t g1
  obtain ⟨x2, rfl⟩ := inv_i g2
  obtain ⟨x3, rfl⟩ := inv_i g3
  obtain ⟨x4, rfl⟩ := inv_i g4
  exact ⟨_, rfl⟩
theorem requestK_total (rs : List R) (h : rs.map R.ty = S.tys .requestK) : ∃ x, requestKU rs = some x := by
  obtain ⟨a0, rs, rfl, g0, h⟩ := map_cons_inv h
  obtain ⟨a1, rs, rfl, g1, h⟩ := map_cons_inv h
  obtain ⟨a2, rs, rfl, g2, h⟩ := map_cons_inv h
  obtain ⟨a3, rs, rfl, g3, h⟩ := map_cons_inv h
  obtain ⟨a4, rs, rfl, g4, h⟩ := map_cons_inv h
  obtain ⟨a5, rs, rfl, g5, h⟩ := map_cons_inv h
  obtain ⟨a6, rs, rfl, g6, h⟩ := map_cons_inv h
  obtain ⟨a7, rs, rfl, g7, h⟩ := map_cons_inv h
  obtain ⟨a8, rs, rfl, g8, h⟩ := map_cons_inv h
  obtain ⟨a9, rs, rfl, g9, h⟩ := map_cons_inv h
  obtain ⟨a10, rs, rfl, g10, h⟩ := map_cons_inv h
  obtain ⟨a11, rs, rfl, g11, h⟩ := map_cons_inv h
  obtain ⟨a12, rs, rfl, g12, h⟩ := map_cons_inv h
  rw [List.map_eq_nil_iff] at h
  subst h
  obtain ⟨x0, rfl⟩ := inv_i g0
  obtain ⟨x1, rfl⟩ := inv_i g1
  obtain ⟨x2, rfl⟩ := inv_i g2
  obtain ⟨x3, rfl⟩ := inv_i g3
  obtain ⟨x4, rfl⟩ := inv_i g4
  obtain ⟨x5, rfl⟩ := inv_t g5
  obtain ⟨x6, rfl⟩ := inv_i g6
  obtain ⟨x7, rfl⟩ := inv_i g7
  obtain ⟨x8, rfl⟩ := inv_i g8
  obtain ⟨x9, rfl⟩ := inv_i g9
  obtain ⟨x10, rfl⟩ := inv_t g10
  obtain ⟨x11, rfl⟩ := inv_i g11
  obtain ⟨x12, rfl⟩ := inv_i g12
  exact ⟨_, rfl⟩
theorem ofCells_total (t : Ty) (rs : List R) (h : rs.map R.ty = t.tys) : ∃ x, t.ofCells rs = some x := by
  have single : ∀ {t : Ty}, (∀ s, t ≠ .st s) → t.tys = [t] → rs.map R.ty = t.tys → ∃ r, rs = [r] ∧ r.ty = t := fun {t} _ e h => by
    rw [e] at h
    match rs, h with
    | [r], h => simp at h; exact ⟨r, rfl, h⟩
  cases t with
  | st s => cases s with
    | shape => exact shape_total rs h
    | tensor => exact tensor_total rs h
    | layer => exact layer_total rs h
    | model => exact model_total rs h
    | task => exact task_total rs h
    | request => exact request_total rs h
    | step => exact step_total rs h
    | event => exact event_total rs h
    | entry => exact entry_total rs h
    | wish => exact wish_total rs h
    | taskK => exact taskK_total rs h
    | requestK => exact requestK_total rs h
  | tok => obtain ⟨r, rfl, e⟩ := single (t := .tok) (fun s h => nomatch h) rfl h; exact ofCell_total _ r e (fun s h => nomatch h)
  | int k => obtain ⟨r, rfl, e⟩ := single (t := .int k) (fun s h => nomatch h) rfl h; exact ofCell_total _ r e (fun s h => nomatch h)
  | bool => obtain ⟨r, rfl, e⟩ := single (t := .bool) (fun s h => nomatch h) rfl h; exact ofCell_total _ r e (fun s h => nomatch h)
  | str => obtain ⟨r, rfl, e⟩ := single (t := .str) (fun s h => nomatch h) rfl h; exact ofCell_total _ r e (fun s h => nomatch h)
  | sl t => obtain ⟨r, rfl, e⟩ := single (t := .sl t) (fun s h => nomatch h) rfl h; exact ofCell_total _ r e (fun s h => nomatch h)
/-- The fields' cells, one after the other. -/
def flatFs (P : Program) (g : TypeId → Option (List Ty)) : Nat → List Field → Option (List Ty)
  | _, [] => some []
  | off, f :: l => cond (Nat.beq f.offset off) ((g f.type).bind fun ts => cond (Nat.beq (P.cellsOf f.type) ts.length) ((flatFs P g (off + ts.length) l).bind fun us => some (ts ++ us)) none) none
/-- A type's cells. -/
def flatT (P : Program) (tt : TT) : Nat → TypeId → Option (List Ty)
  | 0, _ => none
  | n + 1, T => match P.underlying T with
    | some (.int k) => some [.int k]
    | some .bool => some [.bool]
    | some .string => some [.str]
    | some (.slice e) => (tt e).bind fun t => (flatT P tt n e).bind fun ts => if ts = t.tys ∧ P.cellsOf e = ts.length then some [.sl t] else none
    | some (.struct fs) => (flatFs P (flatT P tt n) 0 fs.toList).bind fun ts => cond (Nat.beq (P.cellsOf T) ts.length) (some ts) none
    | _ => none
/-- What stands behind a list of cells. -/
def Opened (w : World) (ts : List Ty) (cs : List Value) : Prop :=
  ∃ rs : List R, rs.map R.ty = ts ∧ rs.length = cs.length ∧ ∀ (j : Nat) (r : R) (v : Value), rs[j]? = some r → cs[j]? = some v → RepR w (fun _ => True) r v ∧ r.Wf
theorem Opened.one {w : World} {r : R} {v : Value} (h : RepR w (fun _ => True) r v) (hw : r.Wf) : Opened w [r.ty] [v] :=
  ⟨[r], rfl, rfl, fun j r' v' h1 h2 => by
    cases j with
    | zero => simp at h1 h2; subst h1 h2; exact ⟨h, hw⟩
    | succ j => simp at h1⟩
theorem Opened.append {w : World} {ts us : List Ty} {cs ds : List Value} (h : Opened w ts cs) (g : Opened w us ds) : Opened w (ts ++ us) (cs ++ ds) := by
  obtain ⟨rs, h1, h2, h3⟩ := h
  obtain ⟨qs, g1, g2, g3⟩ := g
  refine ⟨rs ++ qs, by simp [h1, g1], by simp [h2, g2], fun j r v hr hv => ?_⟩
  by_cases c : j < rs.length
  · rw [List.getElem?_append_left c] at hr
    rw [List.getElem?_append_left (by omega)] at hv
    exact h3 j r v hr hv
  · rw [List.getElem?_append_right (by omega)] at hr
    rw [List.getElem?_append_right (by omega), ← h2] at hv
    exact g3 _ r v hr hv
section
variable {H : Type} {enc : TypeId × Value → H} {P : Program} {tt : TT} {w : World} {base : Nat} {sp : Nat → Bool} {held : Bool}
theorem open_fields {g : TypeId → Option (List Ty)} {F : TypeId → List Value → Option (DataW H × List MemPlace)} (hg : ∀ T cs x ts, F T cs = some x → g T = some ts → cs.length = P.cellsOf T → Opened w ts cs) (cs : List Value) :
    ∀ (fs : List Field) (off : Nat) (ts : List Ty) (xs : List (DataW H × List MemPlace)), flatFs P g off fs = some ts → fs.mapM (fun f => F f.type ((cs.drop f.offset).take (P.cellsOf f.type))) = some xs → off + ts.length = cs.length → Opened w ts (cs.drop off)
  | [], off, ts, xs, h, _, hl => by
    cases h
    have : cs.drop off = [] := List.drop_eq_nil_of_le (by simp at hl; omega)
    rw [this]; exact ⟨[], rfl, rfl, fun j r v hr _ => by simp at hr⟩
  | f :: fs, off, ts, xs, h, hm, hl => by
    simp only [flatFs] at h
    cases ho : Nat.beq f.offset off <;> simp only [ho, cond_true, cond_false, Option.bind_eq_some_iff] at h
    · exact nomatch h
    have ho := Nat.eq_of_beq_eq_true ho
    obtain ⟨us, hu, h⟩ := h
    cases hc : Nat.beq (P.cellsOf f.type) us.length <;> simp only [hc, cond_true, cond_false, Option.bind_eq_some_iff, Option.some.injEq] at h
    · exact nomatch h
    have hc := Nat.eq_of_beq_eq_true hc
    obtain ⟨vs, hv, rfl⟩ := h
    rw [List.mapM_cons] at hm
    cases hF : F f.type ((cs.drop f.offset).take (P.cellsOf f.type)) with
    | none => rw [hF] at hm; exact nomatch hm
    | some y =>
      cases hR : fs.mapM (fun f => F f.type ((cs.drop f.offset).take (P.cellsOf f.type))) with
      | none => rw [hF, hR] at hm; exact nomatch hm
      | some ys =>
        rw [List.length_append] at hl
        have h1 := hg _ _ _ _ hF hu (by rw [List.length_take, List.length_drop]; omega)
        have h2 := open_fields hg cs fs (off + us.length) vs ys hv hR (by omega)
        rw [ho, hc] at h1
        have := h1.append h2
        rwa [← List.drop_drop, List.take_append_drop] at this
theorem trod_int {fuel : Nat} {T : TypeId} {cs : List Value} {x : DataW H × List MemPlace} {k : IntKind} (hu : P.underlying T = some (.int k)) (h : DataW.trod enc P w base sp held fuel T cs = some x) : ∃ n, cs = [.int k n] ∧ (Lit.int k n).wf = true := by
  cases fuel with
  | zero => exact nomatch h
  | succ fuel =>
    unfold DataW.trod at h
    simp only [hu] at h
    match cs, h with
    | [.int k' n], h =>
      simp only at h
      split at h
      · rename_i hc; obtain ⟨rfl, hw⟩ := hc; exact ⟨n, rfl, hw⟩
      · exact nomatch h
theorem trod_bool {fuel : Nat} {T : TypeId} {cs : List Value} {x : DataW H × List MemPlace} (hu : P.underlying T = some .bool) (h : DataW.trod enc P w base sp held fuel T cs = some x) : ∃ b, cs = [.bool b] := by
  cases fuel with
  | zero => exact nomatch h
  | succ fuel =>
    unfold DataW.trod at h
    simp only [hu] at h
    match cs, h with
    | [.bool b], h => exact ⟨b, rfl⟩
theorem trod_str {fuel : Nat} {T : TypeId} {cs : List Value} {x : DataW H × List MemPlace} (hu : P.underlying T = some .string) (h : DataW.trod enc P w base sp held fuel T cs = some x) : ∃ s, cs = [.string s] ∧ s.size ≤ maxLen := by
  cases fuel with
  | zero => exact nomatch h
  | succ fuel =>
    unfold DataW.trod at h
    simp only [hu] at h
    match cs, h with
    | [.string s], h =>
      simp only at h
      split at h
      · rename_i hc; exact ⟨s, rfl, hc⟩
      · exact nomatch h
theorem trod_fields {fuel : Nat} {T : TypeId} {cs : List Value} {x : DataW H × List MemPlace} {fs : Array Field} (hu : P.underlying T = some (.struct fs)) (h : DataW.trod enc P w base sp held fuel T cs = some x) :
    ∃ fuel' xs, cs.length = P.cellsOf T ∧ fs.toList.mapM (fun f => DataW.trod enc P w base sp held fuel' f.type ((cs.drop f.offset).take (P.cellsOf f.type))) = some xs := by
  cases fuel with
  | zero => exact nomatch h
  | succ fuel =>
    unfold DataW.trod at h
    simp only [hu] at h
    split at h
    · rename_i hl
      obtain ⟨xs, hx, _⟩ := Option.map_eq_some_iff.1 h
      exact ⟨fuel, xs, hl, hx⟩
    · exact nomatch h
theorem exists_list {α : Type} {Q : Nat → α → Prop} : ∀ (n : Nat), (∀ i, i < n → ∃ x, Q i x) → ∃ l : List α, l.length = n ∧ ∀ (i : Nat) (x : α), l[i]? = some x → Q i x
  | 0, _ => ⟨[], rfl, fun i x h => by simp at h⟩
  | n + 1, h => by
    obtain ⟨l, h1, h2⟩ := exists_list n fun i hi => h i (by omega)
    obtain ⟨x, hx⟩ := h n (by omega)
    refine ⟨l ++ [x], by simp [h1], fun i y hy => ?_⟩
    by_cases c : i < l.length
    · rw [List.getElem?_append_left c] at hy; exact h2 i y hy
    · rw [List.getElem?_append_right (by omega)] at hy
      have hi : i - l.length < 1 := by have := (List.getElem?_eq_some_iff.1 hy).1; simpa using this
      have : i = n := by omega
      subst this
      have : i - l.length = 0 := by omega
      rw [this] at hy; simp at hy; subst hy; exact hx
theorem spot_none {a : Addr} {v : Value} (h : w.cell? a = some v) : a.spot = none := by
  unfold World.cell? at h
  cases hs : a.spot with
  | none => rfl
  | some s => simp [hs] at h; split at h <;> simp_all
theorem range_getN {n j : Nat} (h : j < n) : (List.range n)[j]? = some j := by rw [List.getElem?_eq_getElem (by simpa using h)]; simp
theorem open_cells : ∀ (n fuel : Nat) (T : TypeId) (cs : List Value) (x : DataW H × List MemPlace) (ts : List Ty), DataW.trod enc P w base sp held fuel T cs = some x → flatT P tt n T = some ts → Opened w ts cs
  | 0, _, _, _, _, _, _, h => nomatch h
  | n + 1, fuel, T, cs, x, ts, h, hf => by
    unfold flatT at hf
    split at hf
    · rename_i k hu
      cases hf
      obtain ⟨m, rfl, hw⟩ := trod_int hu h
      exact Opened.one (.int k m) (.int k m hw)
    · rename_i hu
      cases hf
      obtain ⟨b, rfl⟩ := trod_bool hu h
      exact Opened.one (.bool b) (.bool b)
    · rename_i hu
      cases hf
      obtain ⟨s, rfl, hsl⟩ := trod_str hu h
      have : s = ⟨s.data.toList.toArray⟩ := by simp
      rw [this]
      exact Opened.one (.str s.data.toList) (.str _ (by simpa using hsl))
    · rename_i e hu
      simp only [Option.bind_eq_some_iff] at hf
      obtain ⟨t, ht, us, hus, hf⟩ := hf
      split at hf
      · rename_i hc
        obtain ⟨rfl, hsz⟩ := hc
        cases hf
        rw [Ty.tys_length] at hsz
        rcases DataW.trod_slice hu h with ⟨rfl, _⟩ | ⟨a, len, cap, elems, rest, n', _, rfl, _, hb, hlc, hcap, hlen, hel, _⟩
        · exact Opened.one (.sl t [] none 0 0 0 (fun _ _ => undef) (Nat.le_refl _) (.inl rfl) (fun i j r ⟨x, hx, _⟩ => by simp at hx) (fun i j r ⟨x, hx, _⟩ => by simp at hx)) (.sl t [] (fun i j r ⟨x, hx, _⟩ => by simp at hx) (Nat.zero_le _))
        · subst hlen
          have hel' : ∀ i, i < elems.length → ∃ x : t.El, ∃ ds, w.cells? base (a.add (i * P.cellsOf e)) (P.cellsOf e) = some ds ∧ (t.cells x).length = ds.length ∧
              ∀ (j : Nat) (r : R) (v : Value), (t.cells x)[j]? = some r → ds[j]? = some v → RepR w (fun _ => True) r v ∧ r.Wf := fun i hi => by
            have := hel i hi
            rw [List.getElem?_eq_getElem hi] at this
            obtain ⟨ds, h1, h2⟩ := Option.bind_eq_some_iff.1 this
            obtain ⟨rs, g1, g2, g3⟩ := open_cells n n' e ds _ _ h2 hus
            obtain ⟨x, hx⟩ := ofCells_total t rs g1
            have hc := Ty.ofCells_spec t rs x hx
            exact ⟨x, ds, h1, by rw [hc]; exact g2, by rw [hc]; exact g3⟩
          obtain ⟨xs, hxl, hxs⟩ := exists_list elems.length hel'
          have key : ∀ i j r, cellIn t xs i j r → a.spot = none ∧ ∃ v, w.at? (a.block, a.off + (i * t.sz + j)) = some v ∧ RepR w (fun _ => True) r v ∧ r.Wf := fun i j r ⟨x, hx, hr⟩ => by
            obtain ⟨ds, h1, h2, h3⟩ := hxs i x hx
            have hj : j < ds.length := by rw [← h2]; exact (List.getElem?_eq_some_iff.1 hr).1
            unfold World.cells? at h1
            rw [if_pos (by unfold Addr.add; split <;> exact hb)] at h1
            have hl := mapM_some_length h1
            rw [List.length_range] at hl
            have hg := mapM_some_get h1 j j (range_getN (by omega))
            rw [List.getElem?_eq_getElem hj] at hg
            have hsp : a.spot = none := by
              have hi : i < xs.length := (List.getElem?_eq_some_iff.1 hx).1
              obtain ⟨es, q1, q2, _⟩ := hxs 0 _ (List.getElem?_eq_getElem (by omega))
              have hpos := t.sz_pos
              rw [Ty.cells_length] at q2
              unfold World.cells? at q1
              rw [if_pos (by unfold Addr.add; split <;> exact hb)] at q1
              have h0 := mapM_some_get q1 0 0 (range_getN (by omega))
              rw [List.getElem?_eq_getElem (by omega)] at h0
              have hs := spot_none h0
              simpa [Addr.add] using hs
            refine ⟨hsp, ds[j], ?_, h3 j r _ hr (List.getElem?_eq_getElem hj)⟩
            have : (a.add (i * P.cellsOf e)).add j = ⟨a.block, a.off + (i * t.sz + j), none⟩ := by
              obtain ⟨b0, o0, s0⟩ := a
              simp only at hsp; subst hsp
              rw [hsz]
              simp only [Addr.add]
              split <;> split <;> simp <;> omega
            rw [this] at hg
            exact hg
          rw [← hxl]
          have hrep : RepR w (fun _ => True) (.sl t xs) (.slice (some a) xs.length cap) := by
            refine .sl t xs (some a) cap a.block a.off (fun i j => (w.at? (a.block, a.off + (i * t.sz + j))).getD undef) (by omega) ?_ (fun i j r hc => ?_) (fun i j r hc => ?_)
            · cases xs with
              | nil => exact .inl rfl
              | cons x l =>
                right
                obtain ⟨r, hr⟩ := cellIn_of (t := t) (xs := x :: l) (i := 0) (j := 0) (by simp) t.sz_pos
                have := (key 0 0 r hr).1
                obtain ⟨b0, o0, s0⟩ := a
                simp only at this; subst this; rfl
            · obtain ⟨_, v, hv, _⟩ := key i j r hc
              exact ⟨trivial, by rw [hv]; rfl⟩
            · obtain ⟨_, v, hv, hr, _⟩ := key i j r hc
              rw [hv]; exact hr
          exact Opened.one hrep (.sl t xs (fun i j r hc => by obtain ⟨_, v, _, _, hw⟩ := key i j r hc; exact hw) (by omega))
      · exact nomatch hf
    · rename_i fs hu
      simp only [Option.bind_eq_some_iff] at hf
      obtain ⟨us, hus, hf⟩ := hf
      cases hc : Nat.beq (P.cellsOf T) us.length <;> simp only [hc, cond_true, cond_false] at hf
      · exact nomatch hf
      cases hf
      have hc := Nat.eq_of_beq_eq_true hc
      obtain ⟨fuel', xs, hl, hx⟩ := trod_fields hu h
      have := open_fields (F := DataW.trod enc P w base sp held fuel') (fun T cs x ts h1 h2 _ => open_cells n fuel' T cs x ts h1 h2) cs fs.toList 0 _ xs hus hx (by omega)
      simpa using this
    · exact nomatch hf
end
end Go.Proofs.Ev

set_option linter.unusedVariables false
set_option linter.unusedSimpArgs false
namespace Go.Proofs.Ev
variable [Tok]
set_option linter.unusedSectionVars false
open Go.ChangeShapes Go.WideShapes Go.ChangeAt Go.RowKit
/-- What an argument of type T reads as. -/
def ArgIs (P : Program) (tt : TT) (T : TypeId) (a : Arg) : Prop :=
  ∃ ts, flatT P tt 8 T = some ts ∧ ((∃ fs, P.underlying T = some (.struct fs)) → ∃ rs : List R, a = .agg rs ∧ rs.map R.ty = ts ∧ ∀ r ∈ rs, r.Wf) ∧
    ((∀ fs, P.underlying T ≠ some (.struct fs)) → ∃ r : R, a = .one r ∧ [r.ty] = ts ∧ r.Wf)
def ArgsAre (P : Program) (tt : TT) : List TypeId → List Arg → Prop
  | [], [] => True
  | T :: Ts, a :: as => ArgIs P tt T a ∧ ArgsAre P tt Ts as
  | _, _ => False
section
variable {H : Type} {enc : TypeId × Value → H} {P : Program} {tt : TT} {w : World} {base : Nat} {sp : Nat → Bool} {held : Bool}
theorem arg_open {b0 : Nat} {T : TypeId} {v : Value} {d : DataW H} {p : List MemPlace} {ts : List Ty} (hd : DataW.Trod enc P w base sp held T v d p) (hv : Value.okWide P w .any b0 T v) (hf : flatT P tt 8 T = some ts) :
    ∃ a, ArgIs P tt T a ∧ RepArg w (fun _ => True) a v := by
  obtain ⟨fuel, hd⟩ := hd
  obtain ⟨rs, h1, h2, h3⟩ := open_cells 8 fuel T _ _ ts hd hf
  by_cases hs : ∃ fs, P.underlying T = some (.struct fs)
  · obtain ⟨fs, hfs⟩ := hs
    simp only [Value.okWide, hfs] at hv
    obtain ⟨cs, rfl, hsz, _⟩ := hv
    refine ⟨.agg rs, ⟨ts, hf, fun _ => ⟨rs, rfl, h1, fun r hr => ?_⟩, fun h => (h fs hfs).elim⟩, cs, rfl, by simpa [Value.cells] using h2, fun j r u hr hu => ?_⟩
    · obtain ⟨j, hj⟩ := List.getElem?_of_mem hr
      have hlt : j < cs.size := by
        have := (List.getElem?_eq_some_iff.1 hj).1
        simp [Value.cells] at h2; omega
      exact (h3 j r cs[j] hj (by simp [Value.cells, hlt])).2
    · exact (h3 j r u hr (by simpa [Value.cells] using hu)).1
  · have one1 : ∀ {t}, rs.map R.ty = [t] → ∃ r, rs = [r] := fun h => List.length_eq_one_iff.1 (by simpa using congrArg List.length h)
    have hone : ∃ r, rs = [r] := by
      unfold flatT at hf
      split at hf
      · cases hf; exact one1 h1
      · cases hf; exact one1 h1
      · cases hf; exact one1 h1
      · simp only [Option.bind_eq_some_iff] at hf
        obtain ⟨t, _, us, _, hf⟩ := hf
        split at hf
        · cases hf; exact one1 h1
        · exact nomatch hf
      · rename_i fs hu; exact (hs ⟨fs, hu⟩).elim
      · exact nomatch hf
    obtain ⟨r, rfl⟩ := hone
    have hcells : v.cells.toList = [v] := by
      have hnag : ∀ cs, v ≠ .agg cs := fun cs e => by
        subst e
        unfold flatT at hf
        split at hf
        · rename_i k hu; obtain ⟨n, e⟩ := okWide_int hu hv; exact nomatch e
        · rename_i hu; obtain ⟨n, e⟩ := okWide_bool hu hv; exact nomatch e
        · rename_i hu; obtain ⟨n, e⟩ := okWide_string hu hv; exact nomatch e
        · rename_i e hu; obtain ⟨a, l, c, e⟩ := okWide_slice hu hv; exact nomatch e
        · rename_i fs hu; exact (hs ⟨fs, hu⟩).elim
        · exact nomatch hf
      cases v <;> first | rfl | exact (hnag _ rfl).elim
    rw [hcells] at h3
    have := h3 0 r v rfl rfl
    exact ⟨.one r, ⟨ts, hf, fun h => (hs h).elim, fun _ => ⟨r, rfl, by simpa using h1, this.2⟩⟩, this.1⟩
theorem args_open {b0 : Nat} : ∀ {Ts : List TypeId} {vs : List Value} {ds : List (DataW H)} {ps : List MemPlace}, DataW.TrodAll enc P w base sp held Ts vs ds ps →
    (∀ (j : Nat) t v, Ts[j]? = some t → vs[j]? = some v → Value.okWide P w .any b0 t v) → (Ts.all fun T => (flatT P tt 8 T).isSome) = true →
    ∃ as, ArgsAre P tt Ts as ∧ as.length = vs.length ∧ ds.length = Ts.length ∧ ∀ (j : Nat) (x : Arg) (u : Value), as[j]? = some x → vs[j]? = some u → RepArg w (fun _ => True) x u
  | [], [], [], _, _, _, _ => ⟨[], trivial, rfl, rfl, fun j x u h => by simp at h⟩
  | T :: Ts, v :: vs, d :: ds, ps, ⟨p, q, h1, h2, _⟩, hv, hf => by
    simp only [List.all_cons, Bool.and_eq_true] at hf
    obtain ⟨ts, hts⟩ := Option.isSome_iff_exists.1 hf.1
    obtain ⟨a, g1, g2⟩ := arg_open h1 (hv 0 T v rfl rfl) hts
    obtain ⟨as, g3, g4, g5, g6⟩ := args_open h2 (fun j t v ht hw => hv (j + 1) t v (by simpa using ht) (by simpa using hw)) hf.2
    refine ⟨a :: as, ⟨g1, g3⟩, by simp [g4], by simp [g5], fun j x u hx hu => ?_⟩
    cases j with
    | zero => simp at hx hu; subst hx hu; exact g2
    | succ j => exact g6 j x u (by simpa using hx) (by simpa using hu)
  | [], _ :: _, _, _, h, _, _ => nomatch h
  | [], [], _ :: _, _, h, _, _ => nomatch h
  | _ :: _, [], _, _, h, _, _ => nomatch h
  | _ :: _, _ :: _, [], _, h, _, _ => nomatch h
variable {w' : World}
theorem kept_of (hg : Grown w w') (hc : ∀ (p : Cell) x, w.at? p = some x → w'.at? p = some x ∧ w'.ice? p = w.ice? p) (may : MemPlace → Prop) : w.keptBut w' may := by
  obtain ⟨h1, h2, h3⟩ := hg
  refine ⟨h1, h2, fun i hi => ?_⟩
  have := h3 i hi
  split at this
  · rename_i c t fr c' t' fr' e1 e2
    obtain ⟨q1, q2, q3⟩ := this
    rw [e1, e2]
    refine ⟨q1, ?_, q3, fun j _ => ?_⟩
    · rcases q2 with q2 | q2
      · exact q2
      · have h0 : w.at? (i, 0) = some c[0] := by simp [World.at?, World.cell?, e1, q2]
        have := (hc _ _ h0).2
        simp only [World.ice?, e1, e2, Prod.mk.injEq] at this
        exact Prod.ext this.1 this.2.1
    · by_cases hj : j < c.size
      · have : w.at? (i, j) = some c[j] := by simp [World.at?, World.cell?, e1, hj]
        have := (hc _ _ this).1
        simp only [World.at?, World.cell?, e2, Option.isSome_none, Bool.false_eq_true, if_false] at this
        rw [this, Array.getElem?_eq_getElem hj]
      · rw [Array.getElem?_eq_none (by omega), Array.getElem?_eq_none (by omega)]
  · rename_i x y h4
    rw [this]
    split
    · rename_i e1 e2
      rw [e1] at e2; cases e2
      exact ⟨rfl, rfl, rfl, fun _ _ => rfl⟩
    · rename_i e1 e2
      rw [e1] at e2; cases e2
      exact .inr ⟨rfl, rfl⟩
    · rfl
theorem frozen_of {may : MemPlace → Prop} (h : w.keptBut w' may) {a : Addr} (ha : a.block < w.heap.size) : w'.frozen? a = w.frozen? a := by
  have := h.2.2 a.block ha
  unfold World.frozen?
  split at this
  · rename_i e1 e2
    obtain ⟨_, q2, _⟩ := this
    rw [e1, e2, q2]
  · rename_i e1 e2
    rw [e1, e2]
  · rw [this]
theorem same_of (hg : Grown w w') (hc : ∀ (p : Cell) x, w.at? p = some x → w'.at? p = some x ∧ w'.ice? p = w.ice? p) {p : MemPlace} (hp : p.block < w.heap.size) : w.sameAt w' p := by
  obtain ⟨_, _, h3⟩ := kept_of hg hc fun _ => False
  cases p with
  | cell b o =>
    have := h3 b hp
    show w'.cell? ⟨b, o, none⟩ = w.cell? ⟨b, o, none⟩
    split at this
    · rename_i c t fr c' t' fr' e1 e2
      obtain ⟨q1, q2, q3, q4⟩ := this
      simp only [World.cell?, e1, e2, Option.isSome_none, Bool.false_eq_true, if_false]
      exact q4 o (fun h => h)
    · rename_i es ck es' ck' e1 e2
      simp [World.cell?, e1, e2]
    · simp only [World.cell?, this]
  | map b =>
    have := h3 b hp
    show w'.heap[b]? = w.heap[b]?
    split at this
    · rename_i c t fr c' t' fr' e1 e2
      obtain ⟨rfl, rfl, q3, q4⟩ := this
      rw [e1, e2]
      have : c' = c := Array.ext_getElem? fun j => q4 j (fun h => h)
      rw [this]
    · rename_i es ck es' ck' e1 e2
      rcases this with h | ⟨rfl, rfl⟩
      · exact h.elim
      · rw [e1, e2]
    · exact this
theorem trodAll_stays (hl : laidOutB P = true) : ∀ {Ts : List TypeId} {vs : List Value} {ds : List (DataW H)} {ps : List MemPlace}, (∀ t ∈ Ts, P.readableRec t = true ∧ t < P.types.size) →
    DataW.TrodAll enc P w 0 (fun _ => true) true Ts vs ds ps → (∀ p ∈ ps, w.sameAt w' p) → (∀ p ∈ ps, sp p.block = true) → DataW.TrodAll enc P w' 0 sp true Ts vs ds ps
  | [], [], [], _, _, h, _, _ => h
  | T :: Ts, v :: vs, d :: ds, ps, hT, ⟨p, q, h1, h2, e⟩, hs, hp =>
    ⟨p, q, WideElems.Trod_stays hl (hT T (by simp)).1 (hT T (by simp)).2 h1 (fun x hx => hs x (by rw [e]; exact List.mem_append_left _ hx)) (fun x hx => hp x (by rw [e]; exact List.mem_append_left _ hx)),
      trodAll_stays hl (fun t ht => hT t (by simp [ht])) h2 (fun x hx => hs x (by rw [e]; exact List.mem_append_right _ hx)) (fun x hx => hp x (by rw [e]; exact List.mem_append_right _ hx)), e⟩
  | [], _ :: _, _, _, _, h, _, _ => nomatch h
  | [], [], _ :: _, _, _, h, _, _ => nomatch h
  | _ :: _, [], _, _, _, h, _, _ => nomatch h
  | _ :: _, _ :: _, [], _, _, h, _, _ => nomatch h
end
theorem post_same {H : Type} {enc : TypeId × Value → H} {P : Program} {f : Func} {s : ChangeSpec} {apart fresh handsOn again : Bool} {W W' : World} {args : Array Value} {v : Value} {ds gs : List (DataW H)} {before pa pv : List MemPlace}
    (hW : DataW.Whole enc P f.params.toList s.vars apart W args.toList ds gs before)
    (hres : ∀ (b : Nat) (sp : Nat → Bool) (hd : Bool), DataW.TrodAll enc P W' b sp hd f.resultTypes.toList (v.resultList f.resultTypes.size) (s.fn H (ds ++ gs)).results [])
    (hargs : ∀ sp : Nat → Bool, (∀ p ∈ before, sp p.block = true) → DataW.TrodAll enc P W' 0 sp true f.params.toList args.toList (s.fn H (ds ++ gs)).args pa)
    (hvars : ∀ sp : Nat → Bool, (∀ p ∈ before, sp p.block = true) → DataW.TrodVars enc P W' sp s.vars (s.fn H (ds ++ gs)).vars pv)
    (hps : before = pa ++ pv) (hk : W.keptBut W' (· ∈ before)) (hfz : ∀ b off, MemPlace.cell b off ∈ before → W'.frozen? ⟨b, off, none⟩ = W.frozen? ⟨b, off, none⟩)
    (hok : ∀ (j : Nat) (t : TypeId) (r : Value), f.resultTypes[j]? = some t → (v.resultList f.resultTypes.size)[j]? = some r → Value.okWide P W' .any 0 t r) : s.post enc P f apart fresh handsOn again W args v W' := by
  have hin : ∀ p ∈ before, (decide (p.block < W.heap.size)) = true := fun p hp => decide_eq_true (hW.lt p hp)
  subst hps
  refine ⟨ds, gs, _, [], pa, pv, hW, hres _ _ _, hargs (fun b => decide (b < W.heap.size)) hin, hvars _ hin, World.keptBut_mono (fun p hp => ⟨hp, .inr (List.mem_append.1 hp)⟩) hk, fun _ => ?_⟩
  obtain ⟨_, _, _, _, _, hz, hn⟩ := id hW
  refine ⟨hok, _, _, ([] ++ pa) ++ pv, ⟨[] ++ pa, pv, trodAll_append (hargs _ fun _ _ => rfl) (hres _ _ _), hvars _ fun _ _ => rfl, rfl, fun b off hp => ?_, fun ha => ?_⟩, fun p hp _ => ?_⟩
  · have hp : MemPlace.cell b off ∈ pa ++ pv := by simpa using hp
    rw [hfz b off hp]; exact hz b off hp
  · simpa using hn ha
  · simpa using hp
/-- A LAW: what it is called with is typed; it answers true; nothing has turned. -/
theorem law_lifted {C : Checked} {os : Os} {g : FuncId} {fn : Func} {s : ChangeSpec} {tt : TT} {H : Type} {enc : TypeId × Value → H} {conds : List PathCond} {apart fresh handsOn again : Bool}
    (own : ownKnob C.prog.godebug = none) (started : os.Started) (noInit : C.prog.inits.idxOf? g = none) (hfn : C.prog.funcs[g]? = some fn)
    (witness : ∃ (w : World) (tape : Tape) (i : Input), w.os = os ∧ (w.forCall tape i).Shaped C.prog ∧ i.vars = [] ∧ Input.okWide C.prog (w.forCall tape i) .any w.heap.size g i ∧
      s.pre6 enc C.prog fn conds apart (w.forCall tape i).memory i.args ∧ Assume.holds {} C.prog (lone (Frame.enter C.prog g i.args .normal) [] (w.forCall tape i)))
    (hlaid : laidOutB C.prog = true) (hread : ∀ t ∈ fn.params.toList, C.prog.readableRec t = true ∧ t < C.prog.types.size) (hflat : (fn.params.toList.all fun T => (flatT C.prog tt 8 T).isSome) = true)
    (hvars : s.vars = []) (hspec : ∀ ds : List (DataW H), ds.length = fn.params.toList.length → s.fn H (ds ++ []) = { results := [.lit (.bool true)], args := ds, vars := [] })
    {bt : TypeId} (hres : fn.resultTypes = #[bt]) (hbt : C.prog.underlying bt = some .bool)
    (hcon : ∀ as : List Arg, ArgsAre C.prog tt fn.params.toList as → PureCalls C.prog g as (.b true, [])) :
    ReturnsInHanded {} C os g .any (s.pre6 enc C.prog fn conds apart) (s.post enc C.prog fn apart fresh handsOn again) := by
  refine returnsInHanded_of_change (C := C) own started noInit hfn witness ?_
  intro W base args ds gs before hval hW _ _
  have hW' := hW
  obtain ⟨p, q, hA, hV, rfl, hfz, _⟩ := hW
  rw [hvars] at hV
  obtain ⟨rfl, rfl⟩ := trodVars_none hV
  obtain ⟨as, g1, g2, g3, g4⟩ := args_open hA (fun j t v ht hv => hval j t v (by simpa using ht) (by simpa using hv)) hflat
  obtain ⟨_, hc⟩ := hcon as g1
  refine (hc W args (fun _ => True) (by simpa using g2) (fun j x u hx hu => g4 j x u hx (by simpa using hu))).mono fun e W' ⟨u, pl, he, _, hu, _, hkeep, _, hgr⟩ => ?_
  have hu : u = .bool true := by
    cases hu with
    | r _ _ _ h => cases h; rfl
  subst hu he
  have hc' : ∀ (p : Cell) x, W.at? p = some x → W'.at? p = some x ∧ W'.ice? p = W.ice? p := hkeep
  have hlt : ∀ x ∈ p, x.block < W.heap.size := fun x hx => hW'.lt x (by simpa using hx)
  refine ⟨_, rfl, post_same (pa := p) (pv := []) hW' (fun _ _ _ => ?_) (fun sp hsp => ?_) (fun _ _ => ?_) rfl (kept_of hgr hc' _) (fun b off hp => frozen_of (kept_of hgr hc' fun _ => False) (hW'.lt _ hp)) (ok_one hres rfl (okWide_bool_mk hbt true))⟩
  · rw [hspec ds g3, hres]
    exact trodAll_mk1 (shut_bool hbt true)
  · rw [hspec ds g3]
    exact trodAll_stays hlaid hread hA (fun x hx => same_of hgr hc' (hlt x hx)) (fun x hx => hsp x (by simpa using hx))
  · rw [hspec ds g3, hvars]
    exact rfl
end Go.Proofs.Ev

namespace Go.Proofs.Ev
instance plainTok : Tok := ⟨fun _ => .slice none 0 0, fun _ => rfl, rfl⟩
theorem wrapI {n : Int} (h1 : -9223372036854775808 ≤ n) (h2 : n ≤ 9223372036854775807) : IntKind.i64.wrap n = n := Go.IntWalk.i64_in n ⟨h1, h2⟩
theorem wrapNat1 {n m : Nat} (h : n < m) (hm : m ≤ 9223372036854775807) : IntKind.i64.wrap ((n : Int) + 1) = ((n + 1 : Nat) : Int) := by
  rw [wrapI (by omega) (by omega)]; omega
@[simp] theorem idx_nat {α : Type} (xs : List α) (i : Nat) : idx xs (i : Int) = xs[i]? := by
  have : (0 : Int) ≤ (i : Int) := by omega
  simp [idx, this]
theorem idx_zero {α : Type} (xs : List α) : idx xs 0 = xs[0]? := rfl
theorem idx_pos {α : Type} (xs : List α) {i : Int} (h : 0 ≤ i) : idx xs i = xs[i.toNat]? := by simp [idx, h]
section
variable {R V : Type} {g : V → (V → Option R) → Option R}
theorem iter_succ (k : Nat) (v : V) : iter g (k + 1) v = g v (iter g k) := rfl
/-- A loop that goes through known states, with what comes of each. -/
theorem iter_rec {st : Nat → V} {n : Nat} {P : Nat → Option R} (h : ∀ i, i < n → ∀ next : V → Option R, next (st (i + 1)) = P (i + 1) → g (st i) next = P i)
    (hn : ∀ next, g (st n) next = P n) : ∀ (k i : Nat), i ≤ n → n - i < k → iter g k (st i) = P i
  | 0, i, hi, hk => by omega
  | k + 1, i, hi, hk => by
    rw [iter_succ]
    by_cases c : i < n
    · exact h i c _ (iter_rec h hn k (i + 1) (by omega) (by omega))
    · have : i = n := by omega
      subst this; exact hn _
/-- .. whose end is one. -/
theorem iter_run {st : Nat → V} {n : Nat} {r : Option R} (h : ∀ i, i < n → ∀ next : V → Option R, g (st i) next = next (st (i + 1))) (hn : ∀ next, g (st n) next = r) {k : Nat} (hk : n < k) :
    iter g k (st 0) = r := iter_rec (P := fun _ => r) (fun i hi next e => (h i hi next).trans e) hn k 0 (Nat.zero_le _) (by omega)
end
theorem cond_dec {α : Type} {p : Prop} [Decidable p] (x y : α) : cond (decide p) x y = if p then x else y := by by_cases h : p <;> simp [h]
theorem cond_beq {α : Type} (a b : Int) (x y : α) : cond (a == b) x y = if a = b then x else y := by
  by_cases h : a = b
  · simp [h]
  · have : (a == b) = false := by simpa using h
    rw [this, if_neg h]; rfl
theorem cond_not {α : Type} (b : Bool) (x y : α) : cond (!b) x y = cond b y x := by cases b <;> rfl
theorem getD_get {α : Type} {xs : List α} {i : Nat} (h : i < xs.length) : xs[i]? = some xs[i] := List.getElem?_eq_getElem h
theorem drop_step {α : Type} {xs : List α} {i : Nat} (h : i < xs.length) : xs.drop i = xs[i] :: xs.drop (i + 1) := (List.getElem_cons_drop h).symm
theorem take_step {α : Type} {xs : List α} {i : Nat} (h : i < xs.length) : xs.take (i + 1) = xs.take i ++ [xs[i]] := (List.take_append_getElem h).symm
end Go.Proofs.Ev

set_option linter.unusedVariables false
namespace Go.Proofs.Ev
theorem bind_some' {α β : Type} (a : α) (f : α → Option β) : (some a).bind f = f a := rfl
/-- A loop that looks for the first element that fails. -/
theorem all_loop {α R : Type} (xs : List α) (p : α → Bool) {g : Int → (Int → Option R) → Option R} {yes no : Option R}
    (h : ∀ (i : Nat) (hi : i < xs.length) (next : Int → Option R), g (i : Int) next = cond (p xs[i]) (next ((i + 1 : Nat) : Int)) no)
    (hn : ∀ next, g (xs.length : Int) next = yes) {k : Nat} (hk : xs.length < k) : iter g k 0 = cond (xs.all p) yes no := by
  have := iter_rec (g := g) (st := fun i => (i : Int)) (n := xs.length) (P := fun i => cond ((xs.drop i).all p) yes no) (fun i hi next e => by
    rw [h i hi next, drop_step hi, List.all_cons]
    cases hp : p xs[i]
    · rfl
    · simp only [cond_true, Bool.true_and]; exact e) (fun next => by rw [List.drop_length]; exact hn next) k 0 (Nat.zero_le _) (by omega)
  simpa using this
/-- .. its place. -/
theorem find_loop {α R : Type} (xs : List α) (p : α → Bool) {g : Int → (Int → Option R) → Option R} {yes : Option R} {no : Int → Option R}
    (h : ∀ (i : Nat) (hi : i < xs.length) (next : Int → Option R), g (i : Int) next = cond (p xs[i]) (no (i : Int)) (next ((i + 1 : Nat) : Int)))
    (hn : ∀ next, g (xs.length : Int) next = yes) {k : Nat} (hk : xs.length < k) : iter g k 0 = (xs.findIdx? p).elim yes fun i => no (i : Int) := by
  have := iter_rec (g := g) (st := fun i => (i : Int)) (n := xs.length) (P := fun i => ((xs.drop i).findIdx? p).elim yes fun j => no ((i + j : Nat) : Int)) (fun i hi next e => by
    rw [h i hi next, drop_step hi, List.findIdx?_cons]
    cases hp : p xs[i]
    · simp only [cond_false, Bool.false_eq_true, if_false]
      rw [e]
      cases (xs.drop (i + 1)).findIdx? p with
      | none => rfl
      | some j => simp only [Option.map_some, Option.elim_some]; congr 2; omega
    · simp) (fun next => by rw [List.drop_length]; simpa using hn next) k 0 (Nat.zero_le _) (by omega)
  simpa using this
/-- A loop that appends what comes of each element. -/
theorem app_loop {α β R : Type} (xs : List α) (f : α → β) {g : Int × List β → (Int × List β → Option R) → Option R} {fin : List β → Option R}
    (h : ∀ (i : Nat) (ys : List β) (hi : i < xs.length) (next : Int × List β → Option R), ys.length = i → g ((i : Int), ys) next = next (((i + 1 : Nat) : Int), ys ++ [f xs[i]]))
    (hn : ∀ ys next, g ((xs.length : Int), ys) next = fin ys) {k : Nat} (hk : xs.length < k) : iter g k (0, []) = fin (xs.map f) := by
  have := iter_run (g := g) (st := fun i => ((i : Int), (xs.take i).map f)) (n := xs.length) (r := fin (xs.map f)) (fun i hi next => by
    rw [h i _ hi next (by simp; omega), take_step hi, List.map_append]; rfl) (fun next => by rw [List.take_length]; exact hn _ _) hk
  simpa using this
/-- A loop that goes through a list with a state. -/
theorem fold_loop {α S R : Type} (xs : List α) (f : S → α → S) {g : S × Int → (S × Int → Option R) → Option R} {fin : S → Option R} (s0 : S)
    (h : ∀ (i : Nat) (s : S) (hi : i < xs.length) (next : S × Int → Option R), s = (xs.take i).foldl f s0 → g (s, (i : Int)) next = next (f s xs[i], ((i + 1 : Nat) : Int)))
    (hn : ∀ next, g (xs.foldl f s0, (xs.length : Int)) next = fin (xs.foldl f s0)) {k : Nat} (hk : xs.length < k) : iter g k (s0, 0) = fin (xs.foldl f s0) := by
  have := iter_run (g := g) (st := fun i => ((xs.take i).foldl f s0, (i : Int))) (n := xs.length) (r := fin (xs.foldl f s0)) (fun i hi next => by
    rw [h i _ hi next rfl, take_step hi, List.foldl_append]; rfl) (fun next => by
    simp only [List.take_length]; exact hn next) hk
  simpa using this
end Go.Proofs.Ev

set_option linter.unusedVariables false
namespace Go.Proofs.Ev
theorem maxN_eq : maxN = 274877906944 := rfl
def totL {α : Type} (t : α → Nat) (xs : List α) : Nat := xs.length + (xs.map t).sum
theorem sum_mem {α : Type} (t : α → Nat) : ∀ {xs : List α} {x : α}, x ∈ xs → t x ≤ (xs.map t).sum
  | y :: xs, x, h => by
    simp only [List.map_cons, List.sum_cons]
    rcases List.mem_cons.1 h with rfl | h
    · omega
    · have := sum_mem t h; omega
theorem totL_mem {α : Type} (t : α → Nat) {xs : List α} {x : α} (h : x ∈ xs) : t x + 1 ≤ totL t xs := by
  have := sum_mem t h
  have := List.length_pos_of_mem h
  unfold totL; omega
theorem totL_len {α : Type} (t : α → Nat) (xs : List α) : xs.length ≤ totL t xs := by unfold totL; omega
theorem totL_cons {α : Type} (t : α → Nat) (x : α) (xs : List α) : totL t (x :: xs) = t x + 1 + totL t xs := by simp [totL]; omega
theorem totL_append {α : Type} (t : α → Nat) (xs ys : List α) : totL t (xs ++ ys) = totL t xs + totL t ys := by simp [totL]; omega
end Go.Proofs.Ev

set_option linter.unusedVariables false
namespace Go.Proofs.Ev
variable [Tok]
set_option linter.unusedSectionVars false
def maxL : Nat := 9223372036854775807
def okS {α : Type} (p : α → Prop) (xs : List α) : Prop := xs.length ≤ maxL ∧ ∀ x ∈ xs, p x
def okB (n : Int) : Prop := 0 ≤ n ∧ n ≤ 255
theorem wf_u8 {n : Int} (h : (R.int .u8 n).Wf) : okB n := by
  cases h with
  | int _ _ h => simp [Lit.wf, IntKind.min, IntKind.max, IntKind.signed, IntKind.bits] at h; exact h
theorem wf_sl {t : Ty} {xs : List t.El} {p : t.El → Prop} (h : (R.sl t xs).Wf) (hp : ∀ x ∈ xs, (∀ r ∈ t.cells x, r.Wf) → p x) : okS p xs := by
  cases h with
  | sl _ _ h hl =>
    refine ⟨by unfold maxL; unfold maxLen at hl; omega, fun x hx => hp x hx fun r hr => ?_⟩
    obtain ⟨i, hi⟩ := List.getElem?_of_mem hx
    obtain ⟨j, hj⟩ := List.getElem?_of_mem hr
    exact h i j r ⟨x, hi, hj⟩
theorem wf_bytes {xs : List Int} (h : (R.bytes xs).Wf) : okS okB xs := wf_sl h fun x _ hx => wf_u8 (hx _ (by simp [Ty.cells]))
section
variable {P : Program} {tt : TT} {T : TypeId} {a : Arg}
def isStructB (P : Program) (T : TypeId) : Bool :=
  match P.underlying T with
  | some (.struct _) => true
  | _ => false
theorem argIs_one {t : Ty} (hf : flatT P tt 8 T = some [t]) (hs : isStructB P T = false) (h : ArgIs P tt T a) : ∃ r : R, a = .one r ∧ r.ty = t ∧ r.Wf := by
  obtain ⟨ts, h1, _, h3⟩ := h
  rw [hf] at h1; cases h1
  obtain ⟨r, rfl, g1, g2⟩ := h3 (fun fs e => by simp [isStructB, e] at hs)
  exact ⟨r, rfl, by simpa using g1, g2⟩
theorem argIs_sl {t : Ty} (hf : flatT P tt 8 T = some [.sl t]) (hs : isStructB P T = false) (h : ArgIs P tt T a) : ∃ xs : List t.El, a = .one (.sl t xs) ∧ (R.sl t xs).Wf := by
  obtain ⟨r, rfl, h1, h2⟩ := argIs_one hf hs h
  obtain ⟨n, rfl⟩ := inv_s h1
  exact ⟨n, rfl, h2⟩
theorem argsAre_one {as : List Arg} {T : TypeId} (h : ArgsAre P tt [T] as) : ∃ a, as = [a] ∧ ArgIs P tt T a := by
  match as, h with
  | [a], h => exact ⟨a, rfl, h.1⟩
end
theorem pure_of_ok {P : Program} {g : FuncId} {G : PG} (h : PureOk P g G) {as : List Arg} {o : Out} (hG : G Out as some = some o) : PureCalls P g as o := by
  obtain ⟨o', h1, h2⟩ := h Out as some o hG
  cases h1; exact h2
theorem all_list {p : TypeId → Bool} {l : List TypeId} (h : l.all p = true) : ∀ t ∈ l, p t = true := fun t ht => List.all_eq_true.1 h t ht
end Go.Proofs.Ev

set_option linter.unusedVariables false
namespace Go.Proofs.Ev
variable [Tok]
set_option linter.unusedSectionVars false
section
variable {P : Program} {tt : TT} {T : TypeId} {a : Arg}
end
end Go.Proofs.Ev
