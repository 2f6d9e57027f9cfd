/- FnExactSameStep: for every two steps the law returns true, and the arguments read as before; no condition. -/
import Derived.Test.YtcgeekjfbjcofaaRows
import Derived.Test.YtcgeekjfbjcofaaEvAC
import Derived.Test.YtcgeekjfbjcofaaEvP1
set_option linter.unusedVariables false
set_option linter.unusedSimpArgs false
namespace Go.Proofs.Ytcgeekjfbjcofaa
open Go.ChangeShapes Go.WideShapes Go.ChangeAt Go.RowKit Go.Proofs.Ev
theorem own : ownKnob Try.prog.godebug = none := by kernel_rfl
theorem laidOut : laidOutB Try.prog = true := by kernel_rfl
noncomputable abbrev bt : TypeId := (Try.f4.resultTypes)[0]!
theorem readable4 : (Try.f4.params.toList.all fun t => Try.prog.readableRec t && decide (t < Try.prog.types.size)) = true := by kernel_rfl
set_option maxRecDepth 100000 in
theorem same_pure (xs : List Arg) (h : ArgsAre Try.prog tt Try.f4.params.toList xs) : PureCalls Try.prog 4 xs (.b true, []) := by
  have e : Try.f4.params.toList = [Try.f4.params.toList[0]!, Try.f4.params.toList[1]!] := by kernel_rfl
  rw [e] at h
  obtain ⟨a, b, rfl, h1, h2⟩ := argsAre_two h
  obtain ⟨x, rfl, hx⟩ := argIs_st .step (by kernel_rfl) (by kernel_rfl) h1
  obtain ⟨y, rfl, hy⟩ := argIs_st .step (by kernel_rfl) (by kernel_rfl) h2
  obtain ⟨k, hk⟩ := L_FnExactSameStep_eq x y (wf_step hx) (wf_step hy)
  refine pure_of_ok (L_FnExactSameStep_ok k) ?_
  show (L_FnExactSameStep k x y).bind _ = _
  rw [hk]; rfl
set_option maxRecDepth 100000 in
theorem same_lifted (os : Os) (started : os.Started) (H : Type) (enc : TypeId × Value → H) :
    ReturnsInHanded {} Try.checked os 4 .any (Rows.fnExactSameStepSpec.pre6 enc Try.prog Try.f4 Rows.fnExactSameStepRow.domain false) (Rows.fnExactSameStepSpec.post enc Try.prog Try.f4 false true false false) :=
  law_lifted (C := Try.checked) (tt := tt) own started (by kernel_rfl) Try.func4
    (ChangeSpec.witness6 (enc := enc) (C := Try.checked) false ⟨#[], #[.agg #[.int .i64 0, .int .i64 0, .int .i64 0, .slice none 0 0, .int .i64 0, .int .i64 0, .int .i64 0, .slice none 0 0], .agg #[.int .i64 0, .int .i64 0, .int .i64 0, .slice none 0 0, .int .i64 0, .int .i64 0, .int .i64 0, .slice none 0 0]], []⟩ 8 (by kernel_rfl) (by kernel_rfl) (by kernel_rfl) (by kernel_rfl))
    laidOut (fun t ht => by have := all_list readable4 t ht; rw [Bool.and_eq_true] at this; exact ⟨this.1, of_decide_eq_true this.2⟩) (by kernel_rfl) rfl
    (fun ds hds => by
      have e : Try.f4.params.toList.length = 2 := by kernel_rfl
      rw [e] at hds
      match ds, hds with
      | [d1, d2], _ => rfl) (bt := bt) (by kernel_rfl) (by kernel_rfl) same_pure
theorem same_holds : Rows.FnExactSameStepSaid :=
  OpenClaim.holds_of_wide 4 Try.f4 rfl rfl rfl rfl rfl rfl rfl ⟨rfl, rfl, rfl, rfl, rfl⟩ rfl rfl rfl rfl rfl (by kernel_rfl) Try.func4 (by kernel_rfl)
    (of_decide_eq_true (by kernel_rfl)) (by unfold Func.isWrapper; first | (rw [if_pos (by decide +kernel)]; kernel_rfl) | (rw [if_neg (by decide +kernel)]; exact ⟨rfl, rfl⟩))
    (fun os started H enc _ => same_lifted os started H enc)
end Go.Proofs.Ytcgeekjfbjcofaa
