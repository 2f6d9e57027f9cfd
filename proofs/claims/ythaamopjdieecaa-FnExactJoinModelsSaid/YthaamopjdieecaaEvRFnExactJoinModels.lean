/- FnExactJoinModels: for every input the law returns true, and the arguments read as before; no condition. -/
import Derived.Test.YthaamopjdieecaaRows
import Derived.Test.YthaamopjdieecaaEvCFnExactJoinModels
import Derived.Test.YthaamopjdieecaaEvK7
import Derived.Test.YthaamopjdieecaaEvZFnExactJoinModels
import Derived.Test.YthaamopjdieecaaEvP37
set_option linter.unusedVariables false
set_option linter.unusedSimpArgs false
namespace Go.Proofs.Ythaamopjdieecaa
open Go.ChangeShapes Go.WideShapes Go.ChangeAt Go.RowKit Go.Proofs.Ev
theorem own : ownKnob Try.prog.godebug = none := by kernel_rfl
theorem laidOut : laidOutB Try.prog = true := by kernel_rfl
noncomputable abbrev boolT : TypeId := (Try.f8.resultTypes)[0]!
theorem readable : (Try.f8.params.toList.all fun t => Try.prog.readableRec t && decide (t < Try.prog.types.size)) = true := by kernel_rfl
set_option maxRecDepth 100000 in
theorem law_pure (xs : List Arg) (h : ArgsAre Try.prog tt Try.f8.params.toList xs) : PureCalls Try.prog 8 xs (.b true, []) := by
  have e : Try.f8.params.toList = [Try.f8.params.toList[0]!, Try.f8.params.toList[1]!] := by kernel_rfl
  rw [e] at h
  obtain ⟨a0, a1, rfl, h0, h1⟩ := argsAre_two h
  obtain ⟨x0, rfl, hx0⟩ := argIs_st .model (by kernel_rfl) (by kernel_rfl) h0
  obtain ⟨x1, rfl, hx1⟩ := argIs_st .model (by kernel_rfl) (by kernel_rfl) h1
  obtain ⟨k, hk⟩ := L_FnExactJoinModels_eq x0 x1 (wf_model hx0) (wf_model hx1)
  refine pure_of_ok (yrm k) ?_
  show (L_FnExactJoinModels k x0 x1).bind _ = _
  rw [hk]; rfl
set_option maxRecDepth 100000 in
theorem law_is (os : Os) (started : os.Started) (H : Type) (enc : TypeId × Value → H) :
    ReturnsInHanded {} Try.checked os 8 .any (Rows.fnExactJoinModelsSpec.pre6 enc Try.prog Try.f8 Rows.fnExactJoinModelsRow.domain false) (Rows.fnExactJoinModelsSpec.post enc Try.prog Try.f8 false true false false) :=
  law_lifted (C := Try.checked) (tt := tt) own started (by kernel_rfl) Try.func8
    (ChangeSpec.witness6 (enc := enc) (C := Try.checked) false ⟨#[], #[.agg #[.int .i64 0, .int .i64 0, .int .i64 0, .slice none 0 0], .agg #[.int .i64 0, .int .i64 0, .int .i64 0, .slice none 0 0]], []⟩ 8 (by kernel_rfl) (by kernel_rfl) (by kernel_rfl) (by kernel_rfl))
    laidOut (fun t ht => by have := all_list readable t ht; rw [Bool.and_eq_true] at this; exact ⟨this.1, of_decide_eq_true this.2⟩) (by kernel_rfl) rfl
    (fun ds hds => by
      have e : Try.f8.params.toList.length = 2 := by kernel_rfl
      rw [e] at hds
      match ds, hds with
      | [d0, d1], _ => rfl) (bt := boolT) (by kernel_rfl) (by kernel_rfl) law_pure
theorem holds : Rows.FnExactJoinModelsSaid :=
  OpenClaim.holds_of_wide 8 Try.f8 rfl rfl rfl rfl rfl rfl rfl ⟨rfl, rfl, rfl, rfl, rfl⟩ rfl rfl rfl rfl rfl (by kernel_rfl) Try.func8 closedB
    (of_decide_eq_true (by kernel_rfl)) (by unfold Func.isWrapper; first | (rw [if_pos (by decide +kernel)]; kernel_rfl) | (rw [if_neg (by decide +kernel)]; exact ⟨rfl, rfl⟩))
    (fun os started H enc _ => law_is os started H enc)
end Go.Proofs.Ythaamopjdieecaa
