/- FnExactFinishJob: for every input the law returns true, and the arguments read as before; no condition. -/
import Derived.Test.YtcohhbpegbhcgaaGreatRows
import Derived.Test.YtcohhbpegbhcgaaGreatEvCFnExactFinishJob
import Derived.Test.YtcohhbpegbhcgaaGreatEvK6
import Derived.Test.YtcohhbpegbhcgaaGreatEvP26
set_option linter.unusedVariables false
set_option linter.unusedSimpArgs false
namespace Go.Proofs.YtcohhbpegbhcgaaGreat
open Go.ChangeShapes Go.WideShapes Go.ChangeAt Go.RowKit Go.Proofs.Ev
theorem own : ownKnob Tryz.prog.godebug = none := by kernel_rfl
theorem laidOut : laidOutB Tryz.prog = true := by kernel_rfl
noncomputable abbrev boolT : TypeId := (Tryz.f3.resultTypes)[0]!
theorem readable : (Tryz.f3.params.toList.all fun t => Tryz.prog.readableRec t && decide (t < Tryz.prog.types.size)) = true := by kernel_rfl
set_option maxRecDepth 100000 in
theorem law_pure (xs : List Arg) (h : ArgsAre Tryz.prog tt Tryz.f3.params.toList xs) : PureCalls Tryz.prog 3 xs (.b true, []) := by
  have e : Tryz.f3.params.toList = [Tryz.f3.params.toList[0]!] := by kernel_rfl
  rw [e] at h
  obtain ⟨a0, rfl, h0⟩ := argsAre_one h
  obtain ⟨x0, rfl, hx0⟩ := argIs_job (by kernel_rfl) (by kernel_rfl) h0
  obtain ⟨k, hk⟩ := L_FnExactFinishJob_eq x0 hx0
  refine pure_of_ok (y1ji k) ?_
  show (L_FnExactFinishJob k x0).bind _ = _
  rw [hk]; rfl
set_option maxRecDepth 100000 in
theorem law_is (os : Os) (started : os.Started) (H : Type) (enc : TypeId × Value → H) :
    ReturnsInHanded {} Tryz.checked os 3 .any (Rows.fnExactFinishJobSpec.pre6 enc Tryz.prog Tryz.f3 Rows.fnExactFinishJobRow.domain false) (Rows.fnExactFinishJobSpec.post enc Tryz.prog Tryz.f3 false true false false) :=
  law_lifted (C := Tryz.checked) (tt := tt) own started (by kernel_rfl) Tryz.func3
    (ChangeSpec.witness6 (enc := enc) (C := Tryz.checked) false ⟨#[], #[.agg #[.int .i64 0, .int .i64 0, .int .i64 0, .slice none 0 0, .int .i64 0, .int .i64 0, .int .i64 0, .int .i64 0, .slice none 0 0, .int .i64 0]], []⟩ 8 (by kernel_rfl) (by kernel_rfl) (by kernel_rfl) (by kernel_rfl))
    laidOut (fun t ht => by have := all_list readable t ht; rw [Bool.and_eq_true] at this; exact ⟨this.1, of_decide_eq_true this.2⟩) (by kernel_rfl) rfl
    (fun ds hds => by
      have e : Tryz.f3.params.toList.length = 1 := by kernel_rfl
      rw [e] at hds
      match ds, hds with
      | [d0], _ => rfl) (bt := boolT) (by kernel_rfl) (by kernel_rfl) law_pure
theorem holds : Rows.FnExactFinishJobSaid :=
  OpenClaim.holds_of_wide 3 Tryz.f3 rfl rfl rfl rfl rfl rfl rfl ⟨rfl, rfl, rfl, rfl, rfl⟩ rfl rfl rfl rfl rfl (by kernel_rfl) Tryz.func3 (by kernel_rfl)
    (of_decide_eq_true (by kernel_rfl)) (by unfold Func.isWrapper; first | (rw [if_pos (by decide +kernel)]; kernel_rfl) | (rw [if_neg (by decide +kernel)]; exact ⟨rfl, rfl⟩))
    (fun os started H enc _ => law_is os started H enc)
end Go.Proofs.YtcohhbpegbhcgaaGreat
