/- FnExactRunFor: for every input the law returns true, and the arguments read as before; no condition. -/
import Derived.Test.YtcohhbpegbhcgaaGreatRows
import Derived.Test.YtcohhbpegbhcgaaGreatEvCFnExactRunFor
import Derived.Test.YtcohhbpegbhcgaaGreatEvK6
import Derived.Test.YtcohhbpegbhcgaaGreatEvP26
set_option linter.unusedVariables false
set_option linter.unusedSimpArgs false
namespace Go.Proofs.YtcohhbpegbhcgaaGreat
open Go.ChangeShapes Go.WideShapes Go.ChangeAt Go.RowKit Go.Proofs.Ev
theorem own : ownKnob Tryz.prog.godebug = none := by kernel_rfl
theorem laidOut : laidOutB Tryz.prog = true := by kernel_rfl
noncomputable abbrev boolT : TypeId := (Tryz.f5.resultTypes)[0]!
theorem readable : (Tryz.f5.params.toList.all fun t => Tryz.prog.readableRec t && decide (t < Tryz.prog.types.size)) = true := by kernel_rfl
set_option maxRecDepth 100000 in
theorem law_pure (xs : List Arg) (h : ArgsAre Tryz.prog tt Tryz.f5.params.toList xs) : PureCalls Tryz.prog 5 xs (.b true, []) := by
  have e : Tryz.f5.params.toList = [Tryz.f5.params.toList[0]!, Tryz.f5.params.toList[1]!] := by kernel_rfl
  rw [e] at h
  obtain ⟨a0, a1, rfl, h0, h1⟩ := argsAre_two h
  obtain ⟨x0, rfl, hx0⟩ := argIs_job (by kernel_rfl) (by kernel_rfl) h0
  obtain ⟨x1, rfl, hx1⟩ := argIs_i (by kernel_rfl) (by kernel_rfl) h1
  obtain ⟨k, hk⟩ := L_FnExactRunFor_eq x0 x1 hx0 hx1
  refine pure_of_ok (y1kx k) ?_
  show (L_FnExactRunFor k x0 x1).bind _ = _
  rw [hk]; rfl
set_option maxRecDepth 100000 in
theorem law_is (os : Os) (started : os.Started) (H : Type) (enc : TypeId × Value → H) :
    ReturnsInHanded {} Tryz.checked os 5 .any (Rows.fnExactRunForSpec.pre6 enc Tryz.prog Tryz.f5 Rows.fnExactRunForRow.domain false) (Rows.fnExactRunForSpec.post enc Tryz.prog Tryz.f5 false true false false) :=
  law_lifted (C := Tryz.checked) (tt := tt) own started (by kernel_rfl) Tryz.func5
    (ChangeSpec.witness6 (enc := enc) (C := Tryz.checked) false ⟨#[], #[.agg #[.int .i64 0, .int .i64 0, .int .i64 0, .slice none 0 0, .int .i64 0, .int .i64 0, .int .i64 0, .int .i64 0, .slice none 0 0, .int .i64 0], .int .i64 0], []⟩ 8 (by kernel_rfl) (by kernel_rfl) (by kernel_rfl) (by kernel_rfl))
    laidOut (fun t ht => by have := all_list readable t ht; rw [Bool.and_eq_true] at this; exact ⟨this.1, of_decide_eq_true this.2⟩) (by kernel_rfl) rfl
    (fun ds hds => by
      have e : Tryz.f5.params.toList.length = 2 := by kernel_rfl
      rw [e] at hds
      match ds, hds with
      | [d0, d1], _ => rfl) (bt := boolT) (by kernel_rfl) (by kernel_rfl) law_pure
theorem holds : Rows.FnExactRunForSaid :=
  OpenClaim.holds_of_wide 5 Tryz.f5 rfl rfl rfl rfl rfl rfl rfl ⟨rfl, rfl, rfl, rfl, rfl⟩ rfl rfl rfl rfl rfl (by kernel_rfl) Tryz.func5 (by kernel_rfl)
    (of_decide_eq_true (by kernel_rfl)) (by unfold Func.isWrapper; first | (rw [if_pos (by decide +kernel)]; kernel_rfl) | (rw [if_neg (by decide +kernel)]; exact ⟨rfl, rfl⟩))
    (fun os started H enc _ => law_is os started H enc)
end Go.Proofs.YtcohhbpegbhcgaaGreat
