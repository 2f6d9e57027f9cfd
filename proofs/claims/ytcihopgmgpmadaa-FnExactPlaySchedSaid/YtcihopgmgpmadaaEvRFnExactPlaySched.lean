/- FnExactPlaySched: for every input the law returns true, and the arguments read as before; no condition. -/
import Derived.Test.YtcihopgmgpmadaaRows
import Derived.Test.YtcihopgmgpmadaaEvCFnExactPlaySched
import Derived.Test.YtcihopgmgpmadaaEvK6
import Derived.Test.YtcihopgmgpmadaaEvP20
set_option linter.unusedVariables false
set_option linter.unusedSimpArgs false
namespace Go.Proofs.Ytcihopgmgpmadaa
open Go.ChangeShapes Go.WideShapes Go.ChangeAt Go.RowKit Go.Proofs.Ev
theorem own : ownKnob Try.prog.godebug = none := by kernel_rfl
theorem laidOut : laidOutB Try.prog = true := by kernel_rfl
noncomputable abbrev boolT : TypeId := (Try.f10.resultTypes)[0]!
theorem readable : (Try.f10.params.toList.all fun t => Try.prog.readableRec t && decide (t < Try.prog.types.size)) = true := by kernel_rfl
set_option maxRecDepth 100000 in
theorem law_pure (xs : List Arg) (h : ArgsAre Try.prog tt Try.f10.params.toList xs) : PureCalls Try.prog 10 xs (.b true, []) := by
  have e : Try.f10.params.toList = [Try.f10.params.toList[0]!, Try.f10.params.toList[1]!, Try.f10.params.toList[2]!] := by kernel_rfl
  rw [e] at h
  obtain ⟨a0, a1, a2, rfl, h0, h1, h2⟩ := argsAre_three h
  obtain ⟨x0, rfl, hx0⟩ := argIs_i (by kernel_rfl) (by kernel_rfl) h0
  obtain ⟨x1, rfl, hx1⟩ := argIs_i (by kernel_rfl) (by kernel_rfl) h1
  obtain ⟨x2, rfl, hx2⟩ := argIs_sl (t := (.sl (.int .i64))) (by kernel_rfl) (by kernel_rfl) h2
  obtain ⟨k, hk⟩ := L_FnExactPlaySched_eq x0 x1 x2 hx0 hx1 (wf_sl2 hx2)
  refine pure_of_ok (L_FnExactPlaySched_ok k) ?_
  show (L_FnExactPlaySched k x0 x1 x2).bind _ = _
  rw [hk]; rfl
set_option maxRecDepth 100000 in
theorem law_is (os : Os) (started : os.Started) (H : Type) (enc : TypeId × Value → H) :
    ReturnsInHanded {} Try.checked os 10 .any (Rows.fnExactPlaySchedSpec.pre6 enc Try.prog Try.f10 Rows.fnExactPlaySchedRow.domain false) (Rows.fnExactPlaySchedSpec.post enc Try.prog Try.f10 false true false false) :=
  law_lifted (C := Try.checked) (tt := tt) own started (by kernel_rfl) Try.func10
    (ChangeSpec.witness6 (enc := enc) (C := Try.checked) false ⟨#[], #[.int .i64 0, .int .i64 0, .slice none 0 0], []⟩ 8 (by kernel_rfl) (by kernel_rfl) (by kernel_rfl) (by kernel_rfl))
    laidOut (fun t ht => by have := all_list readable t ht; rw [Bool.and_eq_true] at this; exact ⟨this.1, of_decide_eq_true this.2⟩) (by kernel_rfl) rfl
    (fun ds hds => by
      have e : Try.f10.params.toList.length = 3 := by kernel_rfl
      rw [e] at hds
      match ds, hds with
      | [d0, d1, d2], _ => rfl) (bt := boolT) (by kernel_rfl) (by kernel_rfl) law_pure
theorem holds : Rows.FnExactPlaySchedSaid :=
  OpenClaim.holds_of_wide 10 Try.f10 rfl rfl rfl rfl rfl rfl rfl ⟨rfl, rfl, rfl, rfl, rfl⟩ rfl rfl rfl rfl rfl (by kernel_rfl) Try.func10 (by kernel_rfl)
    (of_decide_eq_true (by kernel_rfl)) (by unfold Func.isWrapper; first | (rw [if_pos (by decide +kernel)]; kernel_rfl) | (rw [if_neg (by decide +kernel)]; exact ⟨rfl, rfl⟩))
    (fun os started H enc _ => law_is os started H enc)
end Go.Proofs.Ytcihopgmgpmadaa
