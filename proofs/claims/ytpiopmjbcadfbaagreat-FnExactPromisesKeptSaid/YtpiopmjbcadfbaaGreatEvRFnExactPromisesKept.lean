/- FnExactPromisesKept: for every input the law returns true, and the arguments read as before; no condition. -/
import Derived.Test.YtpiopmjbcadfbaaGreatRows
import Derived.Test.YtpiopmjbcadfbaaGreatEvCFnExactPromisesKept
import Derived.Test.YtpiopmjbcadfbaaGreatEvK8
import Derived.Test.YtpiopmjbcadfbaaGreatEvL6
set_option linter.unusedVariables false
set_option linter.unusedSimpArgs false
set_option linter.unusedSectionVars false
namespace Go.Proofs.YtpiopmjbcadfbaaGreat
open Go.ChangeShapes Go.WideShapes Go.ChangeAt Go.RowKit Go.Proofs.Ev
theorem own:ownKnob Tryz.prog.godebug=none:=by kernel_rfl
theorem laidOut:laidOutB Tryz.prog=true:=by kernel_rfl
noncomputable abbrev QL:TypeId:=(Tryz.f6.resultTypes)[0]!
theorem readable:(Tryz.f6.params.toList.all λt=>Tryz.prog.readableRec t&&decide (t<Tryz.prog.types.size))=true:=by kernel_rfl
set_option maxRecDepth 100000 in
theorem law_pure (xs:List Arg) (h:xE Tryz.prog tt Tryz.f6.params.toList xs):pk Tryz.prog 6 xs (.b true,[]):=by
 have e:Tryz.f6.params.toList=[Tryz.f6.params.toList[0]!,Tryz.f6.params.toList[1]!,Tryz.f6.params.toList[2]!]:=by kernel_rfl
 rw[e]at h;obtain⟨a0,a1,a2,rfl,h0,h1,h2⟩:=Cg h;obtain⟨x0,rfl,hx0⟩:=Lc (by kernel_rfl) (by kernel_rfl) h0;obtain⟨x1,rfl,hx1⟩:=Lc (by kernel_rfl) (by kernel_rfl) h1;obtain⟨x2,rfl,hx2⟩:=Na (t:=(.st .step)) (by kernel_rfl) (by kernel_rfl) h2;obtain⟨k,hk⟩:=nG x0 x1 x2 hx0 hx1 (M9 hx2);refine I4 (yej k) ?_;show(cR k x0 x1 x2).bind _=_;rw[hk];rfl
set_option maxRecDepth 100000 in
theorem law_is (os:Os) (started:os.Started) (H:Type) (enc:TypeId× Value->H):
    ReturnsInHanded {} Tryz.checked os 6 .any (Rows.fnExactPromisesKeptSpec.pre6 enc Tryz.prog Tryz.f6 Rows.fnExactPromisesKeptRow.domain false) (Rows.fnExactPromisesKeptSpec.post enc Tryz.prog Tryz.f6 false true false false):=
  I3 (C:=Tryz.checked) (tt:=tt) own started (by kernel_rfl) Tryz.func6
    (ChangeSpec.witness6 (enc:=enc) (C:=Tryz.checked) false ⟨#[],#[.int .i64 0,.int .i64 0,.slice none 0 0],[]⟩ 8 (by kernel_rfl) (by kernel_rfl) (by kernel_rfl) (by kernel_rfl))
    laidOut (λt ht=>by have:=Nb readable t ht;rw[Bool.and_eq_true]at this;exact⟨this.1,of_decide_eq_true this.2⟩) (by kernel_rfl) rfl
    (λds hds=>by
      have e:Tryz.f6.params.toList.length=3:=by kernel_rfl
      rw[e]at hds
      match ds,hds with
      |[d0,d1,d2],_=>rfl) (bt:=QL) (by kernel_rfl) (by kernel_rfl) law_pure
theorem holds:Rows.FnExactPromisesKeptSaid:=
 OpenClaim.holds_of_wide 6 Tryz.f6 rfl rfl rfl rfl rfl rfl rfl ⟨rfl,rfl,rfl,rfl,rfl⟩ rfl rfl rfl rfl rfl (by kernel_rfl) Tryz.func6 (by kernel_rfl)
  (of_decide_eq_true (by kernel_rfl)) (by unfold Func.isWrapper;first|(rw[if_pos (by decide+kernel)];kernel_rfl)|(rw[if_neg (by decide+kernel)];exact⟨rfl,rfl⟩))
  (λos started H enc _=>law_is os started H enc)
end Go.Proofs.YtpiopmjbcadfbaaGreat
