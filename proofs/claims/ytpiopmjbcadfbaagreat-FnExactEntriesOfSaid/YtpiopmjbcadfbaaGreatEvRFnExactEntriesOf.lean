/- FnExactEntriesOf: for every input the law returns true, and the arguments read as before; no condition. -/
import Derived.Test.YtpiopmjbcadfbaaGreatRows
import Derived.Test.YtpiopmjbcadfbaaGreatEvCFnExactEntriesOf
import Derived.Test.YtpiopmjbcadfbaaGreatEvK8
import Derived.Test.YtpiopmjbcadfbaaGreatEvL7
set_option linter.unusedVariables false
set_option linter.unusedSimpArgs false
set_option linter.unusedSectionVars false
namespace Go.Proofs.YtpiopmjbcadfbaaGreat
open Go.ChangeShapes Go.WideShapes Go.ChangeAt Go.RowKit Go.Proofs.Ev
theorem own:ownKnob Tryz.prog.godebug=none:=by kernel_rfl
theorem laidOut:laidOutB Tryz.prog=true:=by kernel_rfl
noncomputable abbrev Rc:TypeId:=(Tryz.f9.resultTypes)[0]!
theorem readable:(Tryz.f9.params.toList.all λt=>Tryz.prog.readableRec t&&decide (t<Tryz.prog.types.size))=true:=by kernel_rfl
set_option maxRecDepth 100000 in
theorem law_pure (xs:List Arg) (h:xV Tryz.prog tt Tryz.f9.params.toList xs):py Tryz.prog 9 xs (.b true,[]):=by
 have e:Tryz.f9.params.toList=[Tryz.f9.params.toList[0]!,Tryz.f9.params.toList[1]!,Tryz.f9.params.toList[2]!]:=by kernel_rfl
 rw[e]at h;obtain⟨a0,a1,a2,rfl,h0,h1,h2⟩:=Cu h;obtain⟨x0,rfl,hx0⟩:=LC (by kernel_rfl) (by kernel_rfl) h0;obtain⟨x1,rfl,hx1⟩:=LC (by kernel_rfl) (by kernel_rfl) h1;obtain⟨x2,rfl,hx2⟩:=NC (t:=(.st .step)) (by kernel_rfl) (by kernel_rfl) h2;obtain⟨k,hk⟩:=qi x0 x1 x2 hx0 hx1 (NB hx2);refine Js (y86 k) ?_;show(dp k x0 x1 x2).bind _=_;rw[hk];rfl
set_option maxRecDepth 100000 in
theorem law_is (os:Os) (started:os.Started) (H:Type) (enc:TypeId× Value->H):
    ReturnsInHanded {} Tryz.checked os 9 .any (Rows.fnExactEntriesOfSpec.pre6 enc Tryz.prog Tryz.f9 Rows.fnExactEntriesOfRow.domain false) (Rows.fnExactEntriesOfSpec.post enc Tryz.prog Tryz.f9 false true false false):=
  Jr (C:=Tryz.checked) (tt:=tt) own started (by kernel_rfl) Tryz.func9
    (ChangeSpec.witness6 (enc:=enc) (C:=Tryz.checked) false ⟨#[],#[.int .i64 0,.int .i64 0,.slice none 0 0],[]⟩ 8 (by kernel_rfl) (by kernel_rfl) (by kernel_rfl) (by kernel_rfl))
    laidOut (λt ht=>by have:=ND readable t ht;rw[Bool.and_eq_true]at this;exact⟨this.1,of_decide_eq_true this.2⟩) (by kernel_rfl) rfl
    (λds hds=>by
      have e:Tryz.f9.params.toList.length=3:=by kernel_rfl
      rw[e]at hds
      match ds,hds with
      |[d0,d1,d2],_=>rfl) (bt:=Rc) (by kernel_rfl) (by kernel_rfl) law_pure
theorem holds:Rows.FnExactEntriesOfSaid:=
 OpenClaim.holds_of_wide 9 Tryz.f9 rfl rfl rfl rfl rfl rfl rfl ⟨rfl,rfl,rfl,rfl,rfl⟩ rfl rfl rfl rfl rfl (by kernel_rfl) Tryz.func9 (by kernel_rfl)
  (of_decide_eq_true (by kernel_rfl)) (by unfold Func.isWrapper;first|(rw[if_pos (by decide+kernel)];kernel_rfl)|(rw[if_neg (by decide+kernel)];exact⟨rfl,rfl⟩))
  (λos started H enc _=>law_is os started H enc)
end Go.Proofs.YtpiopmjbcadfbaaGreat
