/- FnBatches: for every input the law returns true, and the arguments read as before; no condition. -/
import Derived.Test.YtimmojehndbiiaaGreatRows
import Derived.Test.YtimmojehndbiiaaGreatEvCFnBatches
import Derived.Test.YtimmojehndbiiaaGreatEvK8
import Derived.Test.YtimmojehndbiiaaGreatEvL3
set_option linter.unusedVariables false
set_option linter.unusedSimpArgs false
set_option linter.unusedSectionVars false
namespace Go.Proofs.YtimmojehndbiiaaGreat
open Go.ChangeShapes Go.WideShapes Go.ChangeAt Go.RowKit Go.Proofs.Ev
theorem own:ownKnob Tryz.prog.godebug=none:=by kernel_rfl
theorem laidOut:laidOutB Tryz.prog=true:=by kernel_rfl
noncomputable abbrev Jj:TypeId:=(Tryz.f3.resultTypes)[0]!
theorem readable:(Tryz.f3.params.toList.all λt=>Tryz.prog.readableRec t&&decide (t<Tryz.prog.types.size))=true:=by kernel_rfl
set_option maxRecDepth 100000 in
theorem law_pure (xs:List Arg) (h:rn Tryz.prog tt Tryz.f3.params.toList xs):gS Tryz.prog 3 xs (.b true,[]):=by
 have e:Tryz.f3.params.toList=[Tryz.f3.params.toList[0]!]:=by kernel_rfl
 rw[e]at h;obtain⟨a0,rfl,h0⟩:=zn h;obtain⟨x0,rfl,hx0⟩:=Fw (t:=(.int .u8)) (by kernel_rfl) (by kernel_rfl) h0;obtain⟨k,hk⟩:=sA x0 (Fv hx0);refine BH (y4a k) ?_;show(gX k x0).bind _=_;rw[hk];rfl
set_option maxRecDepth 100000 in
theorem law_is (os:Os) (started:os.Started) (H:Type) (enc:TypeId× Value->H):
    ReturnsInHanded {} Tryz.checked os 3 .any (Rows.fnBatchesSpec.pre6 enc Tryz.prog Tryz.f3 Rows.fnBatchesRow.domain false) (Rows.fnBatchesSpec.post enc Tryz.prog Tryz.f3 false true false false):=
  BG (C:=Tryz.checked) (tt:=tt) own started (by kernel_rfl) Tryz.func3
    (ChangeSpec.witness6 (enc:=enc) (C:=Tryz.checked) false ⟨#[],#[.slice none 0 0],[]⟩ 8 (by kernel_rfl) (by kernel_rfl) (by kernel_rfl) (by kernel_rfl))
    laidOut (λt ht=>by have:=Fx readable t ht;rw[Bool.and_eq_true]at this;exact⟨this.1,of_decide_eq_true this.2⟩) (by kernel_rfl) rfl
    (λds hds=>by
      have e:Tryz.f3.params.toList.length=1:=by kernel_rfl
      rw[e]at hds
      match ds,hds with
      |[d0],_=>rfl) (bt:=Jj) (by kernel_rfl) (by kernel_rfl) law_pure
theorem holds:Rows.FnBatchesSaid:=
 OpenClaim.holds_of_wide 3 Tryz.f3 rfl rfl rfl rfl rfl rfl rfl ⟨rfl,rfl,rfl,rfl,rfl⟩ rfl rfl rfl rfl rfl (by kernel_rfl) Tryz.func3 (by kernel_rfl)
  (of_decide_eq_true (by kernel_rfl)) (by unfold Func.isWrapper;first|(rw[if_pos (by decide+kernel)];kernel_rfl)|(rw[if_neg (by decide+kernel)];exact⟨rfl,rfl⟩))
  (λos started H enc _=>law_is os started H enc)
end Go.Proofs.YtimmojehndbiiaaGreat
