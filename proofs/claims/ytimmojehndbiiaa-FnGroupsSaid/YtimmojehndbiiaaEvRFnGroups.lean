/- FnGroups: for every input the law returns true, and the arguments read as before; no condition. -/
import Derived.Test.YtimmojehndbiiaaRows
import Derived.Test.YtimmojehndbiiaaEvCFnGroups
import Derived.Test.YtimmojehndbiiaaEvK7
import Derived.Test.YtimmojehndbiiaaEvL2
set_option linter.unusedVariables false
set_option linter.unusedSimpArgs false
set_option linter.unusedSectionVars false
namespace Go.Proofs.Ytimmojehndbiiaa
open Go.ChangeShapes Go.WideShapes Go.ChangeAt Go.RowKit Go.Proofs.Ev
theorem own:ownKnob Try.prog.godebug=none:=by kernel_rfl
theorem laidOut:laidOutB Try.prog=true:=by kernel_rfl
noncomputable abbrev EK:TypeId:=(Try.f5.resultTypes)[0]!
theorem readable:(Try.f5.params.toList.all λt=>Try.prog.readableRec t&&decide (t<Try.prog.types.size))=true:=by kernel_rfl
set_option maxRecDepth 100000 in
theorem law_pure (xs:List Arg) (h:nE Try.prog tt Try.f5.params.toList xs):fN Try.prog 5 xs (.b true,[]):=by
 have e:Try.f5.params.toList=[Try.f5.params.toList[0]!]:=by kernel_rfl
 rw[e]at h;obtain⟨a0,rfl,h0⟩:=uh h;obtain⟨x0,rfl,hx0⟩:=AZ (t:=(.int .u8)) (by kernel_rfl) (by kernel_rfl) h0;obtain⟨k,hk⟩:=qA x0 (AY hx0);refine wE (y67 k) ?_;show(gU k x0).bind _=_;rw[hk];rfl
set_option maxRecDepth 100000 in
theorem law_is (os:Os) (started:os.Started) (H:Type) (enc:TypeId× Value->H):
    ReturnsInHanded {} Try.checked os 5 .any (Rows.fnGroupsSpec.pre6 enc Try.prog Try.f5 Rows.fnGroupsRow.domain false) (Rows.fnGroupsSpec.post enc Try.prog Try.f5 false true false false):=
  wD (C:=Try.checked) (tt:=tt) own started (by kernel_rfl) Try.func5
    (ChangeSpec.witness6 (enc:=enc) (C:=Try.checked) false ⟨#[],#[.slice none 0 0],[]⟩ 8 (by kernel_rfl) (by kernel_rfl) (by kernel_rfl) (by kernel_rfl))
    laidOut (λt ht=>by have:=A1 readable t ht;rw[Bool.and_eq_true]at this;exact⟨this.1,of_decide_eq_true this.2⟩) (by kernel_rfl) rfl
    (λds hds=>by
      have e:Try.f5.params.toList.length=1:=by kernel_rfl
      rw[e]at hds
      match ds,hds with
      |[d0],_=>rfl) (bt:=EK) (by kernel_rfl) (by kernel_rfl) law_pure
theorem holds:Rows.FnGroupsSaid:=
 OpenClaim.holds_of_wide 5 Try.f5 rfl rfl rfl rfl rfl rfl rfl ⟨rfl,rfl,rfl,rfl,rfl⟩ rfl rfl rfl rfl rfl (by kernel_rfl) Try.func5 (by kernel_rfl)
  (of_decide_eq_true (by kernel_rfl)) (by unfold Func.isWrapper;first|(rw[if_pos (by decide+kernel)];kernel_rfl)|(rw[if_neg (by decide+kernel)];exact⟨rfl,rfl⟩))
  (λos started H enc _=>law_is os started H enc)
end Go.Proofs.Ytimmojehndbiiaa
