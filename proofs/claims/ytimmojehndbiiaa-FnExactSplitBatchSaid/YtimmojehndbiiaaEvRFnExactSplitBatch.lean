/- FnExactSplitBatch: for every input the law returns true, and the arguments read as before; no condition. -/
import Derived.Test.YtimmojehndbiiaaRows
import Derived.Test.YtimmojehndbiiaaEvCFnExactSplitBatch
import Derived.Test.YtimmojehndbiiaaEvK8
import Derived.Test.YtimmojehndbiiaaEvL1
set_option linter.unusedVariables false
set_option linter.unusedSimpArgs false
set_option linter.unusedSectionVars false
namespace Go.Proofs.Ytimmojehndbiiaa
open Go.ChangeShapes Go.WideShapes Go.ChangeAt Go.RowKit Go.Proofs.Ev
theorem own:ownKnob Try.prog.godebug=none:=by kernel_rfl
theorem laidOut:laidOutB Try.prog=true:=by kernel_rfl
noncomputable abbrev Ci:TypeId:=(Try.f3.resultTypes)[0]!
theorem readable:(Try.f3.params.toList.all λt=>Try.prog.readableRec t&&decide (t<Try.prog.types.size))=true:=by kernel_rfl
set_option maxRecDepth 100000 in
theorem law_pure (xs:List Arg) (h:lE Try.prog tt Try.f3.params.toList xs):dG Try.prog 3 xs (.b true,[]):=by
 have e:Try.f3.params.toList=[Try.f3.params.toList[0]!]:=by kernel_rfl
 rw[e]at h;obtain⟨a0,rfl,h0⟩:=rD h;obtain⟨x0,rfl,hx0⟩:=yA .ax (by kernel_rfl) (by kernel_rfl) h0;obtain⟨k,hk⟩:=fG x0 (wK hx0);refine ug (y1w k) ?_;show(aX k x0).bind _=_;rw[hk];rfl
set_option maxRecDepth 100000 in
theorem law_is (os:Os) (started:os.Started) (H:Type) (enc:TypeId× Value->H):
    ReturnsInHanded {} Try.checked os 3 .any (Rows.fnExactSplitBatchSpec.pre6 enc Try.prog Try.f3 Rows.fnExactSplitBatchRow.domain false) (Rows.fnExactSplitBatchSpec.post enc Try.prog Try.f3 false true false false):=
  uf (C:=Try.checked) (tt:=tt) own started (by kernel_rfl) Try.func3
    (ChangeSpec.witness6 (enc:=enc) (C:=Try.checked) false ⟨#[],#[.agg #[.int .i64 0,.int .i64 0,.int .i64 0,.slice none 0 0]],[]⟩ 8 (by kernel_rfl) (by kernel_rfl) (by kernel_rfl) (by kernel_rfl))
    laidOut (λt ht=>by have:=yB readable t ht;rw[Bool.and_eq_true]at this;exact⟨this.1,of_decide_eq_true this.2⟩) (by kernel_rfl) rfl
    (λds hds=>by
      have e:Try.f3.params.toList.length=1:=by kernel_rfl
      rw[e]at hds
      match ds,hds with
      |[d0],_=>rfl) (bt:=Ci) (by kernel_rfl) (by kernel_rfl) law_pure
theorem holds:Rows.FnExactSplitBatchSaid:=
 OpenClaim.holds_of_wide 3 Try.f3 rfl rfl rfl rfl rfl rfl rfl ⟨rfl,rfl,rfl,rfl,rfl⟩ rfl rfl rfl rfl rfl (by kernel_rfl) Try.func3 (by kernel_rfl)
  (of_decide_eq_true (by kernel_rfl)) (by unfold Func.isWrapper;first|(rw[if_pos (by decide+kernel)];kernel_rfl)|(rw[if_neg (by decide+kernel)];exact⟨rfl,rfl⟩))
  (λos started H enc _=>law_is os started H enc)
end Go.Proofs.Ytimmojehndbiiaa
