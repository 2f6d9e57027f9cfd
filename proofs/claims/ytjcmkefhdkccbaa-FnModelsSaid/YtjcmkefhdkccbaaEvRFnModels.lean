/- FnModels: for every input the law returns true, and the arguments read as before; no condition. -/
import Derived.Test.YtjcmkefhdkccbaaRows
import Derived.Test.YtjcmkefhdkccbaaEvCFnModels
import Derived.Test.YtjcmkefhdkccbaaEvK7
import Derived.Test.YtjcmkefhdkccbaaEvL3
set_option linter.unusedVariables false
set_option linter.unusedSimpArgs false
namespace Go.Proofs.Ytjcmkefhdkccbaa
open Go.ChangeShapes Go.WideShapes Go.ChangeAt Go.RowKit Go.Proofs.Ev
theorem own:ownKnob Try.prog.godebug=none:=by kernel_rfl
theorem laidOut:laidOutB Try.prog=true:=by kernel_rfl
noncomputable abbrev FK:TypeId:=(Try.f7.resultTypes)[0]!
theorem readable:(Try.f7.params.toList.all fun t=>Try.prog.readableRec t&&decide (t<Try.prog.types.size))=true:=by kernel_rfl
set_option maxRecDepth 100000 in
theorem law_pure (xs:List Arg) (h:p5 Try.prog tt Try.f7.params.toList xs):ky Try.prog 7 xs (.b true,[]):=by
  have e:Try.f7.params.toList=[Try.f7.params.toList[0]!]:=by kernel_rfl
  rw[e]at h
  obtain⟨a0,rfl,h0⟩:=wQ h
  obtain⟨x0,rfl,hx0⟩:=CZ (t:=(.int .u8)) (by kernel_rfl) (by kernel_rfl) h0
  obtain⟨k,hk⟩:=tr x0 (CY hx0)
  refine zD (ylk k) ?_
  show(je k x0).bind _=_
  rw[hk];rfl
set_option maxRecDepth 100000 in
theorem law_is (os:Os) (started:os.Started) (H:Type) (enc:TypeId× Value→H):
    ReturnsInHanded {} Try.checked os 7 .any (Rows.fnModelsSpec.pre6 enc Try.prog Try.f7 Rows.fnModelsRow.domain false) (Rows.fnModelsSpec.post enc Try.prog Try.f7 false true false false):=
  zC (C:=Try.checked) (tt:=tt) own started (by kernel_rfl) Try.func7
    (ChangeSpec.witness6 (enc:=enc) (C:=Try.checked) false ⟨#[],#[.slice none 0 0],[]⟩ 8 (by kernel_rfl) (by kernel_rfl) (by kernel_rfl) (by kernel_rfl))
    laidOut (fun t ht=>by have:=C0 readable t ht;rw[Bool.and_eq_true]at this;exact⟨this.1,of_decide_eq_true this.2⟩) (by kernel_rfl) rfl
    (fun ds hds=>by
      have e:Try.f7.params.toList.length=1:=by kernel_rfl
      rw[e]at hds
      match ds,hds with
      |[d0],_=>rfl) (bt:=FK) (by kernel_rfl) (by kernel_rfl) law_pure
theorem holds:Rows.FnModelsSaid:=
  OpenClaim.holds_of_wide 7 Try.f7 rfl rfl rfl rfl rfl rfl rfl ⟨rfl,rfl,rfl,rfl,rfl⟩ rfl rfl rfl rfl rfl (by kernel_rfl) Try.func7 (by kernel_rfl)
    (of_decide_eq_true (by kernel_rfl)) (by unfold Func.isWrapper;first|(rw[if_pos (by decide+kernel)];kernel_rfl)|(rw[if_neg (by decide+kernel)];exact⟨rfl,rfl⟩))
    (fun os started H enc _=>law_is os started H enc)
end Go.Proofs.Ytjcmkefhdkccbaa
