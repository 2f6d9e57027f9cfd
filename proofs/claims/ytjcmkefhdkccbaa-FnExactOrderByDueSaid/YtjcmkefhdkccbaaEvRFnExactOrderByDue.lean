/- FnExactOrderByDue: for every input the law returns true, and the arguments read as before; no condition. -/
import Derived.Test.YtjcmkefhdkccbaaRows
import Derived.Test.YtjcmkefhdkccbaaEvCFnExactOrderByDue
import Derived.Test.YtjcmkefhdkccbaaEvK7
import Derived.Test.YtjcmkefhdkccbaaEvL1
set_option linter.unusedVariables false
set_option linter.unusedSimpArgs false
namespace Go.Proofs.Ytjcmkefhdkccbaa
open Go.ChangeShapes Go.WideShapes Go.ChangeAt Go.RowKit Go.Proofs.Ev
theorem own:ownKnob Try.prog.godebug=none:=by kernel_rfl
theorem laidOut:laidOutB Try.prog=true:=by kernel_rfl
noncomputable abbrev Z2:TypeId:=(Try.f3.resultTypes)[0]!
theorem readable:(Try.f3.params.toList.all fun t=>Try.prog.readableRec t&&decide (t<Try.prog.types.size))=true:=by kernel_rfl
set_option maxRecDepth 100000 in
theorem law_pure (xs:List Arg) (h:OI Try.prog tt Try.f3.params.toList xs):Lk Try.prog 3 xs (.b true,[]):=by
  have e:Try.f3.params.toList=[Try.f3.params.toList[0]!]:=by kernel_rfl
  rw[e]at h
  obtain⟨a0,rfl,h0⟩:=Tg h
  obtain⟨x0,rfl,hx0⟩:=XQ (t:=(.int .i64)) (by kernel_rfl) (by kernel_rfl) h0
  obtain⟨k,hk⟩:=KY x0 (YR hx0)
  refine U0 (y8h k) ?_
  show(HK k x0).bind _=_
  rw[hk];rfl
set_option maxRecDepth 100000 in
theorem law_is (os:Os) (started:os.Started) (H:Type) (enc:TypeId× Value→H):
    ReturnsInHanded {} Try.checked os 3 .any (Rows.fnExactOrderByDueSpec.pre6 enc Try.prog Try.f3 Rows.fnExactOrderByDueRow.domain false) (Rows.fnExactOrderByDueSpec.post enc Try.prog Try.f3 false true false false):=
  UZ (C:=Try.checked) (tt:=tt) own started (by kernel_rfl) Try.func3
    (ChangeSpec.witness6 (enc:=enc) (C:=Try.checked) false ⟨#[],#[.slice none 0 0],[]⟩ 8 (by kernel_rfl) (by kernel_rfl) (by kernel_rfl) (by kernel_rfl))
    laidOut (fun t ht=>by have:=XR readable t ht;rw[Bool.and_eq_true]at this;exact⟨this.1,of_decide_eq_true this.2⟩) (by kernel_rfl) rfl
    (fun ds hds=>by
      have e:Try.f3.params.toList.length=1:=by kernel_rfl
      rw[e]at hds
      match ds,hds with
      |[d0],_=>rfl) (bt:=Z2) (by kernel_rfl) (by kernel_rfl) law_pure
theorem holds:Rows.FnExactOrderByDueSaid:=
  OpenClaim.holds_of_wide 3 Try.f3 rfl rfl rfl rfl rfl rfl rfl ⟨rfl,rfl,rfl,rfl,rfl⟩ rfl rfl rfl rfl rfl (by kernel_rfl) Try.func3 (by kernel_rfl)
    (of_decide_eq_true (by kernel_rfl)) (by unfold Func.isWrapper;first|(rw[if_pos (by decide+kernel)];kernel_rfl)|(rw[if_neg (by decide+kernel)];exact⟨rfl,rfl⟩))
    (fun os started H enc _=>law_is os started H enc)
end Go.Proofs.Ytjcmkefhdkccbaa
