/- FnExactGroupWishes: for every input the law returns true, and the arguments read as before; no condition. -/
import Derived.Test.YtimmojehndbiiaaRows
import Derived.Test.YtimmojehndbiiaaEvCFnExactGroupWishes
import Derived.Test.YtimmojehndbiiaaEvK8
import Derived.Test.YtimmojehndbiiaaEvL2
set_option linter.unusedVariables false
set_option linter.unusedSimpArgs false
set_option linter.unusedSectionVars false
namespace Go.Proofs.Ytimmojehndbiiaa
open Go.ChangeShapes Go.WideShapes Go.ChangeAt Go.RowKit Go.Proofs.Ev
theorem own:ownKnob Try.prog.godebug=none:=by kernel_rfl
theorem laidOut:laidOutB Try.prog=true:=by kernel_rfl
noncomputable abbrev DS:TypeId:=(Try.f4.resultTypes)[0]!
theorem readable:(Try.f4.params.toList.all λt=>Try.prog.readableRec t&&decide (t<Try.prog.types.size))=true:=by kernel_rfl
set_option maxRecDepth 100000 in
theorem law_pure (xs:List Arg) (h:mW Try.prog tt Try.f4.params.toList xs):eY Try.prog 4 xs (.b true,[]):=by
 have e:Try.f4.params.toList=[Try.f4.params.toList[0]!,Try.f4.params.toList[1]!]:=by kernel_rfl
 rw[e]at h;obtain⟨a0,a1,rfl,h0,h1⟩:=tr h;obtain⟨x0,rfl,hx0⟩:=z9 (t:=(.st .wish)) (by kernel_rfl) (by kernel_rfl) h0;obtain⟨x1,rfl,hx1⟩:=BF (by kernel_rfl) (by kernel_rfl) h1;obtain⟨k,hk⟩:=gP x0 x1 (z8 hx0) hx1;refine vI (y3b k) ?_;show(ca k x0 x1).bind _=_;rw[hk];rfl
set_option maxRecDepth 100000 in
theorem law_is (os:Os) (started:os.Started) (H:Type) (enc:TypeId× Value->H):
    ReturnsInHanded {} Try.checked os 4 .any (Rows.fnExactGroupWishesSpec.pre6 enc Try.prog Try.f4 Rows.fnExactGroupWishesRow.domain false) (Rows.fnExactGroupWishesSpec.post enc Try.prog Try.f4 false true false false):=
  vH (C:=Try.checked) (tt:=tt) own started (by kernel_rfl) Try.func4
    (ChangeSpec.witness6 (enc:=enc) (C:=Try.checked) false ⟨#[],#[.slice none 0 0,.int .i64 0],[]⟩ 8 (by kernel_rfl) (by kernel_rfl) (by kernel_rfl) (by kernel_rfl))
    laidOut (λt ht=>by have:=Aa readable t ht;rw[Bool.and_eq_true]at this;exact⟨this.1,of_decide_eq_true this.2⟩) (by kernel_rfl) rfl
    (λds hds=>by
      have e:Try.f4.params.toList.length=2:=by kernel_rfl
      rw[e]at hds
      match ds,hds with
      |[d0,d1],_=>rfl) (bt:=DS) (by kernel_rfl) (by kernel_rfl) law_pure
theorem holds:Rows.FnExactGroupWishesSaid:=
 OpenClaim.holds_of_wide 4 Try.f4 rfl rfl rfl rfl rfl rfl rfl ⟨rfl,rfl,rfl,rfl,rfl⟩ rfl rfl rfl rfl rfl (by kernel_rfl) Try.func4 (by kernel_rfl)
  (of_decide_eq_true (by kernel_rfl)) (by unfold Func.isWrapper;first|(rw[if_pos (by decide+kernel)];kernel_rfl)|(rw[if_neg (by decide+kernel)];exact⟨rfl,rfl⟩))
  (λos started H enc _=>law_is os started H enc)
end Go.Proofs.Ytimmojehndbiiaa
