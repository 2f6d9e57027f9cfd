/- FnExactReplaySame: for every input the law returns true, and the arguments read as before; no condition. -/
import Derived.Test.YtkjdnpefjebmlaaGreatDoorRows
import Derived.Test.YtkjdnpefjebmlaaGreatDoorEvCFnExactReplaySame
import Derived.Test.YtkjdnpefjebmlaaGreatDoorEvK8
import Derived.Test.YtkjdnpefjebmlaaGreatDoorEvL2
import Derived.Test.YtkjdnpefjebmlaaGreatDoorCards
import Derived.Test.YtkjdnpefjebmlaaGreatDoorTie
import Derived.SevenTiedAt
import Derived.Test.YtkjdnpefjebmlaaGreatDoorEvL7
set_option linter.unusedVariables false
set_option linter.unusedSimpArgs false
set_option linter.unusedSectionVars false
namespace Go.Proofs.YtkjdnpefjebmlaaGreatDoor
open Go.ChangeShapes Go.WideShapes Go.ChangeAt Go.RowKit Go.Proofs.Ev
theorem own:ownKnob Tryz.prog.godebug=none:=by kernel_rfl
theorem laidOut:laidOutB Tryz.prog=true:=by kernel_rfl
noncomputable abbrev WL:TypeId:=(Tryz.f3.resultTypes)[0]!
theorem readable:(Tryz.f3.params.toList.all λt=>Tryz.prog.readableRec t&&decide (t<Tryz.prog.types.size))=true:=by kernel_rfl
set_option maxRecDepth 100000 in
theorem law_pure (xs:List Arg) (h:Bs Tryz.prog tt Tryz.f3.params.toList xs):mQ Tryz.prog 3 xs (.b true,[]):=by
 have e:Tryz.f3.params.toList=[Tryz.f3.params.toList[0]!,Tryz.f3.params.toList[1]!,Tryz.f3.params.toList[2]!]:=by kernel_rfl
 rw[e]at h;obtain⟨a0,a1,a2,rfl,h0,h1,h2⟩:=Fv h;obtain⟨x0,rfl,hx0⟩:=PJ (by kernel_rfl) (by kernel_rfl) h0;obtain⟨x1,rfl,hx1⟩:=PJ (by kernel_rfl) (by kernel_rfl) h1;obtain⟨x2,rfl,hx2⟩:=RI (t:=(.st .step)) (by kernel_rfl) (by kernel_rfl) h2;obtain⟨k,hk⟩:=qY x0 x1 x2 hx0 hx1 (RH hx2);refine M3 (y8z k) ?_;show(eD k x0 x1 x2).bind _=_;rw[hk];rfl
theorem powNamed:Tryz.prog.globalNamed "internal/strconv.uint64pow10"=some 0:=by kernel_rfl
noncomputable abbrev W5:TypeId:=((Tryz.prog.globals[0]?).map (·.type)).getD 0
noncomputable abbrev XA:TypeId:=match Tryz.prog.underlying W5 with|some (.array _ e)=>e|_=>0
theorem laid_glo (W:World) (h:laidMetH Tryz.prog Rows.fnExactReplaySameRow.laid W):GlobW W (λ_=>False):=by
 have h:laidMet Tryz.prog Rows.fnExactReplaySameRow.laid W:=h;have h:=h.tail.tail;exact PD powNamed (Lib.tabIs_of_head (g:=0) (t:=W5) (e:=XA) (n:=20) (zs:=Lib.pow10Tab) powNamed (by kernel_rfl) (by kernel_rfl) (by kernel_rfl) (by kernel_rfl) (by kernel_rfl) h)
theorem laid_met (os:Os) (args:Array Value):laidMetH Tryz.prog Rows.fnExactReplaySameRow.laid ((TV Tryz.prog os Rows.fnExactReplaySameRow.laid).forCall (λ_ _=>0) ⟨#[],args,[]⟩).memory:=by
 have h:laidMet Tryz.prog Rows.fnExactReplaySameRow.laid ((TV Tryz.prog os Rows.fnExactReplaySameRow.laid).forCall (λ_ _=>0) ⟨#[],args,[]⟩).memory:=laidMet_of_run' 8 (by kernel_rfl) (by kernel_rfl)
 exact h
set_option maxRecDepth 100000 in
theorem law_is (os:Os) (started:os.Started) (H:Type) (enc:TypeId× Value->H):
    ReturnsInHanded {} Tryz.checked os 3 .any (λw args=>(Rows.fnExactReplaySameSpec.pre enc Tryz.prog Tryz.f3 Rows.fnExactReplaySameRow.domain false w args/\laidMetH Tryz.prog Rows.fnExactReplaySameRow.laid w)/\sizedMet enc Tryz.prog Tryz.f3 (OpenSpec.ofChange Rows.fnExactReplaySameSpec) false w args)
      (Rows.fnExactReplaySameSpec.post enc Tryz.prog Tryz.f3 false true false false):=
  Bt (C:=Tryz.checked) (tt:=tt) (X:=λw _=>laidMetH Tryz.prog Rows.fnExactReplaySameRow.laid w) (λ_ _ _ hh h=>h.of_heap hh) (λW _ h=>laid_glo W h) own started (by kernel_rfl) Tryz.func3
    (ChangeSpec.witness_at (enc:=enc) (C:=Tryz.checked) (os:=os) (X:=λw _=>laidMetH Tryz.prog Rows.fnExactReplaySameRow.laid w) false (TV Tryz.prog os Rows.fnExactReplaySameRow.laid) #[.int .i64 0,.int .i64 0,.slice none 0 0] 8 (by kernel_rfl) (by kernel_rfl) (by kernel_rfl) (by kernel_rfl) (by kernel_rfl) (by kernel_rfl) (laid_met os _))
    laidOut (λt ht=>by have:=RJ readable t ht;rw[Bool.and_eq_true]at this;exact⟨this.1,of_decide_eq_true this.2⟩) (by kernel_rfl) rfl
    (λds hds=>by
      have e:Tryz.f3.params.toList.length=3:=by kernel_rfl
      rw[e]at hds
      match ds,hds with
      |[d0,d1,d2],_=>rfl) (bt:=WL) (by kernel_rfl) (by kernel_rfl) law_pure
theorem holds:Rows.FnExactReplaySameSaid:=
 OpenClaim.holds_of_wide 3 Tryz.f3 rfl rfl rfl rfl rfl rfl rfl ⟨rfl,rfl,rfl,rfl,rfl⟩ rfl rfl rfl rfl rfl (by kernel_rfl) Tryz.func3 (by kernel_rfl)
  (of_decide_eq_true (by kernel_rfl)) (by unfold Func.isWrapper;first|(rw[if_pos (by decide+kernel)];kernel_rfl)|(rw[if_neg (by decide+kernel)];exact⟨rfl,rfl⟩))
  (λos started H enc _=>law_is os started H enc)
theorem noStand:(Tryz.f3.params.toList.all λt=>!Tryz.prog.wantsStandIn t)=true:=by kernel_rfl
theorem card_holds:Rows.FnExactReplaySameCardSaid:=
  Claim7.holds_tied_plain_at .later [] [.data,.data,.data] true (true, "6398ec6cc1ea80a84995f950e885290e583c95f40244563c7a37d68783bbc706") false
    holds (λ_ h=>by cases h) (by kernel_rfl) (λ_ h=>by cases h) fnExactReplaySame_row_tie rfl ⟨rfl,rfl⟩ (by kernel_rfl) rfl
    (λf fn hf hfn=>by
      obtain rfl:f=3:=Option.some.inj ((show Tryz.prog.funcNamed Rows.fnExactReplaySameRow.func=some 3 by kernel_rfl).symm.trans hf)|>.symm;obtain rfl:fn=Tryz.f3:=(Option.some.inj (Tryz.func3.symm.trans hfn)).symm
      exact⟨by kernel_rfl,λj t ht=>by
        have:=List.all_eq_true.1 noStand t (List.mem_of_getElem? (by rw[Array.getElem?_toList];exact ht))
        have h2:Tryz.prog.wantsStandIn t=false:=by simpa using this
        exact h2⟩)
    (by kernel_rfl)
end Go.Proofs.YtkjdnpefjebmlaaGreatDoor
