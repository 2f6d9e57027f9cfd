/- FnTraces: for every input the law returns true, and the arguments read as before; no condition. -/
import Derived.Test.YtkjdnpefjebmlaaGreatDoorRows
import Derived.Test.YtkjdnpefjebmlaaGreatDoorEvCFnTraces
import Derived.Test.YtkjdnpefjebmlaaGreatDoorEvK8
import Derived.Test.YtkjdnpefjebmlaaGreatDoorEvL3
import Derived.Test.YtkjdnpefjebmlaaGreatDoorCards
import Derived.Test.YtkjdnpefjebmlaaGreatDoorTie
import Derived.SevenTiedAt
import Derived.Test.YtkjdnpefjebmlaaGreatDoorEvL7
set_option linter.unusedVariables false
set_option linter.unusedSimpArgs false
set_option linter.unusedSectionVars false
namespace Go.Proofs.YtkjdnpefjebmlaaGreatDoor
open Go.ChangeShapes Go.WideShapes Go.ChangeAt Go.RowKit Go.Proofs.Ev
theorem own:ownKnob Tryz.prog.godebug=none:=by kernel_rfl
theorem laidOut:laidOutB Tryz.prog=true:=by kernel_rfl
noncomputable abbrev V1:TypeId:=(Tryz.f4.resultTypes)[0]!
theorem readable:(Tryz.f4.params.toList.all λt=>Tryz.prog.readableRec t&&decide (t<Tryz.prog.types.size))=true:=by kernel_rfl
set_option maxRecDepth 100000 in
theorem law_pure (xs:List Arg) (h:Bc Tryz.prog tt Tryz.f4.params.toList xs):mI Tryz.prog 4 xs (.b true,[]):=by
 have e:Tryz.f4.params.toList=[Tryz.f4.params.toList[0]!]:=by kernel_rfl
 rw[e]at h;obtain⟨a0,rfl,h0⟩:=JJ h;obtain⟨x0,rfl,hx0⟩:=Q6 (t:=(.int .u8)) (by kernel_rfl) (by kernel_rfl) h0;obtain⟨k,hk⟩:=Gb x0 (Q5 hx0);refine MC (y51 k) ?_;show(pI k x0).bind _=_;rw[hk];rfl
theorem powNamed:Tryz.prog.globalNamed "internal/strconv.uint64pow10"=some 0:=by kernel_rfl
noncomputable abbrev Wq:TypeId:=((Tryz.prog.globals[0]?).map (·.type)).getD 0
noncomputable abbrev W2:TypeId:=match Tryz.prog.underlying Wq with|some (.array _ e)=>e|_=>0
theorem laid_glo (W:World) (h:laidMetH Tryz.prog Rows.fnTracesRow.laid W):GlobW W (λ_=>False):=by
 have h:laidMet Tryz.prog Rows.fnTracesRow.laid W:=h;have h:=h.tail.tail;exact OX powNamed (Lib.tabIs_of_head (g:=0) (t:=Wq) (e:=W2) (n:=20) (zs:=Lib.pow10Tab) powNamed (by kernel_rfl) (by kernel_rfl) (by kernel_rfl) (by kernel_rfl) (by kernel_rfl) h)
theorem laid_met (os:Os) (args:Array Value):laidMetH Tryz.prog Rows.fnTracesRow.laid ((S8 Tryz.prog os Rows.fnTracesRow.laid).forCall (λ_ _=>0) ⟨#[],args,[]⟩).memory:=by
 have h:laidMet Tryz.prog Rows.fnTracesRow.laid ((S8 Tryz.prog os Rows.fnTracesRow.laid).forCall (λ_ _=>0) ⟨#[],args,[]⟩).memory:=laidMet_of_run' 8 (by kernel_rfl) (by kernel_rfl)
 exact h
set_option maxRecDepth 100000 in
theorem law_is (os:Os) (started:os.Started) (H:Type) (enc:TypeId× Value->H):
    ReturnsInHanded {} Tryz.checked os 4 .any (λw args=>(Rows.fnTracesSpec.pre enc Tryz.prog Tryz.f4 Rows.fnTracesRow.domain false w args/\laidMetH Tryz.prog Rows.fnTracesRow.laid w)/\sizedMet enc Tryz.prog Tryz.f4 (OpenSpec.ofChange Rows.fnTracesSpec) false w args)
      (Rows.fnTracesSpec.post enc Tryz.prog Tryz.f4 false true false false):=
  Bd (C:=Tryz.checked) (tt:=tt) (X:=λw _=>laidMetH Tryz.prog Rows.fnTracesRow.laid w) (λ_ _ _ hh h=>h.of_heap hh) (λW _ h=>laid_glo W h) own started (by kernel_rfl) Tryz.func4
    (ChangeSpec.witness_at (enc:=enc) (C:=Tryz.checked) (os:=os) (X:=λw _=>laidMetH Tryz.prog Rows.fnTracesRow.laid w) false (S8 Tryz.prog os Rows.fnTracesRow.laid) #[.slice none 0 0] 8 (by kernel_rfl) (by kernel_rfl) (by kernel_rfl) (by kernel_rfl) (by kernel_rfl) (by kernel_rfl) (laid_met os _))
    laidOut (λt ht=>by have:=Q7 readable t ht;rw[Bool.and_eq_true]at this;exact⟨this.1,of_decide_eq_true this.2⟩) (by kernel_rfl) rfl
    (λds hds=>by
      have e:Tryz.f4.params.toList.length=1:=by kernel_rfl
      rw[e]at hds
      match ds,hds with
      |[d0],_=>rfl) (bt:=V1) (by kernel_rfl) (by kernel_rfl) law_pure
theorem holds:Rows.FnTracesSaid:=
 OpenClaim.holds_of_wide 4 Tryz.f4 rfl rfl rfl rfl rfl rfl rfl ⟨rfl,rfl,rfl,rfl,rfl⟩ rfl rfl rfl rfl rfl (by kernel_rfl) Tryz.func4 (by kernel_rfl)
  (of_decide_eq_true (by kernel_rfl)) (by unfold Func.isWrapper;first|(rw[if_pos (by decide+kernel)];kernel_rfl)|(rw[if_neg (by decide+kernel)];exact⟨rfl,rfl⟩))
  (λos started H enc _=>law_is os started H enc)
theorem noStand:(Tryz.f4.params.toList.all λt=>!Tryz.prog.wantsStandIn t)=true:=by kernel_rfl
theorem card_holds:Rows.FnTracesCardSaid:=
  Claim7.holds_tied_plain_at .later [] [.data,.data,.data] true (true, "6398ec6cc1ea80a84995f950e885290e583c95f40244563c7a37d68783bbc706") false
    holds (λ_ h=>by cases h) (by kernel_rfl) (λ_ h=>by cases h) fnTraces_row_tie rfl ⟨rfl,rfl⟩ (by kernel_rfl) rfl
    (λf fn hf hfn=>by
      obtain rfl:f=4:=Option.some.inj ((show Tryz.prog.funcNamed Rows.fnTracesRow.func=some 4 by kernel_rfl).symm.trans hf)|>.symm;obtain rfl:fn=Tryz.f4:=(Option.some.inj (Tryz.func4.symm.trans hfn)).symm
      exact⟨by kernel_rfl,λj t ht=>by
        have:=List.all_eq_true.1 noStand t (List.mem_of_getElem? (by rw[Array.getElem?_toList];exact ht))
        have h2:Tryz.prog.wantsStandIn t=false:=by simpa using this
        exact h2⟩)
    (by kernel_rfl)
end Go.Proofs.YtkjdnpefjebmlaaGreatDoor
