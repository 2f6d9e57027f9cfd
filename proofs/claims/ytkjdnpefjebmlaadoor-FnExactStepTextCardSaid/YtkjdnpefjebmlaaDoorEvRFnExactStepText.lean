/- FnExactStepText: for every input the law returns true, and the arguments read as before; no condition. -/
import Derived.Test.YtkjdnpefjebmlaaDoorRows
import Derived.Test.YtkjdnpefjebmlaaDoorEvCFnExactStepText
import Derived.Test.YtkjdnpefjebmlaaDoorEvK7
import Derived.Test.YtkjdnpefjebmlaaDoorEvHText
import Derived.Test.YtkjdnpefjebmlaaDoorCards
import Derived.Test.YtkjdnpefjebmlaaDoorTie
import Derived.SevenTiedAt
import Derived.Test.YtkjdnpefjebmlaaDoorEvP85
set_option linter.unusedVariables false
set_option linter.unusedSimpArgs false
set_option linter.unusedSectionVars false
namespace Go.Proofs.YtkjdnpefjebmlaaDoor
open Go.ChangeShapes Go.WideShapes Go.ChangeAt Go.RowKit Go.Proofs.Ev
theorem own:ownKnob Tryd.prog.godebug=none:=by kernel_rfl
theorem laidOut:laidOutB Tryd.prog=true:=by kernel_rfl
noncomputable abbrev zY:TypeId:=(Tryd.f3.resultTypes)[0]!
theorem readable:(Tryd.f3.params.toList.all λt=>Tryd.prog.readableRec t&&decide (t<Tryd.prog.types.size))=true:=by kernel_rfl
set_option maxRecDepth 100000 in
theorem law_pure (xs:List Arg) (h:ku Tryd.prog tt Tryd.f3.params.toList xs):dq Tryd.prog 3 xs (.b true,[]):=by
 have e:Tryd.f3.params.toList=[Tryd.f3.params.toList[0]!]:=by kernel_rfl
 rw[e]at h;obtain⟨a0,rfl,h0⟩:=pQ h;obtain⟨x0,rfl,hx0⟩:=vC .step (by kernel_rfl) (by kernel_rfl) h0;obtain⟨k,hk⟩:=fO x0 (xn hx0);refine rX (y1e k) ?_;show(bj k x0).bind _=_;rw[hk];rfl
theorem powNamed:Tryd.prog.globalNamed "internal/strconv.uint64pow10"=some 0:=by kernel_rfl
noncomputable abbrev Ai:TypeId:=((Tryd.prog.globals[0]?).map (·.type)).getD 0
noncomputable abbrev AO:TypeId:=match Tryd.prog.underlying Ai with|some (.array _ e)=>e|_=>0
theorem laid_glo (W:World) (h:laidMetH Tryd.prog Rows.fnExactStepTextRow.laid W):GlobW W (λ_=>False):=by
 have h:laidMet Tryd.prog Rows.fnExactStepTextRow.laid W:=h;have h:=h.tail.tail;exact ua powNamed (Lib.tabIs_of_head (g:=0) (t:=Ai) (e:=AO) (n:=20) (zs:=Lib.pow10Tab) powNamed (by kernel_rfl) (by kernel_rfl) (by kernel_rfl) (by kernel_rfl) (by kernel_rfl) h)
theorem laid_met (os:Os) (args:Array Value):laidMetH Tryd.prog Rows.fnExactStepTextRow.laid ((xj Tryd.prog os Rows.fnExactStepTextRow.laid).forCall (λ_ _=>0) ⟨#[],args,[]⟩).memory:=by
 have h:laidMet Tryd.prog Rows.fnExactStepTextRow.laid ((xj Tryd.prog os Rows.fnExactStepTextRow.laid).forCall (λ_ _=>0) ⟨#[],args,[]⟩).memory:=laidMet_of_run' 8 (by kernel_rfl) (by kernel_rfl)
 exact h
set_option maxRecDepth 100000 in
theorem law_is (os:Os) (started:os.Started) (H:Type) (enc:TypeId× Value->H):
    ReturnsInHanded {} Tryd.checked os 3 .any (λw args=>(Rows.fnExactStepTextSpec.pre enc Tryd.prog Tryd.f3 Rows.fnExactStepTextRow.domain false w args/\laidMetH Tryd.prog Rows.fnExactStepTextRow.laid w)/\sizedMet enc Tryd.prog Tryd.f3 (OpenSpec.ofChange Rows.fnExactStepTextSpec) false w args)
      (Rows.fnExactStepTextSpec.post enc Tryd.prog Tryd.f3 false true false false):=
  kv (C:=Tryd.checked) (tt:=tt) (X:=λw _=>laidMetH Tryd.prog Rows.fnExactStepTextRow.laid w) (λ_ _ _ hh h=>h.of_heap hh) (λW _ h=>laid_glo W h) own started (by kernel_rfl) Tryd.func3
    (ChangeSpec.witness_at (enc:=enc) (C:=Tryd.checked) (os:=os) (X:=λw _=>laidMetH Tryd.prog Rows.fnExactStepTextRow.laid w) false (xj Tryd.prog os Rows.fnExactStepTextRow.laid) #[.agg #[.int .i64 0,.int .i64 0,.int .i64 0,.slice none 0 0,.int .i64 0,.int .i64 0,.int .i64 0,.slice none 0 0]] 8 (by kernel_rfl) (by kernel_rfl) (by kernel_rfl) (by kernel_rfl) (by kernel_rfl) (by kernel_rfl) (laid_met os _))
    laidOut (λt ht=>by have:=vD readable t ht;rw[Bool.and_eq_true]at this;exact⟨this.1,of_decide_eq_true this.2⟩) (by kernel_rfl) rfl
    (λds hds=>by
      have e:Tryd.f3.params.toList.length=1:=by kernel_rfl
      rw[e]at hds
      match ds,hds with
      |[d0],_=>rfl) (bt:=zY) (by kernel_rfl) (by kernel_rfl) law_pure
theorem holds:Rows.FnExactStepTextSaid:=
 OpenClaim.holds_of_wide 3 Tryd.f3 rfl rfl rfl rfl rfl rfl rfl ⟨rfl,rfl,rfl,rfl,rfl⟩ rfl rfl rfl rfl rfl (by kernel_rfl) Tryd.func3 (by kernel_rfl)
  (of_decide_eq_true (by kernel_rfl)) (by unfold Func.isWrapper;first|(rw[if_pos (by decide+kernel)];kernel_rfl)|(rw[if_neg (by decide+kernel)];exact⟨rfl,rfl⟩))
  (λos started H enc _=>law_is os started H enc)
theorem noStand:(Tryd.f3.params.toList.all λt=>!Tryd.prog.wantsStandIn t)=true:=by kernel_rfl
theorem card_holds:Rows.FnExactStepTextCardSaid:=
  Claim7.holds_tied_plain_at .later [] [.data,.data,.data] true (true, "5a71dc8405d71d17d5322807b120358076795286d050cd364b741bbc32a6c5ca") false
    holds (λ_ h=>by cases h) (by kernel_rfl) (λ_ h=>by cases h) fnExactStepText_row_tie rfl ⟨rfl,rfl⟩ (by kernel_rfl) rfl
    (λf fn hf hfn=>by
      obtain rfl:f=3:=Option.some.inj ((show Tryd.prog.funcNamed Rows.fnExactStepTextRow.func=some 3 by kernel_rfl).symm.trans hf)|>.symm;obtain rfl:fn=Tryd.f3:=(Option.some.inj (Tryd.func3.symm.trans hfn)).symm
      exact⟨by kernel_rfl,λj t ht=>by
        have:=List.all_eq_true.1 noStand t (List.mem_of_getElem? (by rw[Array.getElem?_toList];exact ht))
        have h2:Tryd.prog.wantsStandIn t=false:=by simpa using this
        exact h2⟩)
    (by kernel_rfl)
end Go.Proofs.YtkjdnpefjebmlaaDoor
