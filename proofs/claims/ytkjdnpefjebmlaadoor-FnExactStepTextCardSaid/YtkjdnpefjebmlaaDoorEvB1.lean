/- What laws do with their arguments: sizes, copies, comparisons, marks. -/
import Derived.Test.YtkjdnpefjebmlaaDoorEvP1
import Derived.Test.YtkjdnpefjebmlaaDoorEvD1
import Derived.Test.YtkjdnpefjebmlaaDoorEvD2
import Derived.Test.YtkjdnpefjebmlaaDoorEvD3
set_option linter.unusedVariables false
set_option linter.unusedSimpArgs false
set_option linter.unusedSectionVars false
namespace Go.Proofs.Ev
def aG.tot (x:aG):Nat:=x.data.length+(0)
def jf.tot (x:jf):Nat:=x.weights.length+(x.zq.length+(0))
def Model.tot (x:Model):Nat:=zo jf.tot x.jy+(0)
def Job.tot (x:Job):Nat:=x.model.tot+(x.act.tot+(0))
def Task.tot (x:Task):Nat:=x.sk.length+(0)
def sm.tot (x:sm):Nat:=zo Task.tot x.tasks+(0)
def Request.tot (x:Request):Nat:=x.job.tot+(0)
def Runtime.tot (x:Runtime):Nat:=x.sched.tot+(zo Model.tot x.vH+(x.vI.length+(zo Request.tot x.p5+(0))))
def Step.tot (x:Step):Nat:=x.data.length+(x.input.tot+(0))
def Event.tot (x:Event):Nat:=x.out.tot+(0)
def Entry.tot (x:Entry):Nat:=x.model.tot+(x.input.tot+(0))
theorem rY {k:Nat} {xs:List Int} {n:Int} (hx:xs.length<=mM) (h1:0<=n) (h2:n<=1048576):Sz (hY k xs n) n xs.length:=pR k xs n ⟨h1,h2⟩ hx
theorem rZ {k:Nat} {xs:List Int} (hk:xs.length<k) (hN:xs.length<=bO):hZ k xs=some xs:=pS hk hN
theorem r9 {k:Nat} {xs ys:List Int} (hk:xs.length<k) (hN:xs.length<=bO):jx k xs ys=some (decide (xs=ys)):=pT hk (by unfold mM;rw[bU]at hN;omega)
theorem pU {k:Nat} {xs:List Int} {n:Int} (hx:xs.length<=mM) (h1:0<=n) (h2:n<=1048576):Sz (fl k xs n) n xs.length:=n1 k xs n ⟨h1,h2⟩ hx
theorem pV {k:Nat} {xs:List Int} (hk:xs.length<k) (hN:xs.length<=bO):fm k xs=some xs:=n4 hk hN
theorem pW {k:Nat} {xs ys:List Int} (hk:xs.length<k) (hN:xs.length<=bO):ia k xs ys=some (decide (xs=ys)):=n9 hk (by unfold mM;rw[bU]at hN;omega)
theorem pX {k:Nat} {x:Shape}:ky k x=some x:=rfl
theorem pY {k:Nat} {x y:Shape}:kA k x y=some (decide (x=y)):=by
 refine(xC (xC (xC (uf)))).trans ?_
 congr 1
 rw[decide_eq_decide];cases x;cases y;simp only[Shape.mk.injEq,and_true]
theorem oa {k:Nat} {x:aG} {n:Int} (hx:x.Ok) (hk:x.tot<k) (h1:0<=n) (h2:n<=1048576):Sz (iQ k x n) n x.tot:=by
 unfold aG.tot at hk;exact ue h1 (rY hx.2.1 h1 h2) λc0=>wg (by omega)
theorem oc {k:Nat} {x:aG} (hk:x.tot<k) (hN:x.tot<=bO):fF k x=some x:=by
 unfold aG.tot at hk hN;have e0:=pX (k:=k) (x:=x.sh);have e1:=rZ (k:=k) (xs:=x.data) (by omega) (by omega);unfold fF;simp only[e0,e1,ar]
theorem od {k:Nat} {x y:aG} (hk:x.tot<k) (hN:x.tot<=bO):iR k x y=some (decide (x=y)):=by
 unfold aG.tot at hk hN;refine(zp pY (zp (r9 (by omega) (by omega)) (uf))).trans ?_
 congr 1
 rw[decide_eq_decide];cases x;cases y;simp only[aG.mk.injEq,and_true]
theorem sa {k:Nat} {x:Step} {n:Int} (hx:x.Ok) (hk:x.tot<k) (h1:0<=n) (h2:n<=1048576):Sz (mN k x n) n x.tot:=by
 unfold Step.tot at hk;exact ue h1 (pU hx.2.2.2.1.1 h1 h2) λc0=>ue (by omega) (oa hx.2.2.2.2 (by omega) (by omega) (by omega)) λc1=>wg (by omega)
theorem sb {k:Nat} {x:Step} (hk:x.tot<k) (hN:x.tot<=bO):fH k x=some x:=by
 unfold Step.tot at hk hN;have e0:=pV (k:=k) (xs:=x.data) (by omega) (by omega);have e1:=oc (k:=k) (x:=x.input) (by omega) (by omega);unfold fH;simp only[e0,e1,ar]
theorem sd {k:Nat} {x y:Step} (hk:x.tot<k) (hN:x.tot<=bO):mO k x y=some (decide (x=y)):=by
 unfold Step.tot at hk hN;refine(xC (xC (xC (zp (pW (by omega) (by omega)) (zp (od (by omega) (by omega)) (uf)))))).trans ?_
 congr 1
 rw[decide_eq_decide];cases x;cases y;simp only[Step.mk.injEq,and_true]
end Go.Proofs.Ev
