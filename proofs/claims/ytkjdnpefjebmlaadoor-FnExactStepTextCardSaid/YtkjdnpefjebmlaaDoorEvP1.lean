/- Plain laws: numbers, bytes, tensors, steps: copied, compared, counted. -/
import Derived.Test.YtkjdnpefjebmlaaDoorEvD1
import Derived.Test.YtkjdnpefjebmlaaDoorEvK7
set_option linter.unusedVariables false
set_option linter.unusedSimpArgs false
set_option linter.unusedSectionVars false
namespace Go.Proofs.Ev
open IntKind(i64 u8 u64)
theorem pR (k:Nat) (xs:List Int) (n:Int) (hn:0<=n/\n<=1048576) (hx:xs.length<=mM):hY k xs n=some (if n<xs.length then -1 else n-xs.length):=by
 unfold mM at hx;unfold hY;rw[nV (by omega) (by omega),aj];by_cases h:n<xs.length
 ·rw[if_pos (by omega),if_pos h]
 ·rw[if_neg (by omega),if_neg h]
theorem n1 (k:Nat) (xs:List Int) (n:Int) (hn:0<=n/\n<=1048576) (hx:xs.length<=mM):fl k xs n=some (if n<xs.length then -1 else n-xs.length):=by
 unfold mM at hx;unfold fl;rw[nV (by omega) (by omega),aj];by_cases h:n<xs.length
 ·rw[if_pos (by omega),if_pos h]
 ·rw[if_neg (by omega),if_neg h]
theorem pS {k:Nat} {xs:List Int} (hk:xs.length<k) (hx:xs.length<=bO):hZ k xs=some xs:=by
 rw[bU]at hx;unfold hZ;rw[aj,if_pos (by rw[bU];omega)]
 exact nW xs 0 (fin:=some) (λi ys hi next hl=>by
  simp only[eE,aj];rw[if_pos (by omega),iP,fE hi,Option.bind_some,if_pos (by omega),hC hi (by omega)]
  simp) (λys next=>by simp only[eE,aj];rw[if_neg (by omega)]) hk
theorem n4 {k:Nat} {xs:List Int} (hk:xs.length<k) (hx:xs.length<=bO):fm k xs=some xs:=by
 rw[bU]at hx;unfold fm;rw[aj,if_pos (by rw[bU];omega)]
 exact nW xs 0 (fin:=some) (λi ys hi next hl=>by
  simp only[dI,aj];rw[if_pos (by omega),iP,fE hi,Option.bind_some,if_pos (by omega),hC hi (by omega)]
  simp) (λys next=>by simp only[dI,aj];rw[if_neg (by omega)]) hk
theorem xr (a b:Nat):((a:Int) !=(b:Int))=decide (a≠b):=by
 rw[xk];congr 1;rw[eq_iff_iff];omega
theorem n6 {R:Type} {xs ys:List Int} {i:Nat} (hi:i<xs.length) (hi':i<ys.length) (hx:xs.length<=mM) (next:Int->Option R) (no yes:Option R):
  (cond (decide ((i:Int)<(xs.length:Int))) ((idx xs i).bind λe1=>(idx ys i).bind λe2=>cond (e1 !=e2) no (next (i64.wrap ((i:Int)+(1:Int))))) yes)=if xs[i]=ys[i]then next ((i+1:Nat):Int)else no:=by
 unfold mM at hx;rw[aj,if_pos (by omega),iP,iP,fE hi,fE hi',Option.bind_some,Option.bind_some,hC hi (by omega)];rw[mL]
theorem ug {R:Type} {xs:List Int} (a:Option R) (yes:Option R):(cond (decide ((xs.length:Int)<(xs.length:Int))) a yes)=yes:=by
 rw[aj,if_neg (by omega)]
theorem uh {xs ys:List Int} {r:Option Bool} (h:xs.length=ys.length->r=if xs=ys then some true else some false):(cond ((xs.length:Int) !=(ys.length:Int)) (some false) r)=some (decide (xs=ys)):=by
 rw[xr,aj];by_cases c:xs.length=ys.length
 ·rw[if_neg (by simp[c]),h c];split<;>simp[*]
 ·rw[if_pos c,decide_eq_false (λe=>c (by rw[e]))]
theorem pT {k:Nat} {xs ys:List Int} (hk:xs.length<k) (hx:xs.length<=mM):jx k xs ys=some (decide (xs=ys)):=
 uh λc=>nX xs ys c (λi hi hi' next=>n6 hi hi' hx next _ _) (λnext=>ug _ _) hk
theorem n9 {k:Nat} {xs ys:List Int} (hk:xs.length<k) (hx:xs.length<=mM):ia k xs ys=some (decide (xs=ys)):=
 uh λc=>nX xs ys c (λi hi hi' next=>n6 hi hi' hx next _ _) (λnext=>ug _ _) hk
end Go.Proofs.Ev
