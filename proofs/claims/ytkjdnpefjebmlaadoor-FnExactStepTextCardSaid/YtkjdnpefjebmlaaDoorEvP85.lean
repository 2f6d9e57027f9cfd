/- Plain laws: numbers as text; FnExactStepText. -/
import Derived.Test.YtkjdnpefjebmlaaDoorEvB1
import Derived.Test.YtkjdnpefjebmlaaDoorEvP6
import Derived.Test.YtkjdnpefjebmlaaDoorEvD25
import Derived.Lib.ItoaLen
set_option linter.unusedVariables false
set_option linter.unusedSimpArgs false
set_option linter.unusedSectionVars false
set_option maxRecDepth 100000
set_option maxHeartbeats 4000000
namespace Go.Proofs.Ev
open IntKind(i64 u8 u64)
def yY:Nat->List UInt8
 |0=>[]
 |m+1=>Go.Lib.decDigits (m+1)
theorem oi {m:Nat} (h:m≠0):yY m=yY (m/10)++[UInt8.ofNat (48+m %10)]:=by
 obtain⟨m,rfl⟩:∃j,m=j+1:=⟨m-1,by omega⟩;show Go.Lib.decDigits (m+1)=_;rw[Go.Lib.decDigits];split
 ·rename_i hlt
  have e1:(m+1)/10=0:=by omega
  have e2:(m+1) %10=m+1:=by omega
  rw[e1,e2];rfl
 ·rename_i hge
  have:(m+1)/10≠0:=by omega
  obtain⟨j,hj⟩:∃j,(m+1)/10=j+1:=⟨(m+1)/10-1,by omega⟩;rw[hj];rfl
theorem qP:∀(d m:Nat),m<10^d->(yY m).length<=d
  | 0, m, h => by have : m = 0 := by simp at h; exact h
                  subst this;exact Nat.le_refl _
  | d + 1, m, h => by
    by_cases h0:m=0
    · subst h0;exact Nat.zero_le _
    · rw[oi h0,List.length_append];have:=qP d (m/10) (by rw[Nat.pow_succ]at h;omega);simp;omega
theorem qQ {R:Type} {k:Nat} {x0:List UInt8->Option R} {p:Bool} (neg:Bool):∀(d m:Nat) (out:List UInt8) (f:Nat),m<10^d->d<f->m<9223372036854775809->d+out.length<=100->
  iter (λu n=>dt k p u n x0) f (cond neg (-(m:Int)) (m:Int),out)=x0 (yY m++out)
 |d,m,out,0,_,h,_,_=>by omega
 |d,m,out,f+1,hm,hf,hb,ho=>by
  have hM:=bU;show dt k p _ _ x0=_;rw[dt];simp only;by_cases h0:m=0
  ·subst h0;cases neg<;>rfl
  obtain⟨d,rfl⟩:∃e,d=e+1:=by
   cases d with
   |zero=>simp at hm;omega
   |succ e=>exact⟨e,rfl⟩
  have ih:=qQ (R:=R) (k:=k) (x0:=x0) (p:=p) neg d (m/10) (UInt8.ofNat (48+m %10)::out) f (by rw[Nat.pow_succ]at hm;omega) (by omega) (by omega) (by simp;omega)
  have e0:((cond neg (-(m:Int)) (m:Int)) !=0)=true:=by cases neg<;>simp<;>omega
  have e1:(cond neg (-(m:Int)) (m:Int)).tmod 10=cond neg (-((m %10:Nat):Int)) ((m %10:Nat):Int):=by
   cases neg
   ·exact Int.ofNat_tmod m 10|>.symm
   ·show(-(m:Int)).tmod 10=_;rw[Int.neg_tmod];exact congrArg _ (Int.ofNat_tmod m 10|>.symm)
  have e2:(cond neg (-(m:Int)) (m:Int)).tdiv 10=cond neg (-((m/10:Nat):Int)) ((m/10:Nat):Int):=by
   cases neg
   ·exact Int.ofNat_tdiv m 10|>.symm
   ·show(-(m:Int)).tdiv 10=_;rw[Int.neg_tdiv];exact congrArg _ (Int.ofNat_tdiv m 10|>.symm)
  have hd:m %10<10:=Nat.mod_lt _ (by omega)
  have hs:i64.wrap (cond neg (-((m/10:Nat):Int)) ((m/10:Nat):Int))=cond neg (-((m/10:Nat):Int)) ((m/10:Nat):Int):=by
   cases neg<;>exact nV (by simp only[cond_true,cond_false];omega) (by simp only[cond_true,cond_false];omega)
  have hch:∀z:Int,z=((m %10:Nat):Int)->bytesOf [u8.wrap (i64.wrap (48+z))]=[UInt8.ofNat (48+m %10)]:=λz hz=>by
   subst hz
   have:∀j:Fin 10,bytesOf [u8.wrap (i64.wrap (48+(j.val:Int)))]=[UInt8.ofNat (48+j.val)]:=by decide+kernel
   exact this ⟨m %10,hd⟩
  rw[e0,e1,e2,hs,cond_true,oi h0,List.append_assoc];by_cases c:(cond neg (-((m %10:Nat):Int)) ((m %10:Nat):Int))<0
  ·rw[aj,if_pos c]
   have hn:neg=true:=by cases neg with
    |true=>rfl
    |false=>simp only[cond_false]at c;omega
   subst hn;simp only[cond_true]at ih⊢;have hz:i64.wrap (0- -((m %10:Nat):Int))=((m %10:Nat):Int):=(nV (by omega) (by omega)).trans (by omega);simp only[hch _ hz];rw[aj,if_pos (by simp;omega)];exact ih
  ·rw[aj,if_neg c]
   have hz:(cond neg (-((m %10:Nat):Int)) ((m %10:Nat):Int))=((m %10:Nat):Int):=by
    cases neg with
    |false=>rfl
    |true=>simp only[cond_true]at c⊢;omega
   simp only[hch _ hz];rw[aj,if_pos (by simp;omega)];exact ih
theorem qR {m:Nat} (h:m≠0):yY m=Go.Lib.decDigits m:=by
 cases m with
 |zero=>exact absurd rfl h
 |succ m=>rfl
theorem bE {k:Nat} {n:Int} (hk:22<k) (hn:okI n):cj k n=some (Go.Lib.itoa n):=by
 have hM:=bU;obtain⟨h1,h2⟩:=hn;unfold cj;by_cases h0:n=0
 ·subst h0;rw[show Go.Lib.itoa 0=[48]from Go.Lib.decDigits_one (i:=0) (by omega)];rfl
 rw[show(n==0)=false by simpa using h0,cond_false]
 have e:n=cond (decide (n<0)) (-(n.natAbs:Int)) (n.natAbs:Int):=by
  by_cases c:n<0
  ·rw[decide_eq_true c,cond_true];omega
  ·rw[decide_eq_false c,cond_false];omega
 have hl:=qQ (R:=List UInt8) (k:=k) (p:=decide (n<0)) (x0:=λy1=>cond (decide (n<0)) (cond (decide (([45]:List UInt8).length+y1.length<=bO)) (some (([45]:List UInt8)++y1)) none) (some y1)) (decide (n<0)) 20 n.natAbs [] k (by omega) (by omega) (by omega) (by simp);rw[<-e]at hl;rw[hl,List.append_nil,qR (by omega)];have hle:=qP 20 n.natAbs (by omega);rw[qR (by omega)]at hle;unfold Go.Lib.itoa;by_cases c:n<0
 ·rw[decide_eq_true c,cond_true,aj,if_pos (by simp;omega),if_pos c];rfl
 ·rw[decide_eq_false c,cond_false,if_neg c]
  congr 2;omega
theorem cl {k:Nat} {n:Int} (hn:okI n):strconv_Itoa k n=some (Go.Lib.itoa n):=by
 unfold strconv_Itoa;rw[decide_eq_true hn.1,decide_eq_true hn.2];rfl
theorem aN {n:Int} (hn:okI n):(Go.Lib.itoa n).length<=21:=Go.Lib.itoa_length_le n hn.1 hn.2
theorem gy:∀l:List Int,(∀x∈l,okI x)->(spacedL l).length<=22*l.length
 |[],_=>Nat.le_refl _
 |x::l,h=>by
  have:=aN (h x (by simp));have:=gy l λy hy=>h y (by simp[hy]);simp only[spacedL,List.length_cons,List.length_append];omega
theorem gz {k:Nat} {l:List Int} (hl:l.length<=2000000) (h:∀x∈l,okI x):I_spaced k l=some (spacedL l):=by
 unfold I_spaced
 have:(l.all λx=>decide (-9223372036854775808<=x)&&decide (x<=9223372036854775807))=true:=by
  rw[List.all_eq_true];intro x hx;rw[decide_eq_true (h x hx).1,decide_eq_true (h x hx).2];rfl
 rw[decide_eq_true hl,this];rfl
theorem qS {R:Type} {k:Nat} (hk:22<k) {x0:List UInt8->Option R} {p1 p2 p3:Int} {l:List Int} (h:∀x∈l,okI x) (hl:l.length<=2000000):∀(j:Nat) (out:List UInt8) (f:Nat),j<=l.length->l.length-j<f->out.length+22*(l.length-j)<=50000000->
  iter (λu n=>bD k (p1,p2,p3,l) u n x0) f (out,(j:Int))=x0 (out++spacedL (l.drop j))
 |j,out,0,_,h2,_=>by omega
 |j,out,f+1,h1,h2,h3=>by
  have hM:=bU;show bD k _ _ _ x0=_;rw[bD];simp only;by_cases c:j<l.length
  ·have hx:l[j]? =some l[j]:=List.getElem?_eq_getElem c;have ho:=h l[j] (List.getElem_mem c);have hlen:=aN ho;have ih:=qS hk (x0:=x0) (p1:=p1) (p2:=p2) (p3:=p3) h hl (j+1) ((out++[32])++Go.Lib.itoa l[j]) f (by omega) (by omega) (by simp;omega);rw[aj,if_pos (by omega),aj,if_pos (by simp;omega),show idx l (j:Int)=some l[j]from by simp[idx,hx],ar,bE hk ho,ar,aj,if_pos (by simp;omega),nV (by omega) (by omega)];refine ih.trans ?_;rw[List.drop_eq_getElem_cons c];simp[spacedL]
  ·have e:j=l.length:=by omega
   subst e;rw[aj,if_neg (by omega),List.drop_length,spacedL,List.append_nil]
def gA (t:aG):List UInt8:=cond t.okB (Go.Lib.itoa t.sh.h++(120::(Go.Lib.itoa t.sh.w++(120::(Go.Lib.itoa t.sh.c++(58::spacedL t.data)))))) []
theorem kD {t:aG} (h:t.Ok):(gA t).length<=66+22*t.data.length:=by
 unfold gA;have h1:=aN h.1.1;have h2:=aN h.1.2.1;have h3:=aN h.1.2.2;have h4:=gy t.data h.2.2;cases t.okB
 ·exact Nat.zero_le _
 ·simp only[cond_true,List.length_append,List.length_cons];omega
theorem kE {k:Nat} {t:aG} (hk:t.data.length+23<k) (h:t.Ok) (hl:t.data.length<=2000000):cO k t=some (gA t):=by
 have hM:=bU;have h1:=aN h.1.1;have h2:=aN h.1.2.1;have h3:=aN h.1.2.2;unfold cO gA;rw[ib (by omega) h.2.1,ar];cases t.okB
 ·rfl
 simp only[Bool.not_true,cond_false,cond_true];rw[bE (by omega) h.1.1,ar,aj,if_pos (by simp;omega),bE (by omega) h.1.2.1,ar,aj,if_pos (by simp;omega),aj,if_pos (by simp;omega),bE (by omega) h.1.2.2,ar,aj,if_pos (by simp;omega),aj,if_pos (by simp;omega)];refine(qS (by omega) h.2.2 hl 0 _ k (by omega) (by omega) (by simp;omega)).trans ?_;simp
theorem jk {k:Nat} {s:Shape} (h:s.Ok):cX k s=some (Go.Lib.itoa s.h++(120::(Go.Lib.itoa s.w++(120::Go.Lib.itoa s.c)))):=by
 have hM:=bU;have h1:=aN h.1;have h2:=aN h.2.1;have h3:=aN h.2.2;unfold cX;rw[cl h.1,ar,aj,if_pos (by simp;omega),cl h.2.1,ar,aj,if_pos (by simp;omega),aj,if_pos (by simp;omega),cl h.2.2,ar,aj,if_pos (by simp;omega)];simp
theorem kF {k:Nat} {t:aG} (hk:t.data.length+23<k) (h:t.Ok) (hl:t.data.length<=2000000):cQ k t=some (gA t):=by
 have hM:=bU;have h1:=aN h.1.1;have h2:=aN h.1.2.1;have h3:=aN h.1.2.2;have h4:=gy t.data h.2.2;unfold cQ gA;rw[ic (by omega) h.2.1,ar];cases t.okB
 ·rfl
 simp only[Bool.not_true,cond_false,cond_true];rw[jk h.1,ar,aj,if_pos (by simp;omega),gz hl h.2.2,ar,aj,if_pos (by simp;omega)];simp
def stepT (x:Step):List UInt8:=Go.Lib.itoa x.kind++(32::(Go.Lib.itoa x.a++(32::Go.Lib.itoa x.b)))++
 (cond (decide ((x.data.length:Int)>0)) ([32,100,97,116,97,32]++Go.Lib.itoa x.data.length) []++cond x.input.okB ([32,105,110,112,117,116,32]++gA x.input) [])
theorem mQ {k:Nat} {x:Step} (hk:x.tot+23<k) (h:x.Ok) (hl:x.tot<=2000000):fI k x=some (stepT x):=by
 have hM:=bU;have hl:x.data.length+(x.input.data.length+0+0)<=2000000:=hl;have hk:x.data.length+(x.input.data.length+0+0)+23<k:=hk;obtain⟨o1,o2,o3,o4,o5⟩:=h;have h1:=aN o1;have h2:=aN o2;have h3:=aN o3;have o6:okI (x.data.length:Int):=⟨by omega,by omega⟩;have h6:=aN o6;have h5:=kD o5;unfold fI stepT
 simp only[ib (k:=k) (t:=x.input) (by omega) o5.2.1,kE (k:=k) (t:=x.input) (by omega) o5 (by omega),bE (k:=k) (n:=x.kind) (by omega) o1,bE (k:=k) (n:=x.a) (by omega) o2,
  bE (k:=k) (n:=x.b) (by omega) o3,bE (k:=k) (n:=(x.data.length:Int)) (by omega) o6,ar]
 rw[aj,if_pos (by simp;omega),aj,if_pos (by simp;omega),aj,if_pos (by simp;omega),aj,if_pos (by simp;omega)];cases decide ((x.data.length:Int)>0)<;>cases x.input.okB<;>simp only[cond_true,cond_false]
 ·simp
 ·rw[aj,if_pos (by simp;omega),aj,if_pos (by simp;omega)];simp
 ·rw[aj,if_pos (by simp;omega),aj,if_pos (by simp;omega)];simp
 ·rw[aj,if_pos (by simp;omega),aj,if_pos (by simp;omega),aj,if_pos (by simp;omega),aj,if_pos (by simp;omega)];simp
theorem mR {k:Nat} {x:Step} (hk:x.tot+23<k) (h:x.Ok) (hl:x.tot<=2000000):fJ k x=some (stepT x):=by
 have hM:=bU;have hl:x.data.length+(x.input.data.length+0+0)<=2000000:=hl;have hk:x.data.length+(x.input.data.length+0+0)+23<k:=hk;obtain⟨o1,o2,o3,o4,o5⟩:=h;have h1:=aN o1;have h2:=aN o2;have h3:=aN o3;have o6:okI (x.data.length:Int):=⟨by omega,by omega⟩;have h6:=aN o6;have h5:=kD o5;unfold fJ stepT
 simp only[ic (k:=k) (t:=x.input) (by omega) o5.2.1,kF (k:=k) (t:=x.input) (by omega) o5 (by omega),cl (k:=k) o1,
  gz (k:=k) (l:=[x.a,x.b]) (by simp) (by simp[o2,o3]),gz (k:=k) (l:=[(x.data.length:Int)]) (by simp) (by simp[o6]),ar]
 rw[aj,if_pos (by simp[spacedL];omega)];cases decide ((x.data.length:Int)>0)<;>cases x.input.okB<;>simp only[cond_true,cond_false]
 ·simp[spacedL]
 ·rw[aj,if_pos (by simp;omega),aj,if_pos (by simp[spacedL];omega)];simp[spacedL]
 ·rw[aj,if_pos (by simp[spacedL];omega),aj,if_pos (by simp[spacedL];omega)];simp[spacedL]
 ·rw[aj,if_pos (by simp[spacedL];omega),aj,if_pos (by simp[spacedL];omega),aj,if_pos (by simp;omega),aj,if_pos (by simp[spacedL];omega)];simp[spacedL]
theorem fO (x:Step) (hx:x.Ok):∃k,bj k x=some true:=by
 refine⟨x.tot+25,?_⟩;have hM:=bU;unfold bj;rw[sa (n:=1048576) hx (by omega) (by omega) (by omega),ar,aj];by_cases c:(1048576:Int)<(x.tot:Int)
 ·simp only[if_pos c];rfl
 simp only[if_neg c];rw[if_neg (by omega)]
 have hk:x.tot<x.tot+25:=by omega
 simp only[sb (k:=x.tot+25) (x:=x) hk (by omega),ar,mQ (k:=x.tot+25) (x:=x) (by omega) hx (by omega),mR (k:=x.tot+25) (x:=x) (by omega) hx (by omega),sd (k:=x.tot+25) (x:=x) (y:=x) hk (by omega)];simp
end Go.Proofs.Ev
