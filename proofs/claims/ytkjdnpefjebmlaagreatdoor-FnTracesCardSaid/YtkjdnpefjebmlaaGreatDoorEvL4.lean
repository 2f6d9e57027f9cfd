/- Typed functions and what holds of them: part 4. -/
import Derived.Test.YtkjdnpefjebmlaaGreatDoorEvL3
set_option linter.unusedVariables false
set_option linter.unusedSimpArgs false
set_option linter.unusedSectionVars false
namespace Go.Proofs.Ev
open IntKind(i64 u8 u64)
set_option maxRecDepth 100000
set_option maxHeartbeats 4000000
section
def za (b:List Int):Nat->Int->Bool->List Int->List Int× Int× Bool
 |0,a,bad,ys=>(ys,a,bad)
 |n+1,a,bad,ys=>cond bad (ys,a,bad) (za b n (aV b a bad).2.1 (aV b a bad).2.2 (ys++[(aV b a bad).1]))
def tF (b:List Int) (a:Int) (bad:Bool):List Int× Int× Bool:=za b (aX b a bad 2000).1.toNat (aX b a bad 2000).2.1 (aX b a bad 2000).2.2 []
section
variable {k:Nat} {b:List Int} (hk:7<=k) (hb:∀x∈b,okB x) (hl:b.length<=aO)
include hk hb hl
theorem DS {a:Int} {bad:Bool}:la k b a bad=some (aX b a bad 2000):=by
 unfold la aX;simp only[ou hk hb hl,bR,aa,decide_true,cond_true,dO];cases inB (aV b a bad).1 0 2000<;>rfl
theorem BD {R:Type} {fin:List Int× Int× Bool->Option R} {m:Int}:∀(n:Nat) (i a:Int) (bad:Bool) (ys:List Int) (kf:Nat),n<kf->m=i+n->0<=i->m<=100000->ys.length+n<=100000->
  iter (λu4 n4=>eX k (m,b) u4 n4 fin) kf (i,a,bad,ys)=fin (za b n a bad ys)
 |_,_,_,_,_,0,h,_,_,_,_=>by omega
 |0,i,a,bad,ys,kf+1,_,hm,_,_,_=>by
  rw[aS];show eX k (m,b) _ _ fin=_;unfold eX;simp only
  rw[decide_eq_false (by omega)];rfl
 |n+1,i,a,bad,ys,kf+1,hkf,hm,hi,hm2,hy=>by
  have hM:=ak;rw[aS];show eX k (m,b) _ _ fin=_;unfold eX za;simp only;rw[decide_eq_true (by omega),cond_true];cases bad
  ·simp only[XA,cond_true,cond_false];rw[ou hk hb hl,aa,bO (by simp;omega),aF (by omega) (by omega)];exact BD n (i+1) _ _ _ kf (by omega) (by omega) (by omega) hm2 (by simp;omega)
  ·rfl
theorem BF {R:Type} {fin:List Int× Int× Bool->Option R}:∀(n:Nat) (a:Int) (bad:Bool) (ys:List Int) (kf:Nat),n<kf->ys.length+n<=100000->
  iter (λu4 n4=>aK k b u4 n4 fin) kf ((n:Int),a,bad,ys)=fin (za b n a bad ys)
 |_,_,_,_,0,h,_=>by omega
 |0,a,bad,ys,kf+1,_,_=>by
  rw[aS];show aK k b _ _ fin=_;unfold aK;simp only
  rw[decide_eq_false (by omega)];rfl
 |n+1,a,bad,ys,kf+1,hkf,hy=>by
  have hM:=ak;rw[aS];show aK k b _ _ fin=_;unfold aK za;simp only;rw[decide_eq_true (by omega),cond_true];cases bad
  ·simp only[XA,cond_true,cond_false];rw[bW hk hb hl,aa,bO (by simp;omega),aF (by omega) (by omega),show((n+1:Nat):Int)-1=(n:Int)from by omega];exact BF n _ _ _ kf (by omega) (by simp;omega)
  ·rfl
omit hk hb hl in
theorem tG (b:List Int) (a:Int) (bad:Bool):0<=(aX b a bad 2000).1/\(aX b a bad 2000).1<=2000:=by
 unfold aX;cases h:inB (aV b a bad).1 0 2000
 ·simp only[cond_false];omega
 ·exact of_decide_eq_true h
theorem Pb (h3:2001<k) {a:Int} {bad:Bool}:ng k b a bad=some (tF b a bad):=by
 have hc:=tG b a bad;unfold ng;rw[DS hk hb hl,aa];exact(BD hk hb hl (m:=(aX b a bad 2000).1) (fin:=λy3=>cond (decide (b=b)) (some (y3.1,y3.2.1,y3.2.2)) none) (aX b a bad 2000).1.toNat 0 _ _ [] k (by omega) (by omega) (by omega) (by omega) (by simp;omega)).trans (by rw[decide_eq_true rfl];rfl)
theorem MH (h3:2001<k) {a:Int} {bad:Bool}:bc k ⟨b,a,bad⟩ 2000=some (tF b a bad):=by
 have hc:=tG b a bad;unfold bc;rw[eL hk hb hl,aa];have:=BF hk hb hl (fin:=λy3=>cond (decide (b=b)) (some (y3.1,y3.2.1,y3.2.2)) none) (aX b a bad 2000).1.toNat (aX b a bad 2000).2.1 (aX b a bad 2000).2.2 [] k (by omega) (by simp;omega);rw[show(((aX b a bad 2000).1.toNat:Nat):Int)=(aX b a bad 2000).1 from by omega]at this;exact this.trans (by rw[decide_eq_true rfl];rfl)
omit hk hb hl in
theorem DT (b:List Int):∀(n:Nat) (a:Int) (bad:Bool) (ys:List Int),(za b n a bad ys).1.length<=ys.length+n
 |0,_,_,_=>Xt _
 |n+1,a,bad,ys=>by
  unfold za;cases bad
  ·have:=DT b n (aV b a false).2.1 (aV b a false).2.2 (ys++[(aV b a false).1]);simp only[cond_false];simp only[W5,W7,Xg]at this;omega
  ·simp only[cond_true];omega
omit hk hb hl in
theorem zb (b:List Int) (a:Int) (bad:Bool):(tF b a bad).1.length<=2000:=by
 have hc:=tG b a bad;have:=DT b (aX b a bad 2000).1.toNat (aX b a bad 2000).2.1 (aX b a bad 2000).2.2 [];unfold tF;simp only[Xg]at this;omega
end
def cZ (b:List Int) (a:Int) (bad:Bool):aq× Int× Bool:=
 let r1:=aV b a bad;let r2:=aV b r1.2.1 r1.2.2;let r3:=aV b r2.2.1 r2.2.2;let r4:=aV b r3.2.1 r3.2.2;let r5:=aV b r4.2.1 r4.2.2;let r6:=aV b r5.2.1 r5.2.2;let r7:=aV b r6.2.1 r6.2.2
 let r8:=tF b r7.2.1 r7.2.2;let r9:=tF b r8.2.1 r8.2.2
 (⟨r1.1,r2.1,r3.1,r4.1,r5.1,r6.1,r7.1,r8.1,r9.1⟩,r9.2.1,r9.2.2)
def sw (b:List Int):Nat->Int->Bool->List aq->Int× Bool× List aq
 |0,a,bad,ys=>(a,bad,ys)
 |n+1,a,bad,ys=>cond bad (a,bad,ys) (sw b n (cZ b a bad).2.1 (cZ b a bad).2.2 (ys++[(cZ b a bad).1]))
def ey (b:List Int):Model× Int:=
 cond (decide ((b.length:Int)>6000)) (eI,5) (cond (!decide (b.take 3=[80,77,49])) (eI,1)
  (let r2:=aV b 3 false;let r3:=aV b r2.2.1 r2.2.2;let r4:=aV b r3.2.1 r3.2.2;let r5:=aX b r4.2.1 r4.2.2 2000;let y:=sw b r5.1.toNat r5.2.1 r5.2.2 [];let r6:=aV b y.1 y.2.1
  cond r6.2.2 (eI,2) (cond (r6.1 !=kq ((b.take y.1.toNat).drop 0)) (eI,3) (cond (r6.2.1 !=(b.length:Int)) (eI,3)
   (cond (!eu ⟨⟨r2.1,r3.1,r4.1⟩,y.2.2⟩) (eI,4) (⟨⟨r2.1,r3.1,r4.1⟩,y.2.2⟩,0))))))
theorem FC (b:List Int) (a:Int) (bad:Bool):(cZ b a bad).1.tot<=2000+(2000+0):=Nat.add_le_add (zb b _ _) (Nat.add_le_add (zb b _ _) (Xt 0))
theorem tH (b:List Int):∀(n:Nat) (a:Int) (bad:Bool) (ys:List aq),gp aq.tot (sw b n a bad ys).2.2<=gp aq.tot ys+4001*n
 |0,_,_,_=>Xt _
 |n+1,a,bad,ys=>by
  unfold sw;cases bad
  ·have:=tH b n (cZ b a false).2.1 (cZ b a false).2.2 (ys++[(cZ b a false).1]);have hL:=FC b a false;rw[qq]at this
   have h1:gp aq.tot [(cZ b a false).1]=(cZ b a false).1.tot+1:=by simp[gp];omega
   simp only[cond_false];omega
  ·simp only[cond_true];omega
section
variable {k:Nat} {b:List Int} (hk:9000000<=k) (hb:∀x∈b,okB x) (hl:b.length<=aO)
include hk hb hl
theorem MI {a:Int} {bad:Bool}:gD k ⟨b,a,bad⟩=some (cZ b a bad):=by
 unfold gD cZ;simp only[bW (show 7<=k by omega) hb hl,MH (show 7<=k by omega) hb hl (show 2001<k by omega),aa,decide_true,cond_true]
theorem wx {R:Type} {fin:Int× Bool× List aq->Option R} {m q1 q2 q3 q4 q5 q6 q7 q8 q9:Int}:∀(n:Nat) (i a:Int) (bad:Bool) (ys:List aq) (kf:Nat),n<kf->m=i+n->0<=i->m<=100000->ys.length+n<=100000->
  iter (λu19 n19=>cK k (b,m,q1,q2,q3,q4,q5,q6,b,q7,q8,q9) u19 n19 fin) kf (i,a,bad,ys)=fin (sw b n a bad ys)
 |_,_,_,_,_,0,h,_,_,_,_=>by omega
 |0,i,a,bad,ys,kf+1,_,hm,_,_,_=>by
  rw[aS];show cK k _ _ _ fin=_;unfold cK;simp only
  rw[decide_eq_false (by omega)];rfl
 |n+1,i,a,bad,ys,kf+1,hkf,hm,hi,hm2,hy=>by
  have hM:=ak;rw[aS];cases bad
  ·have st:∀next,cK k (b,m,q1,q2,q3,q4,q5,q6,b,q7,q8,q9) (i,a,false,ys) next fin=next (i+1,(cZ b a false).2.1,(cZ b a false).2.2,ys++[(cZ b a false).1]):=λnext=>by
    unfold cK;simp only;rw[decide_eq_true (by omega),cond_true];simp only[XA,cond_true,ou (show 7<=k by omega) hb hl,Pb (show 7<=k by omega) hb hl (show 2001<k by omega),aa];rw[bO (by omega),aF (by omega) (by omega)];rfl
   exact(st _).trans (wx n (i+1) (cZ b a false).2.1 (cZ b a false).2.2 (ys++[(cZ b a false).1]) kf (by omega) (by omega) (by omega) hm2 (by rw[W5];simp only[W7,Xg];omega))
  ·show cK k _ _ _ fin=_;unfold cK;simp only;rw[decide_eq_true (by omega),cond_true];rfl
theorem wy {R:Type} {fin:Int× Bool× List aq->Option R} {q1 q2 q3 q7 q8 q9:Int}:∀(n:Nat) (a:Int) (bad:Bool) (ys:List aq) (kf:Nat),n<kf->ys.length+n<=100000->
  iter (λu9 n9=>eK k (b,q1,q2,q3,b,q7,q8,q9) u9 n9 fin) kf ((n:Int),a,bad,ys)=fin (sw b n a bad ys)
 |_,_,_,_,0,h,_=>by omega
 |0,a,bad,ys,kf+1,_,_=>by
  rw[aS];show eK k _ _ _ fin=_;unfold eK;simp only
  rw[decide_eq_false (by omega)];rfl
 |n+1,a,bad,ys,kf+1,hkf,hy=>by
  have hM:=ak;rw[aS];show eK k _ _ _ fin=_;unfold eK sw;simp only;rw[decide_eq_true (by omega),cond_true];cases bad
  ·simp only[XA,cond_true,cond_false];rw[MI hk hb hl,aa,bO (by omega),aF (by omega) (by omega),show((n+1:Nat):Int)-1=(n:Int)from by omega];exact wy (fin:=fin) (q1:=q1) (q2:=q2) (q3:=q3) (q7:=q7) (q8:=q8) (q9:=q9) n (cZ b a false).2.1 (cZ b a false).2.2 (ys++[(cZ b a false).1]) kf (by omega) (by rw[W5];simp only[W7,Xg];omega)
  ·rfl
end
theorem BG {b:List Int} {a:Int} {bad:Bool} (h:(aV b a bad).2.2=false):0<=a/\a<=b.length:=by
 cases bad
 ·rw[cM]at h
  cases hn:rp b a with
  |none=>rw[hn]at h;exact nomatch h
  |some q=>have:=hJ (x:=q.1) (p:=q.2) hn;omega
 ·exact nomatch h
theorem UC {b:List Int}:(decide ((b.length:Int)>=3)=false/\decide (b.take 3=[80,77,49])=false)\/∃x y z l,b=x::y::z::l:=by
 match b with
 |[]=>exact .inl ⟨rfl,rfl⟩
 |[x]=>exact .inl ⟨rfl,by simp⟩
 |[x,y]=>exact .inl ⟨rfl,by simp⟩
 |x::y::z::l=>exact .inr ⟨x,y,z,l,rfl⟩
theorem HB (k:Nat) (b:List Int):wc k b=some (decide (b.take 3=[80,77,49])):=by
 unfold wc
 rcases UC (b:=b)with⟨h1,h2⟩|⟨x,y,z,l,rfl⟩
 ·rw[h1,h2];rfl
 ·rw[decide_eq_true (by simp;omega),cond_true];have e0:idx (x::y::z::l) 0=some x:=rfl;have e1:idx (x::y::z::l) 1=some y:=rfl;have e2:idx (x::y::z::l) 2=some z:=rfl;rw[e0,e1,e2];simp only[aa,List.take_succ_cons,Zb,X6,and_true,Bool.decide_and,JN];cases decide (x=80)<;>cases decide (y=77)<;>rfl
theorem FD {k:Nat} {b:List Int} (hb:∀x∈b,okB x) (hl:b.length<=aO):et k b [80,77,49]=some (decide (b.take 3=[80,77,49])):=by
 have hM:=ak;unfold et;rw[ab];by_cases h:(b.length:Int)>=(([80,77,49]:List Int).length:Int)
 ·have h':3<=b.length:=by simp at h;omega
  rw[if_pos h,decide_eq_true (show 0<=((([80,77,49]:List Int).length:Nat):Int)/\((([80,77,49]:List Int).length:Nat):Int)<=(b.length:Int) by simp;omega),cond_true,Y2];rw[show((([80,77,49]:List Int).length:Nat):Int).toNat=3 from rfl];rw[oS (λx hx=>hb x (X8 hx)) (λx hx=>by simp at hx;rcases hx with rfl|rfl|rfl<;>exact⟨by omega,by omega⟩),aa]
 ·rw[if_neg h]
  rcases UC (b:=b)with⟨_,h2⟩|⟨x,y,z,l,rfl⟩
  ·rw[h2]
  ·simp at h;omega
section
variable {k:Nat} {b:List Int} (hk:9000000<=k) (hb:∀x∈b,okB x) (hl:b.length<=aO)
include hk hb hl
theorem zB:lW k b=some (ey b):=by
 have hM:=ak;unfold lW ey;by_cases c:(b.length:Int)>6000
 ·rw[decide_eq_true c];rfl
 rw[decide_eq_false c,cond_false,cond_false,HB,aa];cases decide (b.take 3=[80,77,49])
 ·rfl
 simp only[Xa,cond_false,ou (show 7<=k by omega) hb hl,DS (show 7<=k by omega) hb hl,aa];generalize aV b 3 false=r2;generalize aV b r2.2.1 r2.2.2=r3;generalize aV b r3.2.1 r3.2.2=r4;have hc:=tG b r4.2.1 r4.2.2;generalize aX b r4.2.1 r4.2.2 2000=r5 at hc;refine(wx hk hb hl r5.1.toNat 0 _ _ [] k (by omega) (by omega) (by omega) (by omega) (by simp;omega)).trans ?_;have ht:=tH b r5.1.toNat r5.2.1 r5.2.2 [];rw[show gp aq.tot []=0 from rfl]at ht;generalize sw b r5.1.toNat r5.2.1 r5.2.2 []=y at ht;cases h6:(aV b y.1 y.2.1).2.2
 ·simp only[cond_false];obtain⟨g1,g2⟩:=BG h6;rw[decide_eq_true ⟨g1,g2⟩,cond_true,xK (by simp;omega) (by simp;omega),aa];cases((aV b y.1 y.2.1).1 !=kq (List.drop 0 (b.take y.1.toNat)))
  ·simp only[cond_false];cases((aV b y.1 y.2.1).2.1 !=(b.length:Int))
   ·simp only[cond_false];rw[sr (by show gp aq.tot y.2.2+0<k;omega) (by show gp aq.tot y.2.2+0<=aO;omega),aa];generalize eu _=q;cases q<;>rfl
   ·rfl
  ·rfl
 ·rfl
theorem zC:qM k b=some (ey b):=by
 have hM:=ak;unfold qM ey;by_cases c:(b.length:Int)>6000
 ·rw[decide_eq_true c];rfl
 rw[decide_eq_false c,cond_false,cond_false,FD hb hl,aa];cases decide (b.take 3=[80,77,49])
 ·rfl
 simp only[Xa,cond_false,iZ (show 7<=k by omega) hb hl,eL (show 7<=k by omega) hb hl,aa];generalize aV b 3 false=r2;generalize aV b r2.2.1 r2.2.2=r3;generalize aV b r3.2.1 r3.2.2=r4;have hc:=tG b r4.2.1 r4.2.2;generalize aX b r4.2.1 r4.2.2 2000=r5 at hc;have:=wy hk hb hl (q1:=0) (q2:=0) (q3:=0) (q7:=r2.1) (q8:=r3.1) (q9:=r4.1) (fin:=λy5=>(av k (⟨b,y5.1,y5.2.1⟩:Reader)).bind λr6=>cond (r6.2.2) (some ((⟨(⟨(0:Int),(0:Int),(0:Int)⟩:Shape),([]:List aq)⟩:Model),(2:Int))) (cond (decide (0<=y5.1/\y5.1<=(b.length:Int))) ((lI k ((b.take y5.1.toNat).drop 0)).bind λr7=>cond (r6.1 !=r7) (some ((⟨(⟨(0:Int),(0:Int),(0:Int)⟩:Shape),([]:List aq)⟩:Model),(3:Int))) (cond (r6.2.1 !=(b.length:Int)) (some ((⟨(⟨(0:Int),(0:Int),(0:Int)⟩:Shape),([]:List aq)⟩:Model),(3:Int))) ((py k (⟨⟨r2.1,r3.1,r4.1⟩,y5.2.2⟩:Model)).bind λr8=>cond (!r8) (some ((⟨(⟨(0:Int),(0:Int),(0:Int)⟩:Shape),([]:List aq)⟩:Model),(4:Int))) (some ((⟨⟨r2.1,r3.1,r4.1⟩,y5.2.2⟩:Model),(0:Int)))))) none)) r5.1.toNat r5.2.1 r5.2.2 [] k (by omega) (by simp;omega);rw[show((r5.1.toNat:Nat):Int)=r5.1 from by omega]at this;refine Eq.trans this ?_;have ht:=tH b r5.1.toNat r5.2.1 r5.2.2 [];rw[show gp aq.tot []=0 from rfl]at ht;generalize sw b r5.1.toNat r5.2.1 r5.2.2 []=y at ht;rw[bW (show 7<=k by omega) hb hl,aa];cases h6:(aV b y.1 y.2.1).2.2
 ·simp only[cond_false];obtain⟨g1,g2⟩:=BG h6;rw[decide_eq_true ⟨g1,g2⟩,cond_true,xL (by simp;omega) (by simp;omega),aa];cases((aV b y.1 y.2.1).1 !=kq (List.drop 0 (b.take y.1.toNat)))
  ·simp only[cond_false];cases((aV b y.1 y.2.1).2.1 !=(b.length:Int))
   ·simp only[cond_false];rw[su (by show gp aq.tot y.2.2+0<k;omega) (by show gp aq.tot y.2.2+0<aO;omega),aa];generalize eu _=q;cases q<;>rfl
   ·rfl
  ·rfl
 ·rfl
end
end
section
def sat (a b x:Int):Int:=if x<a then a else if x>b then b else x
theorem HC {a b:Int} (h:a<=b) (x:Int):a<=sat a b x/\sat a b x<=b:=by
 unfold sat;by_cases h1:x<a
 ·rw[if_pos h1];omega
 ·rw[if_neg h1];by_cases h2:x>b
  ·rw[if_pos h2];omega
  ·rw[if_neg h2];omega
theorem RX {a b x:Int} (h1:a<=x) (h2:x<=b):sat a b x=x:=by
 unfold sat;rw[if_neg (by omega),if_neg (by omega)]
theorem sx {k:Nat} {x a b:Int} (h:a<=b):pG k x a b=some (sat a b x):=by
 unfold pG sat;rw[ab,ab,ab];by_cases h1:x<a
 ·rw[if_pos h1,if_pos h1]
 ·rw[if_neg h1,if_neg h1,if_neg (by omega)];by_cases h2:x>b
  ·rw[if_pos h2,if_pos h2]
  ·rw[if_neg h2,if_neg h2]
theorem FE {k:Nat} {x a b:Int} (h:a<=b):O3 k x a b=some (sat a b x):=by
 unfold O3 sat
 congr 1
 repeat' split
 all_goals omega
def BH (x:Int):Int:=sat (-128) 127 x
def iR (x:Int):Int:=sat (-2147483648) 2147483647 x
theorem BI (x:Int):-128<=BH x/\BH x<=127:=HC (by omega) x
theorem ma (x:Int):-2147483648<=iR x/\iR x<=2147483647:=HC (by omega) x
theorem HD (k:Nat) (x:Int):Bi k x=some (BH x):=by unfold Bi BH;rw[sx (by omega),aa]
theorem xM (k:Nat) (x:Int):oO k x=some (iR x):=by unfold oO iR;rw[sx (by omega),aa]
theorem HE (k:Nat) (x:Int):DK k x=some (BH x):=by unfold DK BH;rw[FE (by omega),aa]
theorem xN (k:Nat) (x:Int):qG k x=some (iR x):=by unfold qG iR;rw[FE (by omega),aa]
def ri (a b:Int):Int:=iR (iR a+iR b)
theorem qQ (k:Nat) (a b:Int):nY k a b=some (ri a b):=by
 have h1:=ma a;have h2:=ma b;unfold nY ri;simp only[xM,aa];rw[aF (by omega) (by omega)]
theorem BJ (k:Nat) (a b:Int):zW k a b=some (ri a b):=by
 have h1:=ma a;have h2:=ma b;unfold zW ri;simp only[xN,aa];rw[aF (by omega) (by omega)]
theorem Tj {x y A B:Int} (hx:-A<=x/\x<=A) (hy:-B<=y/\y<=B):-(A*B)<=x*y/\x*y<=A*B:=by
 have h1:=X7 (show 0<=A-x by omega) (show 0<=B+y by omega);have h2:=X7 (show 0<=A+x by omega) (show 0<=B-y by omega);have h3:=X7 (show 0<=A-x by omega) (show 0<=B-y by omega);have h4:=X7 (show 0<=A+x by omega) (show 0<=B+y by omega);simp only[Int.sub_mul,Int.add_mul,Int.mul_add,Int.mul_sub]at h1 h2 h3 h4;omega
def qR (a b:Int):Int:=iR ((iR a*iR b+1073741824)/2147483648)
theorem HF {k:Nat} {a:Int} (h1:-4611686018427387904<=a/\a<=9223372036854775807):vX k a 2147483648=some (a/2147483648):=by
 have e:=Int.mul_tdiv_add_tmod a 2147483648;have h2:=YG a (show(0:Int)<2147483648 by omega);unfold vX;rw[ab,if_neg (by omega),ab,if_neg (by omega),ab];by_cases c:0<=a
 ·have h3:=Zh 2147483648 c;rw[if_neg (by omega),aF (by omega) (by omega)]
  congr 1;omega
 ·have h3:=Zh 2147483648 (show 0<=-a by omega);have h4:=YG (-a) (show(0:Int)<2147483648 by omega);rw[Int.neg_tmod]at h3 h4;by_cases c2:a.tmod 2147483648<0
  ·rw[if_pos c2,aF (n:=a.tdiv 2147483648) (by omega) (by omega),aF (by omega) (by omega)]
   congr 1;omega
  ·rw[if_neg c2,aF (by omega) (by omega)]
   congr 1;omega
theorem RY (a b:Int):-4611686018427387904<=iR a*iR b/\iR a*iR b<=4611686018427387904:=
 Tj (A:=2147483648) (B:=2147483648) (by have:=ma a;omega) (by have:=ma b;omega)
theorem HG (k:Nat) (a b:Int):vY k a b=some (qR a b):=by
 have h:=RY a b;unfold vY qR;simp only[xM,aa];rw[aF (n:=iR a*iR b) (by omega) (by omega),aF (by omega) (by omega),HF (by omega),aa]
theorem HH (k:Nat) (a b:Int):Bl k a b=some (qR a b):=by
 have h:=RY a b;unfold Bl qR;simp only[xN,aa];rw[aF (n:=iR a*iR b) (by omega) (by omega),aF (by omega) (by omega)]
 have e:((2:Int)^(min (31:Int).toNat i64.bits))=2147483648:=by decide
 rw[e,Int.fdiv_eq_ediv_of_nonneg _ (by omega)]
def ig (x by_:Int):Int:=if x<0 then -((2*-x+by_)/(2*by_))else(2*x+by_)/(2*by_)
theorem DU {a b:Int} (ha:0<=a) (hb:1<=b):0<=a/b/\a/b<=a:=
 ⟨Int.ediv_nonneg ha (by omega),Int.ediv_le_self _ ha⟩
theorem zc {k:Nat} {x d:Int} (hx:-2147483648<=x/\x<=2147483648) (hd:1<=d/\d<=2147483648):sg k x d=some (ig x d):=by
 unfold sg v8 ig;rw[aF (n:=2*d) (by omega) (by omega),ab];by_cases c:x<0
 ·rw[if_pos c,if_pos c,aF (n:=0-x) (by omega) (by omega),ab,if_neg (by omega),ab,if_neg (by omega),aa,aF (n:=2*(0-x)) (by omega) (by omega),aF (n:=2*(0-x)+d) (by omega) (by omega),XT (by omega)];have h:=DU (a:=2*(0-x)+d) (b:=2*d) (by omega) (by omega);rw[show 2*-x+d=2*(0-x)+d from by omega];generalize (2*(0-x)+d)/(2*d)=q at h;rw[aF (n:=q) (by omega) (by omega),aF (by omega) (by omega)]
  congr 1;omega
 ·rw[if_neg c,if_neg c,ab,if_neg (by omega),aF (n:=2*x) (by omega) (by omega),aF (n:=2*x+d) (by omega) (by omega),XT (by omega)];have h:=DU (a:=2*x+d) (b:=2*d) (by omega) (by omega);rw[aF (by omega) (by omega)]
def jb (x n:Int):Int:=ig (iR x) (2^(sat 0 31 n).toNat)
theorem BK {r:Int} (h:0<=r/\r<=31):i64.wrap ((1:Int)*2^(min r.toNat i64.bits))=2^r.toNat/\(1:Int)<=2^r.toNat/\(2:Int)^r.toNat<=2147483648:=by
 have hb:i64.bits=64:=rfl;have h1:(2:Nat)^r.toNat<=2^31:=Nat.pow_le_pow_right (by omega) (by omega);have h2:1<=(2:Nat)^r.toNat:=Nat.one_le_two_pow
 have e:((2^r.toNat:Nat):Int)=2^r.toNat:=by simp
 rw[hb,YR (by omega),Int.one_mul];rw[<-e];refine⟨aF (by omega) (by omega),by omega,by omega⟩
theorem K5 {v:Int} {s:Nat}:(v+(2^s:Int)/2)/2^s=(2*v+2^s)/(2*2^s):=by
 cases s with
 |zero=>omega
 |succ s=>
  have e:(2:Int)^(s+1)=2*2^s:=by rw[Int.pow_succ,Int.mul_comm]
  rw[e]
  have e2:2*v+2*(2:Int)^s=2*(v+2^s):=by rw[Int.mul_add]
  rw[e2,Int.mul_ediv_mul_of_pos _ _ (by omega:(0:Int)<2),Int.mul_ediv_cancel_left _ (by omega:(2:Int)≠0)]
theorem BL (k:Nat) (x n:Int):si k x n=some (jb x n):=by
 have h1:=ma x;have h2:=HC (a:=0) (b:=31) (by omega) n;obtain⟨e,h3,h4⟩:=BK h2;unfold si jb;rw[xN,aa,FE (by omega),aa,ab,if_neg (by omega),e,zc (by omega) ⟨h3,h4⟩,aa]
theorem Pc {r:Int} (h:0<=r/\r<=31):u64.wrap r=r:=Go.IntWalk.u64_in r ⟨by omega,by omega⟩
theorem BM (k:Nat) (x n:Int):nZ k x n=some (jb x n):=by
 have h1:=ma x;have h2:=HC (a:=0) (b:=31) (by omega) n;obtain⟨e,h3,h4⟩:=BK h2;unfold nZ jb ig;rw[xM,aa,sx (by omega),aa,Pc h2,ab,if_neg (by omega),e,ab];have hh:((2:Int)^(sat 0 31 n).toNat).tdiv 2=2^(sat 0 31 n).toNat/2:=XT (by omega);rw[hh,aF (n:=2^(sat 0 31 n).toNat/2) (by omega) (by omega)];by_cases c:iR x<0
 ·rw[if_pos c,if_pos c,ab,if_neg (by omega),aF (n:=0-iR x) (by omega) (by omega),aF (n:=0-iR x+2^(sat 0 31 n).toNat/2) (by omega) (by omega),XT (by omega),K5,show 2*-iR x+2^(sat 0 31 n).toNat=2*(0-iR x)+2^(sat 0 31 n).toNat from by omega];have h:=DU (a:=2*(0-iR x)+2^(sat 0 31 n).toNat) (b:=2*2^(sat 0 31 n).toNat) (by omega) (by omega);generalize (2*(0-iR x)+2^(sat 0 31 n).toNat)/(2*2^(sat 0 31 n).toNat)=q at h;rw[aF (n:=q) (by omega) (by omega),aF (by omega) (by omega)]
  congr 1;omega
 ·rw[if_neg c,if_neg c,ab,if_neg (by omega),aF (n:=iR x+2^(sat 0 31 n).toNat/2) (by omega) (by omega),XT (by omega),K5];have h:=DU (a:=2*iR x+2^(sat 0 31 n).toNat) (b:=2*2^(sat 0 31 n).toNat) (by omega) (by omega);rw[aF (by omega) (by omega)]
def BN (acc mult shift zero:Int):Int:=BH (jb (qR acc mult) shift+BH zero)
theorem MJ {x d B:Int} (hx:-B<=x/\x<=B) (hd:1<=d):-B<=ig x d/\ig x d<=B:=by
 have key:∀y:Int,0<=y->y<=B->0<=(2*y+d)/(2*d)/\(2*y+d)/(2*d)<=B:=λy h0 h1=>by
  refine⟨Int.ediv_nonneg (by omega) (by omega),?_⟩
  have hlt:(2*y+d)/(2*d)<B+1:=by
   apply Int.ediv_lt_of_lt_mul (by omega);have:=X7 (show 0<=B by omega) (show 0<=d-1 by omega);rw[Int.mul_sub,Int.mul_one]at this;rw[Int.add_mul,Int.one_mul,Int.mul_comm B,ZB,Int.mul_comm d B];omega
  omega
 unfold ig;by_cases c:x<0
 ·rw[if_pos c];have:=key (-x) (by omega) (by omega);omega
 ·rw[if_neg c];have:=key x (by omega) (by omega);omega
theorem zd (acc mult shift zero:Int):i64.wrap (jb (qR acc mult) shift+BH zero)=jb (qR acc mult) shift+BH zero:=by
 have h1:=BI zero;have h2:=HC (a:=0) (b:=31) (by omega) shift;have h3:=ma (qR acc mult);have h4:=MJ (x:=iR (qR acc mult)) (d:=2^(sat 0 31 shift).toNat) (B:=2147483648) (by omega) (BK h2).2.1;unfold jb;exact aF (by omega) (by omega)
theorem ze (k:Nat) (a b c d:Int):pH k a b c d=some (BN a b c d):=by
 unfold pH BN;simp only[HG,BM,HD,aa,zd]
theorem HI (k:Nat) (a b c d:Int):Bm k a b c d=some (BN a b c d):=by
 unfold Bm BN;simp only[HH,BL,HE,aa,zd]
end
section
theorem mb {α:Type} (f:Nat->List α) (m:Nat):∀n,(∀i,i<n->(f i).length<=m)->((List.range n).flatMap f).length<=n*m
 |0,_=>by simp
 |n+1,h=>by
  have:=mb f m n λi hi=>h i (by omega);have:=h n (by omega);rw[YC,YA,W5,Xx,show([n]:List Nat).flatMap f=f n from by simp];omega
theorem iy {α:Type} (f:Nat->List α) (m:Nat):∀n,(∀i,i<n->(f i).length=m)->((List.range n).flatMap f).length=n*m
 |0,_=>by simp
 |n+1,h=>by
  have:=iy f m n λi hi=>h i (by omega);have:=h n (by omega);rw[YC,YA,W5,Xx,show([n]:List Nat).flatMap f=f n from by simp];omega
theorem FF {α:Type} (f:Nat->List α) (q:Nat):∀n,(∀i,i<n->(f i).length=q)->∀a b,a<n->b<q->((List.range n).flatMap f)[a*q+b]? =(f a)[b]?
 |0,_,a,b,h,_=>by omega
 |n+1,h,a,b,ha,hb=>by
  have hl:=iy f q n λi hi=>h i (by omega);rw[YC,YA]
  have hs:([n]:List Nat).flatMap f=f n:=by simp
  rw[hs];by_cases c:a<n
  ·have:(a+1)*q<=n*q:=Xr _ (by omega);rw[Xx]at this;rw[Xi (by omega)];exact FF f q n (λi hi=>h i (by omega)) a b c hb
  ·have:a=n:=by omega
   subst this;rw[Xd (by omega),hl,XJ]
theorem fS {α R:Type} (n m:Nat) (f:Nat->List α) (xs0:List α) {g:Int× List α->(Int× List α->Option R)->Option R} {fin:List α->Option R} {k:Nat}
  (hf:∀i,i<n->(f i).length<=m)
  (h:∀(i:Nat) ys next,i<n->ys.length<=xs0.length+i*m->g ((i:Int),ys) next=next (((i+1:Nat):Int),ys++f i))
  (hn:∀ys next,g ((n:Int),ys) next=fin ys) (hk:n<k):iter g k ((0:Int),xs0)=fin (xs0++(List.range n).flatMap f):=by
 have:=ff (g:=g) (st:=λi=>((i:Int),xs0++(List.range i).flatMap f)) (n:=n) (r:=fin (xs0++(List.range n).flatMap f)) (λi hi next=>by
  have hl:=mb f m i λj hj=>hf j (by omega);rw[h i _ next hi (by rw[W5];omega),YC,YA]
  simp) (λnext=>hn _ _) hk
 simpa using this
theorem pO {β R:Type} (n:Nat) (f:β->Nat->β) (a0:β) {g:β× Int->(β× Int->Option R)->Option R} {fin:β->Option R} {k:Nat}
  (h:∀(i:Nat) a next,i<n->g (a,(i:Int)) next=next (f a i,((i+1:Nat):Int))) (hn:∀a next,g (a,(n:Int)) next=fin a) (hk:n<k):
  iter g k (a0,(0:Int))=fin ((List.range n).foldl f a0):=
 ff (g:=g) (st:=λi=>((List.range i).foldl f a0,(i:Int))) (n:=n) (r:=fin ((List.range n).foldl f a0)) (λi hi next=>by
  rw[h i _ next hi,YC,X3];rfl) (λnext=>hn _ _) hk
theorem fold_congr {β:Type} {f g:β->Nat->β}:∀(n:Nat) (a:β),(∀a i,i<n->f a i=g a i)->(List.range n).foldl f a=(List.range n).foldl g a
 |0,_,_=>rfl
 |n+1,a,h=>by
  rw[YC,X3,X3,fold_congr n a λa i hi=>h a i (by omega)];exact h _ n (by omega)
theorem FG {β:Type} (f:β->Nat->β) (q:Nat):∀(m:Nat) (a:β),(List.range (m*q)).foldl f a=(List.range m).foldl (λa i=>(List.range q).foldl (λa j=>f a (i*q+j)) a) a
 |0,a=>by simp
 |m+1,a=>by
  rw[Xx,Nat.one_mul,List.range_add,X3,FG f q m a,YC,X3,List.foldl_map];rfl
theorem HJ {a b:Nat} (h:a*b<=9223372036854775807):i64.wrap ((a:Int)*(b:Int))=((a*b:Nat):Int):=by
 rw[Ye];have e:((a:Int)*(b:Int))=((a*b:Nat):Int):=(Ye a b).symm;exact aF (by omega) (by omega)
theorem Iv {a b:Nat} (h:a+b<=9223372036854775807):i64.wrap ((a:Int)+(b:Int))=((a+b:Nat):Int):=by
 rw[aF (by omega) (by omega)];omega
theorem Pf {α:Type} {p:Prop} {i:Decidable p} (h:p) (x y:α):cond (@decide p i) x y=x:=by rw[decide_eq_true h];rfl
theorem VS {α:Type} {p:Prop} {i:Decidable p} (h:¬p) (x y:α):cond (@decide p i) x y=y:=by rw[decide_eq_false h];rfl
theorem wz {H W C h w c:Nat} (h1:h<H) (h2:w<W) (h3:c<C):(h*W+w)*C+c<H*W*C:=by
 have a1:(h+1)*W<=H*W:=Xr _ h1;rw[Xx]at a1;have a2:(h*W+w+1)*C<=H*W*C:=Xr _ (by omega);rw[Xx]at a2;omega
structure md (H W C:Nat) (xs:List Int):Prop where
 h1:1<=H
 h8:H<=8
 w1:1<=W
 w8:W<=8
 c1:1<=C
 c8:C<=8
 len:xs.length=H*W*C
 mem:∀x∈xs,-128<=x/\x<=127
def xO (H W C:Nat) (xs:List Int):aD:=⟨⟨H,W,C⟩,xs⟩
theorem md.TM {H W C:Nat} {xs:List Int} (r:md H W C xs):H*W*C<=512:=by
 have a:=XW r.h8 r.w8;have b:=XW a r.c8;omega
theorem md.sh {H W C:Nat} {xs:List Int} (r:md H W C xs):(⟨H,W,C⟩:Shape).okB=true:=by
 obtain⟨a,b,c,d,e,f,_,_⟩:=r;simp only[Shape.okB,inB,W3,decide_eq_true_eq];omega
theorem md.size {H W C:Nat} {xs:List Int} (r:md H W C xs):(⟨H,W,C⟩:Shape).size=((H*W*C:Nat):Int):=by
 unfold Shape.size;rw[r.sh,cond_true,Ye,Ye]
theorem md.ok {H W C:Nat} {xs:List Int} (r:md H W C xs):(xO H W C xs).okB=true:=by
 unfold aD.okB xO;simp only[r.sh,r.size,r.len,decide_true,Xf];unfold rh;rw[Xv];intro x hx;have:=r.mem x hx;rw[aY];omega
theorem FH {t:aD} (h:t.okB=true):∃H W C:Nat,md H W C t.data/\t=xO H W C t.data:=by
 unfold aD.okB at h;simp only[W3,decide_eq_true_eq]at h;obtain⟨h1,h2,h3⟩:=h;have hs:=Shape.tC h1;unfold rh at h3;rw[Xv]at h3;unfold Shape.size at h2;rw[h1,cond_true]at h2;obtain⟨⟨a,b,c⟩,xs⟩:=t;simp only at hs h2 h3;refine⟨a.toNat,b.toNat,c.toNat,⟨by omega,by omega,by omega,by omega,by omega,by omega,?_,λx hx=>aY.1 (h3 x hx)⟩,?_⟩
 ·have ea:((a.toNat:Nat):Int)=a:=by omega
  have eb:((b.toNat:Nat):Int)=b:=by omega
  have ec:((c.toNat:Nat):Int)=c:=by omega
  have e:((a.toNat*b.toNat*c.toNat:Nat):Int)=a*b*c:=by rw[Ye,Ye,ea,eb,ec]
  show xs.length=_;omega
 ·unfold xO
  congr 2<;>omega
def atN (W C:Nat) (xs:List Int) (h w c:Nat):Int:=xs.getD ((h*W+w)*C+c) 0
theorem JS {H W C:Nat} {xs:List Int} (r:md H W C xs) {h w c:Nat} (h1:h<H) (h2:w<W) (h3:c<C):xs[(h*W+w)*C+c]? =some (atN W C xs h w c):=by
 have:=wz h1 h2 h3;have hl:=r.len;unfold atN;rw[db (by omega),ai (by omega)]
theorem zZ {xs:List Int} {i:Nat} (h:i<xs.length):xs.getD i 0∈xs:=by rw[db h];exact W9 h
theorem K6 {H W C:Nat} {xs:List Int} (r:md H W C xs) {h w c:Nat} (h1:h<H) (h2:w<W) (h3:c<C):-128<=atN W C xs h w c/\atN W C xs h w c<=127:=by
 have:=wz h1 h2 h3;have hl:=r.len;exact r.mem _ (zZ (by omega))
theorem DW {H W C:Nat} {xs:List Int} (r:md H W C xs) {h w c:Nat} (h1:h<H) (h2:w<W) (h3:c<C):
  i64.wrap (i64.wrap (i64.wrap (i64.wrap ((h:Int)*(W:Int))+(w:Int))*(C:Int))+(c:Int))=(((h*W+w)*C+c:Nat):Int):=by
 have a:=wz h1 h2 h3;have b:=r.TM;have d:h*W<=H*W:=Xr _ (by omega);have e:=XW r.h8 r.w8;rw[HJ (by omega),Iv (by have:=r.w8;omega),HJ (by omega),Iv (by omega)]
theorem uW {k:Nat} {H W C:Nat} {xs:List Int} (r:md H W C xs) (hk:512<k) {h w c:Nat} (h1:h<H) (h2:w<W) (h3:c<C):qF k (xO H W C xs) h w c=some (atN W C xs h w c,true):=by
 have hl:=r.len;have hc:=r.TM
 have hi:∀{a n:Nat},a<n->n<=8->inB (a:Int) 0 (i64.wrap ((n:Int)-1))=true:=λ{a n} h h8=>by
  rw[aF (by omega) (by omega),aY];omega
 unfold qF Bj;simp only[lj,bR,aa];rw[jJ (t:=xO H W C xs) (by show xs.length<k;omega) (by unfold zP;show xs.length<=_;omega),r.ok];simp only[xO,r.sh,hi h1 r.h8,hi h2 r.w8,hi h3 r.c8,Xa,cond_false,aa,DW r h1 h2 h3];rw[ab,if_neg (by omega),aL,JS r h1 h2 h3,aa]
theorem uX {k:Nat} {H W C:Nat} {xs:List Int} (r:md H W C xs) {h w c:Nat} (h1:h<H) (h2:w<W) (h3:c<C):lV k ⟨H,W,C⟩ h w c=some ((((h*W+w)*C+c:Nat)):Int):=by
 unfold lV;rw[DW r h1 h2 h3]
structure Pg (H W Z S h w:Nat):Prop where
 z1:1<=Z
 z3:Z<=3
 s2:S<=2
 hh:h*S+Z<=H
 ww:w*S+Z<=W
def jR (W C:Nat) (xs:List Int) (Z S h w c:Nat):List Int:=
 (List.range Z).flatMap λi=>(List.range Z).flatMap λj=>[atN W C xs (h*S+i) (w*S+j) c]
def Tk (W C:Nat) (xs:List Int) (Z S h w:Nat):List Int:=
 (List.range Z).flatMap λi=>(List.range Z).flatMap λj=>(List.range C).map λc=>atN W C xs (h*S+i) (w*S+j) c
theorem HK (W C:Nat) (xs:List Int) (Z S h w c:Nat):(jR W C xs Z S h w c).length=Z*(Z*1):=
 iy _ _ _ λi hi=>iy _ _ _ λj hj=>rfl
theorem FI (W C:Nat) (xs:List Int) (Z S h w:Nat):(Tk W C xs Z S h w).length=Z*(Z*C):=
 iy _ _ _ λi hi=>iy _ _ _ λj hj=>by simp
theorem HL {k:Nat} {H W C:Nat} {xs:List Int} (r:md H W C xs) (hk:512<k) {l:aq} {Z S h w c:Nat} (hz:l.size=Z) (hs:l.step=S) (v:Pg H W Z S h w) (hc:c<C):
  na k (xO H W C xs) l h w c=some (jR W C xs Z S h w c):=by
 have hM:=ak;have hv:=v;obtain⟨z1,z3,s2,hh,ww⟩:=hv;have:=r.h8;have:=r.w8;unfold na
 refine(fS Z 3 (λi=>(List.range Z).flatMap λj=>[atN W C xs (h*S+i) (w*S+j) c]) [] (fin:=some) (λi hi=>by
   have:=mb (λj=>[atN W C xs (h*S+i) (w*S+j) c]) 1 Z (λ_ _=>Xt _);omega) (λi ys next hi hy=>?_) (λys next=>?_) (by omega)).trans (by rw[X5];rfl)
 ·simp only[oc,hz,hs];rw[ab,if_pos (by omega),ar hi (by omega)];refine fS Z 1 (λj=>[atN W C xs (h*S+i) (w*S+j) c]) ys (fin:=λy=>next (((i+1:Nat):Int),y)) (λ_ _=>Xt _) (λj zs wA hj hz2=>?_) (λzs wA=>?_) (by omega)
  ·simp only[oa,hz,hs]
   have e1:h*S+i<H:=by omega
   have e2:w*S+j<W:=by omega
   have e:=uW (k:=k) r hk e1 e2 hc;unfold xO at e;simp only[Xg]at hy;rw[ab,if_pos (by omega)];simp only[xO];rw[HJ (by omega),Iv (by omega),HJ (by omega),Iv (by omega),e,aa,bO (by simp;omega),ar hj (by omega)]
  ·simp only[oa];rw[ab,if_neg (by omega)]
 ·simp only[oc];rw[ab,if_neg (by omega)]
theorem HM {α:Type} {ws:List α} {a q i:Nat} (hi:i<q):((ws.take (a+q)).drop a)[i]? =ws[a+i]? :=by
 rw[Xl,XG,if_pos (by omega)]
theorem Ph {ws:List Int} {a q:Nat} (h:a+q<=ws.length):(ws.take (a+q)).drop a=(List.range q).map λc=>ws.getD (a+c) 0:=by
 apply List.ext_getElem?;intro i;by_cases c:i<q
 ·rw[HM c,XL,List.getElem?_range c,YP,ai (by omega),db (by omega)]
 ·rw[Xy (by simp;omega),Xy (by simp;omega)]
theorem BO {k:Nat} {H W C:Nat} {xs:List Int} (r:md H W C xs) (hk:512<k) {l:aq} {Z S h w c:Nat} (hz:l.size=Z) (hs:l.step=S) (v:Pg H W Z S h w) (hc:c<C):
  de k l (xO H W C xs) h w c=some (jR W C xs Z S h w c):=by
 have hM:=ak;have hv:=v;obtain⟨z1,z3,s2,hh,ww⟩:=hv;have:=r.h8;have:=r.w8;have:=r.c8;have hcu:=r.TM;have hlen:=r.len;unfold de
 refine(fS Z 3 (λi=>(List.range Z).flatMap λj=>[atN W C xs (h*S+i) (w*S+j) c]) [] (fin:=some) (λi hi=>by
   have:=mb (λj=>[atN W C xs (h*S+i) (w*S+j) c]) 1 Z (λ_ _=>Xt _);omega) (λi ys next hi hy=>?_) (λys next=>?_) (by omega)).trans (by rw[X5];rfl)
 ·simp only[fq,hz,hs];rw[ab,if_pos (by omega),ar hi (by omega)];refine fS Z 1 (λj=>[atN W C xs (h*S+i) (w*S+j) c]) ys (fin:=λy=>next (((i+1:Nat):Int),y)) (λ_ _=>Xt _) (λj zs wA hj hz2=>?_) (λzs wA=>?_) (by omega)
  ·simp only[fo,hz,hs]
   have e1:h*S+i<H:=by omega
   have e2:w*S+j<W:=by omega
   have e:=uX (k:=k) (c:=0) r e1 e2 (by omega);have hp:=wz e1 e2 hc;simp only[Xg]at hy;rw[ab,if_pos (by omega)];simp only[xO];rw[HJ (by omega),Iv (by omega),HJ (by omega),Iv (by omega)];refine(congrArg (λo:Option Int=>o.bind _) e).trans ?_;rw[aa,ab,if_neg (by omega),XB,Iv (by omega),aL,JS r e1 e2 hc,aa,bO (by simp;omega),ar hj (by omega)]
  ·simp only[fo];rw[ab,if_neg (by omega)]
 ·simp only[fq];rw[ab,if_neg (by omega)]
theorem HN {k:Nat} {H W C:Nat} {xs:List Int} (r:md H W C xs) (hk:512<k) {l:aq} {Z S h w:Nat} (hz:l.size=Z) (hs:l.step=S) (v:Pg H W Z S h w):
  de k l (xO H W C xs) h w (-1)=some (Tk W C xs Z S h w):=by
 have hM:=ak;have hv:=v;obtain⟨z1,z3,s2,hh,ww⟩:=hv;have:=r.h8;have:=r.w8;have:=r.c8;have hc1:=r.c1;have hcu:=r.TM;have hlen:=r.len;unfold de
 refine(fS Z 24 (λi=>(List.range Z).flatMap λj=>(List.range C).map λc=>atN W C xs (h*S+i) (w*S+j) c) [] (fin:=some) (λi hi=>by
   have:=mb (λj=>(List.range C).map λc=>atN W C xs (h*S+i) (w*S+j) c) 8 Z (λ_ _=>by simp;omega);omega) (λi ys next hi hy=>?_) (λys next=>?_) (by omega)).trans (by rw[X5];rfl)
 ·simp only[fq,hz,hs];rw[ab,if_pos (by omega),ar hi (by omega)];refine fS Z 8 (λj=>(List.range C).map λc=>atN W C xs (h*S+i) (w*S+j) c) ys (fin:=λy=>next (((i+1:Nat):Int),y)) (λ_ _=>by simp;omega) (λj zs wA hj hz2=>?_) (λzs wA=>?_) (by omega)
  ·simp only[fo,hz,hs]
   have e1:h*S+i<H:=by omega
   have e2:w*S+j<W:=by omega
   have e:=uX (k:=k) (c:=0) r e1 e2 (by omega);have hp:=wz (C:=C) (c:=C-1) e1 e2 (by omega);simp only[Xg]at hy;rw[ab,if_pos (by omega)];simp only[xO];rw[HJ (by omega),Iv (by omega),HJ (by omega),Iv (by omega)];refine(congrArg (λo:Option Int=>o.bind _) e).trans ?_;have e3:=Ph (ws:=xs) (a:=((h*S+i)*W+(w*S+j))*C) (q:=C) (by omega);have ew:i64.wrap (((((h*S+i)*W+(w*S+j))*C:Nat):Int)+(C:Int))=((((h*S+i)*W+(w*S+j))*C+C:Nat):Int):=Iv (by omega);rw[aa,Pf (by omega),XB];refine(Pf (by rw[ew];omega) _ _).trans ?_;refine(Pf (by rw[ew];omega) _ _).trans ?_;rw[ew,W4,W4,e3,bO (by simp;omega),ar hj (by omega)];rfl
  ·simp only[fo];rw[ab,if_neg (by omega)]
 ·simp only[fq];rw[ab,if_neg (by omega)]
end
section
def Tl (xs ws:List Int):Int:=(List.range xs.length).foldl (λs i=>ri s (BH (xs.getD i 0)*BH (ws.getD i 0))) 0
theorem UD (a b:Int):i64.wrap (BH a*BH b)=BH a*BH b:=by
 have h1:=BI a;have h2:=BI b;have:=Tj (A:=128) (B:=128) (x:=BH a) (y:=BH b) (by omega) (by omega);exact aF (by omega) (by omega)
theorem MK {k:Nat} {xs ws:List Int} (hk:xs.length<k) (hl:ws.length=xs.length) (hN:xs.length<=aO):Fl k xs ws=some (Tl xs ws):=by
 have hM:=ak;unfold Fl Tl
 exact pO xs.length (λs i=>ri s (BH (xs.getD i 0)*BH (ws.getD i 0))) 0 (fin:=some) (λi a next hi=>by
  simp only[tw,HD,qQ]
  rw[ab,if_pos (by omega),ab,if_pos (by omega),aL,ai hi,aa,aa,aL,ai (by omega),aa,aa,aa,UD,ar hi (by omega),db hi,db (by omega)]) (λa next=>by
  simp only[tw]
  rw[ab,if_neg (by omega)]) hk
theorem ML {k:Nat} {xs ws:List Int} (hk:xs.length<k) (hl:ws.length=xs.length) (hN:xs.length<=aO):JL k xs ws=some (Tl xs ws):=by
 have hM:=ak;unfold JL Tl;rw[if_neg (by omega)]
 exact pO xs.length (λs i=>ri s (BH (xs.getD i 0)*BH (ws.getD i 0))) 0 (fin:=some) (λi a next hi=>by
  simp only[xD,HE,BJ]
  rw[ab,if_pos (by omega),aL,ai hi,aa,aa,aL,ai (by omega),aa,aa,aa,UD,ar hi (by omega),db hi,db (by omega)]) (λa next=>by
  simp only[xD]
  rw[ab,if_neg (by omega)]) hk
def uY (l:aq) (xs:List Int) (o:Nat):Int:=
 BN (ri (Tl xs ((l.weights.take (o*xs.length+xs.length)).drop (o*xs.length))) (l.my.getD o 0)) l.mult l.shift l.zero
theorem BP {k:Nat} {l:aq} {xs:List Int} {o:Nat} (hk:xs.length<k) (hN:xs.length<=aO) (hw:o*xs.length+xs.length<=l.weights.length) (hwN:l.weights.length<=aO) (hb:o<l.my.length) (ho:o<8):
  iw k l xs o=some (uY l xs o):=by
 have hM:=ak
 have e:(o+1)*xs.length=o*xs.length+xs.length:=by rw[Xx,Nat.one_mul]
 have e1:i64.wrap (i64.wrap ((o:Int)+1)*(xs.length:Int))=((o*xs.length+xs.length:Nat):Int):=by
  rw[ar ho (by omega),HJ (by omega),e]
 have e2:i64.wrap ((o:Int)*(xs.length:Int))=((o*xs.length:Nat):Int):=HJ (by omega);unfold iw uY;rw[e1,e2,ab,if_pos (by omega),ab,if_pos (by omega),W4,W4,ML hk (by simp;omega) hN,aa,aL,ai hb,aa,BJ,aa,HI,aa,db hb]
def mf:List Int->Int
 |[]=>0
 |x::xs=>xs.foldl (λm y=>if y>m then y else m) x
theorem K7 {R:Type} {xs:List Int} {x:Int} {g:Int× Int->(Int× Int->Option R)->Option R} {fin:Int->Option R} {k:Nat}
  (h:∀(i:Nat) a next (hi:i<xs.length),g (a,((i+1:Nat):Int)) next=next (if xs[i]>a then xs[i]else a,((i+1+1:Nat):Int))) (hn:∀a next,g (a,((xs.length+1:Nat):Int)) next=fin a) (hk:xs.length<k):
  iter g k (x,(1:Int))=fin (mf (x::xs)):=by
 have:=ff (g:=g) (st:=λi=>((xs.take i).foldl (λm y=>if y>m then y else m) x,((i+1:Nat):Int))) (n:=xs.length) (r:=fin (mf (x::xs))) (λi hi next=>by
  rw[h i _ next hi,dh hi,X3];rfl) (λnext=>by rw[hn,XO];rfl) hk
 exact this
theorem sy:∀(xs:List Int) (x:Int),mf (x::xs)∈x::xs
 |[],x=>by simp[mf]
 |y::xs,x=>by
  show xs.foldl _ (if y>x then y else x)∈_;by_cases c:y>x
  ·rw[if_pos c];exact Xq _ (sy xs y)
  ·rw[if_neg c]
   rcases Xm.1 (sy xs x)with h|h
   ·have h:xs.foldl (λm y=>if y>m then y else m) x=x:=h;rw[h];simp
   ·exact Xq _ (Xq _ h)
theorem BQ:∀{xs:List Int},(∀x∈xs,-128<=x/\x<=127)->-128*(xs.length:Int)<=xs.sum/\xs.sum<=127*(xs.length:Int)
 |[],_=>by simp
 |x::xs,h=>by
  have h1:=BQ λy hy=>h y (Xq _ hy);have h2:=h x (by simp);rw[YS,W7];omega
theorem HO {R:Type} {xs:List Int} {g:Int× Int->(Int× Int->Option R)->Option R} {fin:Int->Option R} {k:Nat} (hx:∀x∈xs,-128<=x/\x<=127) (hN:xs.length<=aO)
  (h:∀(i:Nat) a next (hi:i<xs.length),g (a,(i:Int)) next=next (i64.wrap (a+xs[i]),((i+1:Nat):Int))) (hn:∀a next,g (a,(xs.length:Int)) next=fin a) (hk:xs.length<k):
  iter g k ((0:Int),(0:Int))=fin xs.sum:=by
 have hM:=ak
 have:=ff (g:=g) (st:=λi=>((xs.take i).sum,(i:Int))) (n:=xs.length) (r:=fin xs.sum) (λi hi next=>by
  have hb:=BQ (xs:=xs.take (i+1)) λx hm=>hx x (X8 hm)
  have e:(xs.take (i+1)).sum=(xs.take i).sum+xs[i]:=by rw[dh hi,YZ];simp
  rw[e]at hb;simp only[Xw]at hb
  rw[h i _ next hi,e,aF (by omega) (by omega)]) (λnext=>by rw[hn,XO]) hk
 exact this
def nz (W C:Nat) (xs:List Int) (l:aq) (Z S h w o:Nat):Int:=
  cond (l.kind==0) (uY l xs o) (cond (l.kind==1) (uY l (Tk W C xs Z S h w) o)
    (cond (l.kind==2) (mf (jR W C xs Z S h w o)) (cond (l.kind==3) (ig (jR W C xs Z S h w o).sum ((Z*Z:Nat):Int))
      (cond (l.kind==4) (if atN W C xs h w o<l.zero then l.zero else atN W C xs h w o) (xs.getD o 0)))))
inductive Fits (H W C:Nat) (xs:List Int) (l:aq) (Z S h w o:Nat):Prop
 |Re (h0:l.kind=0) (hb:o<l.my.length) (h8:o<8) (hw:o*xs.length+xs.length<=l.weights.length)
 |conv (h0:l.kind=1) (hb:o<l.my.length) (h8:o<8) (hw:o*(Z*(Z*C))+Z*(Z*C)<=l.weights.length) (v:Pg H W Z S h w) (hi:∀x∈l.weights,-128<=x/\x<=127)
 |max (h0:l.kind=2) (v:Pg H W Z S h w) (ho:o<C)
 |avg (h0:l.kind=3) (v:Pg H W Z S h w) (ho:o<C)
 |Vc (h0:l.kind=4) (h1:h<H) (h2:w<W) (h3:o<C) (hz:-128<=l.zero/\l.zero<=127)
 |flat (h0:l.kind=5) (ho:o<xs.length)
theorem z7 {H W C:Nat} {xs:List Int} (r:md H W C xs) {Z S h w o:Nat} (v:Pg H W Z S h w) (ho:o<C):∀x∈jR W C xs Z S h w o,-128<=x/\x<=127:=by
 intro x hx;obtain⟨z1,z3,s2,hh,ww⟩:=v;unfold jR at hx;rw[YT]at hx;obtain⟨i,hi,hx⟩:=hx;rw[YT]at hx;obtain⟨j,hj,hx⟩:=hx;rw[List.mem_range]at hi hj;rw[Yj]at hx;rw[hx];exact K6 r (by omega) (by omega) ho
theorem BR {H W C:Nat} {xs:List Int} {Z S h w o:Nat} (v:Pg H W Z S h w):∃x ys,jR W C xs Z S h w o=x::ys:=by
 have hl:=HK W C xs Z S h w o;have:=v.z1
 have hp:1<=Z*(Z*1):=by rw[ZD];exact XW this this
 cases hc:jR W C xs Z S h w o with
 |nil=>rw[hc]at hl;simp only[Xg]at hl;omega
 |cons x ys=>exact⟨x,ys,rfl⟩
theorem pP {H W C:Nat} {xs:List Int} {Z S h w o:Nat} (v:Pg H W Z S h w):(jR W C xs Z S h w o).length=Z*Z/\1<=Z*Z/\Z*Z<=9:=by
 have hl:=HK W C xs Z S h w o;rw[ZD]at hl;exact⟨hl,XW v.z1 v.z1,XW v.z3 v.z3⟩
theorem Pj {k:Nat} {H W C:Nat} {xs:List Int} (r:md H W C xs) {l:aq} {Z S h w o:Nat} (hk:512<k) (hwN:l.weights.length<=aO) (hz:l.size=Z) (hs:l.step=S) (f:Fits H W C xs l Z S h w o):
  sj k l (xO H W C xs) h w o=some (nz W C xs l Z S h w o):=by
 have hM:=ak;have hcu:=r.TM;have hlen:=r.len;unfold sj nz
 cases f with
 |Re h0 hb h8 hw=>
  rw[h0];show(iw k l xs o).bind _=_
  rw[BP (by omega) (by omega) hw hwN hb h8];rfl
 |conv h0 hb h8 hw v hi=>
  have hl:=FI W C xs Z S h w;have:Z*(Z*C)<=3*(3*8):=XW v.z3 (XW v.z3 r.c8);rw[h0];show(de k l (xO H W C xs) h w (-1)).bind _=_
  rw[HN r hk hz hs v,aa,BP (by omega) (by omega) (by rw[hl];exact hw) hwN hb h8];rfl
 |max h0 v ho=>
  rw[h0];show(de k l (xO H W C xs) h w o).bind _=_;rw[BO r hk hz hs v ho,aa];have hl:=pP (xs:=xs) (C:=C) (o:=o) v;obtain⟨x,ys,e⟩:=BR (xs:=xs) (C:=C) (o:=o) v;rw[e]at hl;simp only[W7]at hl;show(iL k (jR W C xs Z S h w o)).bind _=some (mf (jR W C xs Z S h w o));rw[e];unfold iL
  rw[ab,if_neg (by simp only[W7];omega),zO,Y1,aa,K7 (xs:=ys) (x:=x) (fin:=some) (λi a next hi=>by
   simp only[fX]
   rw[ab,if_pos (by simp only[W7];omega),aL,YO,ai hi,aa,ar (show i+1<ys.length+1 by omega) (by omega)]) (λa next=>by
   simp only[fX]
   rw[ab,if_neg (by simp only[W7];omega)]) (by omega)]
  rfl
 |avg h0 v ho=>
  rw[h0];show(de k l (xO H W C xs) h w o).bind _=_;rw[BO r hk hz hs v ho,aa];have hl:=pP (xs:=xs) (C:=C) (o:=o) v;have hm:=z7 r v ho;have hb:=BQ hm;show _=some (ig (jR W C xs Z S h w o).sum ((Z*Z:Nat):Int))
  rw[HO (xs:=jR W C xs Z S h w o) (fin:=λy=>(sg k y (i64.wrap (l.size*l.size))).bind λr9=>some r9) hm (by omega) (λi a next hi=>by
   simp only[nd]
   rw[ab,if_pos (by omega),ab,if_pos (by omega),W4,ai hi,aa,ar hi (by omega)]) (λa next=>by
   simp only[nd]
   rw[ab,if_neg (by omega)]) (by omega)]
  rw[hz,HJ (by omega),zc (by omega) (by omega),aa]
 |Vc h0 h1 h2 h3 hz=>
  simp only[h0,show((4:Int)==0)=false from rfl,show((4:Int)==1)=false from rfl,show((4:Int)==2)=false from rfl,show((4:Int)==3)=false from rfl,beq_self_eq_true,cond_true,cond_false];refine(congrArg (λo:Option Int=>o.bind _) (uX (k:=k) r h1 h2 h3)).trans ?_;rw[aa];show(idx xs _).bind _=_;rw[aL,JS r h1 h2 h3]
  rfl
 |flat h0 ho=>
  rw[h0];show(idx xs (o:Int)).bind _=_;rw[aL,ai ho];show _=some (xs.getD o 0);rw[db ho];rfl
theorem Tm {W C:Nat} {xs:List Int} {Z S h w i j c:Nat} (hi:i<Z) (hj:j<Z) (hc:c<C):(Tk W C xs Z S h w)[i*(Z*C)+(j*C+c)]? =some (atN W C xs (h*S+i) (w*S+j) c):=by
 have hb:j*C+c<Z*C:=by
  have:(j+1)*C<=Z*C:=Xr _ hj;rw[Xx]at this;omega
 unfold Tk;rw[FF _ (Z*C) Z (λi hi=>iy _ C Z λj hj=>by simp) i (j*C+c) hi hb,FF _ C Z (λj hj=>by simp) j c hj hc,XL,List.getElem?_range hc];rfl
theorem DX {o Z i j C c:Nat}:((o*Z+i)*Z+j)*C+c=o*(Z*(Z*C))+(i*(Z*C)+(j*C+c)):=by
 simp only[Xx,Nat.mul_assoc,XX]
theorem Rf {H W C:Nat} {xs:List Int} (r:md H W C xs) {ws:List Int} (hi:∀x∈ws,-128<=x/\x<=127) {Z S h w o:Nat} (v:Pg H W Z S h w) (hw:o*(Z*(Z*C))+Z*(Z*C)<=ws.length):
  Tl (Tk W C xs Z S h w) ((ws.take (o*(Z*(Z*C))+Z*(Z*C))).drop (o*(Z*(Z*C))))=
   (List.range Z).foldl (λs i=>(List.range Z).foldl (λs j=>(List.range C).foldl (λs c=>ri s (atN W C xs (h*S+i) (w*S+j) c*ws.getD (((o*Z+i)*Z+j)*C+c) 0)) s) s) 0:=by
 obtain⟨z1,z3,s2,hh,ww⟩:=v;unfold Tl;rw[FI,FG];refine fold_congr Z _ λs i hi2=>?_;rw[FG];refine fold_congr Z _ λs j hj=>?_;refine fold_congr C _ λs c hc=>?_
 have hb:j*C+c<Z*C:=by
  have:(j+1)*C<=Z*C:=Xr _ hj;rw[Xx]at this;omega
 have hb2:i*(Z*C)+(j*C+c)<Z*(Z*C):=by
  have:(i+1)*(Z*C)<=Z*(Z*C):=Xr _ hi2;rw[Xx]at this;omega
 have a1:=K6 r (show h*S+i<H by omega) (show w*S+j<W by omega) hc;have a2:=hi _ (zZ (xs:=ws) (i:=o*(Z*(Z*C))+(i*(Z*C)+(j*C+c))) (by omega));rw[XR,Tm hi2 hj hc,Yu,XR,HM hb2,<-XR,DX];unfold BH;rw[RX (by omega) (by omega),RX (by omega) (by omega)]
theorem Pk {k:Nat} {H W C:Nat} {xs:List Int} (r:md H W C xs) {l:aq} {Z S h w o:Nat} (hk:512<k) (hwN:l.weights.length<=aO) (hz:l.size=Z) (hs:l.step=S) (f:Fits H W C xs l Z S h w o):
  vZ k (xO H W C xs) l h w o=some (nz W C xs l Z S h w o):=by
 have hM:=ak;have hcu:=r.TM;have hlen:=r.len;unfold vZ nz
 cases f with
 |Re h0 hb h8 hw=>
  rw[h0];simp only[beq_self_eq_true,cond_true]
  rw[iQ,aa,show(xO H W C xs).sh.size=((xs.length:Nat):Int)from by rw[hlen];exact r.size,HJ (by omega),Iv (by omega),ab,if_pos (by omega),ab,if_pos (by omega),W4,W4,
   show(xO H W C xs).data=xs from rfl,MK (by omega) (by simp;omega) (by omega),aa,aL,ai hb,aa,qQ,aa,ze,aa]
  unfold uY
  rw[db hb]
 |conv h0 hb h8 hw v hi=>
  have hl:=FI W C xs Z S h w;have hvv:=v;obtain⟨z1,z3,s2,hh,ww⟩:=hvv;have:=r.h8;have:=r.w8;have hc8:=r.c8;have hq:Z*(Z*C)<=3*(3*8):=XW v.z3 (XW v.z3 r.c8);rw[h0];show iter _ k _=some (uY l (Tk W C xs Z S h w) o)
  refine(pO Z (λs i=>(List.range Z).foldl (λs j=>(List.range C).foldl (λs c=>ri s (atN W C xs (h*S+i) (w*S+j) c*l.weights.getD (((o*Z+i)*Z+j)*C+c) 0)) s) s) 0
   (fin:=λy=>(idx l.my (o:Int)).bind λe14=>(nY k y e14).bind λr15=>(pH k r15 l.mult l.shift l.zero).bind λr16=>some r16) (λi a next hi2=>?_) (λa next=>?_) (by omega)).trans ?_
  ·simp only[oh,hz,hs];rw[ab,if_pos (by omega),ar hi2 (by omega)];refine pO Z (λs j=>(List.range C).foldl (λs c=>ri s (atN W C xs (h*S+i) (w*S+j) c*l.weights.getD (((o*Z+i)*Z+j)*C+c) 0)) s) a (fin:=λy=>next (y,((i+1:Nat):Int))) (λj a2 wA hj=>?_) (λa2 wA=>?_) (by omega)
   ·simp only[oe,hz,hs];rw[ab,if_pos (by omega),ar hj (by omega)];refine pO C (λs c=>ri s (atN W C xs (h*S+i) (w*S+j) c*l.weights.getD (((o*Z+i)*Z+j)*C+c) 0)) a2 (fin:=λy=>wA (y,((j+1:Nat):Int))) (λc a3 next3 hc=>?_) (λa3 next3=>?_) (by omega)
    ·have e1:h*S+i<H:=by omega
     have e2:w*S+j<W:=by omega
     have e:=uW (k:=k) r hk e1 e2 hc;have o1:o*Z<=7*3:=XW (by omega) z3;have o2:(o*Z+i)*Z<=23*3:=XW (by omega) z3;have o3:((o*Z+i)*Z+j)*C<=71*8:=XW (by omega) hc8
     have hb:j*C+c<Z*C:=by
      have:(j+1)*C<=Z*C:=Xr _ hj;rw[Xx]at this;omega
     have hb2:i*(Z*C)+(j*C+c)<Z*(Z*C):=by
      have:(i+1)*(Z*C)<=Z*(Z*C):=Xr _ hi2;rw[Xx]at this;omega
     have hx:((o*Z+i)*Z+j)*C+c<l.weights.length:=by rw[DX];omega
     have a1:=K6 r e1 e2 hc;have a2:=hi _ (zZ hx);have a3:=Tj (A:=128) (B:=128) (x:=atN W C xs (h*S+i) (w*S+j) c) (y:=l.weights.getD (((o*Z+i)*Z+j)*C+c) 0) (by omega) (by omega);unfold xO at e;simp only[od,hz,hs,xO];refine(Pf (by omega) _ _).trans ?_;rw[HJ (a:=h) (by omega),Iv (b:=i) (by omega),HJ (a:=w) (by omega),Iv (b:=j) (by omega),e,aa,HJ (a:=o) (by omega),Iv (b:=i) (by omega),HJ (by omega),Iv (b:=j) (by omega),HJ (by omega),Iv (b:=c) (by omega),aL,ai hx,aa,<-db hx 0,aF (n:=atN W C xs (h*S+i) (w*S+j) c*l.weights.getD (((o*Z+i)*Z+j)*C+c) 0) (by omega) (by omega),qQ,aa,ar hc (by omega)]
    ·simp only[od,xO];exact VS (by omega) _ _
   ·simp only[oe,hz];rw[ab,if_neg (by omega)]
  ·simp only[oh,hz];rw[ab,if_neg (by omega)]
  ·rw[aL,ai hb,aa,qQ,aa,ze,aa];unfold uY
   rw[hl,Rf r hi v hw,db hb]
 |max h0 v ho=>
  rw[h0];show(na k (xO H W C xs) l h w o).bind _=_;rw[HL r hk hz hs v ho,aa];have hl:=pP (xs:=xs) (C:=C) (o:=o) v;obtain⟨x,ys,e⟩:=BR (xs:=xs) (C:=C) (o:=o) v;rw[e]at hl;simp only[W7]at hl;show _=some (mf (jR W C xs Z S h w o));rw[e,ab,if_pos (by simp only[W7];omega)];show(some x).bind _=_
  rw[aa,K7 (xs:=ys) (x:=x) (fin:=some) (λi a next hi=>by
   simp only[om];rw[ab,if_pos (by simp only[W7];omega),ab,if_pos (by simp only[W7];omega),W4,YO,ai hi,aa,ar (show i+1<ys.length+1 by omega) (by omega)]
   have hlt:0<=((i+1:Nat):Int)/\((i+1:Nat):Int)<(((x::ys).length:Nat):Int):=by rw[W7];omega
   rw[Pf hlt,aa,ab];by_cases c:ys[i]>a
   ·rw[if_pos c,if_pos c]
   ·rw[if_neg c,if_neg c]) (λa next=>by
   simp only[om]
   rw[ab,if_neg (by simp only[W7];omega)]) (by omega)]
 |avg h0 v ho=>
  rw[h0];show(na k (xO H W C xs) l h w o).bind _=_;rw[HL r hk hz hs v ho,aa];have hl:=pP (xs:=xs) (C:=C) (o:=o) v;have hm:=z7 r v ho;have hb:=BQ hm;show _=some (ig (jR W C xs Z S h w o).sum ((Z*Z:Nat):Int))
  rw[HO (xs:=jR W C xs Z S h w o) (fin:=λy26=>(cond (decide (y26<(0:Int))) (cond (decide ((i64.wrap ((2:Int)*((jR W C xs Z S h w o).length:Int)))=0)) none (some (i64.wrap (0-(i64.wrap ((i64.wrap ((i64.wrap ((-2:Int)*y26))+((jR W C xs Z S h w o).length:Int))).tdiv (i64.wrap ((2:Int)*((jR W C xs Z S h w o).length:Int))))))))) (cond (decide ((i64.wrap ((2:Int)*((jR W C xs Z S h w o).length:Int)))=0)) none (some (i64.wrap ((i64.wrap ((i64.wrap ((2:Int)*y26))+((jR W C xs Z S h w o).length:Int))).tdiv (i64.wrap ((2:Int)*((jR W C xs Z S h w o).length:Int))))))))) hm (by omega) (λi a next hi=>by
   simp only[oo]
   rw[ab,if_pos (by omega),ab,if_pos (by omega),W4,ai hi,aa,ar hi (by omega)]) (λa next=>by
   simp only[oo]
   rw[ab,if_neg (by omega)]) (by omega)]
  rw[hl.1]at hb⊢;generalize (jR W C xs Z S h w o).sum=y at hb⊢;obtain⟨n,hn⟩:∃n:Nat,n=Z*Z:=⟨_,rfl⟩;rw[<-hn]at hb hl⊢;unfold ig;rw[aF (n:=2*(n:Int)) (by omega) (by omega),ab];by_cases c:y<0
  ·rw[if_pos c,if_pos c,ab,if_neg (by omega),aF (n:=-2*y) (by omega) (by omega),aF (n:=-2*y+(n:Int)) (by omega) (by omega),XT (by omega),show 2*-y+(n:Int)=-2*y+(n:Int)from by omega];have h:=DU (a:=-2*y+(n:Int)) (b:=2*(n:Int)) (by omega) (by omega);generalize (-2*y+(n:Int))/(2*(n:Int))=q at h;rw[aF (n:=q) (by omega) (by omega),aF (by omega) (by omega)]
   congr 1;omega
  ·rw[if_neg c,if_neg c,ab,if_neg (by omega),aF (n:=2*y) (by omega) (by omega),aF (n:=2*y+(n:Int)) (by omega) (by omega),XT (by omega)];have h:=DU (a:=2*y+(n:Int)) (b:=2*(n:Int)) (by omega) (by omega)
   rw[aF (by omega) (by omega)]
 |Vc h0 h1 h2 h3 hz=>
  rw[h0];show(qF k (xO H W C xs) h w o).bind _=_;rw[uW r hk h1 h2 h3,aa];show cond (decide (atN W C xs h w o<l.zero)) _ _=some (if atN W C xs h w o<l.zero then l.zero else atN W C xs h w o);rw[ab];by_cases c:atN W C xs h w o<l.zero
  ·rw[if_pos c,if_pos c]
  ·rw[if_neg c,if_neg c]
 |flat h0 ho=>
  rw[h0];show(idx xs (o:Int)).bind _=_;rw[aL,ai ho];show _=some (xs.getD o 0);rw[db ho];rfl
end
section
theorem xP {a b:Int} {x:Int} (h:a<=x/\x<=b) (h0:0<=a):∃n:Nat,x=n:=⟨x.toNat,by omega⟩
theorem zf {H W C Z S:Nat} {l:aq} {c:Int} (hz:l.size=Z) (hs:l.step=S) (s1:1<=S) (h8:H<=8) (w8:W<=8) (hzH:Z<=H) (hzW:Z<=W):
  tD ⟨H,W,C⟩ l c=⟨((H-Z)/S+1:Nat),((W-Z)/S+1:Nat),c⟩:=by
 have key:∀n:Nat,n<=8->Z<=n->i64.wrap ((i64.wrap ((i64.wrap ((n:Int)-(Z:Int))).tdiv (S:Int)))+1)=(((n-Z)/S+1:Nat):Int):=λn h1 h2=>by
  have e1:((n:Int)-(Z:Int))=((n-Z:Nat):Int):=by omega
  have e2:(((n-Z:Nat):Int)).tdiv (S:Int)=(((n-Z)/S:Nat):Int):=rfl;have e3:(n-Z)/S<=n-Z:=Nat.div_le_self _ _;rw[e1,aF (n:=((n-Z:Nat):Int)) (by omega) (by omega),e2];generalize (n-Z)/S=q at e3;rw[aF (n:=((q:Nat):Int)) (by omega) (by omega),aF (by omega) (by omega)];omega
 unfold tD;rw[hz,hs];simp only[key H h8 hzH,key W w8 hzW]
theorem FJ {n Z S:Nat} (h:n<=8) (h1:1<=Z) (h2:Z<=n):1<=(n-Z)/S+1/\(n-Z)/S+1<=8:=by
 have e3:(n-Z)/S<=n-Z:=Nat.div_le_self _ _;generalize (n-Z)/S=q at e3;omega
theorem Pm {H W Z S h w:Nat} (z1:1<=Z) (z3:Z<=3) (s1:1<=S) (s2:S<=2) (hzH:Z<=H) (hzW:Z<=W) (hh:h<(H-Z)/S+1) (hw:w<(W-Z)/S+1):Pg H W Z S h w:=by
 have a1:h*S<=H-Z:=(Nat.le_div_iff_mul_le (by omega)).1 (by omega);have a2:w*S<=W-Z:=(Nat.le_div_iff_mul_le (by omega)).1 (by omega);exact⟨z1,z3,s2,by omega,by omega⟩
theorem HP {l:aq} (h:Iu l=true):(1<=l.out/\l.out<=8)/\(l.my.length:Int)=l.out/\∀x∈l.weights,-128<=x/\x<=127:=by
 simp only[Iu,W3,aY,decide_eq_true_eq]at h;obtain⟨h1,h2,h3,h4,h5,h6,h7⟩:=h;unfold rh at h7;rw[Xv]at h7;exact⟨h1,h5,λx hx=>aY.1 (h7 x hx)⟩
theorem xQ {H W C:Nat} {xs:List Int} (r:md H W C xs) {l:aq} (hl:fC ⟨H,W,C⟩ l=true):
  ∃Z S H' W' C':Nat,l.size=Z/\l.step=S/\shapeOf ⟨H,W,C⟩ l=⟨H',W',C'⟩/\(1<=H'/\H'<=8)/\(1<=W'/\W'<=8)/\(1<=C'/\C'<=8)/\
   ∀h w o,h<H'->w<W'->o<C'->Fits H W C xs l Z S h w o:=by
 have hr:=r;obtain⟨h1,h8,w1,w8,c1,c8,hlen,QW⟩:=hr;have hsz:=r.size;unfold fC at hl;rw[W3]at hl;obtain⟨-,hl⟩:=hl;unfold shapeOf;by_cases k0:l.kind=0
 ·rw[decide_eq_true k0]at hl⊢;simp only[cond_true,W3,decide_eq_true_eq,oT]at hl;obtain⟨⟨z0,s0⟩,hn,hs,hw⟩:=hl;obtain⟨ho,hb,hi⟩:=HP hn;obtain⟨O,hO⟩:=xP ho (by omega);rw[hO]at ho hb;refine⟨0,0,1,1,O,by omega,by omega,by rw[cond_true,hO];rfl,by omega,by omega,by omega,λh w o _ _ hlt=>.Re k0 (by omega) (by omega) ?_⟩;rw[hO,hsz]at hw;have:((O:Int)*((H*W*C:Nat):Int))=((O*(H*W*C):Nat):Int):=(Ye _ _).symm;rw[this]at hw;have:(o+1)*(H*W*C)<=O*(H*W*C):=Xr _ hlt;rw[Xx,Nat.one_mul]at this;rw[hlen];omega
 rw[decide_eq_false k0]at hl⊢;simp only[cond_false]at hl⊢;by_cases k1:l.kind=1
 ·rw[decide_eq_true k1]at hl⊢;simp only[cond_true,W3,decide_eq_true_eq]at hl⊢;obtain⟨VT,hn,hw,hw6⟩:=hl;obtain⟨z1,z3,s1,s2,zh,zw⟩:=sq VT;obtain⟨ho,hb,hi⟩:=HP hn;obtain⟨O,hO⟩:=xP ho (by omega);obtain⟨Z,hZ⟩:=xP ⟨z1,z3⟩ (by omega);obtain⟨S,hS⟩:=xP ⟨s1,s2⟩ (by omega);rw[hO]at ho hb;rw[hZ]at z1 z3 zh zw;rw[hS]at s1 s2
  have zh:Z<=H:=by have:((Z:Nat):Int)<=(H:Int):=zh;omega
  have zw:Z<=W:=by have:((Z:Nat):Int)<=(W:Int):=zw;omega
  have d1:=FJ (S:=S) h8 (show 1<=Z by omega) zh;have d2:=FJ (S:=S) w8 (show 1<=Z by omega) zw;refine⟨Z,S,(H-Z)/S+1,(W-Z)/S+1,O,hZ,hS,by rw[zf hZ hS (by omega) h8 w8 zh zw,hO],d1,d2,by omega,λh w o hh hw2 hlt=>.conv k1 (by omega) (by omega) ?_ (Pm (by omega) (by omega) (by omega) (by omega) zh zw hh hw2) hi⟩;rw[hO,hZ]at hw
  have:((O:Int)*(Z:Int)*(Z:Int)*(C:Int))=((O*(Z*(Z*C)):Nat):Int):=by
   rw[Ye,Ye,Ye,ZB,ZB]
  have hw:(l.weights.length:Int)=(O:Int)*(Z:Int)*(Z:Int)*(C:Int):=hw;rw[this]at hw;have:(o+1)*(Z*(Z*C))<=O*(Z*(Z*C)):=Xr _ hlt;rw[Xx,Nat.one_mul]at this;omega
 rw[decide_eq_false k1]at hl⊢;simp only[cond_false]at hl⊢;by_cases k2:l.kind=2\/l.kind=3
 ·have hk:(decide (l.kind=2)||decide (l.kind=3))=true:=by simpa using k2
  rw[hk]at hl;simp only[cond_true,W3,decide_eq_true_eq]at hl;obtain⟨VT,hn,hw⟩:=hl;obtain⟨z1,z3,s1,s2,zh,zw⟩:=sq VT;obtain⟨Z,hZ⟩:=xP ⟨z1,z3⟩ (by omega);obtain⟨S,hS⟩:=xP ⟨s1,s2⟩ (by omega);rw[hZ]at z1 z3 zh zw;rw[hS]at s1 s2
  have zh:Z<=H:=by have:((Z:Nat):Int)<=(H:Int):=zh;omega
  have zw:Z<=W:=by have:((Z:Nat):Int)<=(W:Int):=zw;omega
  have d1:=FJ (S:=S) h8 (show 1<=Z by omega) zh;have d2:=FJ (S:=S) w8 (show 1<=Z by omega) zw;rw[decide_eq_false (show¬l.kind=4 by omega),decide_eq_false (show¬l.kind=5 by omega)];simp only[cond_false];refine⟨Z,S,(H-Z)/S+1,(W-Z)/S+1,C,hZ,hS,zf hZ hS (by omega) h8 w8 zh zw,d1,d2,by omega,λh w o hh hw2 hlt=>?_⟩;have v:=Pm (by omega) (by omega) (by omega) (by omega) zh zw hh hw2
  rcases k2 with k2|k2
  ·exact .max k2 v hlt
  ·exact .avg k2 v hlt
 have hk:(decide (l.kind=2)||decide (l.kind=3))=false:=by simpa using k2
 rw[hk]at hl;simp only[cond_false]at hl;by_cases k4:l.kind=4
 ·rw[decide_eq_true k4]at hl⊢;simp only[cond_true,W3,decide_eq_true_eq,oT,aY]at hl⊢;obtain⟨⟨z0,s0⟩,hn,hz⟩:=hl;exact⟨0,0,H,W,C,by omega,by omega,rfl,by omega,by omega,by omega,λh w o a b c=>.Vc k4 a b c hz⟩
 rw[decide_eq_false k4]at hl⊢;simp only[cond_false]at hl⊢;by_cases k5:l.kind=5
 ·rw[decide_eq_true k5]at hl⊢;simp only[cond_true,W3,decide_eq_true_eq,oT]at hl⊢;obtain⟨⟨z0,s0⟩,hn,hz,hs⟩:=hl;have p1:1<=H*W:=XW h1 w1;have p2:1<=H*W*C:=XW p1 c1;rw[hsz]at hs⊢;exact⟨0,0,1,1,H*W*C,by omega,by omega,rfl,by omega,by omega,by omega,λh w o a b c=>.flat k5 (by rw[hlen];exact c)⟩
 rw[decide_eq_false k5]at hl;exact nomatch hl
theorem MM {x d:Int} (hd:1<=d) (h1:-128*d<=x) (h2:x<=127*d):-128<=ig x d/\ig x d<=127:=by
 unfold ig;by_cases c:x<0
 ·rw[if_pos c];have a1:0<=(2*-x+d)/(2*d):=Int.ediv_nonneg (by omega) (by omega);have a2:(2*-x+d)/(2*d)<129:=Int.ediv_lt_of_lt_mul (by omega) (by omega);omega
 ·rw[if_neg c];have a1:0<=(2*x+d)/(2*d):=Int.ediv_nonneg (by omega) (by omega);have a2:(2*x+d)/(2*d)<128:=Int.ediv_lt_of_lt_mul (by omega) (by omega);omega
theorem Rg {H W C:Nat} {xs:List Int} (r:md H W C xs) {l:aq} {Z S h w o:Nat} (f:Fits H W C xs l Z S h w o):-128<=nz W C xs l Z S h w o/\nz W C xs l Z S h w o<=127:=by
 unfold nz
 cases f with
 |Re h0 hb h8 hw=>rw[h0];exact BI _
 |conv h0 hb h8 hw v hi=>rw[h0];exact BI _
 |max h0 v ho=>
  rw[h0];obtain⟨x,ys,e⟩:=BR (xs:=xs) (C:=C) (o:=o) v;show -128<=mf (jR W C xs Z S h w o)/\mf (jR W C xs Z S h w o)<=127;have:=z7 r v ho;rw[e]at this⊢
  exact this _ (sy ys x)
 |avg h0 v ho=>
  rw[h0];have hl:=pP (xs:=xs) (C:=C) (o:=o) v;have hb:=BQ (z7 r v ho);rw[hl.1]at hb;show -128<=ig (jR W C xs Z S h w o).sum ((Z*Z:Nat):Int)/\ig (jR W C xs Z S h w o).sum ((Z*Z:Nat):Int)<=127
  exact MM (by omega) hb.1 hb.2
 |Vc h0 h1 h2 h3 hz=>
  rw[h0];have:=K6 r h1 h2 h3;show -128<=(if atN W C xs h w o<l.zero then l.zero else atN W C xs h w o)/\(if atN W C xs h w o<l.zero then l.zero else atN W C xs h w o)<=127;by_cases c:atN W C xs h w o<l.zero
  ·rw[if_pos c];exact hz
  ·rw[if_neg c];exact this
 |flat h0 ho=>rw[h0];exact r.mem _ (zZ ho)
def runN (W C:Nat) (xs:List Int) (l:aq) (Z S H' W' C':Nat):List Int:=
 (List.range H').flatMap λh=>(List.range W').flatMap λw=>(List.range C').flatMap λo=>[nz W C xs l Z S h w o]
def Pn (t:aD) (l:aq):aD× Bool:=
 cond (t.okB&&fC t.sh l) (⟨shapeOf t.sh l,runN t.sh.w.toNat t.sh.c.toNat t.data l l.size.toNat l.step.toNat (shapeOf t.sh l).h.toNat (shapeOf t.sh l).w.toNat (shapeOf t.sh l).c.toNat⟩,true) (⟨kn,[]⟩,false)
theorem Rh (W C:Nat) (xs:List Int) (l:aq) (Z S H' W' C':Nat):(runN W C xs l Z S H' W' C').length=H'*(W'*(C'*1)):=
 iy _ _ _ λi hi=>iy _ _ _ λj hj=>iy _ _ _ λo ho=>rfl
theorem DY {t:aD} {l:aq} (h1:t.okB=true) (h2:fC t.sh l=true):(Pn t l).1.okB=true/\(Pn t l).1.sh=shapeOf t.sh l/\(Pn t l).2=true:=by
 obtain⟨H,W,C,r,e⟩:=FH h1
 have e2:t.sh=⟨H,W,C⟩:=by rw[e];rfl
 have h2':=h2;rw[e2]at h2';obtain⟨Z,S,H',W',C',hz,hs,hsh,a1,a2,a3,hf⟩:=xQ r h2';unfold Pn;rw[h1,h2];simp only[Bool.and_self,cond_true];refine And.intro ?_ (by simp);rw[e2,hsh,show l.size.toNat=Z from by omega,show l.step.toNat=S from by omega];simp only[W4];refine md.ok (H:=H') (W:=W') (C:=C') ⟨a1.1,a1.2,a2.1,a2.2,a3.1,a3.2,by rw[Rh,ZD,Nat.mul_assoc],λx hx=>?_⟩;unfold runN at hx;rw[YT]at hx;obtain⟨i,hi,hx⟩:=hx;rw[YT]at hx;obtain⟨j,hj,hx⟩:=hx;rw[YT]at hx;obtain⟨o,ho,hx⟩:=hx;rw[List.mem_range]at hi hj ho;rw[Yj]at hx;rw[hx];exact Rg r (hf i j o hi hj ho)
theorem FK {k:Nat} {t:aD} {l:aq} (hk:512<k) (hd:t.data.length<k) (hdN:t.data.length<=aO) (hl:l.tot<k) (hlN:l.tot<=aO):tx k t l=some (Pn t l):=by
 have hM:=ak;unfold tx Pn;rw[jJ hd (by unfold zP;omega),aa];cases h1:t.okB
 ·rfl
 simp only[Xa,cond_false,Xf];rw[l7 hl hlN,aa];unfold jK;cases h2:fC t.sh l
 ·rfl
 obtain⟨H,W,C,r,e⟩:=FH h1;obtain⟨sh,xs⟩:=t;have e2:sh=⟨H,W,C⟩:=congrArg aD.sh e;subst e2;obtain⟨Z,S,H',W',C',hz,hs,hsh,a1,a2,a3,hf⟩:=xQ r h2
 have hwN:l.weights.length<=aO:=by unfold aq.tot at hlN;omega
 simp only[cond_true,Xa,cond_false];rw[hsh,show l.size.toNat=Z from by omega,show l.step.toNat=S from by omega];simp only[W4]
 have m1:∀w:Nat,∀h:Nat,((List.range C').flatMap λo=>[nz W C xs l Z S h w o]).length<=8:=λw h=>by
  have:=mb (λo=>[nz W C xs l Z S h w o]) 1 C' (λ_ _=>Xt _);omega
 have m2:∀h:Nat,((List.range W').flatMap λw=>(List.range C').flatMap λo=>[nz W C xs l Z S h w o]).length<=64:=λh=>by
  have:=mb (λw=>(List.range C').flatMap λo=>[nz W C xs l Z S h w o]) 8 W' (λw _=>m1 w h);omega
 refine(fS H' 64 (λh=>(List.range W').flatMap λw=>(List.range C').flatMap λo=>[nz W C xs l Z S h w o]) [] (fin:=λy=>some ((⟨⟨H',W',C'⟩,y⟩:aD),true)) (λh _=>m2 h) (λh ys next hi hy=>?_) (λys next=>?_) (by omega)).trans (by rw[X5];rfl)
 ·simp only[lU];rw[ab,if_pos (by omega),ar hi (by omega)];refine fS W' 8 (λw=>(List.range C').flatMap λo=>[nz W C xs l Z S h w o]) ys (fin:=λy=>next (((h+1:Nat):Int),y)) (λw _=>m1 w h) (λw zs wA hj hz2=>?_) (λzs wA=>?_) (by omega)
  ·simp only[lT];rw[ab,if_pos (by omega),ar hj (by omega)];refine fS C' 1 (λo=>[nz W C xs l Z S h w o]) zs (fin:=λy=>wA (((w+1:Nat):Int),y)) (λ_ _=>Xt _) (λo us next3 ho hz3=>?_) (λus next3=>?_) (by omega)
   ·simp only[lS];simp only[Xg]at hy;have eq:=Pk (k:=k) r (l:=l) hk hwN hz hs (hf h w o hi hj ho);rw[ab,if_pos (by omega)];refine(congrArg (λo:Option Int=>o.bind _) eq).trans ?_;rw[aa,bO (by simp;omega),ar ho (by omega)]
   ·simp only[lS];rw[ab,if_neg (by omega)]
  ·simp only[lT];rw[ab,if_neg (by omega)]
 ·simp only[lU];rw[ab,if_neg (by omega)]
theorem FL {k:Nat} {t:aD} {l:aq} (hk:512<k) (hd:t.data.length<k) (hdN:t.data.length<=aO) (hl:l.tot<k) (hlN:l.tot<=aO):xE k t l=some (Pn t l):=by
 have hM:=ak;unfold xE Pn;rw[qP hl hlN,aa,l5 hd (by unfold zP;omega)];unfold jK;cases h2:fC t.sh l
 ·cases t.okB<;>rfl
 simp only[cond_true,Xa,cond_false,aa];cases h1:t.okB
 ·rfl
 simp only[Xa,cond_false,Bool.and_self,cond_true];obtain⟨H,W,C,r,e⟩:=FH h1;obtain⟨sh,xs⟩:=t;have e2:sh=⟨H,W,C⟩:=congrArg aD.sh e;subst e2;obtain⟨Z,S,H',W',C',hz,hs,hsh,a1,a2,a3,hf⟩:=xQ r h2
 have hwN:l.weights.length<=aO:=by unfold aq.tot at hlN;omega
 rw[hsh,show l.size.toNat=Z from by omega,show l.step.toNat=S from by omega];simp only[W4]
 have m1:∀w:Nat,∀h:Nat,((List.range C').flatMap λo=>[nz W C xs l Z S h w o]).length<=8:=λw h=>by
  have:=mb (λo=>[nz W C xs l Z S h w o]) 1 C' (λ_ _=>Xt _);omega
 have m2:∀h:Nat,((List.range W').flatMap λw=>(List.range C').flatMap λo=>[nz W C xs l Z S h w o]).length<=64:=λh=>by
  have:=mb (λw=>(List.range C').flatMap λo=>[nz W C xs l Z S h w o]) 8 W' (λw _=>m1 w h);omega
 refine(fS H' 64 (λh=>(List.range W').flatMap λw=>(List.range C').flatMap λo=>[nz W C xs l Z S h w o]) [] (fin:=λy=>some ((⟨⟨H',W',C'⟩,y⟩:aD),true)) (λh _=>m2 h) (λh ys next hi hy=>?_) (λys next=>?_) (by omega)).trans (by rw[X5];rfl)
 ·simp only[qJ];rw[ab,if_pos (by omega),ar hi (by omega)];refine fS W' 8 (λw=>(List.range C').flatMap λo=>[nz W C xs l Z S h w o]) ys (fin:=λy=>next (((h+1:Nat):Int),y)) (λw _=>m1 w h) (λw zs wA hj hz2=>?_) (λzs wA=>?_) (by omega)
  ·simp only[qI];rw[ab,if_pos (by omega),ar hj (by omega)];refine fS C' 1 (λo=>[nz W C xs l Z S h w o]) zs (fin:=λy=>wA (((w+1:Nat):Int),y)) (λ_ _=>Xt _) (λo us next3 ho hz3=>?_) (λus next3=>?_) (by omega)
   ·simp only[qH];simp only[Xg]at hy;have eq:=Pj (k:=k) r (l:=l) hk hwN hz hs (hf h w o hi hj ho);rw[ab,if_pos (by omega)];refine(congrArg (λo:Option Int=>o.bind _) eq).trans ?_;rw[aa,bO (by simp;omega),ar ho (by omega)]
   ·simp only[qH];rw[ab,if_neg (by omega)]
  ·simp only[qI];rw[ab,if_neg (by omega)]
 ·simp only[qJ];rw[ab,if_neg (by omega)]
end
section
end
section
end
section
def BS:aq:=⟨0,0,0,0,0,0,0,[],[]⟩
theorem DZ:∀(ls:List aq) (s:Shape) (t:List Shape),bS s ls=some t->∀i,i<ls.length->fC ((s::t).getD i kn) (ls.getD i BS)=true/\(s::t).getD (i+1) kn=shapeOf ((s::t).getD i kn) (ls.getD i BS)
 |[],s,t,h,i,hi=>by simp at hi
 |l::ls,s,t,h,i,hi=>by
  simp only[bS]at h;cases hb:fC s l<;>simp only[hb,cond_true,cond_false]at h
  ·exact nomatch h
  ·obtain⟨t',h1,rfl⟩:=Xb.1 h
   cases i with
   |zero=>exact⟨hb,rfl⟩
   |succ i=>exact DZ ls (shapeOf s l) t' h1 i (by simpa using hi)
theorem tI {m:Model} (h:eu m=true):(1<=m.aE.length/\m.aE.length<=6)/\∀i,i<m.aE.length->fC ((bZ m).getD i kn) (m.aE.getD i BS)=true/\(bZ m).getD (i+1) kn=shapeOf ((bZ m).getD i kn) (m.aE.getD i BS):=by
 unfold bZ;rw[h,cond_true];unfold eu at h;unfold dT at h⊢;cases h1:(m.inp.okB&&inB (m.aE.length:Int) 1 6)<;>rw[h1]at h
 ·exact nomatch h
 ·simp only[cond_true]at h⊢;rw[W3,aY]at h1
  cases h2:bS m.inp m.aE with
  |none=>rw[h2]at h;exact nomatch h
  |some t=>exact⟨by omega,DZ m.aE m.inp t h2⟩
theorem jM {j:Job} (h:wJ j=true):eu j.model=true/\(0<=j.at_/\j.at_<=j.model.aE.length)/\j.act.okB=true/\j.act.sh=(bZ j.model).getD j.at_.toNat kn/\j.jQ=VP ((bj j.model).take j.at_.toNat):=by
 unfold wJ at h;simp only[W3,aY,decide_eq_true_eq]at h;exact h
theorem Po {j:Job} (h:wJ j=true):j.act.data.length<=512/\j.tot<=j.model.tot+512:=by
 have h1:=(jM h).2.2.1;unfold aD.okB at h1;simp only[W3,decide_eq_true_eq]at h1;have:=Shape.Fp j.act.sh;unfold Job.tot aD.tot;omega
def BT (j:Job):aq:=j.model.aE.getD j.at_.toNat BS
def MN (j:Job):Int:=(bj j.model).getD j.at_.toNat 0
def xR (j:Job):Job:=⟨j.model,j.at_+1,(Pn j.act (BT j)).1,i64.wrap (j.jQ+MN j)⟩
theorem Pp {j:Job} (h:wJ j=true) (hd:j.at_≠(j.model.aE.length:Int)):wJ (xR j)=true:=by
 obtain⟨hm,hat,hok,hsh,hsp⟩:=jM h;obtain⟨hlen,hg⟩:=tI hm;obtain⟨hl,hs⟩:=hg j.at_.toNat (by omega);rw[<-hsh]at hl hs;obtain⟨r1,r2,r3⟩:=DY hok hl;have hcl:=iY hm
 have hi:j.at_.toNat<(bj j.model).length:=by omega
 have e:(j.at_+1).toNat=j.at_.toNat+1:=by omega
 unfold wJ xR;simp only[W3,aY,decide_eq_true_eq,hm,true_and,e];refine⟨by omega,r1,?_,?_⟩
 ·show(Pn j.act (BT j)).1.sh=_;rw[hs];exact r2
 ·unfold VP MN;rw[dh hi,X3,db hi,hsp];rfl
theorem Tn {V R:Type} {g:V->(V->Option R)->Option R} {fin:V->Option R} {st:Nat->V} {n:Nat} {k:Nat} (h:∀i,i<n->∀next,g (st i) next=next (st (i+1))) (hn:∀next,g (st n) next=fin (st n)) (hk:n<k):iter g k (st 0)=fin (st n):=
 ff (g:=g) (st:=st) (n:=n) (r:=fin (st n)) h hn hk
theorem JT {k:Nat} {j:Job} (hk:j.tot+8<k) (hN:j.tot<=aO) (h:wJ j=true):zV k j=some ((bj j.model).drop j.at_.toNat):=by
 have hM:=ak;obtain⟨hm,hat,hok,hsh,hsp⟩:=jM h;obtain⟨hlen,hg⟩:=tI hm;have hcl:=iY hm;have ht:j.tot=j.model.tot+(j.act.tot+0):=rfl;unfold zV;rw[tE (by omega) hN,aa,h];simp only[Xa,cond_false];rw[ln (by omega) (by omega),aa]
 have e0:(j.at_,([]:List Int))=(((j.at_.toNat+0:Nat):Int),((bj j.model).drop j.at_.toNat).take 0):=by
  rw[Zb];congr 1;omega
 rw[e0];refine(Tn (g:=λu5 n5=>nc k (bj j.model) u5 n5 (λy4=>some y4)) (fin:=λv=>some v.2) (st:=λi=>(((j.at_.toNat+i:Nat):Int),((bj j.model).drop j.at_.toNat).take i)) (n:=(bj j.model).length-j.at_.toNat) (λi hi next=>?_) (λnext=>?_) (by omega)).trans ?_
 ·have hi2:j.at_.toNat+i<(bj j.model).length:=by omega
  have hi3:i<((bj j.model).drop j.at_.toNat).length:=by simp;omega
  simp only[nc];rw[ab,if_pos (by omega),ab,if_pos (by omega),W4,ai hi2,aa,bO (by simp;omega),ar hi2 (by omega),dh hi3,List.getElem_drop];rfl
 ·simp only[nc];rw[ab,if_neg (by omega)]
 ·rw[Yz (by simp)]
theorem JU {k:Nat} {j:Job} (hk:j.tot+8<k) (hN:j.tot<aO) (h:wJ j=true):Fm k j=some ((bj j.model).drop j.at_.toNat):=by
 obtain⟨hm,hat,hok,hsh,hsp⟩:=jM h;have hcl:=iY hm;have ht:j.tot=j.model.tot+(j.act.tot+0):=rfl;unfold Fm;rw[DN (by omega) hN,aa,h];simp only[Xa,cond_false];rw[lq (by omega) (by omega),aa,ab,if_pos (by omega),Yz (by simp)]
theorem Pq (xs:List Int) (n:Nat):(xs.drop n)[0]? =if n<xs.length then some (xs.getD n 0)else none:=by
 rw[Xl,XB];by_cases c:n<xs.length
 ·rw[if_pos c,ai c,db c]
 ·rw[if_neg c,Xy (by omega)]
theorem HQ {xs:List Int} {n:Nat} (h:¬n<xs.length):xs.getD n 0=0:=by
 rw[XR,Xy (by omega)];rfl
theorem FM {k:Nat} {j:Job} (hk:j.tot+8<k) (hN:j.tot<=aO) (h:wJ j=true):tz k j=some (MN j):=by
 unfold tz MN;rw[JT hk hN h,aa,JN,ab,XZ];by_cases c:j.at_.toNat<(bj j.model).length
 ·rw[if_neg (by omega),ab,if_pos (by omega)];show(((bj j.model).drop j.at_.toNat)[0]?).bind _=_;rw[Pq,if_pos c,aa]
 ·rw[if_pos (by omega),HQ c]
theorem FN {k:Nat} {j:Job} (hk:j.tot+8<k) (hN:j.tot<aO) (h:wJ j=true):xC k j=some (MN j):=by
 unfold xC MN;rw[JU hk hN h,aa,JN,ab,XZ];by_cases c:j.at_.toNat<(bj j.model).length
 ·rw[if_neg (by omega),zO,Pq,if_pos c,aa]
 ·rw[if_pos (by omega),HQ c]
theorem HR {k:Nat} {j:Job} (hk:j.tot<k) (hN:j.tot<=aO):vV k j=some j:=by
 have ht:j.tot=j.model.tot+(j.act.data.length+0+0):=rfl;unfold vV;rw[yX (by omega) (by omega),aa,yU (by omega) (by omega),aa]
def Ri (j:Job):Job× Bool:=cond (wJ j&&!(j.at_==(j.model.aE.length:Int))) (xR j,true) (j,false)
theorem HS {k:Nat} {j:Job} (hk:j.tot<k) (hN:j.tot<=aO) (h:wJ j=true):vW k j=some (j.at_==(j.model.aE.length:Int)):=by
 unfold vW;rw[tE hk hN,aa,h];rfl
theorem HT {j:Job} (h:wJ j=true) (hd:j.at_≠(j.model.aE.length:Int)):j.model.aE[j.at_.toNat]? =some (BT j)/\(BT j).tot<=j.model.tot:=by
 obtain⟨hm,hat,hok,hsh,hsp⟩:=jM h
 have hi:j.at_.toNat<j.model.aE.length:=by omega
 unfold BT;rw[db hi];have:=jy aq.tot (W9 hi);exact⟨ai hi,by unfold Model.tot;omega⟩
theorem zg {k:Nat} {j:Job} (hk:j.tot+513<k) (hN:j.tot<=aO):v7 k j=some (Ri j):=by
 have hM:=ak;have ht:j.tot=j.model.tot+(j.act.data.length+0+0):=rfl;unfold v7 Ri;rw[HR (by omega) hN,aa,tE (by omega) hN,aa];cases h:wJ j
 ·rfl
 simp only[Xa,cond_false,Xf];rw[HS (by omega) hN h,aa,JN];obtain⟨hm,hat,hok,hsh,hsp⟩:=jM h;obtain⟨hlen,_⟩:=tI hm;by_cases c:j.at_=(j.model.aE.length:Int)
 ·rw[decide_eq_true c];rfl
 rw[decide_eq_false c];simp only[cond_false,XA,cond_true];obtain⟨hl,hlt⟩:=HT h c;rw[j9 _ hat.1,hl,aa,FK (by omega) (by omega) (by omega) (by omega) (by omega),aa,FM (by omega) hN h,aa,aF (n:=j.at_+1) (by omega) (by omega)];rfl
end
section
end
section
theorem qS (b c:Bool):cond b (some c) (some false)=some (b&&c):=by cases b<;>rfl
theorem RZ (a b:Int):decide (a>=b)=!decide (a<b):=by rw[<-decide_not];exact decide_eq_decide.2 (by omega)
theorem Pt (a b:Int):decide (a>b)=!decide (a<=b):=by rw[<-decide_not];exact decide_eq_decide.2 (by omega)
theorem HU {R:Type} (n:Nat) (p:Nat->Bool) {g:Int->(Int->Option R)->Option R} {yes no:Option R}
  (h:∀(i:Nat) (hi:i<n) (next:Int->Option R),g (i:Int) next=cond (p i) (next ((i+1:Nat):Int)) no)
  (hn:∀next,g (n:Int) next=yes) {k:Nat} (hk:n<k):iter g k 0=cond ((List.range n).all p) yes no:=
 nO (List.range n) p (g:=g) (yes:=yes) (no:=no) (λi hi next=>by rw[h i (by simpa using hi)];simp) (λnext=>by simpa using hn next) (by simpa using hk)
theorem qT {α β R:Type} (xs:List α) (p:α->Bool) (f:α->β) {g:Int× List β->(Int× List β->Option R)->Option R} {fin:List β->Option R}
  (h:∀(i:Nat) (ys:List β) (hi:i<xs.length) (next:Int× List β->Option R),ys.length<=i->g ((i:Int),ys) next=cond (p xs[i]) (next (((i+1:Nat):Int),ys++[f xs[i]])) (next (((i+1:Nat):Int),ys)))
  (hn:∀ys next,g ((xs.length:Int),ys) next=fin ys) {k:Nat} (hk:xs.length<k):iter g k (0,[])=fin ((xs.filter p).map f):=by
 have:=ff (g:=g) (st:=λi=>((i:Int),((xs.take i).filter p).map f)) (n:=xs.length) (r:=fin ((xs.filter p).map f)) (λi hi next=>by
  rw[h i _ hi next (by simp only[List.length_map];exact Ys (YW _ _) (by simp;omega)),dh hi,YV,Yl];cases hp:p xs[i]
  ·simp[hp]
  ·simp[hp]) (λnext=>by rw[XO];exact hn _ _) hk
 simpa using this
theorem BU {α:Type} {f:α->Int} {B:Int}:∀(xs:List α) (hf:∀x∈xs,0<=f x/\f x<=B),0<=(xs.map f).sum/\(xs.map f).sum<=B*xs.length
 |[],_=>by simp
 |x::xs,hf=>by
  have:=BU xs λy hy=>hf y (by simp[hy]);have h2:=hf x (by simp);simp only[XQ,YS,W7];rw[Int.natCast_add,Int.mul_add];omega
theorem K8 {α R:Type} (xs:List α) (f:α->Int) {B:Int} (hf:∀x∈xs,0<=f x/\f x<=B) {g:Int× Int->(Int× Int->Option R)->Option R} {fin:Int->Option R}
  (h:∀(i:Nat) (s:Int) (hi:i<xs.length) (next:Int× Int->Option R),0<=s->s<=B*i->g (s,(i:Int)) next=next (s+f xs[i],((i+1:Nat):Int)))
  (hn:∀s next,g (s,(xs.length:Int)) next=fin s) {k:Nat} (hk:xs.length<k):iter g k (0,0)=fin ((xs.map f).sum):=by
 have:=ff (g:=g) (st:=λi=>(((xs.take i).map f).sum,(i:Int))) (n:=xs.length) (r:=fin ((xs.map f).sum)) (λi hi next=>by
  have hb:=BU (f:=f) (B:=B) (xs.take i) (λx hx=>hf x (X8 hx));rw[Xw,YR (by omega)]at hb;rw[h i _ hi next hb.1 hb.2,dh hi,Yl,YZ]
  simp) (λnext=>by rw[XO];exact hn _ _) hk
 simpa using this
theorem HV {R:Type} (xs:List Int) (a:Nat) (ha:a<=xs.length) {B:Int} (hB:0<=B) (hf:∀x∈xs,0<=x/\x<=B) {g:Int× Int->(Int× Int->Option R)->Option R} {fin:Int->Option R}
  (h:∀(i:Nat) (s:Int) (hi:i<xs.length) (next:Int× Int->Option R),0<=s->s<=B*i->g (s,(i:Int)) next=next (s+xs[i],((i+1:Nat):Int)))
  (hn:∀s next,g (s,(xs.length:Int)) next=fin s) {k:Nat} (hk:xs.length<k):iter g k (0,(a:Int))=fin ((xs.drop a).sum):=by
 have:=ff (g:=g) (st:=λi=>(((xs.drop a).take i).sum,((a+i:Nat):Int))) (n:=xs.length-a) (r:=fin ((xs.drop a).sum)) (λi hi next=>by
  have hb:=BU (f:=λx:Int=>x) (B:=B) ((xs.drop a).take i) (λx hx=>hf x (Zc (X8 hx)));rw[Xw,XZ,YR (by omega),Zv]at hb;have hle:B*(i:Int)<=B*((a+i:Nat):Int):=Int.mul_le_mul_of_nonneg_left (by omega) hB;rw[h (a+i) _ (by omega) next hb.1 (by omega),dh (show i<(xs.drop a).length by simp;omega),YZ]
  simp[XX]) (λnext=>by
   rw[show a+(xs.length-a)=xs.length by omega,Yz (by simp)];exact hn _ _) (k:=k) (by omega)
 simpa using this
def je (t:Task):Bool:=inB t.id 1 1000000&&(inB (t.ax.length:Int) 1 6&&(inB t.at_ 0 ((t.ax.length:Int)-1)&&(inB t.due 0 1000000&&(inB t.born 0 1000000&&t.ax.all λx=>inB x 1 1000))))
theorem bT {t:Task} (h:je t=true):(1<=t.id/\t.id<=1000000)/\(1<=t.ax.length/\t.ax.length<=6)/\(0<=t.at_/\t.at_<t.ax.length)/\(0<=t.due/\t.due<=1000000)/\(0<=t.born/\t.born<=1000000)/\∀x∈t.ax,1<=x/\x<=1000:=by
 unfold je inB at h;simp only[W3,decide_eq_true_eq,Xv]at h;obtain⟨h1,h2,h3,h4,h5,h6⟩:=h;exact⟨h1,by omega,by omega,h4,h5,h6⟩
theorem sA (k:Nat) (x:Int):k7 k x=some (inB x 0 1000000):=by unfold k7;rw[bR];rfl
theorem uZ (k:Nat) (x:Int):qx k x=some (inB x 0 1000000):=by unfold qx;rw[fH];rfl
theorem BV {k:Nat} {t:Task} (hk:t.ax.length<k) (hN:t.ax.length<=aO):vO k t=some (je t):=by
 have hM:=ak;unfold vO je;simp only[bR,sA,aa,cond_not]
 rw[aF (by omega) (by omega),nO t.ax (λx=>inB x 1 1000) (yes:=some true) (no:=some false) (λi hi next=>by
  simp only[qv]
  rw[ab,if_pos (by omega),aL,ai hi,aa,bR,aa,cond_not,ar hi (by omega)]) (λnext=>by
  simp only[qv];rw[ab,if_neg (by omega)]) hk]
 simp only[qS,Zf]
theorem BW {k:Nat} {t:Task} (hk:t.ax.length<k) (hN:t.ax.length<=aO):zU k t=some (je t):=by
 have hM:=ak;unfold zU dw dQ je
 rw[er t.ax (λx=>!inB x 1 1000) (λi hi next=>by
  simp only[bU,ab,Bg,fH,aa]
  rw[if_pos (by omega),aL,ai hi,aa,ar hi (by omega)]) (λnext=>by
  simp only[bU,ab];rw[if_neg (by omega)]) hk]
 rw[cI];simp only[fH,uZ,aa,mv];rw[aF (by omega) (by omega),Yv];simp only[Zt,qS]
 congr 1
 generalize inB t.id 1 1000000=a;generalize inB (t.ax.length:Int) 1 6=b;generalize inB t.at_ 0 ((t.ax.length:Int)-1)=c;generalize inB t.due 0 1000000=d;generalize inB t.born 0 1000000=e;generalize (t.ax.all λx=>inB x 1 1000)=f;cases a<;>cases b<;>cases c<;>cases d<;>cases e<;>cases f<;>rfl
def lr (ts:List Task) (id:Int):Int:=(ts.findIdx? λt=>t.id==id).elim (-1) λi=>(i:Int)
theorem mx {k:Nat} {s:al} {id:Int} (hk:s.tasks.length<k) (hN:s.tasks.length<=aO):lF k s id=some (lr s.tasks id):=by
 have hM:=ak;unfold lF lr
 rw[er s.tasks (λt=>t.id==id) (yes:=some (-1)) (no:=some) (λi hi next=>by
  simp only[tc]
  rw[ab,if_pos (by omega),aL,ai hi,aa,ar hi (by omega)]) (λnext=>by
  simp only[tc];rw[ab,if_neg (by omega)]) hk]
 exact cI _
theorem wB {k:Nat} {s:al} {id:Int} (hk:s.tasks.length<k) (hN:s.tasks.length<=aO):dI k s id=some (lr s.tasks id):=by
 have hM:=ak;unfold dI eR lr
 rw[er s.tasks (λt=>t.id==id) (yes:=some (-1)) (no:=some) (λi hi next=>by
  simp only[cJ,pz,decide_true,cond_true,aa]
  rw[ab,if_pos (by omega),aL,ai hi,aa,ar hi (by omega)]) (λnext=>by
  simp only[cJ,decide_true,cond_true];rw[ab,if_neg (by omega)]) hk]
 rw[cI];rfl
def ia (s:al):Bool:=(List.range s.tasks.length).all λi=>(s.tasks[i]?).elim false λt=>je t&&(decide (t.id<s.next)&&(decide (t.born<=s.now)&&(cond (decide (0<i)) ((s.tasks[i-1]?).elim false λu=>decide (u.id<t.id)) true)))
def Na (s:al):Bool:=cond (s.run==0) (s.left==0) ((s.tasks.findIdx? λt=>t.id==s.run).elim false λi=>(s.tasks[i]?).elim false λt=>(idx t.ax t.at_).elim false λc=>inB s.left 1 c)
def bE (s:al):Bool:=inB s.now 0 1000000&&(inB s.aj 0 1000&&(inB s.age 0 20&&(decide ((s.tasks.length:Int)<=12)&&(inB s.turns 0 1000000&&(inB s.next 1 1000000&&(ia s&&Na s))))))
theorem bX {s:al} (h:ia s=true) {i:Nat} (hi:i<s.tasks.length):je s.tasks[i]=true/\s.tasks[i].id<s.next/\s.tasks[i].born<=s.now/\∀j,(hj:j+1=i)->s.tasks[j].id<s.tasks[i].id:=by
 unfold ia at h;rw[Xv]at h;have:=h i (by simpa using hi);rw[ai hi,W8]at this;simp only[W3,decide_eq_true_eq]at this;obtain⟨h1,h2,h3,h4⟩:=this;refine⟨h1,h2,h3,λj hj=>?_⟩;subst hj;rw[decide_eq_true (by omega),cond_true,Nat.add_sub_cancel,ai (show j<s.tasks.length by omega),W8]at h4;exact of_decide_eq_true h4
theorem K9 {s:al} (h:ia s=true):∀(d i:Nat) (hd:i+d+1<s.tasks.length),s.tasks[i].id<s.tasks[i+d+1].id
 |0,i,hd=>(bX h hd).2.2.2 i rfl
 |d+1,i,hd=>Int.lt_trans (K9 h d i (by omega)) ((bX h (i:=i+(d+1)+1) hd).2.2.2 (i+d+1) (by omega))
theorem Pu {s:al} (h:ia s=true) {i j:Nat} (hi:i<s.tasks.length) (hj:j<s.tasks.length) (e:s.tasks[i].id=s.tasks[j].id):i=j:=by
 rcases Y8 i j with c|c|c
 ·obtain⟨d,rfl⟩:∃d,j=i+d+1:=⟨j-i-1,by omega⟩;have:=K9 h d i hj;omega
 ·exact c
 ·obtain⟨d,rfl⟩:∃d,i=j+d+1:=⟨i-j-1,by omega⟩;have:=K9 h d j hi;omega
theorem FO {s:al} (h:ia s=true) {i:Nat} (hi:i<s.tasks.length):(s.tasks.findIdx? λt=>t.id==s.tasks[i].id)=some i:=by
 cases e:s.tasks.findIdx? λt=>t.id==s.tasks[i].id with
 |none=>
  rw[X9]at e;have:=e _ (W9 hi)
  simp at this
 |some j=>
  obtain⟨hj,hp,_⟩:=Yf.1 e;rw[Pu h hj hi (by simpa using hp)]
theorem sB {ts:List Task} {id:Int} {i:Nat} (h:(ts.findIdx? λt=>t.id==id)=some i):∃hi:i<ts.length,ts[i].id=id:=by
 obtain⟨hi,hp,_⟩:=Yf.1 h;exact⟨hi,by simpa using hp⟩
theorem La {s:al} (h:ia s=true) (i:Nat) (hi:(s.tasks.findIdx? λt=>t.id==s.run)=some i):
  ((idx s.tasks (i:Int)).bind λe8=>(idx s.tasks (i:Int)).bind λe9=>(idx e8.ax e9.at_).bind λe10=>some (inB s.left (1:Int) e10))=
  some ((s.tasks[i]?).elim false λt=>(idx t.ax t.at_).elim false λc=>inB s.left 1 c):=by
 obtain⟨hl,_⟩:=sB hi;have ht:=bT (bX h hl).1;rw[aL,ai hl,aa,aa,W8]
 have:idx s.tasks[i].ax s.tasks[i].at_=some (s.tasks[i].ax[s.tasks[i].at_.toNat]'(by omega)):=by
  rw[j9 _ ht.2.2.1.1];exact ai _
 rw[this,aa,W8]
theorem jc {ts:List Task} {id:Int} {i:Nat} (h:(ts.findIdx? λt=>t.id==id)=some i):lr ts id=(i:Int):=by unfold lr;rw[h];rfl
theorem xS {ts:List Task} {id:Int} (h:(ts.findIdx? λt=>t.id==id)=none):lr ts id=-1:=by unfold lr;rw[h];rfl
theorem D0 {R:Type} {s:al} {i:Nat} (hi:i<s.tasks.length) (hN:s.tasks.length<=aO) {next no:Option R}:
  (cond (!je s.tasks[i]) no (cond (decide (s.tasks[i].id>=s.next)) no (cond (decide (s.tasks[i].born>s.now)) no (cond (decide ((i:Int)>(0:Int))) ((idx s.tasks (i64.wrap ((i:Int)-(1:Int)))).bind λe8=>cond (decide (e8.id>=s.tasks[i].id)) no next) next))))=
  cond ((s.tasks[i]?).elim false λt=>je t&&(decide (t.id<s.next)&&(decide (t.born<=s.now)&&(cond (decide (0<i)) ((s.tasks[i-1]?).elim false λu=>decide (u.id<t.id)) true)))) next no:=by
 have hM:=ak;rw[ai hi,W8,RZ s.tasks[i].id s.next,Pt s.tasks[i].born s.now];simp only[cond_not]
 cases i with
 |zero=>
  rw[decide_eq_false (show¬(((0:Nat):Int)>0) by omega),decide_eq_false (show¬(0<0) by omega)];simp only[cond_false,Zf]
  cases je s.tasks[0]<;>cases decide (s.tasks[0].id<s.next)<;>cases decide (s.tasks[0].born<=s.now)<;>rfl
 |succ j=>
  rw[decide_eq_true (show(((j+1:Nat):Int)>0) by omega),decide_eq_true (show(0<j+1) by omega),aF (by omega) (by omega),show((j+1:Nat):Int)-1=(j:Int)from by omega,aL,Nat.add_sub_cancel,ai (show j<s.tasks.length by omega),aa,W8,RZ s.tasks[j].id];simp only[cond_true,cond_not];cases je s.tasks[j+1]<;>cases decide (s.tasks[j+1].id<s.next)<;>cases decide (s.tasks[j+1].born<=s.now)<;>cases decide (s.tasks[j].id<s.tasks[j+1].id)<;>rfl
theorem ek {k:Nat} {s:al} (hk:s.tot<k) (hN:s.tot<=aO):fl k s=some (bE s):=by
 have hM:=ak;unfold al.tot at hk hN;have hlen:=bu Task.tot s.tasks;unfold fl bE;rw[Pt (s.tasks.length:Int) 12];simp only[bR,sA,aa,cond_not]
 rw[HU s.tasks.length (λi=>(s.tasks[i]?).elim false λt=>je t&&(decide (t.id<s.next)&&(decide (t.born<=s.now)&&(cond (decide (0<i)) ((s.tasks[i-1]?).elim false λu=>decide (u.id<t.id)) true)))) (λi hi next=>by
  have hm:=jy Task.tot (W9 hi);have hm0:s.tasks[i].tot=s.tasks[i].ax.length+0:=rfl;simp only[nQ];rw[ab,if_pos (by omega),aL,ai hi,aa,BV (by omega) (by omega),aa,ar hi (by omega)]
  exact(D0 hi (by omega)).trans (by rw[ai hi])) (λnext=>by
  simp only[nQ];rw[ab,if_neg (by omega)]) (by omega)]
 rw[show((List.range s.tasks.length).all λi=>(s.tasks[i]?).elim false λt=>je t&&(decide (t.id<s.next)&&(decide (t.born<=s.now)&&(cond (decide (0<i)) ((s.tasks[i-1]?).elim false λu=>decide (u.id<t.id)) true))))=ia s from rfl]
 have hr:ia s=true->cond (s.run==(0:Int)) (some (s.left==(0:Int))) (cond (decide (lr s.tasks s.run>=(0:Int))) ((idx s.tasks (lr s.tasks s.run)).bind λe11=>(idx s.tasks (lr s.tasks s.run)).bind λe12=>(idx e11.ax e12.at_).bind λe13=>some (inB s.left (1:Int) e13)) (some false))=some (Na s):=by
  intro h;unfold Na;cases s.run==0
  ·simp only[cond_false]
   cases hf:s.tasks.findIdx? λt=>t.id==s.run with
   |none=>rw[xS hf];rfl
   |some i=>rw[jc hf,ab,if_pos (by omega),La h i hf];rfl
  ·rfl
 simp only[mx (s:=s) (id:=s.run) (k:=k) (by omega) (by omega),aa];cases h:ia s
 ·simp only[cond_false,X4];simp only[qS,YM]
 ·simp only[cond_true,Xf,hr h,qS]
theorem FQ {k:Nat} {s:al} (hk:s.tot<k) (hN:s.tot<=aO):lG k s=some (ia s&&decide ((s.tasks.length:Int)<=12)):=by
 have hM:=ak;unfold al.tot at hk hN;have hlen:=bu Task.tot s.tasks;unfold lG
 rw[HU s.tasks.length (λi=>(s.tasks[i]?).elim false λt=>je t&&(decide (t.id<s.next)&&(decide (t.born<=s.now)&&(cond (decide (0<i)) ((s.tasks[i-1]?).elim false λu=>decide (u.id<t.id)) true)))) (λi hi next=>by
  have hm:=jy Task.tot (W9 hi);have hm0:s.tasks[i].tot=s.tasks[i].ax.length+0:=rfl;simp only[iI];rw[ab,if_pos (by omega),aL,ai hi,aa,BW (by omega) (by omega),aa,ar hi (by omega)]
  exact(D0 hi (by omega)).trans (by rw[ai hi])) (λnext=>by
  simp only[iI];rw[ab,if_neg (by omega)]) (by omega)]
 exact qS _ _
theorem ov {k:Nat} {s:al} (hk:s.tot<k) (hN:s.tot<=aO):sa k s=some (bE s):=by
 have hM:=ak;have hk2:=hk;have hN2:=hN;unfold al.tot at hk hN;have hlen:=bu Task.tot s.tasks;unfold sa bE;simp only[fH,uZ,aa,cond_not,FQ hk2 hN2,wB (s:=s) (id:=s.run) (k:=k) (by omega) (by omega)]
 have hr:ia s=true->cond (s.run==(0:Int)) (cond (s.run==(0:Int)) (some (s.left==(0:Int))) (some false)) (cond (decide (lr s.tasks s.run<(0:Int))) (cond (s.run==(0:Int)) (some (s.left==(0:Int))) (some false)) ((idx s.tasks (lr s.tasks s.run)).bind λe8=>(idx s.tasks (lr s.tasks s.run)).bind λe9=>(idx e8.ax e9.at_).bind λe10=>some (inB s.left (1:Int) e10)))=some (Na s):=by
  intro h;unfold Na;cases s.run==0
  ·simp only[cond_false]
   cases hf:s.tasks.findIdx? λt=>t.id==s.run with
   |none=>rw[xS hf];rfl
   |some i=>rw[jc hf,ab,if_neg (by omega),La h i hf];rfl
  ·rfl
 cases h:ia s
 ·simp only[cond_false,X4];simp only[qS,YM]
 ·rw[hr h];simp only[Xf,qS]
  congr 1
  generalize inB s.now 0 1000000=a;generalize inB s.aj 0 1000=b;generalize inB s.age 0 20=c;generalize decide ((s.tasks.length:Int)<=12)=d;generalize inB s.turns 0 1000000=e;generalize inB s.next 1 1000000=f;generalize Na s=g;cases a<;>cases b<;>cases c<;>cases d<;>cases e<;>cases f<;>cases g<;>rfl
theorem br {s:al} (h:bE s=true):(0<=s.now/\s.now<=1000000)/\(0<=s.aj/\s.aj<=1000)/\(0<=s.age/\s.age<=20)/\s.tasks.length<=12/\(0<=s.turns/\s.turns<=1000000)/\(1<=s.next/\s.next<=1000000)/\ia s=true/\Na s=true:=by
 unfold bE inB at h;simp only[W3,decide_eq_true_eq]at h;obtain⟨h1,h2,h3,h4,h5,h6,h7,h8⟩:=h;exact⟨h1,h2,h3,by omega,h5,h6,h7,h8⟩
end
end Go.Proofs.Ev
