/- Typed functions and what holds of them: part 4. -/
import Derived.Test.YtkjdnpefjebmlaaGreatDoorEvL3
set_option linter.unusedVariables false
set_option linter.unusedSimpArgs false
set_option linter.unusedSectionVars false
namespace Go.Proofs.Ev
open IntKind(i64 u8 u64)
set_option maxRecDepth 100000
set_option maxHeartbeats 4000000
section
def zg (b:List Int):Nat->Int->Bool->List Int->List Int× Int× Bool
 |0,a,bad,ys=>(ys,a,bad)
 |n+1,a,bad,ys=>cond bad (ys,a,bad) (zg b n (aR b a bad).2.1 (aR b a bad).2.2 (ys++[(aR b a bad).1]))
def tn (b:List Int) (a:Int) (bad:Bool):List Int× Int× Bool:=zg b (aY b a bad 2000).1.toNat (aY b a bad 2000).2.1 (aY b a bad 2000).2.2 []
section
variable {k:Nat} {b:List Int} (hk:7<=k) (hb:∀x∈b,okB x) (hl:b.length<=aG)
include hk hb hl
theorem Ee {a:Int} {bad:Bool}:lh k b a bad=some (aY b a bad 2000):=by
 unfold lh aY;simp only[bg hk hb hl,bN,aa,decide_true,cond_true,dM];cases inB (aR b a bad).1 0 2000<;>rfl
theorem BX {R:Type} {fin:List Int× Int× Bool->Option R} {m:Int}:∀(n:Nat) (i a:Int) (bad:Bool) (ys:List Int) (kf:Nat),n<kf->m=i+n->0<=i->m<=100000->ys.length+n<=100000->
  iter (λu4 n4=>fg k (m,b) u4 n4 fin) kf (i,a,bad,ys)=fin (zg b n a bad ys)
 |_,_,_,_,_,0,h,_,_,_,_=>by omega
 |0,i,a,bad,ys,kf+1,_,hm,_,_,_=>by
  rw[aI];show fg k (m,b) _ _ fin=_;unfold fg;simp only
  rw[decide_eq_false (by omega)];rfl
 |n+1,i,a,bad,ys,kf+1,hkf,hm,hi,hm2,hy=>by
  have hM:=aj;rw[aI];show fg k (m,b) _ _ fin=_;unfold fg zg;simp only;rw[decide_eq_true (by omega),cond_true];cases bad
  ·simp only[X8,cond_true,cond_false];rw[bg hk hb hl,aa,bR (by simp;omega),aL (by omega) (by omega)];exact BX n (i+1) _ _ _ kf (by omega) (by omega) (by omega) hm2 (by simp;omega)
  ·rfl
theorem BZ {R:Type} {fin:List Int× Int× Bool->Option R}:∀(n:Nat) (a:Int) (bad:Bool) (ys:List Int) (kf:Nat),n<kf->ys.length+n<=100000->
  iter (λu4 n4=>aH k b u4 n4 fin) kf ((n:Int),a,bad,ys)=fin (zg b n a bad ys)
 |_,_,_,_,0,h,_=>by omega
 |0,a,bad,ys,kf+1,_,_=>by
  rw[aI];show aH k b _ _ fin=_;unfold aH;simp only
  rw[decide_eq_false (by omega)];rfl
 |n+1,a,bad,ys,kf+1,hkf,hy=>by
  have hM:=aj;rw[aI];show aH k b _ _ fin=_;unfold aH zg;simp only;rw[decide_eq_true (by omega),cond_true];cases bad
  ·simp only[X8,cond_true,cond_false];rw[cl hk hb hl,aa,bR (by simp;omega),aL (by omega) (by omega),show((n+1:Nat):Int)-1=(n:Int)from by omega];exact BZ n _ _ _ kf (by omega) (by simp;omega)
  ·rfl
omit hk hb hl in
theorem tp (b:List Int) (a:Int) (bad:Bool):0<=(aY b a bad 2000).1/\(aY b a bad 2000).1<=2000:=by
 unfold aY;cases h:inB (aR b a bad).1 0 2000
 ·simp only[cond_false];omega
 ·exact of_decide_eq_true h
theorem PT (h3:2001<k) {a:Int} {bad:Bool}:nd k b a bad=some (tn b a bad):=by
 have hc:=tp b a bad;unfold nd;rw[Ee hk hb hl,aa];exact(BX hk hb hl (m:=(aY b a bad 2000).1) (fin:=λy3=>cond (decide (b=b)) (some (y3.1,y3.2.1,y3.2.2)) none) (aY b a bad 2000).1.toNat 0 _ _ [] k (by omega) (by omega) (by omega) (by omega) (by simp;omega)).trans (by rw[decide_eq_true rfl];rfl)
theorem Nd (h3:2001<k) {a:Int} {bad:Bool}:bj k ⟨b,a,bad⟩ 2000=some (tn b a bad):=by
 have hc:=tp b a bad;unfold bj;rw[eQ hk hb hl,aa];have:=BZ hk hb hl (fin:=λy3=>cond (decide (b=b)) (some (y3.1,y3.2.1,y3.2.2)) none) (aY b a bad 2000).1.toNat (aY b a bad 2000).2.1 (aY b a bad 2000).2.2 [] k (by omega) (by simp;omega);rw[show(((aY b a bad 2000).1.toNat:Nat):Int)=(aY b a bad 2000).1 from by omega]at this;exact this.trans (by rw[decide_eq_true rfl];rfl)
omit hk hb hl in
theorem Ef (b:List Int):∀(n:Nat) (a:Int) (bad:Bool) (ys:List Int),(zg b n a bad ys).1.length<=ys.length+n
 |0,_,_,_=>X1 _
 |n+1,a,bad,ys=>by
  unfold zg;cases bad
  ·have:=Ef b n (aR b a false).2.1 (aR b a false).2.2 (ys++[(aR b a false).1]);simp only[cond_false];simp only[XG,XI,X2]at this;omega
  ·simp only[cond_true];omega
omit hk hb hl in
theorem zi (b:List Int) (a:Int) (bad:Bool):(tn b a bad).1.length<=2000:=by
 have hc:=tp b a bad;have:=Ef b (aY b a bad 2000).1.toNat (aY b a bad 2000).2.1 (aY b a bad 2000).2.2 [];unfold tn;simp only[X2]at this;omega
end
def dg (b:List Int) (a:Int) (bad:Bool):aA× Int× Bool:=
 let r1:=aR b a bad;let r2:=aR b r1.2.1 r1.2.2;let r3:=aR b r2.2.1 r2.2.2;let r4:=aR b r3.2.1 r3.2.2;let r5:=aR b r4.2.1 r4.2.2;let r6:=aR b r5.2.1 r5.2.2;let r7:=aR b r6.2.1 r6.2.2
 let r8:=tn b r7.2.1 r7.2.2;let r9:=tn b r8.2.1 r8.2.2
 (⟨r1.1,r2.1,r3.1,r4.1,r5.1,r6.1,r7.1,r8.1,r9.1⟩,r9.2.1,r9.2.2)
def sb (b:List Int):Nat->Int->Bool->List aA->Int× Bool× List aA
 |0,a,bad,ys=>(a,bad,ys)
 |n+1,a,bad,ys=>cond bad (a,bad,ys) (sb b n (dg b a bad).2.1 (dg b a bad).2.2 (ys++[(dg b a bad).1]))
def dR (b:List Int):Model× Int:=
 cond (decide ((b.length:Int)>6000)) (en,5) (cond (!decide (b.take 3=[80,77,49])) (en,1)
  (let r2:=aR b 3 false;let r3:=aR b r2.2.1 r2.2.2;let r4:=aR b r3.2.1 r3.2.2;let r5:=aY b r4.2.1 r4.2.2 2000;let y:=sb b r5.1.toNat r5.2.1 r5.2.2 [];let r6:=aR b y.1 y.2.1
  cond r6.2.2 (en,2) (cond (r6.1 !=nw ((b.take y.1.toNat).drop 0)) (en,3) (cond (r6.2.1 !=(b.length:Int)) (en,3)
   (cond (!fi ⟨⟨r2.1,r3.1,r4.1⟩,y.2.2⟩) (en,4) (⟨⟨r2.1,r3.1,r4.1⟩,y.2.2⟩,0))))))
theorem FO (b:List Int) (a:Int) (bad:Bool):(dg b a bad).1.tot<=2000+(2000+0):=Nat.add_le_add (zi b _ _) (Nat.add_le_add (zi b _ _) (X1 0))
theorem tq (b:List Int):∀(n:Nat) (a:Int) (bad:Bool) (ys:List aA),fI aA.tot (sb b n a bad ys).2.2<=fI aA.tot ys+4001*n
 |0,_,_,_=>X1 _
 |n+1,a,bad,ys=>by
  unfold sb;cases bad
  ·have:=tq b n (dg b a false).2.1 (dg b a false).2.2 (ys++[(dg b a false).1]);have hL:=FO b a false;rw[uv]at this
   have h1:fI aA.tot [(dg b a false).1]=(dg b a false).1.tot+1:=by simp[fI];omega
   simp only[cond_false];omega
  ·simp only[cond_true];omega
section
variable {k:Nat} {b:List Int} (hk:9000000<=k) (hb:∀x∈b,okB x) (hl:b.length<=aG)
include hk hb hl
theorem Nf {a:Int} {bad:Bool}:eV k ⟨b,a,bad⟩=some (dg b a bad):=by
 unfold eV dg;simp only[cl (show 7<=k by omega) hb hl,Nd (show 7<=k by omega) hb hl (show 2001<k by omega),aa,decide_true,cond_true]
theorem wx {R:Type} {fin:Int× Bool× List aA->Option R} {m q1 q2 q3 q4 q5 q6 q7 q8 q9:Int}:∀(n:Nat) (i a:Int) (bad:Bool) (ys:List aA) (kf:Nat),n<kf->m=i+n->0<=i->m<=100000->ys.length+n<=100000->
  iter (λu19 n19=>cW k (b,m,q1,q2,q3,q4,q5,q6,b,q7,q8,q9) u19 n19 fin) kf (i,a,bad,ys)=fin (sb b n a bad ys)
 |_,_,_,_,_,0,h,_,_,_,_=>by omega
 |0,i,a,bad,ys,kf+1,_,hm,_,_,_=>by
  rw[aI];show cW k _ _ _ fin=_;unfold cW;simp only
  rw[decide_eq_false (by omega)];rfl
 |n+1,i,a,bad,ys,kf+1,hkf,hm,hi,hm2,hy=>by
  have hM:=aj;rw[aI];cases bad
  ·have st:∀next,cW k (b,m,q1,q2,q3,q4,q5,q6,b,q7,q8,q9) (i,a,false,ys) next fin=next (i+1,(dg b a false).2.1,(dg b a false).2.2,ys++[(dg b a false).1]):=λnext=>by
    unfold cW;simp only;rw[decide_eq_true (by omega),cond_true];simp only[X8,cond_true,bg (show 7<=k by omega) hb hl,PT (show 7<=k by omega) hb hl (show 2001<k by omega),aa];rw[bR (by omega),aL (by omega) (by omega)];rfl
   exact(st _).trans (wx n (i+1) (dg b a false).2.1 (dg b a false).2.2 (ys++[(dg b a false).1]) kf (by omega) (by omega) (by omega) hm2 (by rw[XG];simp only[XI,X2];omega))
  ·show cW k _ _ _ fin=_;unfold cW;simp only;rw[decide_eq_true (by omega),cond_true];rfl
theorem wy {R:Type} {fin:Int× Bool× List aA->Option R} {q1 q2 q3 q7 q8 q9:Int}:∀(n:Nat) (a:Int) (bad:Bool) (ys:List aA) (kf:Nat),n<kf->ys.length+n<=100000->
  iter (λu9 n9=>dO k (b,q1,q2,q3,b,q7,q8,q9) u9 n9 fin) kf ((n:Int),a,bad,ys)=fin (sb b n a bad ys)
 |_,_,_,_,0,h,_=>by omega
 |0,a,bad,ys,kf+1,_,_=>by
  rw[aI];show dO k _ _ _ fin=_;unfold dO;simp only
  rw[decide_eq_false (by omega)];rfl
 |n+1,a,bad,ys,kf+1,hkf,hy=>by
  have hM:=aj;rw[aI];show dO k _ _ _ fin=_;unfold dO sb;simp only;rw[decide_eq_true (by omega),cond_true];cases bad
  ·simp only[X8,cond_true,cond_false];rw[Nf hk hb hl,aa,bR (by omega),aL (by omega) (by omega),show((n+1:Nat):Int)-1=(n:Int)from by omega];exact wy (fin:=fin) (q1:=q1) (q2:=q2) (q3:=q3) (q7:=q7) (q8:=q8) (q9:=q9) n (dg b a false).2.1 (dg b a false).2.2 (ys++[(dg b a false).1]) kf (by omega) (by rw[XG];simp only[XI,X2];omega)
  ·rfl
end
theorem B4 {b:List Int} {a:Int} {bad:Bool} (h:(aR b a bad).2.2=false):0<=a/\a<=b.length:=by
 cases bad
 ·rw[aX]at h
  cases hn:nq b a with
  |none=>rw[hn]at h;exact nomatch h
  |some q=>have:=fS (x:=q.1) (p:=q.2) hn;omega
 ·exact nomatch h
theorem Vo {b:List Int}:(decide ((b.length:Int)>=3)=false/\decide (b.take 3=[80,77,49])=false)\/∃x y z l,b=x::y::z::l:=by
 match b with
 |[]=>exact .inl ⟨rfl,rfl⟩
 |[x]=>exact .inl ⟨rfl,by simp⟩
 |[x,y]=>exact .inl ⟨rfl,by simp⟩
 |x::y::z::l=>exact .inr ⟨x,y,z,l,rfl⟩
theorem HS (k:Nat) (b:List Int):vY k b=some (decide (b.take 3=[80,77,49])):=by
 unfold vY
 rcases Vo (b:=b)with⟨h1,h2⟩|⟨x,y,z,l,rfl⟩
 ·rw[h1,h2];rfl
 ·rw[decide_eq_true (by simp;omega),cond_true];have e0:idx (x::y::z::l) 0=some x:=rfl;have e1:idx (x::y::z::l) 1=some y:=rfl;have e2:idx (x::y::z::l) 2=some z:=rfl;rw[e0,e1,e2];simp only[aa,List.take_succ_cons,ZD,YD,and_true,Bool.decide_and,Kh];cases decide (x=80)<;>cases decide (y=77)<;>rfl
theorem FQ {k:Nat} {b:List Int} (hb:∀x∈b,okB x) (hl:b.length<=aG):eA k b [80,77,49]=some (decide (b.take 3=[80,77,49])):=by
 have hM:=aj;unfold eA;rw[ab];by_cases h:(b.length:Int)>=(([80,77,49]:List Int).length:Int)
 ·have h':3<=b.length:=by simp at h;omega
  rw[if_pos h,decide_eq_true (show 0<=((([80,77,49]:List Int).length:Nat):Int)/\((([80,77,49]:List Int).length:Nat):Int)<=(b.length:Int) by simp;omega),cond_true,Zt];rw[show((([80,77,49]:List Int).length:Nat):Int).toNat=3 from rfl];rw[oS (λx hx=>hb x (Zb hx)) (λx hx=>by simp at hx;rcases hx with rfl|rfl|rfl<;>exact⟨by omega,by omega⟩),aa]
 ·rw[if_neg h]
  rcases Vo (b:=b)with⟨_,h2⟩|⟨x,y,z,l,rfl⟩
  ·rw[h2]
  ·simp at h;omega
section
variable {k:Nat} {b:List Int} (hk:9000000<=k) (hb:∀x∈b,okB x) (hl:b.length<=aG)
include hk hb hl
theorem zC:l5 k b=some (dR b):=by
 have hM:=aj;unfold l5 dR;by_cases c:(b.length:Int)>6000
 ·rw[decide_eq_true c];rfl
 rw[decide_eq_false c,cond_false,cond_false,HS,aa];cases decide (b.take 3=[80,77,49])
 ·rfl
 simp only[XJ,cond_false,bg (show 7<=k by omega) hb hl,Ee (show 7<=k by omega) hb hl,aa];generalize aR b 3 false=r2;generalize aR b r2.2.1 r2.2.2=r3;generalize aR b r3.2.1 r3.2.2=r4;have hc:=tp b r4.2.1 r4.2.2;generalize aY b r4.2.1 r4.2.2 2000=r5 at hc;refine(wx hk hb hl r5.1.toNat 0 _ _ [] k (by omega) (by omega) (by omega) (by omega) (by simp;omega)).trans ?_;have ht:=tq b r5.1.toNat r5.2.1 r5.2.2 [];rw[show fI aA.tot []=0 from rfl]at ht;generalize sb b r5.1.toNat r5.2.1 r5.2.2 []=y at ht;cases h6:(aR b y.1 y.2.1).2.2
 ·simp only[cond_false];obtain⟨g1,g2⟩:=B4 h6;rw[decide_eq_true ⟨g1,g2⟩,cond_true,xL (by simp;omega) (by simp;omega),aa];cases((aR b y.1 y.2.1).1 !=nw (List.drop 0 (b.take y.1.toNat)))
  ·simp only[cond_false];cases((aR b y.1 y.2.1).2.1 !=(b.length:Int))
   ·simp only[cond_false];rw[zb (by show fI aA.tot y.2.2+0<k;omega) (by show fI aA.tot y.2.2+0<=aG;omega),aa];generalize fi _=q;cases q<;>rfl
   ·rfl
  ·rfl
 ·rfl
theorem zD:l9 k b=some (dR b):=by
 have hM:=aj;unfold l9 dR;by_cases c:(b.length:Int)>6000
 ·rw[decide_eq_true c];rfl
 rw[decide_eq_false c,cond_false,cond_false,FQ hb hl,aa];cases decide (b.take 3=[80,77,49])
 ·rfl
 simp only[XJ,cond_false,ja (show 7<=k by omega) hb hl,eQ (show 7<=k by omega) hb hl,aa];generalize aR b 3 false=r2;generalize aR b r2.2.1 r2.2.2=r3;generalize aR b r3.2.1 r3.2.2=r4;have hc:=tp b r4.2.1 r4.2.2;generalize aY b r4.2.1 r4.2.2 2000=r5 at hc;have:=wy hk hb hl (q1:=0) (q2:=0) (q3:=0) (q7:=r2.1) (q8:=r3.1) (q9:=r4.1) (fin:=λy5=>(au k (⟨b,y5.1,y5.2.1⟩:Reader)).bind λr6=>cond (r6.2.2) (some ((⟨(⟨(0:Int),(0:Int),(0:Int)⟩:Shape),([]:List aA)⟩:Model),(2:Int))) (cond (decide (0<=y5.1/\y5.1<=(b.length:Int))) ((lK k ((b.take y5.1.toNat).drop 0)).bind λr7=>cond (r6.1 !=r7) (some ((⟨(⟨(0:Int),(0:Int),(0:Int)⟩:Shape),([]:List aA)⟩:Model),(3:Int))) (cond (r6.2.1 !=(b.length:Int)) (some ((⟨(⟨(0:Int),(0:Int),(0:Int)⟩:Shape),([]:List aA)⟩:Model),(3:Int))) ((mV k (⟨⟨r2.1,r3.1,r4.1⟩,y5.2.2⟩:Model)).bind λr8=>cond (!r8) (some ((⟨(⟨(0:Int),(0:Int),(0:Int)⟩:Shape),([]:List aA)⟩:Model),(4:Int))) (some ((⟨⟨r2.1,r3.1,r4.1⟩,y5.2.2⟩:Model),(0:Int)))))) none)) r5.1.toNat r5.2.1 r5.2.2 [] k (by omega) (by simp;omega);rw[show((r5.1.toNat:Nat):Int)=r5.1 from by omega]at this;refine Eq.trans this ?_;have ht:=tq b r5.1.toNat r5.2.1 r5.2.2 [];rw[show fI aA.tot []=0 from rfl]at ht;generalize sb b r5.1.toNat r5.2.1 r5.2.2 []=y at ht;rw[cl (show 7<=k by omega) hb hl,aa];cases h6:(aR b y.1 y.2.1).2.2
 ·simp only[cond_false];obtain⟨g1,g2⟩:=B4 h6;rw[decide_eq_true ⟨g1,g2⟩,cond_true,xM (by simp;omega) (by simp;omega),aa];cases((aR b y.1 y.2.1).1 !=nw (List.drop 0 (b.take y.1.toNat)))
  ·simp only[cond_false];cases((aR b y.1 y.2.1).2.1 !=(b.length:Int))
   ·simp only[cond_false];rw[rZ (by show fI aA.tot y.2.2+0<k;omega) (by show fI aA.tot y.2.2+0<aG;omega),aa];generalize fi _=q;cases q<;>rfl
   ·rfl
  ·rfl
 ·rfl
end
end
section
def sat (a b x:Int):Int:=if x<a then a else if x>b then b else x
theorem HT {a b:Int} (h:a<=b) (x:Int):a<=sat a b x/\sat a b x<=b:=by
 unfold sat;by_cases h1:x<a
 ·rw[if_pos h1];omega
 ·rw[if_neg h1];by_cases h2:x>b
  ·rw[if_pos h2];omega
  ·rw[if_neg h2];omega
theorem SM {a b x:Int} (h1:a<=x) (h2:x<=b):sat a b x=x:=by
 unfold sat;rw[if_neg (by omega),if_neg (by omega)]
theorem sd {k:Nat} {x a b:Int} (h:a<=b):pz k x a b=some (sat a b x):=by
 unfold pz sat;rw[ab,ab,ab];by_cases h1:x<a
 ·rw[if_pos h1,if_pos h1]
 ·rw[if_neg h1,if_neg h1,if_neg (by omega)];by_cases h2:x>b
  ·rw[if_pos h2,if_pos h2]
  ·rw[if_neg h2,if_neg h2]
theorem FR {k:Nat} {x a b:Int} (h:a<=b):M4 k x a b=some (sat a b x):=by
 unfold M4 sat
 congr 1
 repeat' split
 all_goals omega
def B5 (x:Int):Int:=sat (-128) 127 x
def iT (x:Int):Int:=sat (-2147483648) 2147483647 x
theorem B6 (x:Int):-128<=B5 x/\B5 x<=127:=HT (by omega) x
theorem mf (x:Int):-2147483648<=iT x/\iT x<=2147483647:=HT (by omega) x
theorem HU (k:Nat) (x:Int):BF k x=some (B5 x):=by unfold BF B5;rw[sd (by omega),aa]
theorem xN (k:Nat) (x:Int):oQ k x=some (iT x):=by unfold oQ iT;rw[sd (by omega),aa]
theorem HV (k:Nat) (x:Int):BH k x=some (B5 x):=by unfold BH B5;rw[FR (by omega),aa]
theorem xO (k:Nat) (x:Int):oR k x=some (iT x):=by unfold oR iT;rw[FR (by omega),aa]
def qT (a b:Int):Int:=iT (iT a+iT b)
theorem qH (k:Nat) (a b:Int):nS k a b=some (qT a b):=by
 have h1:=mf a;have h2:=mf b;unfold nS qT;simp only[xN,aa];rw[aL (by omega) (by omega)]
theorem B7 (k:Nat) (a b:Int):vS k a b=some (qT a b):=by
 have h1:=mf a;have h2:=mf b;unfold vS qT;simp only[xO,aa];rw[aL (by omega) (by omega)]
theorem Uc {x y A B:Int} (hx:-A<=x/\x<=A) (hy:-B<=y/\y<=B):-(A*B)<=x*y/\x*y<=A*B:=by
 have h1:=Zu (show 0<=A-x by omega) (show 0<=B+y by omega);have h2:=Zu (show 0<=A+x by omega) (show 0<=B-y by omega);have h3:=Zu (show 0<=A-x by omega) (show 0<=B-y by omega);have h4:=Zu (show 0<=A+x by omega) (show 0<=B+y by omega);simp only[Int.sub_mul,Int.add_mul,Int.mul_add,Int.mul_sub]at h1 h2 h3 h4;omega
def qI (a b:Int):Int:=iT ((iT a*iT b+1073741824)/2147483648)
theorem HW {k:Nat} {a:Int} (h1:-4611686018427387904<=a/\a<=9223372036854775807):vO k a 2147483648=some (a/2147483648):=by
 have e:=Int.mul_tdiv_add_tmod a 2147483648;have h2:=ZM a (show(0:Int)<2147483648 by omega);unfold vO;rw[ab,if_neg (by omega),ab,if_neg (by omega),ab];by_cases c:0<=a
 ·have h3:=Int.tmod_nonneg 2147483648 c;rw[if_neg (by omega),aL (by omega) (by omega)]
  congr 1;omega
 ·have h3:=Int.tmod_nonneg 2147483648 (show 0<=-a by omega);have h4:=ZM (-a) (show(0:Int)<2147483648 by omega);rw[Int.neg_tmod]at h3 h4;by_cases c2:a.tmod 2147483648<0
  ·rw[if_pos c2,aL (n:=a.tdiv 2147483648) (by omega) (by omega),aL (by omega) (by omega)]
   congr 1;omega
  ·rw[if_neg c2,aL (by omega) (by omega)]
   congr 1;omega
theorem SN (a b:Int):-4611686018427387904<=iT a*iT b/\iT a*iT b<=4611686018427387904:=
 Uc (A:=2147483648) (B:=2147483648) (by have:=mf a;omega) (by have:=mf b;omega)
theorem HX (k:Nat) (a b:Int):vP k a b=some (qI a b):=by
 have h:=SN a b;unfold vP qI;simp only[xN,aa];rw[aL (n:=iT a*iT b) (by omega) (by omega),aL (by omega) (by omega),HW (by omega),aa]
theorem HY (k:Nat) (a b:Int):vT k a b=some (qI a b):=by
 have h:=SN a b;unfold vT qI;simp only[xO,aa];rw[aL (n:=iT a*iT b) (by omega) (by omega),aL (by omega) (by omega)]
 have e:((2:Int)^(min (31:Int).toNat i64.bits))=2147483648:=by decide
 rw[e,Int.fdiv_eq_ediv_of_nonneg _ (by omega)]
def im (x by_:Int):Int:=if x<0 then -((2*-x+by_)/(2*by_))else(2*x+by_)/(2*by_)
theorem Eg {a b:Int} (ha:0<=a) (hb:1<=b):0<=a/b/\a/b<=a:=
 ⟨Int.ediv_nonneg ha (by omega),Int.ediv_le_self _ ha⟩
theorem zj {k:Nat} {x d:Int} (hx:-2147483648<=x/\x<=2147483648) (hd:1<=d/\d<=2147483648):pB k x d=some (im x d):=by
 unfold pB qv im;rw[aL (n:=2*d) (by omega) (by omega),ab];by_cases c:x<0
 ·rw[if_pos c,if_pos c,aL (n:=0-x) (by omega) (by omega),ab,if_neg (by omega),ab,if_neg (by omega),aa,aL (n:=2*(0-x)) (by omega) (by omega),aL (n:=2*(0-x)+d) (by omega) (by omega),YF (by omega)];have h:=Eg (a:=2*(0-x)+d) (b:=2*d) (by omega) (by omega);rw[show 2*-x+d=2*(0-x)+d from by omega];generalize (2*(0-x)+d)/(2*d)=q at h;rw[aL (n:=q) (by omega) (by omega),aL (by omega) (by omega)]
  congr 1;omega
 ·rw[if_neg c,if_neg c,ab,if_neg (by omega),aL (n:=2*x) (by omega) (by omega),aL (n:=2*x+d) (by omega) (by omega),YF (by omega)];have h:=Eg (a:=2*x+d) (b:=2*d) (by omega) (by omega);rw[aL (by omega) (by omega)]
def jc (x n:Int):Int:=im (iT x) (2^(sat 0 31 n).toNat)
theorem B8 {r:Int} (h:0<=r/\r<=31):i64.wrap ((1:Int)*2^(min r.toNat i64.bits))=2^r.toNat/\(1:Int)<=2^r.toNat/\(2:Int)^r.toNat<=2147483648:=by
 have hb:i64.bits=64:=rfl;have h1:(2:Nat)^r.toNat<=2^31:=Nat.pow_le_pow_right (by omega) (by omega);have h2:1<=(2:Nat)^r.toNat:=Nat.one_le_two_pow
 have e:((2^r.toNat:Nat):Int)=2^r.toNat:=by simp
 rw[hb,Zh (by omega),Int.one_mul];rw[<-e];refine⟨aL (by omega) (by omega),by omega,by omega⟩
theorem LH {v:Int} {s:Nat}:(v+(2^s:Int)/2)/2^s=(2*v+2^s)/(2*2^s):=by
 cases s with
 |zero=>omega
 |succ s=>
  have e:(2:Int)^(s+1)=2*2^s:=by rw[Int.pow_succ,Int.mul_comm]
  rw[e]
  have e2:2*v+2*(2:Int)^s=2*(v+2^s):=by rw[Int.mul_add]
  rw[e2,Int.mul_ediv_mul_of_pos _ _ (by omega:(0:Int)<2),Int.mul_ediv_cancel_left _ (by omega:(2:Int)≠0)]
theorem B9 (k:Nat) (x n:Int):oc k x n=some (jc x n):=by
 have h1:=mf x;have h2:=HT (a:=0) (b:=31) (by omega) n;obtain⟨e,h3,h4⟩:=B8 h2;unfold oc jc;rw[xO,aa,FR (by omega),aa,ab,if_neg (by omega),e,zj (by omega) ⟨h3,h4⟩,aa]
theorem PU {r:Int} (h:0<=r/\r<=31):u64.wrap r=r:=Go.IntWalk.u64_in r ⟨by omega,by omega⟩
theorem Ca (k:Nat) (x n:Int):nT k x n=some (jc x n):=by
 have h1:=mf x;have h2:=HT (a:=0) (b:=31) (by omega) n;obtain⟨e,h3,h4⟩:=B8 h2;unfold nT jc im;rw[xN,aa,sd (by omega),aa,PU h2,ab,if_neg (by omega),e,ab];have hh:((2:Int)^(sat 0 31 n).toNat).tdiv 2=2^(sat 0 31 n).toNat/2:=YF (by omega);rw[hh,aL (n:=2^(sat 0 31 n).toNat/2) (by omega) (by omega)];by_cases c:iT x<0
 ·rw[if_pos c,if_pos c,ab,if_neg (by omega),aL (n:=0-iT x) (by omega) (by omega),aL (n:=0-iT x+2^(sat 0 31 n).toNat/2) (by omega) (by omega),YF (by omega),LH,show 2*-iT x+2^(sat 0 31 n).toNat=2*(0-iT x)+2^(sat 0 31 n).toNat from by omega];have h:=Eg (a:=2*(0-iT x)+2^(sat 0 31 n).toNat) (b:=2*2^(sat 0 31 n).toNat) (by omega) (by omega);generalize (2*(0-iT x)+2^(sat 0 31 n).toNat)/(2*2^(sat 0 31 n).toNat)=q at h;rw[aL (n:=q) (by omega) (by omega),aL (by omega) (by omega)]
  congr 1;omega
 ·rw[if_neg c,if_neg c,ab,if_neg (by omega),aL (n:=iT x+2^(sat 0 31 n).toNat/2) (by omega) (by omega),YF (by omega),LH];have h:=Eg (a:=2*iT x+2^(sat 0 31 n).toNat) (b:=2*2^(sat 0 31 n).toNat) (by omega) (by omega);rw[aL (by omega) (by omega)]
def Cb (acc mult shift zero:Int):Int:=B5 (jc (qI acc mult) shift+B5 zero)
theorem Ng {x d B:Int} (hx:-B<=x/\x<=B) (hd:1<=d):-B<=im x d/\im x d<=B:=by
 have key:∀y:Int,0<=y->y<=B->0<=(2*y+d)/(2*d)/\(2*y+d)/(2*d)<=B:=λy h0 h1=>by
  refine⟨Int.ediv_nonneg (by omega) (by omega),?_⟩
  have hlt:(2*y+d)/(2*d)<B+1:=by
   apply Int.ediv_lt_of_lt_mul (by omega);have:=Zu (show 0<=B by omega) (show 0<=d-1 by omega);rw[Int.mul_sub,Int.mul_one]at this;rw[Int.add_mul,Int.one_mul,Int.mul_comm B,Z1,Int.mul_comm d B];omega
  omega
 unfold im;by_cases c:x<0
 ·rw[if_pos c];have:=key (-x) (by omega) (by omega);omega
 ·rw[if_neg c];have:=key x (by omega) (by omega);omega
theorem zk (acc mult shift zero:Int):i64.wrap (jc (qI acc mult) shift+B5 zero)=jc (qI acc mult) shift+B5 zero:=by
 have h1:=B6 zero;have h2:=HT (a:=0) (b:=31) (by omega) shift;have h3:=mf (qI acc mult);have h4:=Ng (x:=iT (qI acc mult)) (d:=2^(sat 0 31 shift).toNat) (B:=2147483648) (by omega) (B8 h2).2.1;unfold jc;exact aL (by omega) (by omega)
theorem zl (k:Nat) (a b c d:Int):pA k a b c d=some (Cb a b c d):=by
 unfold pA Cb;simp only[HX,Ca,HU,aa,zk]
theorem HZ (k:Nat) (a b c d:Int):vU k a b c d=some (Cb a b c d):=by
 unfold vU Cb;simp only[HY,B9,HV,aa,zk]
end
section
theorem mg {α:Type} (f:Nat->List α) (m:Nat):∀n,(∀i,i<n->(f i).length<=m)->((List.range n).flatMap f).length<=n*m
 |0,_=>by simp
 |n+1,h=>by
  have:=mg f m n λi hi=>h i (by omega);have:=h n (by omega);rw[Y4,Y2,XG,X7,show([n]:List Nat).flatMap f=f n from by simp];omega
theorem iD {α:Type} (f:Nat->List α) (m:Nat):∀n,(∀i,i<n->(f i).length=m)->((List.range n).flatMap f).length=n*m
 |0,_=>by simp
 |n+1,h=>by
  have:=iD f m n λi hi=>h i (by omega);have:=h n (by omega);rw[Y4,Y2,XG,X7,show([n]:List Nat).flatMap f=f n from by simp];omega
theorem FT {α:Type} (f:Nat->List α) (q:Nat):∀n,(∀i,i<n->(f i).length=q)->∀a b,a<n->b<q->((List.range n).flatMap f)[a*q+b]? =(f a)[b]?
 |0,_,a,b,h,_=>by omega
 |n+1,h,a,b,ha,hb=>by
  have hl:=iD f q n λi hi=>h i (by omega);rw[Y4,Y2]
  have hs:([n]:List Nat).flatMap f=f n:=by simp
  rw[hs];by_cases c:a<n
  ·have:(a+1)*q<=n*q:=XZ _ (by omega);rw[X7]at this;rw[XQ (by omega)];exact FT f q n (λi hi=>h i (by omega)) a b c hb
  ·have:a=n:=by omega
   subst this;rw[XL (by omega),hl,Yk]
theorem gf {α R:Type} (n m:Nat) (f:Nat->List α) (xs0:List α) {g:Int× List α->(Int× List α->Option R)->Option R} {fin:List α->Option R} {k:Nat}
  (hf:∀i,i<n->(f i).length<=m)
  (h:∀(i:Nat) ys next,i<n->ys.length<=xs0.length+i*m->g ((i:Int),ys) next=next (((i+1:Nat):Int),ys++f i))
  (hn:∀ys next,g ((n:Int),ys) next=fin ys) (hk:n<k):iter g k ((0:Int),xs0)=fin (xs0++(List.range n).flatMap f):=by
 have:=eG (g:=g) (st:=λi=>((i:Int),xs0++(List.range i).flatMap f)) (n:=n) (r:=fin (xs0++(List.range n).flatMap f)) (λi hi next=>by
  have hl:=mg f m i λj hj=>hf j (by omega);rw[h i _ next hi (by rw[XG];omega),Y4,Y2]
  simp) (λnext=>hn _ _) hk
 simpa using this
theorem pG {β R:Type} (n:Nat) (f:β->Nat->β) (a0:β) {g:β× Int->(β× Int->Option R)->Option R} {fin:β->Option R} {k:Nat}
  (h:∀(i:Nat) a next,i<n->g (a,(i:Int)) next=next (f a i,((i+1:Nat):Int))) (hn:∀a next,g (a,(n:Int)) next=fin a) (hk:n<k):
  iter g k (a0,(0:Int))=fin ((List.range n).foldl f a0):=
 eG (g:=g) (st:=λi=>((List.range i).foldl f a0,(i:Int))) (n:=n) (r:=fin ((List.range n).foldl f a0)) (λi hi next=>by
  rw[h i _ next hi,Y4,Yx];rfl) (λnext=>hn _ _) hk
theorem fold_congr {β:Type} {f g:β->Nat->β}:∀(n:Nat) (a:β),(∀a i,i<n->f a i=g a i)->(List.range n).foldl f a=(List.range n).foldl g a
 |0,_,_=>rfl
 |n+1,a,h=>by
  rw[Y4,Yx,Yx,fold_congr n a λa i hi=>h a i (by omega)];exact h _ n (by omega)
theorem FU {β:Type} (f:β->Nat->β) (q:Nat):∀(m:Nat) (a:β),(List.range (m*q)).foldl f a=(List.range m).foldl (λa i=>(List.range q).foldl (λa j=>f a (i*q+j)) a) a
 |0,a=>by simp
 |m+1,a=>by
  rw[X7,Nat.one_mul,List.range_add,Yx,FU f q m a,Y4,Yx,List.foldl_map];rfl
theorem H3 {a b:Nat} (h:a*b<=9223372036854775807):i64.wrap ((a:Int)*(b:Int))=((a*b:Nat):Int):=by
 rw[YK];have e:((a:Int)*(b:Int))=((a*b:Nat):Int):=(YK a b).symm;exact aL (by omega) (by omega)
theorem IX {a b:Nat} (h:a+b<=9223372036854775807):i64.wrap ((a:Int)+(b:Int))=((a+b:Nat):Int):=by
 rw[aL (by omega) (by omega)];omega
theorem PV {α:Type} {p:Prop} {i:Decidable p} (h:p) (x y:α):cond (@decide p i) x y=x:=by rw[decide_eq_true h];rfl
theorem WD {α:Type} {p:Prop} {i:Decidable p} (h:¬p) (x y:α):cond (@decide p i) x y=y:=by rw[decide_eq_false h];rfl
theorem wz {H W C h w c:Nat} (h1:h<H) (h2:w<W) (h3:c<C):(h*W+w)*C+c<H*W*C:=by
 have a1:(h+1)*W<=H*W:=XZ _ h1;rw[X7]at a1;have a2:(h*W+w+1)*C<=H*W*C:=XZ _ (by omega);rw[X7]at a2;omega
structure mi (H W C:Nat) (xs:List Int):Prop where
 h1:1<=H
 h8:H<=8
 w1:1<=W
 w8:W<=8
 c1:1<=C
 c8:C<=8
 len:xs.length=H*W*C
 mem:∀x∈xs,-128<=x/\x<=127
def xP (H W C:Nat) (xs:List Int):az:=⟨⟨H,W,C⟩,xs⟩
theorem mi.Uz {H W C:Nat} {xs:List Int} (r:mi H W C xs):H*W*C<=512:=by
 have a:=Yu r.h8 r.w8;have b:=Yu a r.c8;omega
theorem mi.sh {H W C:Nat} {xs:List Int} (r:mi H W C xs):(⟨H,W,C⟩:Shape).okB=true:=by
 obtain⟨a,b,c,d,e,f,_,_⟩:=r;simp only[Shape.okB,inB,XB,decide_eq_true_eq];omega
theorem mi.size {H W C:Nat} {xs:List Int} (r:mi H W C xs):(⟨H,W,C⟩:Shape).size=((H*W*C:Nat):Int):=by
 unfold Shape.size;rw[r.sh,cond_true,YK,YK]
theorem mi.ok {H W C:Nat} {xs:List Int} (r:mi H W C xs):(xP H W C xs).okB=true:=by
 unfold az.okB xP;simp only[r.sh,r.size,r.len,decide_true,XM];unfold v8;rw[X6];intro x hx;have:=r.mem x hx;rw[bd];omega
theorem FV {t:az} (h:t.okB=true):∃H W C:Nat,mi H W C t.data/\t=xP H W C t.data:=by
 unfold az.okB at h;simp only[XB,decide_eq_true_eq]at h;obtain⟨h1,h2,h3⟩:=h;have hs:=Shape.tc h1;unfold v8 at h3;rw[X6]at h3;unfold Shape.size at h2;rw[h1,cond_true]at h2;obtain⟨⟨a,b,c⟩,xs⟩:=t;simp only at hs h2 h3;refine⟨a.toNat,b.toNat,c.toNat,⟨by omega,by omega,by omega,by omega,by omega,by omega,?_,λx hx=>bd.1 (h3 x hx)⟩,?_⟩
 ·have ea:((a.toNat:Nat):Int)=a:=by omega
  have eb:((b.toNat:Nat):Int)=b:=by omega
  have ec:((c.toNat:Nat):Int)=c:=by omega
  have e:((a.toNat*b.toNat*c.toNat:Nat):Int)=a*b*c:=by rw[YK,YK,ea,eb,ec]
  show xs.length=_;omega
 ·unfold xP
  congr 2<;>omega
def atN (W C:Nat) (xs:List Int) (h w c:Nat):Int:=xs.getD ((h*W+w)*C+c) 0
theorem Km {H W C:Nat} {xs:List Int} (r:mi H W C xs) {h w c:Nat} (h1:h<H) (h2:w<W) (h3:c<C):xs[(h*W+w)*C+c]? =some (atN W C xs h w c):=by
 have:=wz h1 h2 h3;have hl:=r.len;unfold atN;rw[dj (by omega),ag (by omega)]
theorem Ad {xs:List Int} {i:Nat} (h:i<xs.length):xs.getD i 0∈xs:=by rw[dj h];exact XH h
theorem LI {H W C:Nat} {xs:List Int} (r:mi H W C xs) {h w c:Nat} (h1:h<H) (h2:w<W) (h3:c<C):-128<=atN W C xs h w c/\atN W C xs h w c<=127:=by
 have:=wz h1 h2 h3;have hl:=r.len;exact r.mem _ (Ad (by omega))
theorem Eh {H W C:Nat} {xs:List Int} (r:mi H W C xs) {h w c:Nat} (h1:h<H) (h2:w<W) (h3:c<C):
  i64.wrap (i64.wrap (i64.wrap (i64.wrap ((h:Int)*(W:Int))+(w:Int))*(C:Int))+(c:Int))=(((h*W+w)*C+c:Nat):Int):=by
 have a:=wz h1 h2 h3;have b:=r.Uz;have d:h*W<=H*W:=XZ _ (by omega);have e:=Yu r.h8 r.w8;rw[H3 (by omega),IX (by have:=r.w8;omega),H3 (by omega),IX (by omega)]
theorem uI {k:Nat} {H W C:Nat} {xs:List Int} (r:mi H W C xs) (hk:512<k) {h w c:Nat} (h1:h<H) (h2:w<W) (h3:c<C):qu k (xP H W C xs) h w c=some (atN W C xs h w c,true):=by
 have hl:=r.len;have hc:=r.Uz
 have hi:∀{a n:Nat},a<n->n<=8->inB (a:Int) 0 (i64.wrap ((n:Int)-1))=true:=λ{a n} h h8=>by
  rw[aL (by omega) (by omega),bd];omega
 unfold qu BG;simp only[lk,bN,aa];rw[md (t:=xP H W C xs) (by show xs.length<k;omega) (by unfold pK;show xs.length<=_;omega),r.ok];simp only[xP,r.sh,hi h1 r.h8,hi h2 r.w8,hi h3 r.c8,XJ,cond_false,aa,Eh r h1 h2 h3];rw[ab,if_neg (by omega),aD,Km r h1 h2 h3,aa]
theorem uJ {k:Nat} {H W C:Nat} {xs:List Int} (r:mi H W C xs) {h w c:Nat} (h1:h<H) (h2:w<W) (h3:c<C):jA k ⟨H,W,C⟩ h w c=some ((((h*W+w)*C+c:Nat)):Int):=by
 unfold jA;rw[Eh r h1 h2 h3]
structure PW (H W Z S h w:Nat):Prop where
 z1:1<=Z
 z3:Z<=3
 s2:S<=2
 hh:h*S+Z<=H
 ww:w*S+Z<=W
def jR (W C:Nat) (xs:List Int) (Z S h w c:Nat):List Int:=
 (List.range Z).flatMap λi=>(List.range Z).flatMap λj=>[atN W C xs (h*S+i) (w*S+j) c]
def Ud (W C:Nat) (xs:List Int) (Z S h w:Nat):List Int:=
 (List.range Z).flatMap λi=>(List.range Z).flatMap λj=>(List.range C).map λc=>atN W C xs (h*S+i) (w*S+j) c
theorem H4 (W C:Nat) (xs:List Int) (Z S h w c:Nat):(jR W C xs Z S h w c).length=Z*(Z*1):=
 iD _ _ _ λi hi=>iD _ _ _ λj hj=>rfl
theorem FW (W C:Nat) (xs:List Int) (Z S h w:Nat):(Ud W C xs Z S h w).length=Z*(Z*C):=
 iD _ _ _ λi hi=>iD _ _ _ λj hj=>by simp
theorem H5 {k:Nat} {H W C:Nat} {xs:List Int} (r:mi H W C xs) (hk:512<k) {l:aA} {Z S h w c:Nat} (hz:l.size=Z) (hs:l.step=S) (v:PW H W Z S h w) (hc:c<C):
  m7 k (xP H W C xs) l h w c=some (jR W C xs Z S h w c):=by
 have hM:=aj;have hv:=v;obtain⟨z1,z3,s2,hh,ww⟩:=hv;have:=r.h8;have:=r.w8;unfold m7
 refine(gf Z 3 (λi=>(List.range Z).flatMap λj=>[atN W C xs (h*S+i) (w*S+j) c]) [] (fin:=some) (λi hi=>by
   have:=mg (λj=>[atN W C xs (h*S+i) (w*S+j) c]) 1 Z (λ_ _=>X1 _);omega) (λi ys next hi hy=>?_) (λys next=>?_) (by omega)).trans (by rw[YC];rfl)
 ·simp only[nV,hz,hs];rw[ab,if_pos (by omega),al hi (by omega)];refine gf Z 1 (λj=>[atN W C xs (h*S+i) (w*S+j) c]) ys (fin:=λy=>next (((i+1:Nat):Int),y)) (λ_ _=>X1 _) (λj zs wA hj hz2=>?_) (λzs wA=>?_) (by omega)
  ·simp only[nU,hz,hs]
   have e1:h*S+i<H:=by omega
   have e2:w*S+j<W:=by omega
   have e:=uI (k:=k) r hk e1 e2 hc;unfold xP at e;simp only[X2]at hy;rw[ab,if_pos (by omega)];simp only[xP];rw[H3 (by omega),IX (by omega),H3 (by omega),IX (by omega),e,aa,bR (by simp;omega),al hj (by omega)]
  ·simp only[nU];rw[ab,if_neg (by omega)]
 ·simp only[nV];rw[ab,if_neg (by omega)]
theorem H6 {α:Type} {ws:List α} {a q i:Nat} (hi:i<q):((ws.take (a+q)).drop a)[i]? =ws[a+i]? :=by
 rw[XU,Yh,if_pos (by omega)]
theorem PX {ws:List Int} {a q:Nat} (h:a+q<=ws.length):(ws.take (a+q)).drop a=(List.range q).map λc=>ws.getD (a+c) 0:=by
 apply List.ext_getElem?;intro i;by_cases c:i<q
 ·rw[H6 c,Yl,List.getElem?_range c,Zf,ag (by omega),dj (by omega)]
 ·rw[Yb (by simp;omega),Yb (by simp;omega)]
theorem Cc {k:Nat} {H W C:Nat} {xs:List Int} (r:mi H W C xs) (hk:512<k) {l:aA} {Z S h w c:Nat} (hz:l.size=Z) (hs:l.step=S) (v:PW H W Z S h w) (hc:c<C):
  cS k l (xP H W C xs) h w c=some (jR W C xs Z S h w c):=by
 have hM:=aj;have hv:=v;obtain⟨z1,z3,s2,hh,ww⟩:=hv;have:=r.h8;have:=r.w8;have:=r.c8;have hcu:=r.Uz;have hlen:=r.len;unfold cS
 refine(gf Z 3 (λi=>(List.range Z).flatMap λj=>[atN W C xs (h*S+i) (w*S+j) c]) [] (fin:=some) (λi hi=>by
   have:=mg (λj=>[atN W C xs (h*S+i) (w*S+j) c]) 1 Z (λ_ _=>X1 _);omega) (λi ys next hi hy=>?_) (λys next=>?_) (by omega)).trans (by rw[YC];rfl)
 ·simp only[et,hz,hs];rw[ab,if_pos (by omega),al hi (by omega)];refine gf Z 1 (λj=>[atN W C xs (h*S+i) (w*S+j) c]) ys (fin:=λy=>next (((i+1:Nat):Int),y)) (λ_ _=>X1 _) (λj zs wA hj hz2=>?_) (λzs wA=>?_) (by omega)
  ·simp only[er,hz,hs]
   have e1:h*S+i<H:=by omega
   have e2:w*S+j<W:=by omega
   have e:=uJ (k:=k) (c:=0) r e1 e2 (by omega);have hp:=wz e1 e2 hc;simp only[X2]at hy;rw[ab,if_pos (by omega)];simp only[xP];rw[H3 (by omega),IX (by omega),H3 (by omega),IX (by omega)];refine(congrArg (λo:Option Int=>o.bind _) e).trans ?_;rw[aa,ab,if_neg (by omega),Yd,IX (by omega),aD,Km r e1 e2 hc,aa,bR (by simp;omega),al hj (by omega)]
  ·simp only[er];rw[ab,if_neg (by omega)]
 ·simp only[et];rw[ab,if_neg (by omega)]
theorem H7 {k:Nat} {H W C:Nat} {xs:List Int} (r:mi H W C xs) (hk:512<k) {l:aA} {Z S h w:Nat} (hz:l.size=Z) (hs:l.step=S) (v:PW H W Z S h w):
  cS k l (xP H W C xs) h w (-1)=some (Ud W C xs Z S h w):=by
 have hM:=aj;have hv:=v;obtain⟨z1,z3,s2,hh,ww⟩:=hv;have:=r.h8;have:=r.w8;have:=r.c8;have hc1:=r.c1;have hcu:=r.Uz;have hlen:=r.len;unfold cS
 refine(gf Z 24 (λi=>(List.range Z).flatMap λj=>(List.range C).map λc=>atN W C xs (h*S+i) (w*S+j) c) [] (fin:=some) (λi hi=>by
   have:=mg (λj=>(List.range C).map λc=>atN W C xs (h*S+i) (w*S+j) c) 8 Z (λ_ _=>by simp;omega);omega) (λi ys next hi hy=>?_) (λys next=>?_) (by omega)).trans (by rw[YC];rfl)
 ·simp only[et,hz,hs];rw[ab,if_pos (by omega),al hi (by omega)];refine gf Z 8 (λj=>(List.range C).map λc=>atN W C xs (h*S+i) (w*S+j) c) ys (fin:=λy=>next (((i+1:Nat):Int),y)) (λ_ _=>by simp;omega) (λj zs wA hj hz2=>?_) (λzs wA=>?_) (by omega)
  ·simp only[er,hz,hs]
   have e1:h*S+i<H:=by omega
   have e2:w*S+j<W:=by omega
   have e:=uJ (k:=k) (c:=0) r e1 e2 (by omega);have hp:=wz (C:=C) (c:=C-1) e1 e2 (by omega);simp only[X2]at hy;rw[ab,if_pos (by omega)];simp only[xP];rw[H3 (by omega),IX (by omega),H3 (by omega),IX (by omega)];refine(congrArg (λo:Option Int=>o.bind _) e).trans ?_;have e3:=PX (ws:=xs) (a:=((h*S+i)*W+(w*S+j))*C) (q:=C) (by omega);have ew:i64.wrap (((((h*S+i)*W+(w*S+j))*C:Nat):Int)+(C:Int))=((((h*S+i)*W+(w*S+j))*C+C:Nat):Int):=IX (by omega);rw[aa,PV (by omega),Yd];refine(PV (by rw[ew];omega) _ _).trans ?_;refine(PV (by rw[ew];omega) _ _).trans ?_;rw[ew,XE,XE,e3,bR (by simp;omega),al hj (by omega)];rfl
  ·simp only[er];rw[ab,if_neg (by omega)]
 ·simp only[et];rw[ab,if_neg (by omega)]
end
section
def Ue (xs ws:List Int):Int:=(List.range xs.length).foldl (λs i=>qT s (B5 (xs.getD i 0)*B5 (ws.getD i 0))) 0
theorem Vp (a b:Int):i64.wrap (B5 a*B5 b)=B5 a*B5 b:=by
 have h1:=B6 a;have h2:=B6 b;have:=Uc (A:=128) (B:=128) (x:=B5 a) (y:=B5 b) (by omega) (by omega);exact aL (by omega) (by omega)
theorem Nh {k:Nat} {xs ws:List Int} (hk:xs.length<k) (hl:ws.length=xs.length) (hN:xs.length<=aG):Fw k xs ws=some (Ue xs ws):=by
 have hM:=aj;unfold Fw Ue
 exact pG xs.length (λs i=>qT s (B5 (xs.getD i 0)*B5 (ws.getD i 0))) 0 (fin:=some) (λi a next hi=>by
  simp only[sU,HU,qH]
  rw[ab,if_pos (by omega),ab,if_pos (by omega),aD,ag hi,aa,aa,aD,ag (by omega),aa,aa,aa,Vp,al hi (by omega),dj hi,dj (by omega)]) (λa next=>by
  simp only[sU]
  rw[ab,if_neg (by omega)]) hk
theorem Ni {k:Nat} {xs ws:List Int} (hk:xs.length<k) (hl:ws.length=xs.length) (hN:xs.length<=aG):Fx k xs ws=some (Ue xs ws):=by
 have hM:=aj;unfold Fx Ue;rw[if_neg (by omega)]
 exact pG xs.length (λs i=>qT s (B5 (xs.getD i 0)*B5 (ws.getD i 0))) 0 (fin:=some) (λi a next hi=>by
  simp only[sY,HV,B7]
  rw[ab,if_pos (by omega),aD,ag hi,aa,aa,aD,ag (by omega),aa,aa,aa,Vp,al hi (by omega),dj hi,dj (by omega)]) (λa next=>by
  simp only[sY]
  rw[ab,if_neg (by omega)]) hk
def uK (l:aA) (xs:List Int) (o:Nat):Int:=
 Cb (qT (Ue xs ((l.weights.take (o*xs.length+xs.length)).drop (o*xs.length))) (l.pN.getD o 0)) l.mult l.shift l.zero
theorem Ce {k:Nat} {l:aA} {xs:List Int} {o:Nat} (hk:xs.length<k) (hN:xs.length<=aG) (hw:o*xs.length+xs.length<=l.weights.length) (hwN:l.weights.length<=aG) (hb:o<l.pN.length) (ho:o<8):
  gg k l xs o=some (uK l xs o):=by
 have hM:=aj
 have e:(o+1)*xs.length=o*xs.length+xs.length:=by rw[X7,Nat.one_mul]
 have e1:i64.wrap (i64.wrap ((o:Int)+1)*(xs.length:Int))=((o*xs.length+xs.length:Nat):Int):=by
  rw[al ho (by omega),H3 (by omega),e]
 have e2:i64.wrap ((o:Int)*(xs.length:Int))=((o*xs.length:Nat):Int):=H3 (by omega);unfold gg uK;rw[e1,e2,ab,if_pos (by omega),ab,if_pos (by omega),XE,XE,Ni hk (by simp;omega) hN,aa,aD,ag hb,aa,B7,aa,HZ,aa,dj hb]
def mj:List Int->Int
 |[]=>0
 |x::xs=>xs.foldl (λm y=>if y>m then y else m) x
theorem LJ {R:Type} {xs:List Int} {x:Int} {g:Int× Int->(Int× Int->Option R)->Option R} {fin:Int->Option R} {k:Nat}
  (h:∀(i:Nat) a next (hi:i<xs.length),g (a,((i+1:Nat):Int)) next=next (if xs[i]>a then xs[i]else a,((i+1+1:Nat):Int))) (hn:∀a next,g (a,((xs.length+1:Nat):Int)) next=fin a) (hk:xs.length<k):
  iter g k (x,(1:Int))=fin (mj (x::xs)):=by
 have:=eG (g:=g) (st:=λi=>((xs.take i).foldl (λm y=>if y>m then y else m) x,((i+1:Nat):Int))) (n:=xs.length) (r:=fin (mj (x::xs))) (λi hi next=>by
  rw[h i _ next hi,cR hi,Yx];rfl) (λnext=>by rw[hn,Yj];rfl) hk
 exact this
theorem se:∀(xs:List Int) (x:Int),mj (x::xs)∈x::xs
 |[],x=>by simp[mj]
 |y::xs,x=>by
  show xs.foldl _ (if y>x then y else x)∈_;by_cases c:y>x
  ·rw[if_pos c];exact XV _ (se xs y)
  ·rw[if_neg c]
   rcases X3.1 (se xs x)with h|h
   ·have h:xs.foldl (λm y=>if y>m then y else m) x=x:=h;rw[h];simp
   ·exact XV _ (XV _ h)
theorem Cf:∀{xs:List Int},(∀x∈xs,-128<=x/\x<=127)->-128*(xs.length:Int)<=xs.sum/\xs.sum<=127*(xs.length:Int)
 |[],_=>by simp
 |x::xs,h=>by
  have h1:=Cf λy hy=>h y (XV _ hy);have h2:=h x (by simp);rw[Y9,XI];omega
theorem H8 {R:Type} {xs:List Int} {g:Int× Int->(Int× Int->Option R)->Option R} {fin:Int->Option R} {k:Nat} (hx:∀x∈xs,-128<=x/\x<=127) (hN:xs.length<=aG)
  (h:∀(i:Nat) a next (hi:i<xs.length),g (a,(i:Int)) next=next (i64.wrap (a+xs[i]),((i+1:Nat):Int))) (hn:∀a next,g (a,(xs.length:Int)) next=fin a) (hk:xs.length<k):
  iter g k ((0:Int),(0:Int))=fin xs.sum:=by
 have hM:=aj
 have:=eG (g:=g) (st:=λi=>((xs.take i).sum,(i:Int))) (n:=xs.length) (r:=fin xs.sum) (λi hi next=>by
  have hb:=Cf (xs:=xs.take (i+1)) λx hm=>hx x (Zb hm)
  have e:(xs.take (i+1)).sum=(xs.take i).sum+xs[i]:=by rw[cR hi,Zr];simp
  rw[e]at hb;simp only[X9]at hb
  rw[h i _ next hi,e,aL (by omega) (by omega)]) (λnext=>by rw[hn,Yj]) hk
 exact this
def ny (W C:Nat) (xs:List Int) (l:aA) (Z S h w o:Nat):Int:=
  cond (l.kind==0) (uK l xs o) (cond (l.kind==1) (uK l (Ud W C xs Z S h w) o)
    (cond (l.kind==2) (mj (jR W C xs Z S h w o)) (cond (l.kind==3) (im (jR W C xs Z S h w o).sum ((Z*Z:Nat):Int))
      (cond (l.kind==4) (if atN W C xs h w o<l.zero then l.zero else atN W C xs h w o) (xs.getD o 0)))))
inductive Fits (H W C:Nat) (xs:List Int) (l:aA) (Z S h w o:Nat):Prop
 |RO (h0:l.kind=0) (hb:o<l.pN.length) (h8:o<8) (hw:o*xs.length+xs.length<=l.weights.length)
 |conv (h0:l.kind=1) (hb:o<l.pN.length) (h8:o<8) (hw:o*(Z*(Z*C))+Z*(Z*C)<=l.weights.length) (v:PW H W Z S h w) (hi:∀x∈l.weights,-128<=x/\x<=127)
 |max (h0:l.kind=2) (v:PW H W Z S h w) (ho:o<C)
 |avg (h0:l.kind=3) (v:PW H W Z S h w) (ho:o<C)
 |V0 (h0:l.kind=4) (h1:h<H) (h2:w<W) (h3:o<C) (hz:-128<=l.zero/\l.zero<=127)
 |flat (h0:l.kind=5) (ho:o<xs.length)
theorem Ae {H W C:Nat} {xs:List Int} (r:mi H W C xs) {Z S h w o:Nat} (v:PW H W Z S h w) (ho:o<C):∀x∈jR W C xs Z S h w o,-128<=x/\x<=127:=by
 intro x hx;obtain⟨z1,z3,s2,hh,ww⟩:=v;unfold jR at hx;rw[Zk]at hx;obtain⟨i,hi,hx⟩:=hx;rw[Zk]at hx;obtain⟨j,hj,hx⟩:=hx;rw[List.mem_range]at hi hj;rw[Ym]at hx;rw[hx];exact LI r (by omega) (by omega) ho
theorem Cg {H W C:Nat} {xs:List Int} {Z S h w o:Nat} (v:PW H W Z S h w):∃x ys,jR W C xs Z S h w o=x::ys:=by
 have hl:=H4 W C xs Z S h w o;have:=v.z1
 have hp:1<=Z*(Z*1):=by rw[Nat.mul_one];exact Yu this this
 cases hc:jR W C xs Z S h w o with
 |nil=>rw[hc]at hl;simp only[X2]at hl;omega
 |cons x ys=>exact⟨x,ys,rfl⟩
theorem pH {H W C:Nat} {xs:List Int} {Z S h w o:Nat} (v:PW H W Z S h w):(jR W C xs Z S h w o).length=Z*Z/\1<=Z*Z/\Z*Z<=9:=by
 have hl:=H4 W C xs Z S h w o;rw[Nat.mul_one]at hl;exact⟨hl,Yu v.z1 v.z1,Yu v.z3 v.z3⟩
theorem PY {k:Nat} {H W C:Nat} {xs:List Int} (r:mi H W C xs) {l:aA} {Z S h w o:Nat} (hk:512<k) (hwN:l.weights.length<=aG) (hz:l.size=Z) (hs:l.step=S) (f:Fits H W C xs l Z S h w o):
  od k l (xP H W C xs) h w o=some (ny W C xs l Z S h w o):=by
 have hM:=aj;have hcu:=r.Uz;have hlen:=r.len;unfold od ny
 cases f with
 |RO h0 hb h8 hw=>
  rw[h0];show(gg k l xs o).bind _=_
  rw[Ce (by omega) (by omega) hw hwN hb h8];rfl
 |conv h0 hb h8 hw v hi=>
  have hl:=FW W C xs Z S h w;have:Z*(Z*C)<=3*(3*8):=Yu v.z3 (Yu v.z3 r.c8);rw[h0];show(cS k l (xP H W C xs) h w (-1)).bind _=_
  rw[H7 r hk hz hs v,aa,Ce (by omega) (by omega) (by rw[hl];exact hw) hwN hb h8];rfl
 |max h0 v ho=>
  rw[h0];show(cS k l (xP H W C xs) h w o).bind _=_;rw[Cc r hk hz hs v ho,aa];have hl:=pH (xs:=xs) (C:=C) (o:=o) v;obtain⟨x,ys,e⟩:=Cg (xs:=xs) (C:=C) (o:=o) v;rw[e]at hl;simp only[XI]at hl;show(fO k (jR W C xs Z S h w o)).bind _=some (mj (jR W C xs Z S h w o));rw[e];unfold fO
  rw[ab,if_neg (by simp only[XI];omega),vx,Zs,aa,LJ (xs:=ys) (x:=x) (fin:=some) (λi a next hi=>by
   simp only[eH]
   rw[ab,if_pos (by simp only[XI];omega),aD,Ze,ag hi,aa,al (show i+1<ys.length+1 by omega) (by omega)]) (λa next=>by
   simp only[eH]
   rw[ab,if_neg (by simp only[XI];omega)]) (by omega)]
  rfl
 |avg h0 v ho=>
  rw[h0];show(cS k l (xP H W C xs) h w o).bind _=_;rw[Cc r hk hz hs v ho,aa];have hl:=pH (xs:=xs) (C:=C) (o:=o) v;have hm:=Ae r v ho;have hb:=Cf hm;show _=some (im (jR W C xs Z S h w o).sum ((Z*Z:Nat):Int))
  rw[H8 (xs:=jR W C xs Z S h w o) (fin:=λy=>(pB k y (i64.wrap (l.size*l.size))).bind λr9=>some r9) hm (by omega) (λi a next hi=>by
   simp only[jB]
   rw[ab,if_pos (by omega),ab,if_pos (by omega),XE,ag hi,aa,al hi (by omega)]) (λa next=>by
   simp only[jB]
   rw[ab,if_neg (by omega)]) (by omega)]
  rw[hz,H3 (by omega),zj (by omega) (by omega),aa]
 |V0 h0 h1 h2 h3 hz=>
  simp only[h0,show((4:Int)==0)=false from rfl,show((4:Int)==1)=false from rfl,show((4:Int)==2)=false from rfl,show((4:Int)==3)=false from rfl,beq_self_eq_true,cond_true,cond_false];refine(congrArg (λo:Option Int=>o.bind _) (uJ (k:=k) r h1 h2 h3)).trans ?_;rw[aa];show(idx xs _).bind _=_;rw[aD,Km r h1 h2 h3]
  rfl
 |flat h0 ho=>
  rw[h0];show(idx xs (o:Int)).bind _=_;rw[aD,ag ho];show _=some (xs.getD o 0);rw[dj ho];rfl
theorem Uf {W C:Nat} {xs:List Int} {Z S h w i j c:Nat} (hi:i<Z) (hj:j<Z) (hc:c<C):(Ud W C xs Z S h w)[i*(Z*C)+(j*C+c)]? =some (atN W C xs (h*S+i) (w*S+j) c):=by
 have hb:j*C+c<Z*C:=by
  have:(j+1)*C<=Z*C:=XZ _ hj;rw[X7]at this;omega
 unfold Ud;rw[FT _ (Z*C) Z (λi hi=>iD _ C Z λj hj=>by simp) i (j*C+c) hi hb,FT _ C Z (λj hj=>by simp) j c hj hc,Yl,List.getElem?_range hc];rfl
theorem Ei {o Z i j C c:Nat}:((o*Z+i)*Z+j)*C+c=o*(Z*(Z*C))+(i*(Z*C)+(j*C+c)):=by
 simp only[X7,Nat.mul_assoc,Yz]
theorem RP {H W C:Nat} {xs:List Int} (r:mi H W C xs) {ws:List Int} (hi:∀x∈ws,-128<=x/\x<=127) {Z S h w o:Nat} (v:PW H W Z S h w) (hw:o*(Z*(Z*C))+Z*(Z*C)<=ws.length):
  Ue (Ud W C xs Z S h w) ((ws.take (o*(Z*(Z*C))+Z*(Z*C))).drop (o*(Z*(Z*C))))=
   (List.range Z).foldl (λs i=>(List.range Z).foldl (λs j=>(List.range C).foldl (λs c=>qT s (atN W C xs (h*S+i) (w*S+j) c*ws.getD (((o*Z+i)*Z+j)*C+c) 0)) s) s) 0:=by
 obtain⟨z1,z3,s2,hh,ww⟩:=v;unfold Ue;rw[FW,FU];refine fold_congr Z _ λs i hi2=>?_;rw[FU];refine fold_congr Z _ λs j hj=>?_;refine fold_congr C _ λs c hc=>?_
 have hb:j*C+c<Z*C:=by
  have:(j+1)*C<=Z*C:=XZ _ hj;rw[X7]at this;omega
 have hb2:i*(Z*C)+(j*C+c)<Z*(Z*C):=by
  have:(i+1)*(Z*C)<=Z*(Z*C):=XZ _ hi2;rw[X7]at this;omega
 have a1:=LI r (show h*S+i<H by omega) (show w*S+j<W by omega) hc;have a2:=hi _ (Ad (xs:=ws) (i:=o*(Z*(Z*C))+(i*(Z*C)+(j*C+c))) (by omega));rw[Ys,Uf hi2 hj hc,YP,Ys,H6 hb2,<-Ys,Ei];unfold B5;rw[SM (by omega) (by omega),SM (by omega) (by omega)]
theorem PZ {k:Nat} {H W C:Nat} {xs:List Int} (r:mi H W C xs) {l:aA} {Z S h w o:Nat} (hk:512<k) (hwN:l.weights.length<=aG) (hz:l.size=Z) (hs:l.step=S) (f:Fits H W C xs l Z S h w o):
  vQ k (xP H W C xs) l h w o=some (ny W C xs l Z S h w o):=by
 have hM:=aj;have hcu:=r.Uz;have hlen:=r.len;unfold vQ ny
 cases f with
 |RO h0 hb h8 hw=>
  rw[h0];simp only[beq_self_eq_true,cond_true]
  rw[qB,aa,show(xP H W C xs).sh.size=((xs.length:Nat):Int)from by rw[hlen];exact r.size,H3 (by omega),IX (by omega),ab,if_pos (by omega),ab,if_pos (by omega),XE,XE,
   show(xP H W C xs).data=xs from rfl,Nh (by omega) (by simp;omega) (by omega),aa,aD,ag hb,aa,qH,aa,zl,aa]
  unfold uK
  rw[dj hb]
 |conv h0 hb h8 hw v hi=>
  have hl:=FW W C xs Z S h w;have hvv:=v;obtain⟨z1,z3,s2,hh,ww⟩:=hvv;have:=r.h8;have:=r.w8;have hc8:=r.c8;have hq:Z*(Z*C)<=3*(3*8):=Yu v.z3 (Yu v.z3 r.c8);rw[h0];show iter _ k _=some (uK l (Ud W C xs Z S h w) o)
  refine(pG Z (λs i=>(List.range Z).foldl (λs j=>(List.range C).foldl (λs c=>qT s (atN W C xs (h*S+i) (w*S+j) c*l.weights.getD (((o*Z+i)*Z+j)*C+c) 0)) s) s) 0
   (fin:=λy=>(idx l.pN (o:Int)).bind λe14=>(nS k y e14).bind λr15=>(pA k r15 l.mult l.shift l.zero).bind λr16=>some r16) (λi a next hi2=>?_) (λa next=>?_) (by omega)).trans ?_
  ·simp only[nY,hz,hs];rw[ab,if_pos (by omega),al hi2 (by omega)];refine pG Z (λs j=>(List.range C).foldl (λs c=>qT s (atN W C xs (h*S+i) (w*S+j) c*l.weights.getD (((o*Z+i)*Z+j)*C+c) 0)) s) a (fin:=λy=>next (y,((i+1:Nat):Int))) (λj a2 wA hj=>?_) (λa2 wA=>?_) (by omega)
   ·simp only[nX,hz,hs];rw[ab,if_pos (by omega),al hj (by omega)];refine pG C (λs c=>qT s (atN W C xs (h*S+i) (w*S+j) c*l.weights.getD (((o*Z+i)*Z+j)*C+c) 0)) a2 (fin:=λy=>wA (y,((j+1:Nat):Int))) (λc a3 next3 hc=>?_) (λa3 next3=>?_) (by omega)
    ·have e1:h*S+i<H:=by omega
     have e2:w*S+j<W:=by omega
     have e:=uI (k:=k) r hk e1 e2 hc;have o1:o*Z<=7*3:=Yu (by omega) z3;have o2:(o*Z+i)*Z<=23*3:=Yu (by omega) z3;have o3:((o*Z+i)*Z+j)*C<=71*8:=Yu (by omega) hc8
     have hb:j*C+c<Z*C:=by
      have:(j+1)*C<=Z*C:=XZ _ hj;rw[X7]at this;omega
     have hb2:i*(Z*C)+(j*C+c)<Z*(Z*C):=by
      have:(i+1)*(Z*C)<=Z*(Z*C):=XZ _ hi2;rw[X7]at this;omega
     have hx:((o*Z+i)*Z+j)*C+c<l.weights.length:=by rw[Ei];omega
     have a1:=LI r e1 e2 hc;have a2:=hi _ (Ad hx);have a3:=Uc (A:=128) (B:=128) (x:=atN W C xs (h*S+i) (w*S+j) c) (y:=l.weights.getD (((o*Z+i)*Z+j)*C+c) 0) (by omega) (by omega);unfold xP at e;simp only[nW,hz,hs,xP];refine(PV (by omega) _ _).trans ?_;rw[H3 (a:=h) (by omega),IX (b:=i) (by omega),H3 (a:=w) (by omega),IX (b:=j) (by omega),e,aa,H3 (a:=o) (by omega),IX (b:=i) (by omega),H3 (by omega),IX (b:=j) (by omega),H3 (by omega),IX (b:=c) (by omega),aD,ag hx,aa,<-dj hx 0,aL (n:=atN W C xs (h*S+i) (w*S+j) c*l.weights.getD (((o*Z+i)*Z+j)*C+c) 0) (by omega) (by omega),qH,aa,al hc (by omega)]
    ·simp only[nW,xP];exact WD (by omega) _ _
   ·simp only[nX,hz];rw[ab,if_neg (by omega)]
  ·simp only[nY,hz];rw[ab,if_neg (by omega)]
  ·rw[aD,ag hb,aa,qH,aa,zl,aa];unfold uK
   rw[hl,RP r hi v hw,dj hb]
 |max h0 v ho=>
  rw[h0];show(m7 k (xP H W C xs) l h w o).bind _=_;rw[H5 r hk hz hs v ho,aa];have hl:=pH (xs:=xs) (C:=C) (o:=o) v;obtain⟨x,ys,e⟩:=Cg (xs:=xs) (C:=C) (o:=o) v;rw[e]at hl;simp only[XI]at hl;show _=some (mj (jR W C xs Z S h w o));rw[e,ab,if_pos (by simp only[XI];omega)];show(some x).bind _=_
  rw[aa,LJ (xs:=ys) (x:=x) (fin:=some) (λi a next hi=>by
   simp only[nZ];rw[ab,if_pos (by simp only[XI];omega),ab,if_pos (by simp only[XI];omega),XE,Ze,ag hi,aa,al (show i+1<ys.length+1 by omega) (by omega)]
   have hlt:0<=((i+1:Nat):Int)/\((i+1:Nat):Int)<(((x::ys).length:Nat):Int):=by rw[XI];omega
   rw[PV hlt,aa,ab];by_cases c:ys[i]>a
   ·rw[if_pos c,if_pos c]
   ·rw[if_neg c,if_neg c]) (λa next=>by
   simp only[nZ]
   rw[ab,if_neg (by simp only[XI];omega)]) (by omega)]
 |avg h0 v ho=>
  rw[h0];show(m7 k (xP H W C xs) l h w o).bind _=_;rw[H5 r hk hz hs v ho,aa];have hl:=pH (xs:=xs) (C:=C) (o:=o) v;have hm:=Ae r v ho;have hb:=Cf hm;show _=some (im (jR W C xs Z S h w o).sum ((Z*Z:Nat):Int))
  rw[H8 (xs:=jR W C xs Z S h w o) (fin:=λy26=>(cond (decide (y26<(0:Int))) (cond (decide ((i64.wrap ((2:Int)*((jR W C xs Z S h w o).length:Int)))=0)) none (some (i64.wrap (0-(i64.wrap ((i64.wrap ((i64.wrap ((-2:Int)*y26))+((jR W C xs Z S h w o).length:Int))).tdiv (i64.wrap ((2:Int)*((jR W C xs Z S h w o).length:Int))))))))) (cond (decide ((i64.wrap ((2:Int)*((jR W C xs Z S h w o).length:Int)))=0)) none (some (i64.wrap ((i64.wrap ((i64.wrap ((2:Int)*y26))+((jR W C xs Z S h w o).length:Int))).tdiv (i64.wrap ((2:Int)*((jR W C xs Z S h w o).length:Int))))))))) hm (by omega) (λi a next hi=>by
   simp only[oa]
   rw[ab,if_pos (by omega),ab,if_pos (by omega),XE,ag hi,aa,al hi (by omega)]) (λa next=>by
   simp only[oa]
   rw[ab,if_neg (by omega)]) (by omega)]
  rw[hl.1]at hb⊢;generalize (jR W C xs Z S h w o).sum=y at hb⊢;obtain⟨n,hn⟩:∃n:Nat,n=Z*Z:=⟨_,rfl⟩;rw[<-hn]at hb hl⊢;unfold im;rw[aL (n:=2*(n:Int)) (by omega) (by omega),ab];by_cases c:y<0
  ·rw[if_pos c,if_pos c,ab,if_neg (by omega),aL (n:=-2*y) (by omega) (by omega),aL (n:=-2*y+(n:Int)) (by omega) (by omega),YF (by omega),show 2*-y+(n:Int)=-2*y+(n:Int)from by omega];have h:=Eg (a:=-2*y+(n:Int)) (b:=2*(n:Int)) (by omega) (by omega);generalize (-2*y+(n:Int))/(2*(n:Int))=q at h;rw[aL (n:=q) (by omega) (by omega),aL (by omega) (by omega)]
   congr 1;omega
  ·rw[if_neg c,if_neg c,ab,if_neg (by omega),aL (n:=2*y) (by omega) (by omega),aL (n:=2*y+(n:Int)) (by omega) (by omega),YF (by omega)];have h:=Eg (a:=2*y+(n:Int)) (b:=2*(n:Int)) (by omega) (by omega)
   rw[aL (by omega) (by omega)]
 |V0 h0 h1 h2 h3 hz=>
  rw[h0];show(qu k (xP H W C xs) h w o).bind _=_;rw[uI r hk h1 h2 h3,aa];show cond (decide (atN W C xs h w o<l.zero)) _ _=some (if atN W C xs h w o<l.zero then l.zero else atN W C xs h w o);rw[ab];by_cases c:atN W C xs h w o<l.zero
  ·rw[if_pos c,if_pos c]
  ·rw[if_neg c,if_neg c]
 |flat h0 ho=>
  rw[h0];show(idx xs (o:Int)).bind _=_;rw[aD,ag ho];show _=some (xs.getD o 0);rw[dj ho];rfl
end
section
theorem xQ {a b:Int} {x:Int} (h:a<=x/\x<=b) (h0:0<=a):∃n:Nat,x=n:=⟨x.toNat,by omega⟩
theorem zm {H W C Z S:Nat} {l:aA} {c:Int} (hz:l.size=Z) (hs:l.step=S) (s1:1<=S) (h8:H<=8) (w8:W<=8) (hzH:Z<=H) (hzW:Z<=W):
  tf ⟨H,W,C⟩ l c=⟨((H-Z)/S+1:Nat),((W-Z)/S+1:Nat),c⟩:=by
 have key:∀n:Nat,n<=8->Z<=n->i64.wrap ((i64.wrap ((i64.wrap ((n:Int)-(Z:Int))).tdiv (S:Int)))+1)=(((n-Z)/S+1:Nat):Int):=λn h1 h2=>by
  have e1:((n:Int)-(Z:Int))=((n-Z:Nat):Int):=by omega
  have e2:(((n-Z:Nat):Int)).tdiv (S:Int)=(((n-Z)/S:Nat):Int):=rfl;have e3:(n-Z)/S<=n-Z:=Nat.div_le_self _ _;rw[e1,aL (n:=((n-Z:Nat):Int)) (by omega) (by omega),e2];generalize (n-Z)/S=q at e3;rw[aL (n:=((q:Nat):Int)) (by omega) (by omega),aL (by omega) (by omega)];omega
 unfold tf;rw[hz,hs];simp only[key H h8 hzH,key W w8 hzW]
theorem FX {n Z S:Nat} (h:n<=8) (h1:1<=Z) (h2:Z<=n):1<=(n-Z)/S+1/\(n-Z)/S+1<=8:=by
 have e3:(n-Z)/S<=n-Z:=Nat.div_le_self _ _;generalize (n-Z)/S=q at e3;omega
theorem P0 {H W Z S h w:Nat} (z1:1<=Z) (z3:Z<=3) (s1:1<=S) (s2:S<=2) (hzH:Z<=H) (hzW:Z<=W) (hh:h<(H-Z)/S+1) (hw:w<(W-Z)/S+1):PW H W Z S h w:=by
 have a1:h*S<=H-Z:=(Nat.le_div_iff_mul_le (by omega)).1 (by omega);have a2:w*S<=W-Z:=(Nat.le_div_iff_mul_le (by omega)).1 (by omega);exact⟨z1,z3,s2,by omega,by omega⟩
theorem H9 {l:aA} (h:LC l=true):(1<=l.out/\l.out<=8)/\(l.pN.length:Int)=l.out/\∀x∈l.weights,-128<=x/\x<=127:=by
 simp only[LC,XB,bd,decide_eq_true_eq]at h;obtain⟨h1,h2,h3,h4,h5,h6,h7⟩:=h;unfold v8 at h7;rw[X6]at h7;exact⟨h1,h5,λx hx=>bd.1 (h7 x hx)⟩
theorem xR {H W C:Nat} {xs:List Int} (r:mi H W C xs) {l:aA} (hl:jL ⟨H,W,C⟩ l=true):
  ∃Z S H' W' C':Nat,l.size=Z/\l.step=S/\shapeOf ⟨H,W,C⟩ l=⟨H',W',C'⟩/\(1<=H'/\H'<=8)/\(1<=W'/\W'<=8)/\(1<=C'/\C'<=8)/\
   ∀h w o,h<H'->w<W'->o<C'->Fits H W C xs l Z S h w o:=by
 have hr:=r;obtain⟨h1,h8,w1,w8,c1,c8,hlen,QC⟩:=hr;have hsz:=r.size;unfold jL at hl;rw[XB]at hl;obtain⟨-,hl⟩:=hl;unfold shapeOf;by_cases k0:l.kind=0
 ·rw[decide_eq_true k0]at hl⊢;simp only[cond_true,XB,decide_eq_true_eq,qX]at hl;obtain⟨⟨z0,s0⟩,hn,hs,hw⟩:=hl;obtain⟨ho,hb,hi⟩:=H9 hn;obtain⟨O,hO⟩:=xQ ho (by omega);rw[hO]at ho hb;refine⟨0,0,1,1,O,by omega,by omega,by rw[cond_true,hO];rfl,by omega,by omega,by omega,λh w o _ _ hlt=>.RO k0 (by omega) (by omega) ?_⟩;rw[hO,hsz]at hw;have:((O:Int)*((H*W*C:Nat):Int))=((O*(H*W*C):Nat):Int):=(YK _ _).symm;rw[this]at hw;have:(o+1)*(H*W*C)<=O*(H*W*C):=XZ _ hlt;rw[X7,Nat.one_mul]at this;rw[hlen];omega
 rw[decide_eq_false k0]at hl⊢;simp only[cond_false]at hl⊢;by_cases k1:l.kind=1
 ·rw[decide_eq_true k1]at hl⊢;simp only[cond_true,XB,decide_eq_true_eq]at hl⊢;obtain⟨WE,hn,hw,hw6⟩:=hl;obtain⟨z1,z3,s1,s2,zh,zw⟩:=rY WE;obtain⟨ho,hb,hi⟩:=H9 hn;obtain⟨O,hO⟩:=xQ ho (by omega);obtain⟨Z,hZ⟩:=xQ ⟨z1,z3⟩ (by omega);obtain⟨S,hS⟩:=xQ ⟨s1,s2⟩ (by omega);rw[hO]at ho hb;rw[hZ]at z1 z3 zh zw;rw[hS]at s1 s2
  have zh:Z<=H:=by have:((Z:Nat):Int)<=(H:Int):=zh;omega
  have zw:Z<=W:=by have:((Z:Nat):Int)<=(W:Int):=zw;omega
  have d1:=FX (S:=S) h8 (show 1<=Z by omega) zh;have d2:=FX (S:=S) w8 (show 1<=Z by omega) zw;refine⟨Z,S,(H-Z)/S+1,(W-Z)/S+1,O,hZ,hS,by rw[zm hZ hS (by omega) h8 w8 zh zw,hO],d1,d2,by omega,λh w o hh hw2 hlt=>.conv k1 (by omega) (by omega) ?_ (P0 (by omega) (by omega) (by omega) (by omega) zh zw hh hw2) hi⟩;rw[hO,hZ]at hw
  have:((O:Int)*(Z:Int)*(Z:Int)*(C:Int))=((O*(Z*(Z*C)):Nat):Int):=by
   rw[YK,YK,YK,Z1,Z1]
  have hw:(l.weights.length:Int)=(O:Int)*(Z:Int)*(Z:Int)*(C:Int):=hw;rw[this]at hw;have:(o+1)*(Z*(Z*C))<=O*(Z*(Z*C)):=XZ _ hlt;rw[X7,Nat.one_mul]at this;omega
 rw[decide_eq_false k1]at hl⊢;simp only[cond_false]at hl⊢;by_cases k2:l.kind=2\/l.kind=3
 ·have hk:(decide (l.kind=2)||decide (l.kind=3))=true:=by simpa using k2
  rw[hk]at hl;simp only[cond_true,XB,decide_eq_true_eq]at hl;obtain⟨WE,hn,hw⟩:=hl;obtain⟨z1,z3,s1,s2,zh,zw⟩:=rY WE;obtain⟨Z,hZ⟩:=xQ ⟨z1,z3⟩ (by omega);obtain⟨S,hS⟩:=xQ ⟨s1,s2⟩ (by omega);rw[hZ]at z1 z3 zh zw;rw[hS]at s1 s2
  have zh:Z<=H:=by have:((Z:Nat):Int)<=(H:Int):=zh;omega
  have zw:Z<=W:=by have:((Z:Nat):Int)<=(W:Int):=zw;omega
  have d1:=FX (S:=S) h8 (show 1<=Z by omega) zh;have d2:=FX (S:=S) w8 (show 1<=Z by omega) zw;rw[decide_eq_false (show¬l.kind=4 by omega),decide_eq_false (show¬l.kind=5 by omega)];simp only[cond_false];refine⟨Z,S,(H-Z)/S+1,(W-Z)/S+1,C,hZ,hS,zm hZ hS (by omega) h8 w8 zh zw,d1,d2,by omega,λh w o hh hw2 hlt=>?_⟩;have v:=P0 (by omega) (by omega) (by omega) (by omega) zh zw hh hw2
  rcases k2 with k2|k2
  ·exact .max k2 v hlt
  ·exact .avg k2 v hlt
 have hk:(decide (l.kind=2)||decide (l.kind=3))=false:=by simpa using k2
 rw[hk]at hl;simp only[cond_false]at hl;by_cases k4:l.kind=4
 ·rw[decide_eq_true k4]at hl⊢;simp only[cond_true,XB,decide_eq_true_eq,qX,bd]at hl⊢;obtain⟨⟨z0,s0⟩,hn,hz⟩:=hl;exact⟨0,0,H,W,C,by omega,by omega,rfl,by omega,by omega,by omega,λh w o a b c=>.V0 k4 a b c hz⟩
 rw[decide_eq_false k4]at hl⊢;simp only[cond_false]at hl⊢;by_cases k5:l.kind=5
 ·rw[decide_eq_true k5]at hl⊢;simp only[cond_true,XB,decide_eq_true_eq,qX]at hl⊢;obtain⟨⟨z0,s0⟩,hn,hz,hs⟩:=hl;have p1:1<=H*W:=Yu h1 w1;have p2:1<=H*W*C:=Yu p1 c1;rw[hsz]at hs⊢;exact⟨0,0,1,1,H*W*C,by omega,by omega,rfl,by omega,by omega,by omega,λh w o a b c=>.flat k5 (by rw[hlen];exact c)⟩
 rw[decide_eq_false k5]at hl;exact nomatch hl
theorem Nj {x d:Int} (hd:1<=d) (h1:-128*d<=x) (h2:x<=127*d):-128<=im x d/\im x d<=127:=by
 unfold im;by_cases c:x<0
 ·rw[if_pos c];have a1:0<=(2*-x+d)/(2*d):=Int.ediv_nonneg (by omega) (by omega);have a2:(2*-x+d)/(2*d)<129:=Int.ediv_lt_of_lt_mul (by omega) (by omega);omega
 ·rw[if_neg c];have a1:0<=(2*x+d)/(2*d):=Int.ediv_nonneg (by omega) (by omega);have a2:(2*x+d)/(2*d)<128:=Int.ediv_lt_of_lt_mul (by omega) (by omega);omega
theorem RQ {H W C:Nat} {xs:List Int} (r:mi H W C xs) {l:aA} {Z S h w o:Nat} (f:Fits H W C xs l Z S h w o):-128<=ny W C xs l Z S h w o/\ny W C xs l Z S h w o<=127:=by
 unfold ny
 cases f with
 |RO h0 hb h8 hw=>rw[h0];exact B6 _
 |conv h0 hb h8 hw v hi=>rw[h0];exact B6 _
 |max h0 v ho=>
  rw[h0];obtain⟨x,ys,e⟩:=Cg (xs:=xs) (C:=C) (o:=o) v;show -128<=mj (jR W C xs Z S h w o)/\mj (jR W C xs Z S h w o)<=127;have:=Ae r v ho;rw[e]at this⊢
  exact this _ (se ys x)
 |avg h0 v ho=>
  rw[h0];have hl:=pH (xs:=xs) (C:=C) (o:=o) v;have hb:=Cf (Ae r v ho);rw[hl.1]at hb;show -128<=im (jR W C xs Z S h w o).sum ((Z*Z:Nat):Int)/\im (jR W C xs Z S h w o).sum ((Z*Z:Nat):Int)<=127
  exact Nj (by omega) hb.1 hb.2
 |V0 h0 h1 h2 h3 hz=>
  rw[h0];have:=LI r h1 h2 h3;show -128<=(if atN W C xs h w o<l.zero then l.zero else atN W C xs h w o)/\(if atN W C xs h w o<l.zero then l.zero else atN W C xs h w o)<=127;by_cases c:atN W C xs h w o<l.zero
  ·rw[if_pos c];exact hz
  ·rw[if_neg c];exact this
 |flat h0 ho=>rw[h0];exact r.mem _ (Ad ho)
def runN (W C:Nat) (xs:List Int) (l:aA) (Z S H' W' C':Nat):List Int:=
 (List.range H').flatMap λh=>(List.range W').flatMap λw=>(List.range C').flatMap λo=>[ny W C xs l Z S h w o]
def QD (t:az) (l:aA):az× Bool:=
 cond (t.okB&&jL t.sh l) (⟨shapeOf t.sh l,runN t.sh.w.toNat t.sh.c.toNat t.data l l.size.toNat l.step.toNat (shapeOf t.sh l).h.toNat (shapeOf t.sh l).w.toNat (shapeOf t.sh l).c.toNat⟩,true) (⟨kh,[]⟩,false)
theorem RR (W C:Nat) (xs:List Int) (l:aA) (Z S H' W' C':Nat):(runN W C xs l Z S H' W' C').length=H'*(W'*(C'*1)):=
 iD _ _ _ λi hi=>iD _ _ _ λj hj=>iD _ _ _ λo ho=>rfl
theorem Nk {t:az} {l:aA} (h1:t.okB=true) (h2:jL t.sh l=true):(QD t l).1.okB=true/\(QD t l).1.sh=shapeOf t.sh l/\(QD t l).2=true:=by
 obtain⟨H,W,C,r,e⟩:=FV h1
 have e2:t.sh=⟨H,W,C⟩:=by rw[e];rfl
 have h2':=h2;rw[e2]at h2';obtain⟨Z,S,H',W',C',hz,hs,hsh,a1,a2,a3,hf⟩:=xR r h2';unfold QD;rw[h1,h2];simp only[Bool.and_self,cond_true];refine And.intro ?_ (by simp);rw[e2,hsh,show l.size.toNat=Z from by omega,show l.step.toNat=S from by omega];simp only[XE];refine mi.ok (H:=H') (W:=W') (C:=C') ⟨a1.1,a1.2,a2.1,a2.2,a3.1,a3.2,by rw[RR,Nat.mul_one,Nat.mul_assoc],λx hx=>?_⟩;unfold runN at hx;rw[Zk]at hx;obtain⟨i,hi,hx⟩:=hx;rw[Zk]at hx;obtain⟨j,hj,hx⟩:=hx;rw[Zk]at hx;obtain⟨o,ho,hx⟩:=hx;rw[List.mem_range]at hi hj ho;rw[Ym]at hx;rw[hx];exact RQ r (hf i j o hi hj ho)
theorem FY {k:Nat} {t:az} {l:aA} (hk:512<k) (hd:t.data.length<k) (hdN:t.data.length<=aG) (hl:l.tot<k) (hlN:l.tot<=aG):sV k t l=some (QD t l):=by
 have hM:=aj;unfold sV QD;rw[md hd (by unfold pK;omega),aa];cases h1:t.okB
 ·rfl
 simp only[XJ,cond_false,XM];rw[qD hl hlN,aa];unfold kI;cases h2:jL t.sh l
 ·rfl
 obtain⟨H,W,C,r,e⟩:=FV h1;obtain⟨sh,xs⟩:=t;have e2:sh=⟨H,W,C⟩:=congrArg az.sh e;subst e2;obtain⟨Z,S,H',W',C',hz,hs,hsh,a1,a2,a3,hf⟩:=xR r h2
 have hwN:l.weights.length<=aG:=by unfold aA.tot at hlN;omega
 simp only[cond_true,XJ,cond_false];rw[hsh,show l.size.toNat=Z from by omega,show l.step.toNat=S from by omega];simp only[XE]
 have m1:∀w:Nat,∀h:Nat,((List.range C').flatMap λo=>[ny W C xs l Z S h w o]).length<=8:=λw h=>by
  have:=mg (λo=>[ny W C xs l Z S h w o]) 1 C' (λ_ _=>X1 _);omega
 have m2:∀h:Nat,((List.range W').flatMap λw=>(List.range C').flatMap λo=>[ny W C xs l Z S h w o]).length<=64:=λh=>by
  have:=mg (λw=>(List.range C').flatMap λo=>[ny W C xs l Z S h w o]) 8 W' (λw _=>m1 w h);omega
 refine(gf H' 64 (λh=>(List.range W').flatMap λw=>(List.range C').flatMap λo=>[ny W C xs l Z S h w o]) [] (fin:=λy=>some ((⟨⟨H',W',C'⟩,y⟩:az),true)) (λh _=>m2 h) (λh ys next hi hy=>?_) (λys next=>?_) (by omega)).trans (by rw[YC];rfl)
 ·simp only[lT];rw[ab,if_pos (by omega),al hi (by omega)];refine gf W' 8 (λw=>(List.range C').flatMap λo=>[ny W C xs l Z S h w o]) ys (fin:=λy=>next (((h+1:Nat):Int),y)) (λw _=>m1 w h) (λw zs wA hj hz2=>?_) (λzs wA=>?_) (by omega)
  ·simp only[lS];rw[ab,if_pos (by omega),al hj (by omega)];refine gf C' 1 (λo=>[ny W C xs l Z S h w o]) zs (fin:=λy=>wA (((w+1:Nat):Int),y)) (λ_ _=>X1 _) (λo us next3 ho hz3=>?_) (λus next3=>?_) (by omega)
   ·simp only[lR];simp only[X2]at hy;have eq:=PZ (k:=k) r (l:=l) hk hwN hz hs (hf h w o hi hj ho);rw[ab,if_pos (by omega)];refine(congrArg (λo:Option Int=>o.bind _) eq).trans ?_;rw[aa,bR (by simp;omega),al ho (by omega)]
   ·simp only[lR];rw[ab,if_neg (by omega)]
  ·simp only[lS];rw[ab,if_neg (by omega)]
 ·simp only[lT];rw[ab,if_neg (by omega)]
theorem FZ {k:Nat} {t:az} {l:aA} (hk:512<k) (hd:t.data.length<k) (hdN:t.data.length<=aG) (hl:l.tot<k) (hlN:l.tot<=aG):sZ k t l=some (QD t l):=by
 have hM:=aj;unfold sZ QD;rw[qE hl hlN,aa,qC hd (by unfold pK;omega)];unfold kI;cases h2:jL t.sh l
 ·cases t.okB<;>rfl
 simp only[cond_true,XJ,cond_false,aa];cases h1:t.okB
 ·rfl
 simp only[XJ,cond_false,Bool.and_self,cond_true];obtain⟨H,W,C,r,e⟩:=FV h1;obtain⟨sh,xs⟩:=t;have e2:sh=⟨H,W,C⟩:=congrArg az.sh e;subst e2;obtain⟨Z,S,H',W',C',hz,hs,hsh,a1,a2,a3,hf⟩:=xR r h2
 have hwN:l.weights.length<=aG:=by unfold aA.tot at hlN;omega
 rw[hsh,show l.size.toNat=Z from by omega,show l.step.toNat=S from by omega];simp only[XE]
 have m1:∀w:Nat,∀h:Nat,((List.range C').flatMap λo=>[ny W C xs l Z S h w o]).length<=8:=λw h=>by
  have:=mg (λo=>[ny W C xs l Z S h w o]) 1 C' (λ_ _=>X1 _);omega
 have m2:∀h:Nat,((List.range W').flatMap λw=>(List.range C').flatMap λo=>[ny W C xs l Z S h w o]).length<=64:=λh=>by
  have:=mg (λw=>(List.range C').flatMap λo=>[ny W C xs l Z S h w o]) 8 W' (λw _=>m1 w h);omega
 refine(gf H' 64 (λh=>(List.range W').flatMap λw=>(List.range C').flatMap λo=>[ny W C xs l Z S h w o]) [] (fin:=λy=>some ((⟨⟨H',W',C'⟩,y⟩:az),true)) (λh _=>m2 h) (λh ys next hi hy=>?_) (λys next=>?_) (by omega)).trans (by rw[YC];rfl)
 ·simp only[lW];rw[ab,if_pos (by omega),al hi (by omega)];refine gf W' 8 (λw=>(List.range C').flatMap λo=>[ny W C xs l Z S h w o]) ys (fin:=λy=>next (((h+1:Nat):Int),y)) (λw _=>m1 w h) (λw zs wA hj hz2=>?_) (λzs wA=>?_) (by omega)
  ·simp only[lV];rw[ab,if_pos (by omega),al hj (by omega)];refine gf C' 1 (λo=>[ny W C xs l Z S h w o]) zs (fin:=λy=>wA (((w+1:Nat):Int),y)) (λ_ _=>X1 _) (λo us next3 ho hz3=>?_) (λus next3=>?_) (by omega)
   ·simp only[lU];simp only[X2]at hy;have eq:=PY (k:=k) r (l:=l) hk hwN hz hs (hf h w o hi hj ho);rw[ab,if_pos (by omega)];refine(congrArg (λo:Option Int=>o.bind _) eq).trans ?_;rw[aa,bR (by simp;omega),al ho (by omega)]
   ·simp only[lU];rw[ab,if_neg (by omega)]
  ·simp only[lV];rw[ab,if_neg (by omega)]
 ·simp only[lW];rw[ab,if_neg (by omega)]
end
section
end
section
end
section
def Ch:aA:=⟨0,0,0,0,0,0,0,[],[]⟩
theorem Ej:∀(ls:List aA) (s:Shape) (t:List Shape),de s ls=some t->∀i,i<ls.length->jL ((s::t).getD i kh) (ls.getD i Ch)=true/\(s::t).getD (i+1) kh=shapeOf ((s::t).getD i kh) (ls.getD i Ch)
 |[],s,t,h,i,hi=>by simp at hi
 |l::ls,s,t,h,i,hi=>by
  simp only[de]at h;cases hb:jL s l<;>simp only[hb,cond_true,cond_false]at h
  ·exact nomatch h
  ·obtain⟨t',h1,rfl⟩:=XK.1 h
   cases i with
   |zero=>exact⟨hb,rfl⟩
   |succ i=>exact Ej ls (shapeOf s l) t' h1 i (by simpa using hi)
theorem tu {m:Model} (h:fi m=true):(1<=m.aF.length/\m.aF.length<=6)/\∀i,i<m.aF.length->jL ((cp m).getD i kh) (m.aF.getD i Ch)=true/\(cp m).getD (i+1) kh=shapeOf ((cp m).getD i kh) (m.aF.getD i Ch):=by
 unfold cp;rw[h,cond_true];unfold fi at h;unfold eE at h⊢;cases h1:(m.inp.okB&&inB (m.aF.length:Int) 1 6)<;>rw[h1]at h
 ·exact nomatch h
 ·simp only[cond_true]at h⊢;rw[XB,bd]at h1
  cases h2:de m.inp m.aF with
  |none=>rw[h2]at h;exact nomatch h
  |some t=>exact⟨by omega,Ej m.aF m.inp t h2⟩
theorem jN {j:Job} (h:wJ j=true):fi j.model=true/\(0<=j.at_/\j.at_<=j.model.aF.length)/\j.act.okB=true/\j.act.sh=(cp j.model).getD j.at_.toNat kh/\j.jQ=WB ((bC j.model).take j.at_.toNat):=by
 unfold wJ at h;simp only[XB,bd,decide_eq_true_eq]at h;exact h
theorem P1 {j:Job} (h:wJ j=true):j.act.data.length<=512/\j.tot<=j.model.tot+512:=by
 have h1:=(jN h).2.2.1;unfold az.okB at h1;simp only[XB,decide_eq_true_eq]at h1;have:=Shape.J8 j.act.sh;unfold Job.tot az.tot;omega
def Ci (j:Job):aA:=j.model.aF.getD j.at_.toNat Ch
def Nl (j:Job):Int:=(bC j.model).getD j.at_.toNat 0
def xS (j:Job):Job:=⟨j.model,j.at_+1,(QD j.act (Ci j)).1,i64.wrap (j.jQ+Nl j)⟩
theorem P2 {j:Job} (h:wJ j=true) (hd:j.at_≠(j.model.aF.length:Int)):wJ (xS j)=true:=by
 obtain⟨hm,hat,hok,hsh,hsp⟩:=jN h;obtain⟨hlen,hg⟩:=tu hm;obtain⟨hl,hs⟩:=hg j.at_.toNat (by omega);rw[<-hsh]at hl hs;obtain⟨r1,r2,r3⟩:=Nk hok hl;have hcl:=iZ hm
 have hi:j.at_.toNat<(bC j.model).length:=by omega
 have e:(j.at_+1).toNat=j.at_.toNat+1:=by omega
 unfold wJ xS;simp only[XB,bd,decide_eq_true_eq,hm,true_and,e];refine⟨by omega,r1,?_,?_⟩
 ·show(QD j.act (Ci j)).1.sh=_;rw[hs];exact r2
 ·unfold WB Nl;rw[cR hi,Yx,dj hi,hsp];rfl
theorem Ug {V R:Type} {g:V->(V->Option R)->Option R} {fin:V->Option R} {st:Nat->V} {n:Nat} {k:Nat} (h:∀i,i<n->∀next,g (st i) next=next (st (i+1))) (hn:∀next,g (st n) next=fin (st n)) (hk:n<k):iter g k (st 0)=fin (st n):=
 eG (g:=g) (st:=st) (n:=n) (r:=fin (st n)) h hn hk
theorem Kn {k:Nat} {j:Job} (hk:j.tot+8<k) (hN:j.tot<=aG) (h:wJ j=true):zX k j=some ((bC j.model).drop j.at_.toNat):=by
 have hM:=aj;obtain⟨hm,hat,hok,hsh,hsp⟩:=jN h;obtain⟨hlen,hg⟩:=tu hm;have hcl:=iZ hm;have ht:j.tot=j.model.tot+(j.act.tot+0):=rfl;unfold zX;rw[tj (by omega) hN,aa,h];simp only[XJ,cond_false];rw[lq (by omega) (by omega),aa]
 have e0:(j.at_,([]:List Int))=(((j.at_.toNat+0:Nat):Int),((bC j.model).drop j.at_.toNat).take 0):=by
  rw[ZD];congr 1;omega
 rw[e0];refine(Ug (g:=λu5 n5=>m8 k (bC j.model) u5 n5 (λy4=>some y4)) (fin:=λv=>some v.2) (st:=λi=>(((j.at_.toNat+i:Nat):Int),((bC j.model).drop j.at_.toNat).take i)) (n:=(bC j.model).length-j.at_.toNat) (λi hi next=>?_) (λnext=>?_) (by omega)).trans ?_
 ·have hi2:j.at_.toNat+i<(bC j.model).length:=by omega
  have hi3:i<((bC j.model).drop j.at_.toNat).length:=by simp;omega
  simp only[m8];rw[ab,if_pos (by omega),ab,if_pos (by omega),XE,ag hi2,aa,bR (by simp;omega),al hi2 (by omega),cR hi3,List.getElem_drop];rfl
 ·simp only[m8];rw[ab,if_neg (by omega)]
 ·rw[Y1 (by simp)]
theorem Ko {k:Nat} {j:Job} (hk:j.tot+8<k) (hN:j.tot<aG) (h:wJ j=true):zY k j=some ((bC j.model).drop j.at_.toNat):=by
 obtain⟨hm,hat,hok,hsh,hsp⟩:=jN h;have hcl:=iZ hm;have ht:j.tot=j.model.tot+(j.act.tot+0):=rfl;unfold zY;rw[Eb (by omega) hN,aa,h];simp only[XJ,cond_false];rw[lr (by omega) (by omega),aa,ab,if_pos (by omega),Y1 (by simp)]
theorem P3 (xs:List Int) (n:Nat):(xs.drop n)[0]? =if n<xs.length then some (xs.getD n 0)else none:=by
 rw[XU,Yd];by_cases c:n<xs.length
 ·rw[if_pos c,ag c,dj c]
 ·rw[if_neg c,Yb (by omega)]
theorem Ia {xs:List Int} {n:Nat} (h:¬n<xs.length):xs.getD n 0=0:=by
 rw[Ys,Yb (by omega)];rfl
theorem F0 {k:Nat} {j:Job} (hk:j.tot+8<k) (hN:j.tot<=aG) (h:wJ j=true):sW k j=some (Nl j):=by
 unfold sW Nl;rw[Kn hk hN h,aa,Kh,ab,YE];by_cases c:j.at_.toNat<(bC j.model).length
 ·rw[if_neg (by omega),ab,if_pos (by omega)];show(((bC j.model).drop j.at_.toNat)[0]?).bind _=_;rw[P3,if_pos c,aa]
 ·rw[if_pos (by omega),Ia c]
theorem F1 {k:Nat} {j:Job} (hk:j.tot+8<k) (hN:j.tot<aG) (h:wJ j=true):sX k j=some (Nl j):=by
 unfold sX Nl;rw[Ko hk hN h,aa,Kh,ab,YE];by_cases c:j.at_.toNat<(bC j.model).length
 ·rw[if_neg (by omega),vx,P3,if_pos c,aa]
 ·rw[if_pos (by omega),Ia c]
theorem Ib {k:Nat} {j:Job} (hk:j.tot<k) (hN:j.tot<=aG):vM k j=some j:=by
 have ht:j.tot=j.model.tot+(j.act.data.length+0+0):=rfl;unfold vM;rw[zc (by omega) (by omega),aa,yY (by omega) (by omega),aa]
def RS (j:Job):Job× Bool:=cond (wJ j&&!(j.at_==(j.model.aF.length:Int))) (xS j,true) (j,false)
theorem Ic {k:Nat} {j:Job} (hk:j.tot<k) (hN:j.tot<=aG) (h:wJ j=true):vN k j=some (j.at_==(j.model.aF.length:Int)):=by
 unfold vN;rw[tj hk hN,aa,h];rfl
theorem Ie {j:Job} (h:wJ j=true) (hd:j.at_≠(j.model.aF.length:Int)):j.model.aF[j.at_.toNat]? =some (Ci j)/\(Ci j).tot<=j.model.tot:=by
 obtain⟨hm,hat,hok,hsh,hsp⟩:=jN h
 have hi:j.at_.toNat<j.model.aF.length:=by omega
 unfold Ci;rw[dj hi];have:=fl aA.tot (XH hi);exact⟨ag hi,by unfold Model.tot;omega⟩
theorem zn {k:Nat} {j:Job} (hk:j.tot+513<k) (hN:j.tot<=aG):vR k j=some (RS j):=by
 have hM:=aj;have ht:j.tot=j.model.tot+(j.act.data.length+0+0):=rfl;unfold vR RS;rw[Ib (by omega) hN,aa,tj (by omega) hN,aa];cases h:wJ j
 ·rfl
 simp only[XJ,cond_false,XM];rw[Ic (by omega) hN h,aa,Kh];obtain⟨hm,hat,hok,hsh,hsp⟩:=jN h;obtain⟨hlen,_⟩:=tu hm;by_cases c:j.at_=(j.model.aF.length:Int)
 ·rw[decide_eq_true c];rfl
 rw[decide_eq_false c];simp only[cond_false,X8,cond_true];obtain⟨hl,hlt⟩:=Ie h c;rw[uu _ hat.1,hl,aa,FY (by omega) (by omega) (by omega) (by omega) (by omega),aa,F0 (by omega) hN h,aa,aL (n:=j.at_+1) (by omega) (by omega)];rfl
end
section
end
section
theorem qJ (b c:Bool):cond b (some c) (some false)=some (b&&c):=by cases b<;>rfl
theorem SP (a b:Int):decide (a>=b)=!decide (a<b):=by rw[<-decide_not];exact decide_eq_decide.2 (by omega)
theorem P4 (a b:Int):decide (a>b)=!decide (a<=b):=by rw[<-decide_not];exact decide_eq_decide.2 (by omega)
theorem Ig {R:Type} (n:Nat) (p:Nat->Bool) {g:Int->(Int->Option R)->Option R} {yes no:Option R}
  (h:∀(i:Nat) (hi:i<n) (next:Int->Option R),g (i:Int) next=cond (p i) (next ((i+1:Nat):Int)) no)
  (hn:∀next,g (n:Int) next=yes) {k:Nat} (hk:n<k):iter g k 0=cond ((List.range n).all p) yes no:=
 kt (List.range n) p (g:=g) (yes:=yes) (no:=no) (λi hi next=>by rw[h i (by simpa using hi)];simp) (λnext=>by simpa using hn next) (by simpa using hk)
theorem qK {α β R:Type} (xs:List α) (p:α->Bool) (f:α->β) {g:Int× List β->(Int× List β->Option R)->Option R} {fin:List β->Option R}
  (h:∀(i:Nat) (ys:List β) (hi:i<xs.length) (next:Int× List β->Option R),ys.length<=i->g ((i:Int),ys) next=cond (p xs[i]) (next (((i+1:Nat):Int),ys++[f xs[i]])) (next (((i+1:Nat):Int),ys)))
  (hn:∀ys next,g ((xs.length:Int),ys) next=fin ys) {k:Nat} (hk:xs.length<k):iter g k (0,[])=fin ((xs.filter p).map f):=by
 have:=eG (g:=g) (st:=λi=>((i:Int),((xs.take i).filter p).map f)) (n:=xs.length) (r:=fin ((xs.filter p).map f)) (λi hi next=>by
  rw[h i _ hi next (by simp only[List.length_map];exact YW (Zn _ _) (by simp;omega)),cR hi,Zl,YJ];cases hp:p xs[i]
  ·simp[hp]
  ·simp[hp]) (λnext=>by rw[Yj];exact hn _ _) hk
 simpa using this
theorem Cj {α:Type} {f:α->Int} {B:Int}:∀(xs:List α) (hf:∀x∈xs,0<=f x/\f x<=B),0<=(xs.map f).sum/\(xs.map f).sum<=B*xs.length
 |[],_=>by simp
 |x::xs,hf=>by
  have:=Cj xs λy hy=>hf y (by simp[hy]);have h2:=hf x (by simp);simp only[Yp,Y9,XI];rw[Int.natCast_add,Int.mul_add];omega
theorem LK {α R:Type} (xs:List α) (f:α->Int) {B:Int} (hf:∀x∈xs,0<=f x/\f x<=B) {g:Int× Int->(Int× Int->Option R)->Option R} {fin:Int->Option R}
  (h:∀(i:Nat) (s:Int) (hi:i<xs.length) (next:Int× Int->Option R),0<=s->s<=B*i->g (s,(i:Int)) next=next (s+f xs[i],((i+1:Nat):Int)))
  (hn:∀s next,g (s,(xs.length:Int)) next=fin s) {k:Nat} (hk:xs.length<k):iter g k (0,0)=fin ((xs.map f).sum):=by
 have:=eG (g:=g) (st:=λi=>(((xs.take i).map f).sum,(i:Int))) (n:=xs.length) (r:=fin ((xs.map f).sum)) (λi hi next=>by
  have hb:=Cj (f:=f) (B:=B) (xs.take i) (λx hx=>hf x (Zb hx));rw[X9,Zh (by omega)]at hb;rw[h i _ hi next hb.1 hb.2,cR hi,YJ,Zr]
  simp) (λnext=>by rw[Yj];exact hn _ _) hk
 simpa using this
theorem Ih {R:Type} (xs:List Int) (a:Nat) (ha:a<=xs.length) {B:Int} (hB:0<=B) (hf:∀x∈xs,0<=x/\x<=B) {g:Int× Int->(Int× Int->Option R)->Option R} {fin:Int->Option R}
  (h:∀(i:Nat) (s:Int) (hi:i<xs.length) (next:Int× Int->Option R),0<=s->s<=B*i->g (s,(i:Int)) next=next (s+xs[i],((i+1:Nat):Int)))
  (hn:∀s next,g (s,(xs.length:Int)) next=fin s) {k:Nat} (hk:xs.length<k):iter g k (0,(a:Int))=fin ((xs.drop a).sum):=by
 have:=eG (g:=g) (st:=λi=>(((xs.drop a).take i).sum,((a+i:Nat):Int))) (n:=xs.length-a) (r:=fin ((xs.drop a).sum)) (λi hi next=>by
  have hb:=Cj (f:=λx:Int=>x) (B:=B) ((xs.drop a).take i) (λx hx=>hf x (List.mem_of_mem_drop (Zb hx)));rw[X9,YE,Zh (by omega),ZV]at hb;have hle:B*(i:Int)<=B*((a+i:Nat):Int):=Int.mul_le_mul_of_nonneg_left (by omega) hB;rw[h (a+i) _ (by omega) next hb.1 (by omega),cR (show i<(xs.drop a).length by simp;omega),Zr]
  simp[Yz]) (λnext=>by
   rw[show a+(xs.length-a)=xs.length by omega,Y1 (by simp)];exact hn _ _) (k:=k) (by omega)
 simpa using this
def je (t:Task):Bool:=inB t.id 1 1000000&&(inB (t.av.length:Int) 1 6&&(inB t.at_ 0 ((t.av.length:Int)-1)&&(inB t.due 0 1000000&&(inB t.born 0 1000000&&t.av.all λx=>inB x 1 1000))))
theorem ch {t:Task} (h:je t=true):(1<=t.id/\t.id<=1000000)/\(1<=t.av.length/\t.av.length<=6)/\(0<=t.at_/\t.at_<t.av.length)/\(0<=t.due/\t.due<=1000000)/\(0<=t.born/\t.born<=1000000)/\∀x∈t.av,1<=x/\x<=1000:=by
 unfold je inB at h;simp only[XB,decide_eq_true_eq,X6]at h;obtain⟨h1,h2,h3,h4,h5,h6⟩:=h;exact⟨h1,by omega,by omega,h4,h5,h6⟩
theorem sf (k:Nat) (x:Int):ld k x=some (inB x 0 1000000):=by unfold ld;rw[bN];rfl
theorem uL (k:Nat) (x:Int):oh k x=some (inB x 0 1000000):=by unfold oh;rw[gn];rfl
theorem Ck {k:Nat} {t:Task} (hk:t.av.length<k) (hN:t.av.length<=aG):vV k t=some (je t):=by
 have hM:=aj;unfold vV je;simp only[bN,sf,aa,cond_not]
 rw[aL (by omega) (by omega),kt t.av (λx=>inB x 1 1000) (yes:=some true) (no:=some false) (λi hi next=>by
  simp only[qw]
  rw[ab,if_pos (by omega),aD,ag hi,aa,bN,aa,cond_not,al hi (by omega)]) (λnext=>by
  simp only[qw];rw[ab,if_neg (by omega)]) hk]
 simp only[qJ,Zw]
theorem Cl {k:Nat} {t:Task} (hk:t.av.length<k) (hN:t.av.length<=aG):vX k t=some (je t):=by
 have hM:=aj;unfold vX cj cG je
 rw[dX t.av (λx=>!inB x 1 1000) (λi hi next=>by
  simp only[bD,ab,uy,gn,aa]
  rw[if_pos (by omega),aD,ag hi,aa,al hi (by omega)]) (λnext=>by
  simp only[bD,ab];rw[if_neg (by omega)]) hk]
 rw[cQ];simp only[gn,uL,aa,mB];rw[aL (by omega) (by omega),YZ];simp only[ZT,qJ]
 congr 1
 generalize inB t.id 1 1000000=a;generalize inB (t.av.length:Int) 1 6=b;generalize inB t.at_ 0 ((t.av.length:Int)-1)=c;generalize inB t.due 0 1000000=d;generalize inB t.born 0 1000000=e;generalize (t.av.all λx=>inB x 1 1000)=f;cases a<;>cases b<;>cases c<;>cases d<;>cases e<;>cases f<;>rfl
def lx (ts:List Task) (id:Int):Int:=(ts.findIdx? λt=>t.id==id).elim (-1) λi=>(i:Int)
theorem mC {k:Nat} {s:ak} {id:Int} (hk:s.tasks.length<k) (hN:s.tasks.length<=aG):lL k s id=some (lx s.tasks id):=by
 have hM:=aj;unfold lL lx
 rw[dX s.tasks (λt=>t.id==id) (yes:=some (-1)) (no:=some) (λi hi next=>by
  simp only[s4]
  rw[ab,if_pos (by omega),aD,ag hi,aa,al hi (by omega)]) (λnext=>by
  simp only[s4];rw[ab,if_neg (by omega)]) hk]
 exact cQ _
theorem wB {k:Nat} {s:ak} {id:Int} (hk:s.tasks.length<k) (hN:s.tasks.length<=aG):dz k s id=some (lx s.tasks id):=by
 have hM:=aj;unfold dz dt lx
 rw[dX s.tasks (λt=>t.id==id) (yes:=some (-1)) (no:=some) (λi hi next=>by
  simp only[bX,kg,decide_true,cond_true,aa]
  rw[ab,if_pos (by omega),aD,ag hi,aa,al hi (by omega)]) (λnext=>by
  simp only[bX,decide_true,cond_true];rw[ab,if_neg (by omega)]) hk]
 rw[cQ];rfl
def ig (s:ak):Bool:=(List.range s.tasks.length).all λi=>(s.tasks[i]?).elim false λt=>je t&&(decide (t.id<s.next)&&(decide (t.born<=s.now)&&(cond (decide (0<i)) ((s.tasks[i-1]?).elim false λu=>decide (u.id<t.id)) true)))
def NQ (s:ak):Bool:=cond (s.run==0) (s.left==0) ((s.tasks.findIdx? λt=>t.id==s.run).elim false λi=>(s.tasks[i]?).elim false λt=>(idx t.av t.at_).elim false λc=>inB s.left 1 c)
def bI (s:ak):Bool:=inB s.now 0 1000000&&(inB s.ai 0 1000&&(inB s.age 0 20&&(decide ((s.tasks.length:Int)<=12)&&(inB s.turns 0 1000000&&(inB s.next 1 1000000&&(ig s&&NQ s))))))
theorem cn {s:ak} (h:ig s=true) {i:Nat} (hi:i<s.tasks.length):je s.tasks[i]=true/\s.tasks[i].id<s.next/\s.tasks[i].born<=s.now/\∀j,(hj:j+1=i)->s.tasks[j].id<s.tasks[i].id:=by
 unfold ig at h;rw[X6]at h;have:=h i (by simpa using hi);rw[ag hi,XD]at this;simp only[XB,decide_eq_true_eq]at this;obtain⟨h1,h2,h3,h4⟩:=this;refine⟨h1,h2,h3,λj hj=>?_⟩;subst hj;rw[decide_eq_true (by omega),cond_true,Nat.add_sub_cancel,ag (show j<s.tasks.length by omega),XD]at h4;exact of_decide_eq_true h4
theorem LM {s:ak} (h:ig s=true):∀(d i:Nat) (hd:i+d+1<s.tasks.length),s.tasks[i].id<s.tasks[i+d+1].id
 |0,i,hd=>(cn h hd).2.2.2 i rfl
 |d+1,i,hd=>Int.lt_trans (LM h d i (by omega)) ((cn h (i:=i+(d+1)+1) hd).2.2.2 (i+d+1) (by omega))
theorem P5 {s:ak} (h:ig s=true) {i j:Nat} (hi:i<s.tasks.length) (hj:j<s.tasks.length) (e:s.tasks[i].id=s.tasks[j].id):i=j:=by
 rcases ZA i j with c|c|c
 ·obtain⟨d,rfl⟩:∃d,j=i+d+1:=⟨j-i-1,by omega⟩;have:=LM h d i hj;omega
 ·exact c
 ·obtain⟨d,rfl⟩:∃d,i=j+d+1:=⟨i-j-1,by omega⟩;have:=LM h d j hi;omega
theorem F2 {s:ak} (h:ig s=true) {i:Nat} (hi:i<s.tasks.length):(s.tasks.findIdx? λt=>t.id==s.tasks[i].id)=some i:=by
 cases e:s.tasks.findIdx? λt=>t.id==s.tasks[i].id with
 |none=>
  rw[YS]at e;have:=e _ (XH hi)
  simp at this
 |some j=>
  obtain⟨hj,hp,_⟩:=YL.1 e;rw[P5 h hj hi (by simpa using hp)]
theorem sg {ts:List Task} {id:Int} {i:Nat} (h:(ts.findIdx? λt=>t.id==id)=some i):∃hi:i<ts.length,ts[i].id=id:=by
 obtain⟨hi,hp,_⟩:=YL.1 h;exact⟨hi,by simpa using hp⟩
theorem LN {s:ak} (h:ig s=true) (i:Nat) (hi:(s.tasks.findIdx? λt=>t.id==s.run)=some i):
  ((idx s.tasks (i:Int)).bind λe8=>(idx s.tasks (i:Int)).bind λe9=>(idx e8.av e9.at_).bind λe10=>some (inB s.left (1:Int) e10))=
  some ((s.tasks[i]?).elim false λt=>(idx t.av t.at_).elim false λc=>inB s.left 1 c):=by
 obtain⟨hl,_⟩:=sg hi;have ht:=ch (cn h hl).1;rw[aD,ag hl,aa,aa,XD]
 have:idx s.tasks[i].av s.tasks[i].at_=some (s.tasks[i].av[s.tasks[i].at_.toNat]'(by omega)):=by
  rw[uu _ ht.2.2.1.1];exact ag _
 rw[this,aa,XD]
theorem jd {ts:List Task} {id:Int} {i:Nat} (h:(ts.findIdx? λt=>t.id==id)=some i):lx ts id=(i:Int):=by unfold lx;rw[h];rfl
theorem xT {ts:List Task} {id:Int} (h:(ts.findIdx? λt=>t.id==id)=none):lx ts id=-1:=by unfold lx;rw[h];rfl
theorem Ek {R:Type} {s:ak} {i:Nat} (hi:i<s.tasks.length) (hN:s.tasks.length<=aG) {next no:Option R}:
  (cond (!je s.tasks[i]) no (cond (decide (s.tasks[i].id>=s.next)) no (cond (decide (s.tasks[i].born>s.now)) no (cond (decide ((i:Int)>(0:Int))) ((idx s.tasks (i64.wrap ((i:Int)-(1:Int)))).bind λe8=>cond (decide (e8.id>=s.tasks[i].id)) no next) next))))=
  cond ((s.tasks[i]?).elim false λt=>je t&&(decide (t.id<s.next)&&(decide (t.born<=s.now)&&(cond (decide (0<i)) ((s.tasks[i-1]?).elim false λu=>decide (u.id<t.id)) true)))) next no:=by
 have hM:=aj;rw[ag hi,XD,SP s.tasks[i].id s.next,P4 s.tasks[i].born s.now];simp only[cond_not]
 cases i with
 |zero=>
  rw[decide_eq_false (show¬(((0:Nat):Int)>0) by omega),decide_eq_false (show¬(0<0) by omega)];simp only[cond_false,Zw]
  cases je s.tasks[0]<;>cases decide (s.tasks[0].id<s.next)<;>cases decide (s.tasks[0].born<=s.now)<;>rfl
 |succ j=>
  rw[decide_eq_true (show(((j+1:Nat):Int)>0) by omega),decide_eq_true (show(0<j+1) by omega),aL (by omega) (by omega),show((j+1:Nat):Int)-1=(j:Int)from by omega,aD,Nat.add_sub_cancel,ag (show j<s.tasks.length by omega),aa,XD,SP s.tasks[j].id];simp only[cond_true,cond_not];cases je s.tasks[j+1]<;>cases decide (s.tasks[j+1].id<s.next)<;>cases decide (s.tasks[j+1].born<=s.now)<;>cases decide (s.tasks[j].id<s.tasks[j+1].id)<;>rfl
theorem ep {k:Nat} {s:ak} (hk:s.tot<k) (hN:s.tot<=aG):fA k s=some (bI s):=by
 have hM:=aj;unfold ak.tot at hk hN;have hlen:=br Task.tot s.tasks;unfold fA bI;rw[P4 (s.tasks.length:Int) 12];simp only[bN,sf,aa,cond_not]
 rw[Ig s.tasks.length (λi=>(s.tasks[i]?).elim false λt=>je t&&(decide (t.id<s.next)&&(decide (t.born<=s.now)&&(cond (decide (0<i)) ((s.tasks[i-1]?).elim false λu=>decide (u.id<t.id)) true)))) (λi hi next=>by
  have hm:=fl Task.tot (XH hi);have hm0:s.tasks[i].tot=s.tasks[i].av.length+0:=rfl;simp only[oe];rw[ab,if_pos (by omega),aD,ag hi,aa,Ck (by omega) (by omega),aa,al hi (by omega)]
  exact(Ek hi (by omega)).trans (by rw[ag hi])) (λnext=>by
  simp only[oe];rw[ab,if_neg (by omega)]) (by omega)]
 rw[show((List.range s.tasks.length).all λi=>(s.tasks[i]?).elim false λt=>je t&&(decide (t.id<s.next)&&(decide (t.born<=s.now)&&(cond (decide (0<i)) ((s.tasks[i-1]?).elim false λu=>decide (u.id<t.id)) true))))=ig s from rfl]
 have hr:ig s=true->cond (s.run==(0:Int)) (some (s.left==(0:Int))) (cond (decide (lx s.tasks s.run>=(0:Int))) ((idx s.tasks (lx s.tasks s.run)).bind λe11=>(idx s.tasks (lx s.tasks s.run)).bind λe12=>(idx e11.av e12.at_).bind λe13=>some (inB s.left (1:Int) e13)) (some false))=some (NQ s):=by
  intro h;unfold NQ;cases s.run==0
  ·simp only[cond_false]
   cases hf:s.tasks.findIdx? λt=>t.id==s.run with
   |none=>rw[xT hf];rfl
   |some i=>rw[jd hf,ab,if_pos (by omega),LN h i hf];rfl
  ·rfl
 simp only[mC (s:=s) (id:=s.run) (k:=k) (by omega) (by omega),aa];cases h:ig s
 ·simp only[cond_false,Yy];simp only[qJ,Zc]
 ·simp only[cond_true,XM,hr h,qJ]
theorem F3 {k:Nat} {s:ak} (hk:s.tot<k) (hN:s.tot<=aG):iE k s=some (ig s&&decide ((s.tasks.length:Int)<=12)):=by
 have hM:=aj;unfold ak.tot at hk hN;have hlen:=br Task.tot s.tasks;unfold iE
 rw[Ig s.tasks.length (λi=>(s.tasks[i]?).elim false λt=>je t&&(decide (t.id<s.next)&&(decide (t.born<=s.now)&&(cond (decide (0<i)) ((s.tasks[i-1]?).elim false λu=>decide (u.id<t.id)) true)))) (λi hi next=>by
  have hm:=fl Task.tot (XH hi);have hm0:s.tasks[i].tot=s.tasks[i].av.length+0:=rfl;simp only[fP];rw[ab,if_pos (by omega),aD,ag hi,aa,Cl (by omega) (by omega),aa,al hi (by omega)]
  exact(Ek hi (by omega)).trans (by rw[ag hi])) (λnext=>by
  simp only[fP];rw[ab,if_neg (by omega)]) (by omega)]
 exact qJ _ _
theorem ly {k:Nat} {s:ak} (hk:s.tot<k) (hN:s.tot<=aG):nc k s=some (bI s):=by
 have hM:=aj;have hk2:=hk;have hN2:=hN;unfold ak.tot at hk hN;have hlen:=br Task.tot s.tasks;unfold nc bI;simp only[gn,uL,aa,cond_not,F3 hk2 hN2,wB (s:=s) (id:=s.run) (k:=k) (by omega) (by omega)]
 have hr:ig s=true->cond (s.run==(0:Int)) (cond (s.run==(0:Int)) (some (s.left==(0:Int))) (some false)) (cond (decide (lx s.tasks s.run<(0:Int))) (cond (s.run==(0:Int)) (some (s.left==(0:Int))) (some false)) ((idx s.tasks (lx s.tasks s.run)).bind λe8=>(idx s.tasks (lx s.tasks s.run)).bind λe9=>(idx e8.av e9.at_).bind λe10=>some (inB s.left (1:Int) e10)))=some (NQ s):=by
  intro h;unfold NQ;cases s.run==0
  ·simp only[cond_false]
   cases hf:s.tasks.findIdx? λt=>t.id==s.run with
   |none=>rw[xT hf];rfl
   |some i=>rw[jd hf,ab,if_neg (by omega),LN h i hf];rfl
  ·rfl
 cases h:ig s
 ·simp only[cond_false,Yy];simp only[qJ,Zc]
 ·rw[hr h];simp only[XM,qJ]
  congr 1
  generalize inB s.now 0 1000000=a;generalize inB s.ai 0 1000=b;generalize inB s.age 0 20=c;generalize decide ((s.tasks.length:Int)<=12)=d;generalize inB s.turns 0 1000000=e;generalize inB s.next 1 1000000=f;generalize NQ s=g;cases a<;>cases b<;>cases c<;>cases d<;>cases e<;>cases f<;>cases g<;>rfl
theorem bM {s:ak} (h:bI s=true):(0<=s.now/\s.now<=1000000)/\(0<=s.ai/\s.ai<=1000)/\(0<=s.age/\s.age<=20)/\s.tasks.length<=12/\(0<=s.turns/\s.turns<=1000000)/\(1<=s.next/\s.next<=1000000)/\ig s=true/\NQ s=true:=by
 unfold bI inB at h;simp only[XB,decide_eq_true_eq]at h;obtain⟨h1,h2,h3,h4,h5,h6,h7,h8⟩:=h;exact⟨h1,h2,h3,by omega,h5,h6,h7,h8⟩
end
end Go.Proofs.Ev
