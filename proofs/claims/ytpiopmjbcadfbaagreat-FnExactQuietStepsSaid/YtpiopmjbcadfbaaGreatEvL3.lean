/- Typed functions and what holds of them: part 3. -/
import Derived.Test.YtpiopmjbcadfbaaGreatEvL2
import Derived.KernelRfl
set_option linter.unusedVariables false
set_option linter.unusedSimpArgs false
set_option linter.unusedSectionVars false
namespace Go.Proofs.Ev
section
theorem iZ {b c:Bool}:cond b (some c) (some false)=some (b&&c):=by cases b<;>rfl
theorem dg {α:Type} {b:Bool} {x y:α}:cond (!b) x y=cond b y x:=by cases b<;>rfl
theorem nh {α:Type} (a b:Int) (x y:α):cond (a !=b) x y=cond (decide (a=b)) y x:=by rw[KH];by_cases h:a=b<;>simp[h]
theorem DY (a b:Int):(a==b)=decide (a=b):=N9 a b
def Hp (l:ax):Bool:=inB l.out 1 8&&(inB l.mult 0 2147483647&&(inB l.shift 0 31&&(inB l.zero (-128) 127&&(decide ((l.mG.length:Int)=l.out)&&(l.mG.all (λx=>inB x (-1000000) 1000000)&&qU l.weights)))))
def rD (l:ax):Bool:=decide (l.out=0)&&(decide (l.mult=0)&&(decide (l.shift=0)&&(decide ((l.weights.length:Int)=0)&&decide ((l.mG.length:Int)=0))))
def oD (l:ax):Bool:=decide (l.size=0)&&decide (l.step=0)
def KR (s:Shape) (l:ax):Bool:=inB l.size 1 3&&(inB l.step 1 2&&(decide (l.size<=s.h)&&decide (l.size<=s.w)))
def iD (s:Shape) (l:ax):Bool:=s.okB&&
 (cond (decide (l.kind=0)) (oD l&&(Hp l&&(decide (s.size<=64)&&decide ((l.weights.length:Int)=l.out*s.size))))
 (cond (decide (l.kind=1)) (KR s l&&(Hp l&&(decide ((l.weights.length:Int)=l.out*l.size*l.size*s.c)&&decide ((l.weights.length:Int)<=600))))
 (cond (decide (l.kind=2)||decide (l.kind=3)) (KR s l&&(rD l&&decide (l.zero=0)))
 (cond (decide (l.kind=4)) (oD l&&(rD l&&inB l.zero (-128) 127))
 (cond (decide (l.kind=5)) (oD l&&(rD l&&(decide (l.zero=0)&&decide (s.size<=8)))) false)))))
def qw (s:Shape) (l:ax) (c:Int):Shape:=
 ⟨IntKind.i64.wrap ((IntKind.i64.wrap ((IntKind.i64.wrap (s.h-l.size)).tdiv l.step))+1),IntKind.i64.wrap ((IntKind.i64.wrap ((IntKind.i64.wrap (s.w-l.size)).tdiv l.step))+1),c⟩
def shapeOf (s:Shape) (l:ax):Shape:=
 cond (decide (l.kind=0)) ⟨1,1,l.out⟩ (cond (decide (l.kind=1)) (qw s l l.out) (cond (decide (l.kind=4)) s (cond (decide (l.kind=5)) ⟨1,1,s.size⟩ (qw s l s.c))))
def ja:Shape:=⟨0,0,0⟩
def gE (s:Shape) (l:ax):Shape× Bool:=cond (iD s l) (shapeOf s l,true) (ja,false)
theorem vf (k:Nat) (x:Int):gw k x=some (inB x (-128) 127):=by unfold gw;rw[cr,aa]
theorem F4 {k:Nat} {l:ax} (hk:l.tot<k) (hN:l.tot<=aU) (fin:Option Bool):
    (iter (λu16 n16=>fU k (l.kind,l.out,l.size,l.step,l.mult,l.shift,l.zero,l.weights,l.mG) u16 n16 (λy9=>iter (λu14 n14=>fV k (l.kind,l.out,l.size,l.step,l.mult,l.shift,l.zero,l.weights,l.mG) u14 n14 (λy12=>fin) (λy13=>some y13)) k (0:Int)) (λy15=>some y15)) k (0:Int))
      =cond (l.mG.all (λx=>inB x (-1000000) 1000000)) (cond (qU l.weights) fin (some false)) (some false):=by
  have hM:=ar;unfold ax.tot at hk hN
  rw [nK l.mG (λ x => inB x (-1000000) 1000000) (yes := cond (qU l.weights) fin (some false)) (no := some false) (λ i hi next => by
    simp only[fU]
    rw[ab,if_pos (by omega),aE,ai hi,aa,cr,aa,cond_not,au hi (by omega)]) (λnext=>by
    simp only[fU];rw[ab,if_neg (by omega)]
    exact nK l.weights (λx=>inB x (-128) 127) (λi hi next=>by
      simp only[fV]
      rw[ab,if_pos (by omega),aE,ai hi,aa,vf,aa,cond_not,au hi (by omega)]) (λnext=>by
      simp only[fV];rw[ab,if_neg (by omega)]) (by omega)) (by omega)]
def xC (l:ax) (window weighs:Bool):Bool:=
 cond window (inB l.size 1 3&&inB l.step 1 2) (oD l)&&cond weighs (Hp l) (rD l&&cond (decide (l.kind=4)) (inB l.zero (-128) 127) (decide (l.zero=0)))
theorem Oi (n:Nat):decide ((n:Int)>0)=!decide ((n:Int)=0):=by
 by_cases h:(n:Int)=0
 ·rw[decide_eq_true h,decide_eq_false (by omega)];rfl
 ·rw[decide_eq_false h,decide_eq_true (by omega)];rfl
theorem BZ {k:Nat} {l:ax} (hk:l.tot<k) (hN:l.tot<=aU) (a b:Bool):p8 k l a b=some (xC l a b):=by
 unfold p8 xC Hp rD oD;simp only[cr,vf,aa,dg,nh,F4 hk hN,Oi,DY];cases a<;>cases b<;>simp only[cond_true,cond_false,iZ]<;>(by_cases h4:l.kind=4<;>simp only[h4,decide_true,decide_false,cond_true,cond_false,iZ,Bool.and_assoc,Sm])
theorem cg {x a b:Int}:inB x a b=true↔a<=x/\x<=b:=by unfold inB;simp
theorem pB {s:Shape} {l:ax} (h:KR s l=true):1<=l.size/\l.size<=3/\1<=l.step/\l.step<=2/\l.size<=s.h/\l.size<=s.w:=by
 simp only[KR,Qk,cg,decide_eq_true_eq]at h;omega
theorem v7 {l:ax} (h:Hp l=true):1<=l.out/\l.out<=8:=by
 simp only[Hp,Qk,cg]at h;omega
theorem DZ {o z c:Int} (h1:1<=o) (h2:o<=8) (h3:1<=z) (h4:z<=3) (h5:1<=c) (h6:c<=8):
  IntKind.i64.wrap (IntKind.i64.wrap (IntKind.i64.wrap (o*z)*z)*c)=o*z*z*c/\IntKind.i64.wrap (o*IntKind.i64.wrap (IntKind.i64.wrap (z*z)*c))=o*z*z*c:=by
 have a1:=pk (show 0<=o by omega) h2 (show 0<=z by omega) h4;have a2:=pk a1.1 a1.2 (show 0<=z by omega) h4;have a3:=pk a2.1 a2.2 (show 0<=c by omega) h6;have b1:=pk (show 0<=z by omega) h4 (show 0<=z by omega) h4;have b2:=pk b1.1 b1.2 (show 0<=c by omega) h6;have b3:=pk (show 0<=o by omega) h2 b2.1 b2.2;refine⟨?_,?_⟩
 ·rw[aK (n:=o*z) (by omega) (by omega),aK (n:=o*z*z) (by omega) (by omega),aK (by omega) (by omega)]
 ·rw[aK (n:=z*z) (by omega) (by omega),aK (n:=z*z*c) (by omega) (by omega),aK (by omega) (by omega),<-SM,<-SM]
theorem Aq {o:Int} {s:Shape} (h1:1<=o) (h2:o<=8):IntKind.i64.wrap (o*s.size)=o*s.size:=by
 have h:=Shape.KP s;have a1:=pk (show 0<=o by omega) h2 h.1 h.2;exact aK (by omega) (by omega)
theorem oa {k:Nat} {s:Shape} {l:ax} (hk:l.tot<k) (hN:l.tot<=aU):kQ k s l=some (gE s l):=by
  unfold kQ gE iD;simp only[jS,cr,nY,BZ hk hN,aa,dg,nh,DY];cases hs:s.okB
  · rfl
  obtain⟨c1,c2,c3,c4,c5,c6⟩:=Shape.s4 hs;simp only[cond_true,Qr];by_cases k0:l.kind=0
  · have e1:inB l.kind 0 5=true:=by rw[cg];omega
    have e2:inB l.kind 1 3=false:=by rw[<-Bool.not_eq_true,cg];omega
    simp only[k0,e1,e2,cond_true,cond_false,xC,shapeOf,decide_true];simp only[k0]at e1 e2;simp only[e1,e2,cond_true,cond_false,show decide ((0:Int)<=1)=true from rfl];cases oD l
    · rfl
    cases hnum:Hp l
    · rfl
    obtain⟨o1,o2⟩:=v7 hnum;simp only[Aq o1 o2,Qr,cond_true];by_cases z:s.size<=64
    · rw[decide_eq_true z,decide_eq_false (by omega)];cases decide ((l.weights.length:Int)=l.out*s.size)<;>rfl
    · rw[decide_eq_false z,decide_eq_true (by omega)];rfl
  by_cases k1:l.kind=1
  · simp only[k1,xC,shapeOf,show inB 1 0 5=true from rfl,show inB 1 1 3=true from rfl,decide_true,cond_true,cond_false,show decide ((1:Int)=0)=false from rfl,show decide ((1:Int)<=1)=true from rfl];unfold KR;cases hz:inB l.size 1 3
    · rfl
    cases ht:inB l.step 1 2
    · rfl
    rw[cg]at hz ht;simp only[Qr,cond_true];cases hnum:Hp l
    · simp only[cond_false,Q9,Sd];rfl
    obtain⟨o1,o2⟩:=v7 hnum;simp only[cond_true,Qr,(DZ o1 o2 hz.1 hz.2 c5 c6).1];rw[decide_eq_false (show¬l.step=0 by omega)];simp only[cond_false];by_cases w1:l.size<=s.h
    · rw [decide_eq_true w1, decide_eq_false (show ¬ l.size > s.h by omega)];by_cases w2:l.size<=s.w
      · rw[decide_eq_true w2,decide_eq_false (show¬l.size>s.w by omega)];simp only[cond_false,Qr];cases decide ((l.weights.length:Int)=l.out*l.size*l.size*s.c)
        · rfl
        · by_cases w3:(l.weights.length:Int)<=600
          · rw[decide_eq_true w3,decide_eq_false (by omega)];rfl
          · rw[decide_eq_false w3,decide_eq_true (by omega)];rfl
      · rw[decide_eq_false w2,decide_eq_true (show l.size>s.w by omega)];rfl
    · rw[decide_eq_false w1,decide_eq_true (show l.size>s.h by omega)];rfl
  have win:l.kind=2\/l.kind=3->_:=λh23=>by
    have e1:inB l.kind 0 5=true:=by rw[cg];omega
    have e2:inB l.kind 1 3=true:=by rw[cg];omega
    have e3:decide (l.kind<=1)=false:=decide_eq_false (by omega)
    have e4:(decide (l.kind=2)||decide (l.kind=3))=true:=by simpa using h23
    have e5:decide (l.kind=4)=false:=decide_eq_false (by omega);have e6:decide (l.kind=5)=false:=decide_eq_false (by omega);exact And.intro e1 (And.intro e2 (And.intro e3 (And.intro e4 (And.intro e5 e6))))
  by_cases h23:l.kind=2\/l.kind=3
  · obtain⟨e1,e2,e3,e4,e5,e6⟩:=win h23;simp only[e1,e2,e3,e4,e5,e6,decide_eq_false k0,decide_eq_false k1,xC,shapeOf,cond_true,cond_false];unfold KR;cases hz:inB l.size 1 3
    · rfl
    cases ht:inB l.step 1 2
    · rfl
    rw[cg]at hz ht;simp only[Qr,cond_true];rw[decide_eq_false (show¬l.step=0 by omega)];cases rD l
    · simp only[Q9,Sd,cond_false];rfl
    cases decide (l.zero=0)
    · simp only[Q9,Sd,cond_false];rfl
    simp only[cond_false,cond_true,Sm,Qr];by_cases w1:l.size<=s.h
    · rw[decide_eq_true w1,decide_eq_false (show¬l.size>s.h by omega)];by_cases w2:l.size<=s.w
      · rw[decide_eq_true w2,decide_eq_false (show¬l.size>s.w by omega)];rfl
      · rw[decide_eq_false w2,decide_eq_true (show l.size>s.w by omega)];rfl
    · rw[decide_eq_false w1,decide_eq_true (show l.size>s.h by omega)];rfl
  have e4:(decide (l.kind=2)||decide (l.kind=3))=false:=by simpa using h23
  by_cases k4:l.kind=4
  · simp only[k4,e4,xC,shapeOf,show inB 4 0 5=true from rfl,show inB 4 1 3=false from rfl,decide_true,cond_true,cond_false,show decide ((4:Int)=0)=false from rfl,show decide ((4:Int)=1)=false from rfl,show decide ((4:Int)<=1)=false from rfl,
      show(decide ((4:Int)=2)||decide ((4:Int)=3))=false from rfl,show decide ((4:Int)=5)=false from rfl]
    cases oD l<;>cases rD l<;>cases inB l.zero (-128) 127<;>rfl
  by_cases k5:l.kind=5
  · simp only[k5,xC,shapeOf,show inB 5 0 5=true from rfl,show inB 5 1 3=false from rfl,decide_true,cond_true,cond_false,show decide ((5:Int)=0)=false from rfl,show decide ((5:Int)=1)=false from rfl,show decide ((5:Int)<=1)=false from rfl,
      show(decide ((5:Int)=2)||decide ((5:Int)=3))=false from rfl,show decide ((5:Int)=4)=false from rfl]
    by_cases z:s.size<=8
    · rw[decide_eq_true z,decide_eq_false (show¬s.size>8 by omega)];cases oD l<;>cases rD l<;>cases decide (l.zero=0)<;>rfl
    · rw[decide_eq_false z,decide_eq_true (show s.size>8 by omega)];cases oD l<;>cases rD l<;>cases decide (l.zero=0)<;>rfl
  · have e1:inB l.kind 0 5=false:=by rw[<-Bool.not_eq_true,cg];omega
    simp only[e1,e4,decide_eq_false k0,decide_eq_false k1,decide_eq_false k4,decide_eq_false k5,cond_false];rfl
theorem s8 (k:Nat) (l:ax):eP k l=some (oD l):=by
 unfold eP oD;simp only[DY,iZ]
theorem uy (k:Nat) (l:ax):ey k l=some (rD l):=by
 unfold ey rD;simp only[DY,iZ]
theorem rE (k:Nat) (s:Shape) (l:ax):dT k l s=some (KR s l):=by
 unfold dT KR;simp only[fB,aa,iZ]
 congr 1
 rw[Sn];simp only[Qk,cg,decide_eq_true_eq];split<;>split<;>constructor<;>intro h<;>omega
theorem F5 {k:Nat} {xs:List Int} (hk:xs.length<k) (hx:xs.length<=tz):aH k xs=some (!xs.all (λx=>inB x (-1000000) 1000000)):=by
 unfold tz at hx;unfold aH aW
 rw[eM xs (λx=>!inB x (-1000000) 1000000) (λi hi next=>by
  simp only[aD,ab,gH,fB,aa]
  rw[if_pos (by omega),aE,ai hi,aa,au hi (by omega)]) (λnext=>by
  simp only[aD,ab];rw[if_neg (by omega)]) hk]
 rw[cH];simp only[aa,ng];rw[RQ];simp
theorem rF {k:Nat} {l:ax} {n:Int} (hk:l.tot<k) (hN:l.tot<=aU):ft k l n=some (Hp l&&decide ((l.weights.length:Int)=IntKind.i64.wrap (l.out*n))):=by
 have hM:=ar;unfold ax.tot at hk hN;unfold ft Hp;simp only[fB,aa,s5 (xs:=l.weights) (k:=k) (by omega) (by unfold tz;omega),F5 (xs:=l.mG) (k:=k) (by omega) (by unfold tz;omega),DY,SA,iZ]
 congr 1
 cases inB l.out 1 8<;>cases inB l.mult 0 2147483647<;>cases inB l.shift 0 31<;>cases inB l.zero (-128) 127<;>cases decide ((l.weights.length:Int)=IntKind.i64.wrap (l.out*n))<;>cases qU l.weights<;>cases decide ((l.mG.length:Int)=l.out)<;>cases l.mG.all (λx=>inB x (-1000000) 1000000)<;>rfl
theorem iE (k:Nat) {s:Shape} {l:ax} (c:Int) (h:1<=l.step):eQ k l s c=some (qw s l c):=by
 unfold eQ qw;rw[decide_eq_false (show¬l.step=0 by omega)];rfl
theorem oc {k:Nat} {s:Shape} {l:ax} (hk:l.tot<k) (hN:l.tot<=aU):kR k s l=some (gE s l):=by
 unfold kR gE iD;simp only[pz,fB,rC,s8,uy,rE,rF hk hN,aa,dg,DY];cases hs:s.okB
 ·rfl
 obtain⟨c1,c2,c3,c4,c5,c6⟩:=Shape.s4 hs;simp only[cond_true,Qr];by_cases k0:l.kind=0
 ·simp only[k0,shapeOf,decide_true,cond_true];cases hnum:Hp l
  ·cases decide (s.size<=64)<;>cases oD l<;>rfl
  obtain⟨o1,o2⟩:=v7 hnum;simp only[Aq o1 o2];cases decide (s.size<=64)<;>cases oD l<;>cases decide ((l.weights.length:Int)=l.out*s.size)<;>rfl
 by_cases k1:l.kind=1
 ·simp only[k1,shapeOf,show decide ((1:Int)=0)=false from rfl,decide_true,cond_true,cond_false];cases hw:KR s l
  ·rfl
  have hw:=pB hw;cases hnum:Hp l
  ·cases decide ((l.weights.length:Int)<=600)<;>rfl
  obtain⟨o1,o2⟩:=v7 hnum;simp only[(DZ o1 o2 hw.1 hw.2.1 c5 c6).2,iE k _ hw.2.2.1,aa];cases decide ((l.weights.length:Int)<=600)<;>cases decide ((l.weights.length:Int)=l.out*l.size*l.size*s.c)<;>rfl
 simp only[decide_eq_false k0,decide_eq_false k1,cond_false];by_cases k2:l.kind=2
 ·simp only[k2,shapeOf,decide_true,Bool.true_or,cond_true,cond_false,show decide ((2:Int)=0)=false from rfl,show decide ((2:Int)=1)=false from rfl,show decide ((2:Int)=4)=false from rfl,show decide ((2:Int)=5)=false from rfl];cases hw:KR s l
  ·rfl
  have hw:=pB hw;simp only[iE k _ hw.2.2.1,aa];cases rD l<;>cases decide (l.zero=0)<;>rfl
 by_cases k3:l.kind=3
 ·simp only[k3,shapeOf,decide_true,RL,cond_true,cond_false,show decide ((3:Int)=0)=false from rfl,show decide ((3:Int)=1)=false from rfl,show decide ((3:Int)=2)=false from rfl,show decide ((3:Int)=4)=false from rfl,show decide ((3:Int)=5)=false from rfl];cases hw:KR s l
  ·rfl
  have hw:=pB hw;simp only[iE k _ hw.2.2.1,aa];cases rD l<;>cases decide (l.zero=0)<;>rfl
 simp only[decide_eq_false k2,decide_eq_false k3,Bool.or_self,cond_false];by_cases k4:l.kind=4
 ·simp only[k4,shapeOf,decide_true,cond_true,cond_false,show decide ((4:Int)=0)=false from rfl,show decide ((4:Int)=1)=false from rfl];cases oD l<;>cases rD l<;>cases inB l.zero (-128) 127<;>rfl
 by_cases k5:l.kind=5
 ·simp only[k5,shapeOf,decide_true,cond_true,cond_false,show decide ((5:Int)=0)=false from rfl,show decide ((5:Int)=1)=false from rfl,show decide ((5:Int)=4)=false from rfl];cases oD l<;>cases rD l<;>cases decide (l.zero=0)<;>cases decide (s.size<=8)<;>rfl
 simp only[decide_eq_false k4,decide_eq_false k5,cond_false];rfl
def cJ:Shape->List ax->Option (List Shape)
 |_,[]=>some []
 |s,l::ls=>cond (iD s l) ((cJ (shapeOf s l) ls).map (shapeOf s l::·)) none
theorem qV:∀(ls:List ax) (s:Shape) (t:List Shape),cJ s ls=some t->t.length=ls.length
 |[],s,t,h=>by cases h;rfl
 |l::ls,s,t,h=>by
  simp only[cJ]at h;cases hb:iD s l<;>simp only[hb,cond_true,cond_false]at h
  ·exact nomatch h
  ·obtain⟨t',h1,rfl⟩:=Qp.1 h;simp[qV ls _ _ h1]
theorem rG {R:Type} {aB:List ax} {V:Type} {st:Nat->List Shape->Shape->V} {g:V->(V->Option R)->Option R} {fin:List Shape->Option R} {bad:Option R}
    (h:∀(i:Nat) (ys:List Shape) (s:Shape) (hi:i<aB.length) (next:V->Option R),ys.length=i+1->ys[i]? =some s->g (st i ys s) next=cond (iD s aB[i]) (next (st (i+1) (ys++[shapeOf s aB[i]]) (shapeOf s aB[i]))) bad)
    (hn:∀ys s next,g (st aB.length ys s) next=fin ys):∀(rest:List ax) (i:Nat) (ys:List Shape) (s:Shape) (k:Nat),i<=aB.length->aB.drop i=rest->ys.length=i+1->ys[i]? =some s->rest.length<k->
      iter g k (st i ys s)=(cJ s rest).elim bad λt=>fin (ys++t)
  |[],i,ys,s,0,hle,hd,hl,hs,hk=>by omega
  |_::_,i,ys,s,0,hle,hd,hl,hs,hk=>by omega
  | [], i, ys, s, k + 1, hle, hd, hl, hs, hk => by
    have h1:=congrArg List.length hd;simp only[Rn,QY]at h1;rw[aS]
    have c:i=aB.length:=by omega
    subst c;rw[hn];simp[cJ]
  | l :: ls, i, ys, s, k + 1, hle, hd, hl, hs, hk => by
    have hi:i<aB.length:=by
      have h1:=congrArg List.length hd;simp only[Rn,Qy]at h1;omega
    rw[gv hi]at hd
    injection hd with h1 h2
    rw[aS,h i ys s hi _ hl hs,h1];simp only[cJ];cases hb:iD s l
    · rfl
    · simp only[cond_true];rw[rG h hn ls (i+1) (ys++[shapeOf s l]) (shapeOf s l) k (by omega) h2 (by simp[hl]) (by rw[Qm (by omega),hl];simp) (by simpa using hk)]
      cases cJ (shapeOf s l) ls with
      |none=>rfl
      |some t=>simp
def dN (m:Model):List Shape× Bool:=cond (m.inp.okB&&inB (m.aB.length:Int) 1 6) ((cJ m.inp m.aB).elim ([],false) λt=>(m.inp::t,true)) ([],false)
theorem s9 {m:Model} {k:Nat} (hk:m.tot<k) (hN:m.tot<=aU) {l:ax} (h:l∈m.aB):l.tot<k/\l.tot<=aU:=by
 have:=eE ax.tot h;unfold Model.tot at hk hN;omega
theorem fX {m:Model} {k:Nat} (hk:m.tot<k) (hN:m.tot<=aU):m.aB.length<k/\m.aB.length<=aU:=by
 have:=bm ax.tot m.aB;unfold Model.tot at hk hN;omega
theorem mE {k:Nat} {m:Model} (hk:m.tot<k) (hN:m.tot<=aU):iX k m=some (dN m):=by
  have hM:=ar;obtain⟨hlk,hlN⟩:=fX hk hN;unfold iX dN;simp only[jS,cr,aa,dg];cases m.inp.okB
  · rfl
  cases hlen:inB (m.aB.length:Int) 1 6
  · rfl
  rw[cg]at hlen;simp only[cond_true,Qr]
  have:=rG (aB:=m.aB) (V:=Int× List Shape) (st:=λi ys s=>((i:Int),ys)) (fin:=λy=>some (y,true)) (bad:=some (([]:List Shape),false))
    (g:=λu next=>gx k (m.inp.h,m.inp.w,m.inp.c,m.aB) u next (λy6=>some (y6,true)) (λy7=>some (([]:List Shape),y7))) (λi ys s hi next hl hs=>by
      obtain⟨a1,a2⟩:=s9 hk hN (Qs hi);simp only[gx];rw[ab,if_pos (by omega),ab,if_pos (by omega),Ql,hs,aa,aE,ai hi,aa,oa a1 a2,aa,au hi (by omega),cX (by simp;omega)];unfold gE
      cases iD s m.aB[i]<;>rfl) (λys s next=>by
      simp only[gx];rw[ab,if_neg (by omega)]) m.aB 0 [m.inp] m.inp k (by omega) rfl rfl rfl hlk
  refine this.trans ?_;cases cJ m.inp m.aB<;>rfl
def ta (m:Model):List Shape× Bool:=(cJ m.inp m.aB).elim ([],false) λt=>(m.inp::t,true)
theorem ni {k:Nat} {m:Model} (hk:m.tot<k) (hN:m.tot<aU):gz k m=some (ta m):=by
  have hM:=ar;obtain⟨hlk,hlN⟩:=fX hk (SB hN)
  have hb:m.aB.length+1<=aU:=by have:=bm ax.tot m.aB;unfold Model.tot at hN;omega
  unfold gz ta
  have := rG (aB := m.aB) (V := Int × List Shape × Int × Int × Int) (st := λ i ys s => ((i : Int), ys, s.h, s.w, s.c)) (fin := λ y => some (y, true)) (bad := some (([] : List Shape), false))
      (g:=λu next=>eR k (m.aB,(m.aB.length:Int)) u next (λy3=>some (y3,true)) (λy4=>some (([]:List Shape),y4))) (λi ys s hi next hl hs=>by
        obtain⟨a1,a2⟩:=s9 hk (SB hN) (Qs hi);simp only[eR];rw[ab,if_pos (by omega),aE,ai hi,aa,oc a1 a2,aa,au hi (by omega),cX (by simp;omega)];unfold gE
        cases iD s m.aB[i]<;>rfl) (λys s next=>by
        simp only[eR];rw[ab,if_neg (by omega)]) m.aB 0 [m.inp] m.inp k (by omega) rfl rfl rfl hlk
  refine this.trans ?_;cases cJ m.inp m.aB<;>rfl
theorem IJ {s:Shape} {ls:List ax} (hs:s.okB=false) (hl:ls≠[]):cJ s ls=none:=by
 cases ls with
 |nil=>exact(hl rfl).elim
 |cons l ls=>simp[cJ,iD,hs]
def ek (m:Model):Bool:=(dN m).2
theorem vg {m:Model} (h:inB (m.aB.length:Int) 1 6=true):ta m=dN m:=by
 unfold ta dN;rw[h,Sm];cases hs:m.inp.okB
 ·rw[IJ hs (λe=>by rw[e]at h;exact nomatch h)];rfl
 ·rfl
theorem Ar {m:Model} (h:inB (m.aB.length:Int) 1 6=false):ek m=false:=by
 unfold ek dN;rw[h,Sd];rfl
theorem vh {k:Nat} {m:Model} (hk:m.tot<k) (hN:m.tot<=aU):px k m=some (ek m):=by
 unfold px;rw[mE hk hN];rfl
theorem pC {k:Nat} {m:Model} (hk:m.tot<k) (hN:m.tot<aU):lh k m=some (ek m):=by
 unfold lh;rw[fB,aa,dg,ni hk hN];cases h:inB (m.aB.length:Int) 1 6
 ·rw[Ar h];rfl
 ·rw[vg h];rfl
def cc (m:Model):List Shape:=cond (ek m) (dN m).1 []
theorem tb {k:Nat} {m:Model} (hk:m.tot<k) (hN:m.tot<aU):mY k m=some (cc m):=by
 unfold mY cc;rw[pC hk hN,aa,dg,ni hk hN];cases h:ek m
 ·rfl
 ·have:inB (m.aB.length:Int) 1 6=true:=by
   cases h2:inB (m.aB.length:Int) 1 6
   ·rw[Ar h2]at h;exact nomatch h
   ·rfl
  rw[vg this];rfl
theorem mf {m:Model} (h:ek m=true):(cc m).length=m.aB.length+1:=by
 unfold cc;rw[h,cond_true];unfold ek at h;unfold dN at h⊢;cases h1:(m.inp.okB&&inB (m.aB.length:Int) 1 6)<;>rw[h1]at h
 ·exact nomatch h
 ·simp only[cond_true]at h⊢
  cases h2:cJ m.inp m.aB with
  |none=>rw[h2]at h;exact nomatch h
  |some t=>simp[qV _ _ _ h2]
def KS (s t:Shape) (l:ax):Int:=
  cond (decide (l.kind=0)) (IntKind.i64.wrap (1+(IntKind.i64.wrap ((IntKind.i64.wrap (t.size*s.size)).tdiv 16))))
  (cond (decide (l.kind=1)) (IntKind.i64.wrap (1+(IntKind.i64.wrap ((IntKind.i64.wrap ((IntKind.i64.wrap ((IntKind.i64.wrap (t.size*l.size))*l.size))*s.c)).tdiv 16))))
  (cond (decide (l.kind=2)) (IntKind.i64.wrap (1+(IntKind.i64.wrap ((IntKind.i64.wrap ((IntKind.i64.wrap (t.size*l.size))*l.size)).tdiv 16))))
  (cond (decide (l.kind=3)) (IntKind.i64.wrap (1+(IntKind.i64.wrap ((IntKind.i64.wrap ((IntKind.i64.wrap (t.size*l.size))*l.size)).tdiv 16))))
   (IntKind.i64.wrap (1+(IntKind.i64.wrap (s.size.tdiv 16)))))))
def xD (s:Shape) (l:ax):Int:=cond (gE s l).2 (KS s (gE s l).1 l) 0
theorem F6 {k:Nat} {s:Shape} {l:ax} (hk:l.tot<k) (hN:l.tot<=aU):vV k s l=some (xD s l):=by
 unfold vV xD KS;simp only[oa hk hN,nY,aa,dg,DY];cases(gE s l).2
 ·rfl
 simp only[cond_true];cases decide (l.kind=0)<;>cases decide (l.kind=1)<;>cases decide (l.kind=2)<;>cases decide (l.kind=3)<;>rfl
theorem F7 {k:Nat} {s:Shape} {l:ax} (hk:l.tot<k) (hN:l.tot<=aU):vW k s l=some (xD s l):=by
 unfold vW xD KS;simp only[oc hk hN,rC,aa,dg,DY];rw[Int.mul_comm s.size];cases(gE s l).2
 ·rfl
 simp only[cond_true];cases decide (l.kind=0)<;>cases decide (l.kind=1)<;>cases decide (l.kind=2)<;>cases decide (l.kind=3)<;>rfl
def bB (m:Model):List Int:=cond (ek m) ((List.range m.aB.length).map λi=>xD ((cc m).getD i ja) (m.aB.getD i ⟨0,0,0,0,0,0,0,[],[]⟩)) []
theorem cM {α:Type} {xs:List α} {i:Nat} (h:i<xs.length) (d:α):xs.getD i d=xs[i]:=by rw[QW,ai h];rfl
theorem jU {k:Nat} {m:Model} (hk:m.tot<k) (hN:m.tot<=aU):jH k m=some (bB m):=by
 have hM:=ar;obtain⟨hlk,hlN⟩:=fX hk hN;unfold jH bB;rw[mE hk hN,aa,dg];show cond (ek m) _ _=_;cases h:ek m
 ·rfl
 have hsl:=mf h
 have e:(dN m).1=cc m:=by unfold cc;rw[h];rfl
 simp only[cond_true,e]
 exact KQ m.aB.length _ (g:=λu next=>jG k (m.inp.h,m.inp.w,m.inp.c,m.aB,cc m) u next (λy5=>some y5)) (fin:=some) (λi ys hi next hl=>by
  obtain⟨a1,a2⟩:=s9 hk hN (Qs hi);simp only[jG]
  rw[ab,if_pos (by omega),ab,if_pos (by omega),Ql,ai (show i<(cc m).length by omega),aa,aE,ai hi,aa,F6 a1 a2,aa,cX (by simp;omega),au hi (by omega),cM (show i<(cc m).length by omega),cM hi]) (λys next=>by
  simp only[jG];rw[ab,if_neg (by omega)]) hlk
theorem jV {k:Nat} {m:Model} (hk:m.tot+1<k) (hN:m.tot<aU):jJ k m=some (bB m):=by
  have hM:=ar;obtain⟨hlk,hlN⟩:=fX (show m.tot<k-1 by omega) (SB hN);unfold jJ bB;rw[tb (by omega) hN,aa];cases h:ek m
  · have:cc m=[]:=by unfold cc;rw[h];rfl
    rw[this]
    cases k with
    |zero=>omega
    |succ k=>rfl
  have hsl:=mf h;simp only[cond_true];rw[hsl]
  have := fg (R := List Int) (g := λ u next => jI k (((m.aB.length + 1 : Nat) : Int), m.inp.h, m.inp.w, m.inp.c, m.aB, cc m) u next (λ y5 => some y5)) (n := m.aB.length + 1)
    (st:=λi=>((i:Int),(List.range (min i m.aB.length)).map λi=>xD ((cc m).getD i ja) (m.aB.getD i ⟨0,0,0,0,0,0,0,[],[]⟩)))
    (r := some ((List.range m.aB.length).map λ i => xD ((cc m).getD i ja) (m.aB.getD i ⟨0, 0, 0, 0, 0, 0, 0, [], []⟩))) (λ i hi next => by
      simp only[jI];rw[ab,if_pos (by omega),ab,if_pos (by omega),Ql,ai (show i<(cc m).length by omega),aa,au hi (by omega),ab];by_cases c:i<m.aB.length
      · obtain⟨a1,a2⟩:=s9 (show m.tot<k by omega) (SB hN) (Qs c);rw[if_pos (by omega),aE,ai c,aa,F7 a1 a2,aa,cX (by simp;omega),So (by omega),So (by omega),RH,Rp,List.map_singleton,cM (show i<(cc m).length by omega),cM c]
      · rw[if_neg (by omega),Nat.min_eq_right (by omega),Nat.min_eq_right (by omega)]) (λnext=>by
      simp only[jI]
      rw[ab,if_neg (by omega),Nat.min_eq_right (by omega)]) (k:=k) (by omega)
  simpa using this
def xE (m:Model):Int:=(bB m).foldl (λs x=>IntKind.i64.wrap (s+x)) 0
theorem jb (m:Model):(bB m).length<=m.aB.length:=by
 unfold bB;cases ek m<;>simp
theorem zo {k:Nat} {m:Model} (hk:m.tot<k) (hN:m.tot<=aU):nP k m=some (xE m):=by
 have hM:=ar;obtain⟨hlk,hlN⟩:=fX hk hN;have hc:=jb m;unfold nP;rw[jU hk hN,aa]
 exact pj (bB m) (λs x=>IntKind.i64.wrap (s+x)) (g:=λu next=>gy k (bB m) u next (λy3=>some y3)) (fin:=some) 0 (λi s hi next _=>by
  simp only[gy]
  rw[ab,if_pos (by omega),ab,if_pos (by omega),Ql,ai hi,aa,au hi (by omega)]) (λnext=>by
  simp only[gy];rw[ab,if_neg (by omega)]) (by omega)
theorem B4 {k:Nat} {xs:List Int} (hk:xs.length<k) (hN:xs.length<=aU):KM k xs=some (xs.foldl (λs x=>IntKind.i64.wrap (s+x)) 0):=by
 have hM:=ar
 exact pj xs (λs x=>IntKind.i64.wrap (s+x)) (g:=λu next=>sJ k (xs,(xs.length:Int)) u next (λy2=>some y2)) (fin:=some) 0 (λi s hi next _=>by
  simp only[sJ]
  rw[ab,if_pos (by omega),aE,ai hi,aa,au hi (by omega)]) (λnext=>by
  simp only[sJ];rw[ab,if_neg (by omega)]) hk
theorem zp {k:Nat} {m:Model} (hk:m.tot+1<k) (hN:m.tot<aU):nQ k m=some (xE m):=by
 obtain⟨hlk,hlN⟩:=fX (show m.tot<k by omega) (SB hN);have hc:=jb m;unfold nQ;rw[jV hk hN,aa,B4 (by omega) (by omega)];rfl
end
section
end
section
end
section
theorem D0 {k:Nat} {l:ax} (hk:l.tot<k) (hN:l.tot<=aU):sK k l=some l:=by
 unfold ax.tot at hk hN;unfold sK;rw[jT (by omega) (by omega),aa,jT (by omega) (by omega)];rfl
theorem uz {k:Nat} {l:ax} (hN:l.tot<=aU):jj k l=some l:=by
 unfold ax.tot at hN;unfold jj;rw[cI (by omega),aa,cI (by omega)];rfl
theorem uA {k:Nat} {xs:List ax} (hk:eu ax.tot xs<k) (hN:eu ax.tot xs<=aU):mB k xs=some xs:=by
 have hM:=ar;have hl:=bm ax.tot xs
 have:=sC xs (λx=>x) (g:=λu next=>eS k (xs,(xs.length:Int)) u next (λy3=>some y3)) (fin:=some) (λi ys hi next hys=>by
  have hm:=eE ax.tot (Qs hi);simp only[eS]
  rw[ab,if_pos (by omega),aE,ai hi,aa,uz (by omega),aa,cX (by omega),au hi (by omega)]) (λys next=>by
  simp only[eS];rw[ab,if_neg (by omega)]) (k:=k) (by omega)
 rw[SC]at this;exact this
theorem uB {k:Nat} {m:Model} (hk:m.tot<k) (hN:m.tot<=aU):jk k m=some m:=by
 unfold Model.tot at hk hN;unfold jk;rw[uA (by omega) (by omega)];rfl
theorem vi {k:Nat} {m:Model} (hk:m.tot<k) (hN:m.tot<=aU):sL k m=some m:=by
 have hM:=ar;obtain⟨hlk,hlN⟩:=fX hk hN
 have:=sC m.aB (λx=>x) (g:=λu next=>jK k (m.inp.h,m.inp.w,m.inp.c,m.aB,(0:Int),(0:Int),(0:Int),m.inp.h,m.inp.w,m.inp.c) u next (λy3=>some (⟨m.inp,y3⟩:Model))) (fin:=λy3=>some (⟨m.inp,y3⟩:Model)) (λi ys hi next hys=>by
  obtain⟨a1,a2⟩:=s9 hk hN (Qs hi);simp only[jK]
  rw[ab,if_pos (by omega),aE,ai hi,aa,D0 a1 a2,aa,cX (by omega),au hi (by omega)]) (λys next=>by
  simp only[jK];rw[ab,if_neg (by omega)]) (k:=k) hlk
 rw[SC]at this;exact this
theorem xF {k:Nat} {j:Job} (hk:j.tot<k) (hN:j.tot<=aU):lT k j=some j:=by
 unfold Job.tot av.tot at hk hN;unfold lT;rw[uB (by omega) (by omega),aa,s7 (by omega)];rfl
def eZ:Model:=⟨⟨0,0,0⟩,[]⟩
end
section
def P5 (xs:List Int):Int:=xs.foldl (λs x=>IntKind.i64.wrap (s+x)) 0
theorem KT (a b:Shape):(cond (a.h==b.h) (cond (a.w==b.w) (cond (a.c==b.c) (true) false) false) false)=decide (a=b):=by
 obtain⟨a1,a2,a3⟩:=a;obtain⟨b1,b2,b3⟩:=b;by_cases h1:a1=b1<;>by_cases h2:a2=b2<;>by_cases h3:a3=b3<;>simp[h1,h2,h3]
def tA (j:Job):Bool:=ek j.model&&(inB j.at_ 0 j.model.aB.length&&(j.act.okB&&(decide (j.act.sh=(cc j.model).getD j.at_.toNat ja)&&decide (j.iF=P5 ((bB j.model).take j.at_.toNat)))))
theorem gU {m:Model} (h:ek m=true):(bB m).length=m.aB.length:=by
 unfold bB;rw[h];simp
theorem As {k:Nat} {j:Job} (hk:j.tot+1<k) (hN:j.tot<aU):xv k j=some (tA j):=by
 have hM:=ar;unfold Job.tot av.tot at hk hN
 have hmk:j.model.tot+1<k:=by omega
 have hmN:j.model.tot<aU:=by omega
 obtain⟨hlk,hlN⟩:=fX (show j.model.tot<k by omega) (SB hmN);unfold xv tA;rw[pC (by omega) hmN,aa];cases hm:ek j.model
 ·rfl
 have hsl:=mf hm;have hcl:=gU hm;simp only[cond_true,Qr,fB,aa];cases hin:inB j.at_ 0 j.model.aB.length
 ·rfl
 rw[cg]at hin;simp only[cond_true,Qr];rw[s6 (by omega) (by unfold tz;omega),aa];cases j.act.okB
 ·rfl
 have hi:j.at_.toNat<(cc j.model).length:=by omega
 simp only[cond_true,Qr];rw[tb (by omega) hmN,aa,ab,if_pos (by omega),ai hi,aa,KT,cM hi];cases decide (j.act.sh=(cc j.model)[j.at_.toNat])
 ·rfl
 simp only[cond_true,Qr]
 have htl:(((bB j.model).drop 0).take (j.at_.toNat-0)).length<=(bB j.model).length:=by simp;omega
 rw[jV hmk hmN,aa,ab,if_pos (by omega),B4 (by omega) (by omega),aa,DY,Sv,Q1];rfl
theorem qx {k:Nat} {j:Job} (hk:j.tot<k) (hN:j.tot<=aU):rz k j=some (tA j):=by
  have hM:=ar;unfold Job.tot av.tot at hk hN
  have hmk:j.model.tot<k:=by omega
  have hmN:j.model.tot<=aU:=by omega
  obtain⟨hlk,hlN⟩:=fX hmk hmN;unfold rz tA;rw[mE hmk hmN,aa,dg];show cond (ek j.model) _ _=_;cases hm:ek j.model
  · rfl
  have hsl:=mf hm;have hcl:=gU hm
  have e:(dN j.model).1=cc j.model:=by unfold cc;rw[hm];rfl
  simp only[cond_true,Qr,cr,aa,dg,e];cases hin:inB j.at_ 0 j.model.aB.length
  · rfl
  rw[cg]at hin;simp only[cond_true,Qr];rw[nZ (by omega) (by unfold tz;omega),aa];cases j.act.okB
  · rfl
  have hi:j.at_.toNat<(cc j.model).length:=by omega
  simp only[cond_true,Qr];rw[ab,if_pos (by omega),ai hi,aa,KT,cM hi];cases decide (j.act.sh=(cc j.model)[j.at_.toNat])
  · rfl
  simp only[cond_true,Qr];rw[jU hmk hmN,aa]
  have htl:((bB j.model).take j.at_.toNat).length=j.at_.toNat:=by simp;omega
  have:=pj ((bB j.model).take j.at_.toNat) (λs x=>IntKind.i64.wrap (s+x)) (R:=Bool)
    (g:=λu next=>mZ k (j.model.inp.h,j.model.inp.w,j.model.inp.c,j.model.aB,j.at_,j.act.sh.h,j.act.sh.w,j.act.sh.c,j.act.data,j.iF,bB j.model) u next (λy7=>some (j.iF==y7))) (fin:=λy7=>some (j.iF==y7)) 0 (λi s hi next _=>by
      rw[htl]at hi
      have hi2:i<(bB j.model).length:=by omega
      simp only[mZ]
      rw[ab,if_pos (by omega),ab,if_pos (by omega),Ql,ai hi2,aa,au hi2 (by omega),List.getElem_take]) (λnext=>by
      simp only[mZ];rw[ab,if_neg (by omega)]) (k:=k) (by omega)
  rw[this,DY];rfl
def P6:Job:=⟨⟨⟨0,0,0⟩,[]⟩,0,⟨⟨0,0,0⟩,[]⟩,0⟩
def dv (m:Model) (t:av):Job× Bool:=cond (tA ⟨m,0,t,0⟩) (⟨m,0,t,0⟩,true) (P6,false)
theorem B5 {k:Nat} {m:Model} {t:av} (hk:m.tot+t.tot<k) (hN:m.tot+t.tot<=aU):qa k m t=some (dv m t):=by
 have ht:t.tot=t.data.length:=rfl;unfold qa dv;rw[vi (by omega) (by omega),aa,ve (by omega) (by omega),aa,qx (by simp only[Job.tot];omega) (by simp only[Job.tot];omega),aa,dg];cases tA ⟨m,0,t,0⟩<;>rfl
theorem B6 {k:Nat} {m:Model} {t:av} (hk:m.tot+t.tot+1<k) (hN:m.tot+t.tot<aU):qb k m t=some (dv m t):=by
 unfold qb dv;rw[As (by simp only[Job.tot];omega) (by simp only[Job.tot];omega),aa,dg];cases tA ⟨m,0,t,0⟩
 ·rfl
 ·simp only[cond_true];rw[xF (by simp only[Job.tot];omega) (by simp only[Job.tot];omega)];rfl
theorem vj (m:Model) (t:av):(dv m t).1.tot<=m.tot+t.tot:=by
 unfold dv;cases tA ⟨m,0,t,0⟩
 ·exact QP _
 ·simp only[cond_true,Job.tot];omega
end
section
theorem xG (w a:Nat):(BitVec.ofInt w (a:Int)).toNat=a %2^w:=by
 simp
theorem Pp {a b n:Nat} (ha:a<2^n) (hb:b*2^n+a<9223372036854775808):
  IntKind.i64.wrap (((BitVec.ofInt IntKind.i64.bits (a:Int)||| BitVec.ofInt IntKind.i64.bits ((b*2^n:Nat):Int)).toNat:Nat):Int)=((a+b*2^n:Nat):Int):=by
 have h1:a %2^64=a:=Q0 (by omega);have h2:(b*2^n) %2^64=b*2^n:=Q0 (by omega)
 have h3:a||| b*2^n=a+b*2^n:=by
  have:=Nat.two_pow_add_eq_or_of_lt ha b;rw[Nat.or_comm,QR b,<-this,Nat.add_comm]
 have e:(BitVec.ofInt IntKind.i64.bits (a:Int)||| BitVec.ofInt IntKind.i64.bits ((b*2^n:Nat):Int)).toNat=a+b*2^n:=by
  rw[BitVec.toNat_or,xG,xG];show a %2^64||| (b*2^n) %2^64=_;rw[h1,h2,h3]
 rw[e,aK (by omega) (by omega)]
theorem Oj {c:Nat} (h:c<256):IntKind.i64.wrap (IntKind.u8.wrap (((BitVec.ofInt IntKind.u8.bits (c:Int)&&& BitVec.ofInt IntKind.u8.bits (127:Int)).toNat:Nat):Int))=((c %128:Nat):Int):=by
 have e:(BitVec.ofInt IntKind.u8.bits (c:Int)&&& BitVec.ofInt IntKind.u8.bits (127:Int)).toNat=c %128:=by
  rw[BitVec.toNat_and,xG];show c %2^8&&& 127=_;rw[Q0 (by omega)];exact Nat.and_two_pow_sub_one_eq_mod c 7
 rw[e,Po (by omega) (by omega),aK (by omega) (by omega)]
def pD (b:List Int) (at_:Nat):Nat->Nat->Nat->Int× Int
  |0,_,_=>(0,-1)
  | f + 1, i, u =>
    match b[at_+i]? with
    |none=>(0,-1)
    | some c =>
      cond (decide (128<=c.toNat)) (pD b at_ f (i+1) (u+c.toNat %128*2^(7*i)))
        (cond ((decide (0<i)&&decide (c.toNat=0))||decide (2199023255551<u+c.toNat %128*2^(7*i))) (0,-1)
          (cond (decide ((u+c.toNat %128*2^(7*i)) %2=1)) (-(((u+c.toNat %128*2^(7*i)+1)/2:Nat):Int)) (((u+c.toNat %128*2^(7*i))/2:Nat):Int),((at_+i+1:Nat):Int)))
def eF (b:List Int) (at_:Int):Int× Int:=cond (decide (0<=at_)) (pD b at_.toNat 6 0 0) (0,-1)
theorem Au {i:Nat} (hi:i<6):(2:Int)^(min (IntKind.u64.wrap (IntKind.i64.wrap ((7:Int)*(i:Int)))).toNat IntKind.i64.bits)=((2^(7*i):Nat):Int)/\
  (2:Int)^(min (IntKind.i64.wrap ((7:Int)*(i:Int))).toNat IntKind.i64.bits)=((2^(7*i):Nat):Int):=by
 have:i=0\/i=1\/i=2\/i=3\/i=4\/i=5:=by omega
 rcases this with rfl|rfl|rfl|rfl|rfl|rfl<;>exact⟨by kernel_rfl,by kernel_rfl⟩
theorem B7 {i u c:Nat} (hi:i<6) (hu:u<2^(7*i)):u+c %128*2^(7*i)<2^(7*(i+1))/\2^(7*(i+1))<=4398046511104:=by
 have h1:2^(7*(i+1))=128*2^(7*i):=by rw[show 7*(i+1)=7*i+7 from by omega,Nat.pow_add];omega
 have h2:c %128*2^(7*i)<=127*2^(7*i):=QB _ (by omega);refine⟨by omega,?_⟩
 have:i=0\/i=1\/i=2\/i=3\/i=4\/i=5:=by omega
 rcases this with rfl|rfl|rfl|rfl|rfl|rfl<;>decide
theorem ML {i u n:Nat} (hi:i<6) (hu:u<2^(7*i)) (hn:n<256):
  IntKind.i64.wrap ((u:Int)+(IntKind.i64.wrap (((IntKind.i64.wrap (n:Int)).tmod (128:Int))*2^(min (IntKind.u64.wrap (IntKind.i64.wrap ((7:Int)*(i:Int)))).toNat IntKind.i64.bits))))=((u+n %128*2^(7*i):Nat):Int):=by
 have h:=B7 (c:=n) hi hu;have e:((n:Int).tmod 128)=((n %128:Nat):Int):=rfl;rw[aK (n:=(n:Int)) (by omega) (by omega),(Au hi).1,e,<-Rj,aK (n:=((n %128*2^(7*i):Nat):Int)) (by omega) (by omega),<-Int.natCast_add,aK (by omega) (by omega)]
theorem MM {U:Nat} (h:U<4398046511104):IntKind.i64.wrap ((IntKind.i64.wrap (0-(IntKind.i64.wrap ((U:Int)+(1:Int))))).tdiv (2:Int))=-(((U+1)/2:Nat):Int):=by
 have e:(-(((U+1:Nat):Int))).tdiv 2=-(((U+1)/2:Nat):Int):=by rw[Int.neg_tdiv];rfl
 rw[aK (n:=(U:Int)+1) (by omega) (by omega),aK (n:=0-((U:Int)+1)) (by omega) (by omega),show(0:Int)-((U:Int)+1)=-((U+1:Nat):Int)from by omega,e,aK (by omega) (by omega)]
theorem xH {U:Nat} (h:U<4398046511104):IntKind.i64.wrap ((U:Int).tdiv (2:Int))=((U/2:Nat):Int):=by
 have e:(U:Int).tdiv 2=((U/2:Nat):Int):=rfl;rw[e,aK (by omega) (by omega)]
theorem Hq (U:Nat):((U:Int).tmod 2==(1:Int))=decide (U %2=1):=by
 have e:(U:Int).tmod 2=((U %2:Nat):Int):=rfl;rw[DY,e]
 congr 1
 rw[eq_iff_iff];omega
theorem xI {b:List Int} {a kk:Nat} (hb:∀x∈b,okB x) (hl:b.length<=aU):∀(f i u k:Nat),i+f=6->u<2^(7*i)->f<k->
  iter (λu4 n4=>fW kk (b,(a:Int)) u4 n4 (λy2=>some ((0:Int),(-1:Int))) (λy3=>some (y3.1,y3.2))) k ((u:Int),(i:Int))=some (pD b a f i u)
 |f,i,u,0,_,_,hk=>by omega
 |0,i,u,k+1,hi,_,_=>by
  rw[aS];simp only[fW]
  rw[ab,if_neg (by omega)];rfl
 |f+1,i,u,k+1,hi,hu,hk=>by
  have hM:=ar
  have hi6:i<6:=by omega
  rw[aS];simp only[fW,pD];rw[ab,if_pos (by omega),ab,if_neg (by omega),aK (n:=(b.length:Int)-(i:Int)) (by omega) (by omega),ab];by_cases hin:a+i<b.length
  ·rw[if_neg (by omega),aK (n:=(a:Int)+(i:Int)) (by omega) (by omega),show(a:Int)+(i:Int)=((a+i:Nat):Int)from by omega,aE,ai hin,aa];have hc:=hb b[a+i] (Qs hin);unfold okB at hc;obtain⟨n,hn⟩:∃n:Nat,b[a+i]=(n:Int):=⟨b[a+i].toNat,by omega⟩;rw[hn]at hc⊢
   have hn256:n<256:=by omega
   obtain⟨w1,w2⟩:=B7 (c:=n) hi6 hu
   have hU:u+n %128*2^(7*i)<4398046511104:=by omega
   simp only[ML hi6 hu hn256,MM hU,xH hU,Hq,Ql]
   have hsh:IntKind.u64.wrap (IntKind.i64.wrap ((7:Int)*(i:Int)))=((7*i:Nat):Int):=by
    have:i=0\/i=1\/i=2\/i=3\/i=4\/i=5:=by omega
    rcases this with rfl|rfl|rfl|rfl|rfl|rfl<;>decide
   rw[hsh,ab,if_neg (by omega),aK (n:=(n:Int)) (by omega) (by omega),aK (n:=((a+i:Nat):Int)+1) (by omega) (by omega),aK (n:=(i:Int)+1) (by omega) (by omega),ab];by_cases h128:128<=n
   ·rw[if_neg (by omega),decide_eq_true h128,cond_true];exact xI (kk:=kk) hb hl f (i+1) _ k (by omega) w1 (by omega)
   ·rw[if_pos (by omega),decide_eq_false h128,cond_false,DY]
    have e1:decide ((n:Int)=0)=decide (n=0):=by congr 1;rw[eq_iff_iff];omega
    have e2:decide ((i:Int)>0)=decide (0<i):=by congr 1;rw[eq_iff_iff];omega
    have e3:((a+i:Nat):Int)+1=((a+i+1:Nat):Int):=by omega
    have e4:decide ((((u+n %128*2^(7*i)):Nat):Int)>2199023255551)=decide (2199023255551<(u+n %128*2^(7*i))):=by congr 1;rw[eq_iff_iff];omega
    rw[e1,e2,e3,e4];cases decide (2199023255551<(u+n %128*2^(7*i)))<;>cases decide (n=0)<;>cases decide (0<i)<;>cases decide ((u+n %128*2^(7*i)) %2=1)<;>rfl
  ·rw[if_pos (by omega),QM (by omega)]
theorem B8 {k:Nat} {b:List Int} {a:Int} (hk:7<=k) (hb:∀x∈b,okB x) (hl:b.length<=aU):qi k b a=some (eF b a):=by
 unfold qi eF;by_cases h:0<=a
 ·rw[decide_eq_true h,cond_true];have:=xI (kk:=k) (a:=a.toNat) hb hl 6 0 0 k rfl (by decide) (by omega);rw[Int.toNat_of_nonneg h]at this;exact this
 ·rw[decide_eq_false h,cond_false];obtain⟨k,rfl⟩:∃k',k=k'+1:=⟨k-1,by omega⟩;rw[aS];simp only[fW];rw[ab,if_pos (by omega),ab,if_pos (by omega)]
theorem Ol {i u n:Nat} (hi:i<6) (hu:u<2^(7*i)) (hn:n<256):
  IntKind.i64.wrap (((BitVec.ofInt IntKind.i64.bits (u:Int)||| BitVec.ofInt IntKind.i64.bits (IntKind.i64.wrap ((IntKind.i64.wrap (IntKind.u8.wrap (((BitVec.ofInt IntKind.u8.bits (n:Int)&&& BitVec.ofInt IntKind.u8.bits (127:Int)).toNat:Int))))*2^(min (IntKind.i64.wrap ((7:Int)*(i:Int))).toNat IntKind.i64.bits)))).toNat:Int))=((u+n %128*2^(7*i):Nat):Int):=by
 have h:=B7 (c:=n) hi hu;rw[Oj hn,(Au hi).2,<-Rj,aK (n:=((n %128*2^(7*i):Nat):Int)) (by omega) (by omega),Pp hu (by omega)]
theorem KU {U:Nat} (h:U<4398046511104) (ho:U %2=1):IntKind.i64.wrap ((IntKind.i64.wrap (0-(IntKind.i64.wrap ((U:Int).tdiv (2:Int)))))-(1:Int))=-(((U+1)/2:Nat):Int):=by
 rw[xH h,aK (n:=0-((U/2:Nat):Int)) (by omega) (by omega),aK (by omega) (by omega)];omega
theorem F8 (k:Nat) (x:Int):nT k x=some (inB x (-1099511627776) 1099511627775):=by unfold nT;rw[fB];rfl
theorem xJ {b l:List Int} {a kk:Nat} (hb:∀x∈b,okB x) (hlN:b.length<=aU) (hl:l=(b.take (min (a+6) b.length)).drop a) (ha:a<=b.length):∀(f i u k:Nat),i+f=6->u<2^(7*i)->f<k->
    iter (λu9 n9=>ir kk ((a:Int),l,(l.length:Int)) u9 n9 (λy7=>some ((0:Int),(-1:Int))) (λy8=>some (y8.1,y8.2))) k ((u:Int),(i:Int))=some (pD b a f i u)
  |f,i,u,0,_,_,hk=>by omega
  | 0, i, u, k + 1, hi, _, _ => by
    have hll:l.length<=6:=by rw[hl];simp;omega
    rw[aS];simp only[ir]
    rw[ab,if_neg (by omega)];rfl
  | f + 1, i, u, k + 1, hi, hu, hk => by
    have hM:=ar
    have hi6:i<6:=by omega
    have hll:l.length=min 6 (b.length-a):=by rw[hl];simp;omega
    rw[aS];generalize hnx:iter _ k=nx;simp only[ir,pD];by_cases hin:a+i<b.length
    · have hli:i<l.length:=by omega
      have hget:l[i]=b[a+i]:=by subst hl;simp
      rw[ab,if_pos (by omega),aE,ai hli,aa,ai hin,hget];have hc:=hb b[a+i] (Qs hin);unfold okB at hc;obtain⟨n,hn⟩:∃n:Nat,b[a+i]=(n:Int):=⟨b[a+i].toNat,by omega⟩;rw[hn]at hc⊢
      have hn256:n<256:=by omega
      obtain⟨w1,w2⟩:=B7 (c:=n) hi6 hu
      have hU:u+n %128*2^(7*i)<4398046511104:=by omega
      have hsh:IntKind.i64.wrap ((7:Int)*(i:Int))=((7*i:Nat):Int):=by
        rw[aK (by omega) (by omega)];omega
      have hnn:¬(IntKind.i64.wrap ((7:Int)*(i:Int))<0):=by rw[hsh];omega
      rw[decide_eq_false hnn,cond_false];simp only[Ol hi6 hu hn256,Hq,Ql,F8,aa,dg];rw[aK (n:=(a:Int)+(i:Int)) (by omega) (by omega),show(a:Int)+(i:Int)=((a+i:Nat):Int)from by omega,aK (n:=((a+i:Nat):Int)+1) (by omega) (by omega),aK (n:=(i:Int)+1) (by omega) (by omega),ab];by_cases h128:128<=n
      · rw[if_pos (by omega),decide_eq_true h128,cond_true];rw[<-hnx];exact xJ (kk:=kk) hb hlN hl ha f (i+1) _ k (by omega) w1 (by omega)
      · rw [if_neg (by omega), decide_eq_false h128, cond_false, DY]
        have e1:decide ((n:Int)=0)=decide (n=0):=by congr 1;rw[eq_iff_iff];omega
        have e2:decide ((i:Int)>0)=decide (0<i):=by congr 1;rw[eq_iff_iff];omega
        have e3:((a+i:Nat):Int)+1=((a+i+1:Nat):Int):=by omega
        rw[e1,e2,e3];by_cases ho:(u+n %128*2^(7*i)) %2=1
        · rw[decide_eq_true ho,KU hU ho]
          have e4:inB (-(((u+n %128*2^(7*i)+1)/2:Nat):Int)) (-1099511627776) 1099511627775=!decide (2199023255551<(u+n %128*2^(7*i))):=by
            rw[Sn,cg,Sa,decide_eq_false_iff_not];constructor<;>intro h<;>omega
          rw[e4];cases decide (2199023255551<(u+n %128*2^(7*i)))<;>cases decide (n=0)<;>cases decide (0<i)<;>rfl
        · rw[decide_eq_false ho,xH hU]
          have e4:inB (((u+n %128*2^(7*i))/2:Nat):Int) (-1099511627776) 1099511627775=!decide (2199023255551<(u+n %128*2^(7*i))):=by
            rw[Sn,cg,Sa,decide_eq_false_iff_not];constructor<;>intro h<;>omega
          rw[e4];cases decide (2199023255551<(u+n %128*2^(7*i)))<;>cases decide (n=0)<;>cases decide (0<i)<;>rfl
    · rw[ab,if_neg (by omega),QM (by omega)]
theorem B9 {k:Nat} {b:List Int} {a:Int} (hk:7<=k) (hb:∀x∈b,okB x) (hl:b.length<=aU):qj k b a=some (eF b a):=by
  have hM:=ar;unfold qj eF;rw[fB,aa,dg,aK (n:=(b.length:Int)-1) (by omega) (by omega)];by_cases h:0<=a
  · rw [decide_eq_true h, cond_true];by_cases h2:a<b.length
    · have e:inB a 0 ((b.length:Int)-1)=true:=cg.2 (by omega)
      have e6:(if IntKind.i64.wrap (a+6)<(b.length:Int)then IntKind.i64.wrap (a+6)else(b.length:Int))=((min (a.toNat+6) b.length:Nat):Int):=by
        rw[aK (by omega) (by omega)];split<;>omega
      rw[e,cond_true,e6,ab,if_pos (by omega),ab,if_pos (by omega),Ql];have:=xJ (kk:=k) (l:=(b.take (min (a.toNat+6) b.length)).drop a.toNat) (a:=a.toNat) hb hl rfl (by omega) 6 0 0 k rfl (by decide) (by omega);rw[Int.toNat_of_nonneg h]at this;exact this
    · have e:inB a 0 ((b.length:Int)-1)=false:=by rw[<-Bool.not_eq_true,cg];omega
      rw[e,cond_false];simp only[pD];rw[QM (by omega)]
  · have e:inB a 0 ((b.length:Int)-1)=false:=by rw[<-Bool.not_eq_true,cg];omega
    rw[decide_eq_false h,cond_false,e];rfl
end
section
def aV (b:List Int) (at_:Int) (bad:Bool):Int× Int× Bool:=
 cond bad (0,at_,true) (cond (decide ((eF b at_).2<0)) (0,at_,true) ((eF b at_).1,(eF b at_).2,false))
theorem mg {k:Nat} {b:List Int} {a:Int} {bad:Bool} (hk:7<=k) (hb:∀x∈b,okB x) (hl:b.length<=aU):cp k b a bad=some (aV b a bad):=by
 unfold cp aV;simp only[B8 hk hb hl,aa,decide_true,cond_true];cases bad<;>cases decide ((eF b a).2<0)<;>rfl
theorem ly {k:Nat} {b:List Int} {a:Int} {bad:Bool} (hk:7<=k) (hb:∀x∈b,okB x) (hl:b.length<=aU):aC k ⟨b,a,bad⟩=some (aV b a bad):=by
 unfold aC aV;simp only[B9 hk hb hl,aa,decide_true,cond_true];cases bad<;>cases decide ((eF b a).2<0)<;>rfl
end
section
theorem Av {b:List Int} {a:Nat}:∀(f i u:Nat),(pD b a f i u).2=-1\/((a:Int)<(pD b a f i u).2/\(pD b a f i u).2<=b.length)
 |0,i,u=>.inl rfl
 |f+1,i,u=>by
  simp only[pD]
  cases hc:b[a+i]? with
  |none=>exact .inl rfl
  |some c=>
   have hlt:=(Of.1 hc).1;simp only;cases decide (128<=c.toNat)
   ·simp only[cond_false];cases((decide (0<i)&&decide (c.toNat=0))||decide (2199023255551<u+c.toNat %128*2^(7*i)))
    ·simp only[cond_false];right;omega
    ·exact .inl rfl
   ·exact Av f (i+1) _
theorem D1 (b:List Int) (a:Int):(eF b a).2=-1\/(0<=a/\a<(eF b a).2/\(eF b a).2<=b.length):=by
 unfold eF;by_cases h:0<=a
 ·rw[decide_eq_true h,cond_true]
  rcases Av (b:=b) (a:=a.toNat) 6 0 0 with h1|h1
  ·exact .inl h1
  ·right;omega
 ·rw[decide_eq_false h];exact .inl rfl
def Pq (b:List Int) (a:Int):Option (Int× Int):=cond (decide ((eF b a).2<0)) none (some (eF b a))
theorem MN {b:List Int} {a x p:Int} (h:Pq b a=some (x,p)):0<=a/\a<p/\p<=b.length:=by
 unfold Pq at h
 rcases D1 b a with h1|h1
 ·rw[h1]at h;exact nomatch h
 ·rw[decide_eq_false (by omega),cond_false,It]at h;rw[h]at h1;exact h1
theorem Ca (b:List Int) (a:Int):aV b a false=(Pq b a).elim (0,a,true) λq=>(q.1,q.2,false):=by
 unfold aV Pq;cases decide ((eF b a).2<0)<;>rfl
def bY (b:List Int) (a:Int) (bad:Bool) (most:Int):Int× Int× Bool:=cond (inB (aV b a bad).1 0 most) (aV b a bad) (0,(aV b a bad).2.1,true)
theorem Aw {k:Nat} {b:List Int} {a most:Int} {bad:Bool} (hk:7<=k) (hb:∀x∈b,okB x) (hl:b.length<=aU):de k ⟨b,a,bad⟩ most=some (bY b a bad most):=by
 unfold de bY;simp only[ly hk hb hl,fB,aa,decide_true,cond_true,dg];cases inB (aV b a bad).1 0 most<;>rfl
theorem IK {k:Nat} {b:List Int} {a:Int} {bad:Bool} (hk:7<=k) (hb:∀x∈b,okB x) (hl:b.length<=aU):dY k ⟨b,a,bad⟩=
  some (let r1:=aV b a bad;let r2:=aV b r1.2.1 r1.2.2;let r3:=aV b r2.2.1 r2.2.2;(⟨r1.1,r2.1,r3.1⟩,r3.2.1,r3.2.2)):=by
 unfold dY;simp only[ly hk hb hl,aa,decide_true,cond_true]
end
section
section
variable {R:Type} {k:Nat} {b:List Int} {m:Int} {q1 q2 q3 q4 q5 q6 q7 q8 q9 q10 q11 q12:Int} {d:List Int} {fin:Int× Bool× List Int->Option R}
end
end
section
section
variable {R:Type} {k:Nat} {b:List Int} {m:Int} {q1 q2 q3 q4 q5 q6 q7 q8 q9 q10 q11 q12:Int} {d:List Int} {fin:Int× Bool× List Int->Option R}
end
end
section
def F9 (s x:Int):Int:=(IntKind.i64.wrap ((IntKind.i64.wrap ((IntKind.i64.wrap ((257:Int)*s))+(IntKind.i64.wrap x)))+(1:Int))).tmod (1000003:Int)
def Ga (b:List Int):Int:=b.foldl F9 1
theorem IL {k:Nat} {b:List Int} (hk:b.length<k) (hl:b.length<=aU):BV k b=some (Ga b):=by
 have hM:=ar;unfold BV
 exact pj b F9 (g:=λu next=>na k b u next (λy2=>some y2)) (fin:=some) 1 (λi s hi next _=>by
  simp only[na]
  rw[ab,if_pos (by omega),aE,ai hi,aa,au hi (by omega)];rfl) (λnext=>by
  simp only[na];rw[ab,if_neg (by omega)]) hk
theorem IM {k:Nat} {b:List Int} (hk:b.length<k) (hl:b.length<=aU):xz k b=some (Ga b):=by
 have hM:=ar;unfold xz
 exact pj b F9 (g:=λu next=>nc k (b,(b.length:Int)) u next (λy2=>some y2)) (fin:=some) 1 (λi s hi next _=>by
  simp only[nc]
  rw[ab,if_pos (by omega),aE,ai hi,aa,au hi (by omega),Int.mul_comm s 257];rfl) (λnext=>by
  simp only[nc];rw[ab,if_neg (by omega)]) hk
section
variable {R:Type} {k:Nat} {b:List Int} {m:Int}
end
end
set_option maxRecDepth 100000
set_option maxHeartbeats 4000000
section
def vk (b:List Int):Nat->Int->Bool->List Int->List Int× Int× Bool
 |0,a,bad,ys=>(ys,a,bad)
 |n+1,a,bad,ys=>cond bad (ys,a,bad) (vk b n (aV b a bad).2.1 (aV b a bad).2.2 (ys++[(aV b a bad).1]))
def qy (b:List Int) (a:Int) (bad:Bool):List Int× Int× Bool:=vk b (bY b a bad 2000).1.toNat (bY b a bad 2000).2.1 (bY b a bad 2000).2.2 []
section
variable {k:Nat} {b:List Int} (hk:7<=k) (hb:∀x∈b,okB x) (hl:b.length<=aU)
include hk hb hl
theorem Ax {a:Int} {bad:Bool}:jP k b a bad=some (bY b a bad 2000):=by
 unfold jP bY;simp only[mg hk hb hl,cr,aa,decide_true,cond_true,dg];cases inB (aV b a bad).1 0 2000<;>rfl
theorem xK {R:Type} {fin:List Int× Int× Bool->Option R} {m:Int}:∀(n:Nat) (i a:Int) (bad:Bool) (ys:List Int) (kf:Nat),n<kf->m=i+n->0<=i->m<=100000->ys.length+n<=100000->
  iter (λu4 n4=>eA k (m,b) u4 n4 fin) kf (i,a,bad,ys)=fin (vk b n a bad ys)
 |_,_,_,_,_,0,h,_,_,_,_=>by omega
 |0,i,a,bad,ys,kf+1,_,hm,_,_,_=>by
  rw[aS];show eA k (m,b) _ _ fin=_;unfold eA;simp only
  rw[decide_eq_false (by omega)];rfl
 |n+1,i,a,bad,ys,kf+1,hkf,hm,hi,hm2,hy=>by
  have hM:=ar;rw[aS];show eA k (m,b) _ _ fin=_;unfold eA vk;simp only;rw[decide_eq_true (by omega),cond_true];cases bad
  ·simp only[QI,cond_true,cond_false];rw[mg hk hb hl,aa,cX (by simp;omega),aK (by omega) (by omega)];exact xK n (i+1) _ _ _ kf (by omega) (by omega) (by omega) hm2 (by simp;omega)
  ·rfl
theorem xL {R:Type} {fin:List Int× Int× Bool->Option R}:∀(n:Nat) (a:Int) (bad:Bool) (ys:List Int) (kf:Nat),n<kf->ys.length+n<=100000->
  iter (λu4 n4=>bT k b u4 n4 fin) kf ((n:Int),a,bad,ys)=fin (vk b n a bad ys)
 |_,_,_,_,0,h,_=>by omega
 |0,a,bad,ys,kf+1,_,_=>by
  rw[aS];show bT k b _ _ fin=_;unfold bT;simp only
  rw[decide_eq_false (by omega)];rfl
 |n+1,a,bad,ys,kf+1,hkf,hy=>by
  have hM:=ar;rw[aS];show bT k b _ _ fin=_;unfold bT vk;simp only;rw[decide_eq_true (by omega),cond_true];cases bad
  ·simp only[QI,cond_true,cond_false];rw[ly hk hb hl,aa,cX (by simp;omega),aK (by omega) (by omega),show((n+1:Nat):Int)-1=(n:Int)from by omega];exact xL n _ _ _ kf (by omega) (by simp;omega)
  ·rfl
omit hk hb hl in
theorem qz (b:List Int) (a:Int) (bad:Bool):0<=(bY b a bad 2000).1/\(bY b a bad 2000).1<=2000:=by
 unfold bY;cases h:inB (aV b a bad).1 0 2000
 ·simp only[cond_false];omega
 ·exact of_decide_eq_true h
theorem KV (h3:2001<k) {a:Int} {bad:Bool}:lu k b a bad=some (qy b a bad):=by
 have hc:=qz b a bad;unfold lu;rw[Ax hk hb hl,aa];exact(xK hk hb hl (m:=(bY b a bad 2000).1) (fin:=λy3=>cond (decide (b=b)) (some (y3.1,y3.2.1,y3.2.2)) none) (bY b a bad 2000).1.toNat 0 _ _ [] k (by omega) (by omega) (by omega) (by omega) (by simp;omega)).trans (by rw[decide_eq_true rfl];rfl)
theorem IP (h3:2001<k) {a:Int} {bad:Bool}:dr k ⟨b,a,bad⟩ 2000=some (qy b a bad):=by
 have hc:=qz b a bad;unfold dr;rw[Aw hk hb hl,aa];have:=xL hk hb hl (fin:=λy3=>cond (decide (b=b)) (some (y3.1,y3.2.1,y3.2.2)) none) (bY b a bad 2000).1.toNat (bY b a bad 2000).2.1 (bY b a bad 2000).2.2 [] k (by omega) (by simp;omega);rw[show(((bY b a bad 2000).1.toNat:Nat):Int)=(bY b a bad 2000).1 from by omega]at this;exact this.trans (by rw[decide_eq_true rfl];rfl)
omit hk hb hl in
theorem Ay (b:List Int):∀(n:Nat) (a:Int) (bad:Bool) (ys:List Int),(vk b n a bad ys).1.length<=ys.length+n
 |0,_,_,_=>QE _
 |n+1,a,bad,ys=>by
  unfold vk;cases bad
  ·have:=Ay b n (aV b a false).2.1 (aV b a false).2.2 (ys++[(aV b a false).1]);simp only[cond_false];simp only[QK,Qy,QY]at this;omega
  ·simp only[cond_true];omega
omit hk hb hl in
theorem vl (b:List Int) (a:Int) (bad:Bool):(qy b a bad).1.length<=2000:=by
 have hc:=qz b a bad;have:=Ay b (bY b a bad 2000).1.toNat (bY b a bad 2000).2.1 (bY b a bad 2000).2.2 [];unfold qy;simp only[QY]at this;omega
end
def cK (b:List Int) (a:Int) (bad:Bool):ax× Int× Bool:=
 let r1:=aV b a bad;let r2:=aV b r1.2.1 r1.2.2;let r3:=aV b r2.2.1 r2.2.2;let r4:=aV b r3.2.1 r3.2.2;let r5:=aV b r4.2.1 r4.2.2;let r6:=aV b r5.2.1 r5.2.2;let r7:=aV b r6.2.1 r6.2.2
 let r8:=qy b r7.2.1 r7.2.2;let r9:=qy b r8.2.1 r8.2.2
 (⟨r1.1,r2.1,r3.1,r4.1,r5.1,r6.1,r7.1,r8.1,r9.1⟩,r9.2.1,r9.2.2)
def pE (b:List Int):Nat->Int->Bool->List ax->Int× Bool× List ax
 |0,a,bad,ys=>(a,bad,ys)
 |n+1,a,bad,ys=>cond bad (a,bad,ys) (pE b n (cK b a bad).2.1 (cK b a bad).2.2 (ys++[(cK b a bad).1]))
def eB (b:List Int):Model× Int:=
 cond (decide ((b.length:Int)>6000)) (eZ,5) (cond (!decide (b.take 3=[80,77,49])) (eZ,1)
  (let r2:=aV b 3 false;let r3:=aV b r2.2.1 r2.2.2;let r4:=aV b r3.2.1 r3.2.2;let r5:=bY b r4.2.1 r4.2.2 2000;let y:=pE b r5.1.toNat r5.2.1 r5.2.2 [];let r6:=aV b y.1 y.2.1
  cond r6.2.2 (eZ,2) (cond (r6.1 !=Ga ((b.take y.1.toNat).drop 0)) (eZ,3) (cond (r6.2.1 !=(b.length:Int)) (eZ,3)
   (cond (!ek ⟨⟨r2.1,r3.1,r4.1⟩,y.2.2⟩) (eZ,4) (⟨⟨r2.1,r3.1,r4.1⟩,y.2.2⟩,0))))))
theorem Cb (b:List Int) (a:Int) (bad:Bool):(cK b a bad).1.tot<=2000+(2000+0):=Nat.add_le_add (vl b _ _) (Nat.add_le_add (vl b _ _) (QE 0))
theorem qA (b:List Int):∀(n:Nat) (a:Int) (bad:Bool) (ys:List ax),eu ax.tot (pE b n a bad ys).2.2<=eu ax.tot ys+4001*n
 |0,_,_,_=>QE _
 |n+1,a,bad,ys=>by
  unfold pE;cases bad
  ·have:=qA b n (cK b a false).2.1 (cK b a false).2.2 (ys++[(cK b a false).1]);have hL:=Cb b a false;rw[ry]at this
   have h1:eu ax.tot [(cK b a false).1]=(cK b a false).1.tot+1:=by simp[eu];omega
   simp only[cond_false];omega
  ·simp only[cond_true];omega
section
variable {k:Nat} {b:List Int} (hk:9000000<=k) (hb:∀x∈b,okB x) (hl:b.length<=aU)
include hk hb hl
theorem IQ {a:Int} {bad:Bool}:ed k ⟨b,a,bad⟩=some (cK b a bad):=by
 unfold ed cK;simp only[ly (show 7<=k by omega) hb hl,IP (show 7<=k by omega) hb hl (show 2001<k by omega),aa,decide_true,cond_true]
theorem tc {R:Type} {fin:Int× Bool× List ax->Option R} {m q1 q2 q3 q4 q5 q6 q7 q8 q9:Int}:∀(n:Nat) (i a:Int) (bad:Bool) (ys:List ax) (kf:Nat),n<kf->m=i+n->0<=i->m<=100000->ys.length+n<=100000->
  iter (λu19 n19=>cy k (b,m,q1,q2,q3,q4,q5,q6,b,q7,q8,q9) u19 n19 fin) kf (i,a,bad,ys)=fin (pE b n a bad ys)
 |_,_,_,_,_,0,h,_,_,_,_=>by omega
 |0,i,a,bad,ys,kf+1,_,hm,_,_,_=>by
  rw[aS];show cy k _ _ _ fin=_;unfold cy;simp only
  rw[decide_eq_false (by omega)];rfl
 |n+1,i,a,bad,ys,kf+1,hkf,hm,hi,hm2,hy=>by
  have hM:=ar;rw[aS];cases bad
  ·have st:∀next,cy k (b,m,q1,q2,q3,q4,q5,q6,b,q7,q8,q9) (i,a,false,ys) next fin=next (i+1,(cK b a false).2.1,(cK b a false).2.2,ys++[(cK b a false).1]):=λnext=>by
    unfold cy;simp only;rw[decide_eq_true (by omega),cond_true];simp only[QI,cond_true,mg (show 7<=k by omega) hb hl,KV (show 7<=k by omega) hb hl (show 2001<k by omega),aa];rw[cX (by omega),aK (by omega) (by omega)];rfl
   exact(st _).trans (tc n (i+1) (cK b a false).2.1 (cK b a false).2.2 (ys++[(cK b a false).1]) kf (by omega) (by omega) (by omega) hm2 (by rw[QK];simp only[Qy,QY];omega))
  ·show cy k _ _ _ fin=_;unfold cy;simp only;rw[decide_eq_true (by omega),cond_true];rfl
theorem tf {R:Type} {fin:Int× Bool× List ax->Option R} {q1 q2 q3 q7 q8 q9:Int}:∀(n:Nat) (a:Int) (bad:Bool) (ys:List ax) (kf:Nat),n<kf->ys.length+n<=100000->
  iter (λu9 n9=>dj k (b,q1,q2,q3,b,q7,q8,q9) u9 n9 fin) kf ((n:Int),a,bad,ys)=fin (pE b n a bad ys)
 |_,_,_,_,0,h,_=>by omega
 |0,a,bad,ys,kf+1,_,_=>by
  rw[aS];show dj k _ _ _ fin=_;unfold dj;simp only
  rw[decide_eq_false (by omega)];rfl
 |n+1,a,bad,ys,kf+1,hkf,hy=>by
  have hM:=ar;rw[aS];show dj k _ _ _ fin=_;unfold dj pE;simp only;rw[decide_eq_true (by omega),cond_true];cases bad
  ·simp only[QI,cond_true,cond_false];rw[IQ hk hb hl,aa,cX (by omega),aK (by omega) (by omega),show((n+1:Nat):Int)-1=(n:Int)from by omega];exact tf (fin:=fin) (q1:=q1) (q2:=q2) (q3:=q3) (q7:=q7) (q8:=q8) (q9:=q9) n (cK b a false).2.1 (cK b a false).2.2 (ys++[(cK b a false).1]) kf (by omega) (by rw[QK];simp only[Qy,QY];omega)
  ·rfl
end
theorem xM {b:List Int} {a:Int} {bad:Bool} (h:(aV b a bad).2.2=false):0<=a/\a<=b.length:=by
 cases bad
 ·rw[Ca]at h
  cases hn:Pq b a with
  |none=>rw[hn]at h;exact nomatch h
  |some q=>have:=MN (x:=q.1) (p:=q.2) hn;omega
 ·exact nomatch h
theorem Pt {b:List Int}:(decide ((b.length:Int)>=3)=false/\decide (b.take 3=[80,77,49])=false)\/∃x y z l,b=x::y::z::l:=by
 match b with
 |[]=>exact .inl ⟨rfl,rfl⟩
 |[x]=>exact .inl ⟨rfl,by simp⟩
 |[x,y]=>exact .inl ⟨rfl,by simp⟩
 |x::y::z::l=>exact .inr ⟨x,y,z,l,rfl⟩
theorem D2 (k:Nat) (b:List Int):sY k b=some (decide (b.take 3=[80,77,49])):=by
 unfold sY
 rcases Pt (b:=b)with⟨h1,h2⟩|⟨x,y,z,l,rfl⟩
 ·rw[h1,h2];rfl
 ·rw[decide_eq_true (by simp;omega),cond_true];have e0:idx (x::y::z::l) 0=some x:=rfl;have e1:idx (x::y::z::l) 1=some y:=rfl;have e2:idx (x::y::z::l) 2=some z:=rfl;rw[e0,e1,e2];simp only[aa,List.take_succ_cons,List.take_zero,Q7,and_true,Bool.decide_and,DY];cases decide (x=80)<;>cases decide (y=77)<;>rfl
theorem Cc {k:Nat} {b:List Int} (hb:∀x∈b,okB x) (hl:b.length<=aU):iu k b [80,77,49]=some (decide (b.take 3=[80,77,49])):=by
 have hM:=ar;unfold iu;rw[ab];by_cases h:(b.length:Int)>=(([80,77,49]:List Int).length:Int)
 ·have h':3<=b.length:=by simp at h;omega
  rw[if_pos h,decide_eq_true (show 0<=((([80,77,49]:List Int).length:Nat):Int)/\((([80,77,49]:List Int).length:Nat):Int)<=(b.length:Int) by simp;omega),cond_true,Sv];rw[show((([80,77,49]:List Int).length:Nat):Int).toNat=3 from rfl];rw[zn (λx hx=>hb x (Se hx)) (λx hx=>by simp at hx;rcases hx with rfl|rfl|rfl<;>exact⟨by omega,by omega⟩),aa]
 ·rw[if_neg h]
  rcases Pt (b:=b)with⟨_,h2⟩|⟨x,y,z,l,rfl⟩
  ·rw[h2]
  ·simp at h;omega
section
variable {k:Nat} {b:List Int} (hk:9000000<=k) (hb:∀x∈b,okB x) (hl:b.length<=aU)
include hk hb hl
theorem vE:kA k b=some (eB b):=by
 have hM:=ar;unfold kA eB;by_cases c:(b.length:Int)>6000
 ·rw[decide_eq_true c];rfl
 rw[decide_eq_false c,cond_false,cond_false,D2,aa];cases decide (b.take 3=[80,77,49])
 ·rfl
 simp only[Qq,cond_false,mg (show 7<=k by omega) hb hl,Ax (show 7<=k by omega) hb hl,aa];generalize aV b 3 false=r2;generalize aV b r2.2.1 r2.2.2=r3;generalize aV b r3.2.1 r3.2.2=r4;have hc:=qz b r4.2.1 r4.2.2;generalize bY b r4.2.1 r4.2.2 2000=r5 at hc;refine(tc hk hb hl r5.1.toNat 0 _ _ [] k (by omega) (by omega) (by omega) (by omega) (by simp;omega)).trans ?_;have ht:=qA b r5.1.toNat r5.2.1 r5.2.2 [];rw[show eu ax.tot []=0 from rfl]at ht;generalize pE b r5.1.toNat r5.2.1 r5.2.2 []=y at ht;cases h6:(aV b y.1 y.2.1).2.2
 ·simp only[cond_false];obtain⟨g1,g2⟩:=xM h6;rw[decide_eq_true ⟨g1,g2⟩,cond_true,IL (by simp;omega) (by simp;omega),aa];cases((aV b y.1 y.2.1).1 !=Ga (List.drop 0 (b.take y.1.toNat)))
  ·simp only[cond_false];cases((aV b y.1 y.2.1).2.1 !=(b.length:Int))
   ·simp only[cond_false];rw[vh (by show eu ax.tot y.2.2+0<k;omega) (by show eu ax.tot y.2.2+0<=aU;omega),aa];generalize ek _=q;cases q<;>rfl
   ·rfl
  ·rfl
 ·rfl
theorem vF:kE k b=some (eB b):=by
 have hM:=ar;unfold kE eB;by_cases c:(b.length:Int)>6000
 ·rw[decide_eq_true c];rfl
 rw[decide_eq_false c,cond_false,cond_false,Cc hb hl,aa];cases decide (b.take 3=[80,77,49])
 ·rfl
 simp only[Qq,cond_false,IK (show 7<=k by omega) hb hl,Aw (show 7<=k by omega) hb hl,aa];generalize aV b 3 false=r2;generalize aV b r2.2.1 r2.2.2=r3;generalize aV b r3.2.1 r3.2.2=r4;have hc:=qz b r4.2.1 r4.2.2;generalize bY b r4.2.1 r4.2.2 2000=r5 at hc;have:=tf hk hb hl (q1:=0) (q2:=0) (q3:=0) (q7:=r2.1) (q8:=r3.1) (q9:=r4.1) (fin:=λy5=>(aC k (⟨b,y5.1,y5.2.1⟩:Reader)).bind λr6=>cond (r6.2.2) (some ((⟨(⟨(0:Int),(0:Int),(0:Int)⟩:Shape),([]:List ax)⟩:Model),(2:Int))) (cond (decide (0<=y5.1/\y5.1<=(b.length:Int))) ((xz k ((b.take y5.1.toNat).drop 0)).bind λr7=>cond (r6.1 !=r7) (some ((⟨(⟨(0:Int),(0:Int),(0:Int)⟩:Shape),([]:List ax)⟩:Model),(3:Int))) (cond (r6.2.1 !=(b.length:Int)) (some ((⟨(⟨(0:Int),(0:Int),(0:Int)⟩:Shape),([]:List ax)⟩:Model),(3:Int))) ((lh k (⟨⟨r2.1,r3.1,r4.1⟩,y5.2.2⟩:Model)).bind λr8=>cond (!r8) (some ((⟨(⟨(0:Int),(0:Int),(0:Int)⟩:Shape),([]:List ax)⟩:Model),(4:Int))) (some ((⟨⟨r2.1,r3.1,r4.1⟩,y5.2.2⟩:Model),(0:Int)))))) none)) r5.1.toNat r5.2.1 r5.2.2 [] k (by omega) (by simp;omega);rw[show((r5.1.toNat:Nat):Int)=r5.1 from by omega]at this;refine Eq.trans this ?_;have ht:=qA b r5.1.toNat r5.2.1 r5.2.2 [];rw[show eu ax.tot []=0 from rfl]at ht;generalize pE b r5.1.toNat r5.2.1 r5.2.2 []=y at ht;rw[ly (show 7<=k by omega) hb hl,aa];cases h6:(aV b y.1 y.2.1).2.2
 ·simp only[cond_false];obtain⟨g1,g2⟩:=xM h6;rw[decide_eq_true ⟨g1,g2⟩,cond_true,IM (by simp;omega) (by simp;omega),aa];cases((aV b y.1 y.2.1).1 !=Ga (List.drop 0 (b.take y.1.toNat)))
  ·simp only[cond_false];cases((aV b y.1 y.2.1).2.1 !=(b.length:Int))
   ·simp only[cond_false];rw[pC (by show eu ax.tot y.2.2+0<k;omega) (by show eu ax.tot y.2.2+0<aU;omega),aa];generalize ek _=q;cases q<;>rfl
   ·rfl
  ·rfl
 ·rfl
end
end
section
def sat (a b x:Int):Int:=if x<a then a else if x>b then b else x
theorem D3 {a b:Int} (h:a<=b) (x:Int):a<=sat a b x/\sat a b x<=b:=by
 unfold sat;by_cases h1:x<a
 ·rw[if_pos h1];omega
 ·rw[if_neg h1];by_cases h2:x>b
  ·rw[if_pos h2];omega
  ·rw[if_neg h2];omega
theorem Ni {a b x:Int} (h1:a<=x) (h2:x<=b):sat a b x=x:=by
 unfold sat;rw[if_neg (by omega),if_neg (by omega)]
theorem pF {k:Nat} {x a b:Int} (h:a<=b):m7 k x a b=some (sat a b x):=by
 unfold m7 sat;rw[ab,ab,ab];by_cases h1:x<a
 ·rw[if_pos h1,if_pos h1]
 ·rw[if_neg h1,if_neg h1,if_neg (by omega)];by_cases h2:x>b
  ·rw[if_pos h2,if_pos h2]
  ·rw[if_neg h2,if_neg h2]
theorem Ce {k:Nat} {x a b:Int} (h:a<=b):IC k x a b=some (sat a b x):=by
 unfold IC sat
 congr 1
 repeat' split
 all_goals omega
def xN (x:Int):Int:=sat (-128) 127 x
def gN (x:Int):Int:=sat (-2147483648) 2147483647 x
theorem xO (x:Int):-128<=xN x/\xN x<=127:=D3 (by omega) x
theorem kF (x:Int):-2147483648<=gN x/\gN x<=2147483647:=D3 (by omega) x
theorem D4 (k:Nat) (x:Int):xw k x=some (xN x):=by unfold xw xN;rw[pF (by omega),aa]
theorem uC (k:Nat) (x:Int):mC k x=some (gN x):=by unfold mC gN;rw[pF (by omega),aa]
theorem D5 (k:Nat) (x:Int):xy k x=some (xN x):=by unfold xy xN;rw[Ce (by omega),aa]
theorem uD (k:Nat) (x:Int):mD k x=some (gN x):=by unfold mD gN;rw[Ce (by omega),aa]
def oA (a b:Int):Int:=gN (gN a+gN b)
theorem od (k:Nat) (a b:Int):lU k a b=some (oA a b):=by
 have h1:=kF a;have h2:=kF b;unfold lU oA;simp only[uC,aa];rw[aK (by omega) (by omega)]
theorem xP (k:Nat) (a b:Int):sS k a b=some (oA a b):=by
 have h1:=kF a;have h2:=kF b;unfold sS oA;simp only[uD,aa];rw[aK (by omega) (by omega)]
theorem Om {x y A B:Int} (hx:-A<=x/\x<=A) (hy:-B<=y/\y<=B):-(A*B)<=x*y/\x*y<=A*B:=by
 have h1:=R6 (show 0<=A-x by omega) (show 0<=B+y by omega);have h2:=R6 (show 0<=A+x by omega) (show 0<=B-y by omega);have h3:=R6 (show 0<=A-x by omega) (show 0<=B-y by omega);have h4:=R6 (show 0<=A+x by omega) (show 0<=B+y by omega);simp only[Int.sub_mul,Int.add_mul,Int.mul_add,Int.mul_sub]at h1 h2 h3 h4;omega
def oe (a b:Int):Int:=gN ((gN a*gN b+1073741824)/2147483648)
theorem D6 {k:Nat} {a:Int} (h1:-4611686018427387904<=a/\a<=9223372036854775807):sO k a 2147483648=some (a/2147483648):=by
 have e:=Int.mul_tdiv_add_tmod a 2147483648;have h2:=Int.tmod_lt_of_pos a (show(0:Int)<2147483648 by omega);unfold sO;rw[ab,if_neg (by omega),ab,if_neg (by omega),ab];by_cases c:0<=a
 ·have h3:=Int.tmod_nonneg 2147483648 c;rw[if_neg (by omega),aK (by omega) (by omega)]
  congr 1;omega
 ·have h3:=Int.tmod_nonneg 2147483648 (show 0<=-a by omega);have h4:=Int.tmod_lt_of_pos (-a) (show(0:Int)<2147483648 by omega);rw[Int.neg_tmod]at h3 h4;by_cases c2:a.tmod 2147483648<0
  ·rw[if_pos c2,aK (n:=a.tdiv 2147483648) (by omega) (by omega),aK (by omega) (by omega)]
   congr 1;omega
  ·rw[if_neg c2,aK (by omega) (by omega)]
   congr 1;omega
theorem Nj (a b:Int):-4611686018427387904<=gN a*gN b/\gN a*gN b<=4611686018427387904:=
 Om (A:=2147483648) (B:=2147483648) (by have:=kF a;omega) (by have:=kF b;omega)
theorem D7 (k:Nat) (a b:Int):sP k a b=some (oe a b):=by
 have h:=Nj a b;unfold sP oe;simp only[uC,aa];rw[aK (n:=gN a*gN b) (by omega) (by omega),aK (by omega) (by omega),D6 (by omega),aa]
theorem D8 (k:Nat) (a b:Int):sT k a b=some (oe a b):=by
 have h:=Nj a b;unfold sT oe;simp only[uD,aa];rw[aK (n:=gN a*gN b) (by omega) (by omega),aK (by omega) (by omega)]
 have e:((2:Int)^(min (31:Int).toNat IntKind.i64.bits))=2147483648:=by decide
 rw[e,Int.fdiv_eq_ediv_of_nonneg _ (by omega)]
def gl (x by_:Int):Int:=if x<0 then -((2*-x+by_)/(2*by_))else(2*x+by_)/(2*by_)
theorem Az {a b:Int} (ha:0<=a) (hb:1<=b):0<=a/b/\a/b<=a:=
 ⟨Int.ediv_nonneg ha (by omega),Int.ediv_le_self _ ha⟩
theorem vm {k:Nat} {x d:Int} (hx:-2147483648<=x/\x<=2147483648) (hd:1<=d/\d<=2147483648):m9 k x d=some (gl x d):=by
 unfold m9 nS gl;rw[aK (n:=2*d) (by omega) (by omega),ab];by_cases c:x<0
 ·rw[if_pos c,if_pos c,aK (n:=0-x) (by omega) (by omega),ab,if_neg (by omega),ab,if_neg (by omega),aa,aK (n:=2*(0-x)) (by omega) (by omega),aK (n:=2*(0-x)+d) (by omega) (by omega),Rc (by omega)];have h:=Az (a:=2*(0-x)+d) (b:=2*d) (by omega) (by omega);rw[show 2*-x+d=2*(0-x)+d from by omega];generalize (2*(0-x)+d)/(2*d)=q at h;rw[aK (n:=q) (by omega) (by omega),aK (by omega) (by omega)]
  congr 1;omega
 ·rw[if_neg c,if_neg c,ab,if_neg (by omega),aK (n:=2*x) (by omega) (by omega),aK (n:=2*x+d) (by omega) (by omega),Rc (by omega)];have h:=Az (a:=2*x+d) (b:=2*d) (by omega) (by omega);rw[aK (by omega) (by omega)]
def gV (x n:Int):Int:=gl (gN x) (2^(sat 0 31 n).toNat)
theorem xQ {r:Int} (h:0<=r/\r<=31):IntKind.i64.wrap ((1:Int)*2^(min r.toNat IntKind.i64.bits))=2^r.toNat/\(1:Int)<=2^r.toNat/\(2:Int)^r.toNat<=2147483648:=by
 have hb:IntKind.i64.bits=64:=rfl;have h1:(2:Nat)^r.toNat<=2^31:=Nat.pow_le_pow_right (by omega) (by omega);have h2:1<=(2:Nat)^r.toNat:=Nat.one_le_two_pow
 have e:((2^r.toNat:Nat):Int)=2^r.toNat:=by simp
 rw[hb,So (by omega),Int.one_mul];rw[<-e];refine⟨aK (by omega) (by omega),by omega,by omega⟩
theorem Hr {v:Int} {s:Nat}:(v+(2^s:Int)/2)/2^s=(2*v+2^s)/(2*2^s):=by
 cases s with
 |zero=>omega
 |succ s=>
  have e:(2:Int)^(s+1)=2*2^s:=by rw[Int.pow_succ,Int.mul_comm]
  rw[e]
  have e2:2*v+2*(2:Int)^s=2*(v+2^s):=by rw[Int.mul_add]
  rw[e2,Int.mul_ediv_mul_of_pos _ _ (by omega:(0:Int)<2),Int.mul_ediv_cancel_left _ (by omega:(2:Int)≠0)]
theorem xR (k:Nat) (x n:Int):l6 k x n=some (gV x n):=by
 have h1:=kF x;have h2:=D3 (a:=0) (b:=31) (by omega) n;obtain⟨e,h3,h4⟩:=xQ h2;unfold l6 gV;rw[uD,aa,Ce (by omega),aa,ab,if_neg (by omega),e,vm (by omega) ⟨h3,h4⟩,aa]
theorem KW {r:Int} (h:0<=r/\r<=31):IntKind.u64.wrap r=r:=Go.IntWalk.u64_in r ⟨by omega,by omega⟩
theorem xS (k:Nat) (x n:Int):lV k x n=some (gV x n):=by
 have h1:=kF x;have h2:=D3 (a:=0) (b:=31) (by omega) n;obtain⟨e,h3,h4⟩:=xQ h2;unfold lV gV gl;rw[uC,aa,pF (by omega),aa,KW h2,ab,if_neg (by omega),e,ab];have hh:((2:Int)^(sat 0 31 n).toNat).tdiv 2=2^(sat 0 31 n).toNat/2:=Rc (by omega);rw[hh,aK (n:=2^(sat 0 31 n).toNat/2) (by omega) (by omega)];by_cases c:gN x<0
 ·rw[if_pos c,if_pos c,ab,if_neg (by omega),aK (n:=0-gN x) (by omega) (by omega),aK (n:=0-gN x+2^(sat 0 31 n).toNat/2) (by omega) (by omega),Rc (by omega),Hr,show 2*-gN x+2^(sat 0 31 n).toNat=2*(0-gN x)+2^(sat 0 31 n).toNat from by omega];have h:=Az (a:=2*(0-gN x)+2^(sat 0 31 n).toNat) (b:=2*2^(sat 0 31 n).toNat) (by omega) (by omega);generalize (2*(0-gN x)+2^(sat 0 31 n).toNat)/(2*2^(sat 0 31 n).toNat)=q at h;rw[aK (n:=q) (by omega) (by omega),aK (by omega) (by omega)]
  congr 1;omega
 ·rw[if_neg c,if_neg c,ab,if_neg (by omega),aK (n:=gN x+2^(sat 0 31 n).toNat/2) (by omega) (by omega),Rc (by omega),Hr];have h:=Az (a:=2*gN x+2^(sat 0 31 n).toNat) (b:=2*2^(sat 0 31 n).toNat) (by omega) (by omega);rw[aK (by omega) (by omega)]
def xT (acc mult shift zero:Int):Int:=xN (gV (oe acc mult) shift+xN zero)
theorem IU {x d B:Int} (hx:-B<=x/\x<=B) (hd:1<=d):-B<=gl x d/\gl x d<=B:=by
 have key:∀y:Int,0<=y->y<=B->0<=(2*y+d)/(2*d)/\(2*y+d)/(2*d)<=B:=λy h0 h1=>by
  refine⟨Int.ediv_nonneg (by omega) (by omega),?_⟩
  have hlt:(2*y+d)/(2*d)<B+1:=by
   apply Int.ediv_lt_of_lt_mul (by omega);have:=R6 (show 0<=B by omega) (show 0<=d-1 by omega);rw[Int.mul_sub,Int.mul_one]at this;rw[Int.add_mul,Int.one_mul,Int.mul_comm B,SM,Int.mul_comm d B];omega
  omega
 unfold gl;by_cases c:x<0
 ·rw[if_pos c];have:=key (-x) (by omega) (by omega);omega
 ·rw[if_neg c];have:=key x (by omega) (by omega);omega
theorem vn (acc mult shift zero:Int):IntKind.i64.wrap (gV (oe acc mult) shift+xN zero)=gV (oe acc mult) shift+xN zero:=by
 have h1:=xO zero;have h2:=D3 (a:=0) (b:=31) (by omega) shift;have h3:=kF (oe acc mult);have h4:=IU (x:=gN (oe acc mult)) (d:=2^(sat 0 31 shift).toNat) (B:=2147483648) (by omega) (xQ h2).2.1;unfold gV;exact aK (by omega) (by omega)
theorem vo (k:Nat) (a b c d:Int):m8 k a b c d=some (xT a b c d):=by
 unfold m8 xT;simp only[D7,xS,D4,aa,vn]
theorem D9 (k:Nat) (a b c d:Int):sU k a b c d=some (xT a b c d):=by
 unfold sU xT;simp only[D8,xR,D5,aa,vn]
end
section
theorem kG {α:Type} (f:Nat->List α) (m:Nat):∀n,(∀i,i<n->(f i).length<=m)->((List.range n).flatMap f).length<=n*m
 |0,_=>by simp
 |n+1,h=>by
  have:=kG f m n λi hi=>h i (by omega);have:=h n (by omega);rw[RH,Sj,QK,QL,show([n]:List Nat).flatMap f=f n from by simp];omega
theorem gC {α:Type} (f:Nat->List α) (m:Nat):∀n,(∀i,i<n->(f i).length=m)->((List.range n).flatMap f).length=n*m
 |0,_=>by simp
 |n+1,h=>by
  have:=gC f m n λi hi=>h i (by omega);have:=h n (by omega);rw[RH,Sj,QK,QL,show([n]:List Nat).flatMap f=f n from by simp];omega
theorem Cf {α:Type} (f:Nat->List α) (q:Nat):∀n,(∀i,i<n->(f i).length=q)->∀a b,a<n->b<q->((List.range n).flatMap f)[a*q+b]? =(f a)[b]?
 |0,_,a,b,h,_=>by omega
 |n+1,h,a,b,ha,hb=>by
  have hl:=gC f q n λi hi=>h i (by omega);rw[RH,Sj]
  have hs:([n]:List Nat).flatMap f=f n:=by simp
  rw[hs];by_cases c:a<n
  ·have:(a+1)*q<=n*q:=QB _ (by omega);rw[QL]at this;rw[Qn (by omega)];exact Cf f q n (λi hi=>h i (by omega)) a b c hb
  ·have:a=n:=by omega
   subst this;rw[Qm (by omega),hl,QO]
theorem fx {α R:Type} (n m:Nat) (f:Nat->List α) (xs0:List α) {g:Int× List α->(Int× List α->Option R)->Option R} {fin:List α->Option R} {k:Nat}
  (hf:∀i,i<n->(f i).length<=m)
  (h:∀(i:Nat) ys next,i<n->ys.length<=xs0.length+i*m->g ((i:Int),ys) next=next (((i+1:Nat):Int),ys++f i))
  (hn:∀ys next,g ((n:Int),ys) next=fin ys) (hk:n<k):iter g k ((0:Int),xs0)=fin (xs0++(List.range n).flatMap f):=by
 have:=fg (g:=g) (st:=λi=>((i:Int),xs0++(List.range i).flatMap f)) (n:=n) (r:=fin (xs0++(List.range n).flatMap f)) (λi hi next=>by
  have hl:=kG f m i λj hj=>hf j (by omega);rw[h i _ next hi (by rw[QK];omega),RH,Sj]
  simp) (λnext=>hn _ _) hk
 simpa using this
theorem nj {β R:Type} (n:Nat) (f:β->Nat->β) (a0:β) {g:β× Int->(β× Int->Option R)->Option R} {fin:β->Option R} {k:Nat}
  (h:∀(i:Nat) a next,i<n->g (a,(i:Int)) next=next (f a i,((i+1:Nat):Int))) (hn:∀a next,g (a,(n:Int)) next=fin a) (hk:n<k):
  iter g k (a0,(0:Int))=fin ((List.range n).foldl f a0):=
 fg (g:=g) (st:=λi=>((List.range i).foldl f a0,(i:Int))) (n:=n) (r:=fin ((List.range n).foldl f a0)) (λi hi next=>by
  rw[h i _ next hi,RH,Ro];rfl) (λnext=>hn _ _) hk
theorem fold_congr {β:Type} {f g:β->Nat->β}:∀(n:Nat) (a:β),(∀a i,i<n->f a i=g a i)->(List.range n).foldl f a=(List.range n).foldl g a
 |0,_,_=>rfl
 |n+1,a,h=>by
  rw[RH,Ro,Ro,fold_congr n a λa i hi=>h a i (by omega)];exact h _ n (by omega)
theorem Cg {β:Type} (f:β->Nat->β) (q:Nat):∀(m:Nat) (a:β),(List.range (m*q)).foldl f a=(List.range m).foldl (λa i=>(List.range q).foldl (λa j=>f a (i*q+j)) a) a
 |0,a=>by simp
 |m+1,a=>by
  rw[QL,Nat.one_mul,List.range_add,Ro,Cg f q m a,RH,Ro,List.foldl_map];rfl
theorem Ea {a b:Nat} (h:a*b<=9223372036854775807):IntKind.i64.wrap ((a:Int)*(b:Int))=((a*b:Nat):Int):=by
 rw[Rj];have e:((a:Int)*(b:Int))=((a*b:Nat):Int):=(Rj a b).symm;exact aK (by omega) (by omega)
theorem EH {a b:Nat} (h:a+b<=9223372036854775807):IntKind.i64.wrap ((a:Int)+(b:Int))=((a+b:Nat):Int):=by
 rw[aK (by omega) (by omega)];omega
theorem KX {α:Type} {p:Prop} {i:Decidable p} (h:p) (x y:α):cond (@decide p i) x y=x:=by rw[decide_eq_true h];rfl
theorem P7 {α:Type} {p:Prop} {i:Decidable p} (h:¬p) (x y:α):cond (@decide p i) x y=y:=by rw[decide_eq_false h];rfl
theorem tj {H W C h w c:Nat} (h1:h<H) (h2:w<W) (h3:c<C):(h*W+w)*C+c<H*W*C:=by
 have a1:(h+1)*W<=H*W:=QB _ h1;rw[QL]at a1;have a2:(h*W+w+1)*C<=H*W*C:=QB _ (by omega);rw[QL]at a2;omega
structure kH (H W C:Nat) (xs:List Int):Prop where
 h1:1<=H
 h8:H<=8
 w1:1<=W
 w8:W<=8
 c1:1<=C
 c8:C<=8
 len:xs.length=H*W*C
 mem:∀x∈xs,-128<=x/\x<=127
def uE (H W C:Nat) (xs:List Int):av:=⟨⟨H,W,C⟩,xs⟩
theorem kH.OM {H W C:Nat} {xs:List Int} (r:kH H W C xs):H*W*C<=512:=by
 have a:=Q2 r.h8 r.w8;have b:=Q2 a r.c8;omega
theorem kH.sh {H W C:Nat} {xs:List Int} (r:kH H W C xs):(⟨H,W,C⟩:Shape).okB=true:=by
 obtain⟨a,b,c,d,e,f,_,_⟩:=r;simp only[Shape.okB,inB,Qk,decide_eq_true_eq];omega
theorem kH.size {H W C:Nat} {xs:List Int} (r:kH H W C xs):(⟨H,W,C⟩:Shape).size=((H*W*C:Nat):Int):=by
 unfold Shape.size;rw[r.sh,cond_true,Rj,Rj]
theorem kH.ok {H W C:Nat} {xs:List Int} (r:kH H W C xs):(uE H W C xs).okB=true:=by
 unfold av.okB uE;simp only[r.sh,r.size,r.len,decide_true,Qr];unfold qU;rw[RJ];intro x hx;have:=r.mem x hx;rw[cg];omega
theorem Ch {t:av} (h:t.okB=true):∃H W C:Nat,kH H W C t.data/\t=uE H W C t.data:=by
 unfold av.okB at h;simp only[Qk,decide_eq_true_eq]at h;obtain⟨h1,h2,h3⟩:=h;have hs:=Shape.s4 h1;unfold qU at h3;rw[RJ]at h3;unfold Shape.size at h2;rw[h1,cond_true]at h2;obtain⟨⟨a,b,c⟩,xs⟩:=t;simp only at hs h2 h3;refine⟨a.toNat,b.toNat,c.toNat,⟨by omega,by omega,by omega,by omega,by omega,by omega,?_,λx hx=>cg.1 (h3 x hx)⟩,?_⟩
 ·have ea:((a.toNat:Nat):Int)=a:=by omega
  have eb:((b.toNat:Nat):Int)=b:=by omega
  have ec:((c.toNat:Nat):Int)=c:=by omega
  have e:((a.toNat*b.toNat*c.toNat:Nat):Int)=a*b*c:=by rw[Rj,Rj,ea,eb,ec]
  show xs.length=_;omega
 ·unfold uE
  congr 2<;>omega
def atN (W C:Nat) (xs:List Int) (h w c:Nat):Int:=xs.getD ((h*W+w)*C+c) 0
theorem Gb {H W C:Nat} {xs:List Int} (r:kH H W C xs) {h w c:Nat} (h1:h<H) (h2:w<W) (h3:c<C):xs[(h*W+w)*C+c]? =some (atN W C xs h w c):=by
 have:=tj h1 h2 h3;have hl:=r.len;unfold atN;rw[cM (by omega),ai (by omega)]
theorem v8 {xs:List Int} {i:Nat} (h:i<xs.length):xs.getD i 0∈xs:=by rw[cM h];exact Qs h
theorem Hs {H W C:Nat} {xs:List Int} (r:kH H W C xs) {h w c:Nat} (h1:h<H) (h2:w<W) (h3:c<C):-128<=atN W C xs h w c/\atN W C xs h w c<=127:=by
 have:=tj h1 h2 h3;have hl:=r.len;exact r.mem _ (v8 (by omega))
theorem AA {H W C:Nat} {xs:List Int} (r:kH H W C xs) {h w c:Nat} (h1:h<H) (h2:w<W) (h3:c<C):
  IntKind.i64.wrap (IntKind.i64.wrap (IntKind.i64.wrap (IntKind.i64.wrap ((h:Int)*(W:Int))+(w:Int))*(C:Int))+(c:Int))=(((h*W+w)*C+c:Nat):Int):=by
 have a:=tj h1 h2 h3;have b:=r.OM;have d:h*W<=H*W:=QB _ (by omega);have e:=Q2 r.h8 r.w8;rw[Ea (by omega),EH (by have:=r.w8;omega),Ea (by omega),EH (by omega)]
theorem rH {k:Nat} {H W C:Nat} {xs:List Int} (r:kH H W C xs) (hk:512<k) {h w c:Nat} (h1:h<H) (h2:w<W) (h3:c<C):nR k (uE H W C xs) h w c=some (atN W C xs h w c,true):=by
 have hl:=r.len;have hc:=r.OM
 have hi:∀{a n:Nat},a<n->n<=8->inB (a:Int) 0 (IntKind.i64.wrap ((n:Int)-1))=true:=λ{a n} h h8=>by
  rw[aK (by omega) (by omega),cg];omega
 unfold nR xx;simp only[jS,cr,aa];rw[nZ (t:=uE H W C xs) (by show xs.length<k;omega) (by unfold tz;show xs.length<=_;omega),r.ok];simp only[uE,r.sh,hi h1 r.h8,hi h2 r.w8,hi h3 r.c8,Qq,cond_false,aa,AA r h1 h2 h3];rw[ab,if_neg (by omega),aE,Gb r h1 h2 h3,aa]
theorem rI {k:Nat} {H W C:Nat} {xs:List Int} (r:kH H W C xs) {h w c:Nat} (h1:h<H) (h2:w<W) (h3:c<C):im k ⟨H,W,C⟩ h w c=some ((((h*W+w)*C+c:Nat)):Int):=by
 unfold im;rw[AA r h1 h2 h3]
structure KY (H W Z S h w:Nat):Prop where
 z1:1<=Z
 z3:Z<=3
 s2:S<=2
 hh:h*S+Z<=H
 ww:w*S+Z<=W
def iH (W C:Nat) (xs:List Int) (Z S h w c:Nat):List Int:=
 (List.range Z).flatMap λi=>(List.range Z).flatMap λj=>[atN W C xs (h*S+i) (w*S+j) c]
def Oo (W C:Nat) (xs:List Int) (Z S h w:Nat):List Int:=
 (List.range Z).flatMap λi=>(List.range Z).flatMap λj=>(List.range C).map λc=>atN W C xs (h*S+i) (w*S+j) c
theorem Eb (W C:Nat) (xs:List Int) (Z S h w c:Nat):(iH W C xs Z S h w c).length=Z*(Z*1):=
 gC _ _ _ λi hi=>gC _ _ _ λj hj=>rfl
theorem Ci (W C:Nat) (xs:List Int) (Z S h w:Nat):(Oo W C xs Z S h w).length=Z*(Z*C):=
 gC _ _ _ λi hi=>gC _ _ _ λj hj=>by simp
theorem Ec {k:Nat} {H W C:Nat} {xs:List Int} (r:kH H W C xs) (hk:512<k) {l:ax} {Z S h w c:Nat} (hz:l.size=Z) (hs:l.step=S) (v:KY H W Z S h w) (hc:c<C):
  lj k (uE H W C xs) l h w c=some (iH W C xs Z S h w c):=by
 have hM:=ar;have hv:=v;obtain⟨z1,z3,s2,hh,ww⟩:=hv;have:=r.h8;have:=r.w8;unfold lj
 refine(fx Z 3 (λi=>(List.range Z).flatMap λj=>[atN W C xs (h*S+i) (w*S+j) c]) [] (fin:=some) (λi hi=>by
   have:=kG (λj=>[atN W C xs (h*S+i) (w*S+j) c]) 1 Z (λ_ _=>QE _);omega) (λi ys next hi hy=>?_) (λys next=>?_) (by omega)).trans (by rw[Rz];rfl)
 ·simp only[lX,hz,hs];rw[ab,if_pos (by omega),au hi (by omega)];refine fx Z 1 (λj=>[atN W C xs (h*S+i) (w*S+j) c]) ys (fin:=λy=>next (((i+1:Nat):Int),y)) (λ_ _=>QE _) (λj zs next2 hj hz2=>?_) (λzs next2=>?_) (by omega)
  ·simp only[lW,hz,hs]
   have e1:h*S+i<H:=by omega
   have e2:w*S+j<W:=by omega
   have e:=rH (k:=k) r hk e1 e2 hc;unfold uE at e;simp only[QY]at hy;rw[ab,if_pos (by omega)];simp only[uE];rw[Ea (by omega),EH (by omega),Ea (by omega),EH (by omega),e,aa,cX (by simp;omega),au hj (by omega)]
  ·simp only[lW];rw[ab,if_neg (by omega)]
 ·simp only[lX];rw[ab,if_neg (by omega)]
theorem Ed {α:Type} {ws:List α} {a q i:Nat} (hi:i<q):((ws.take (a+q)).drop a)[i]? =ws[a+i]? :=by
 rw[Qx,QS,if_pos (by omega)]
theorem KZ {ws:List Int} {a q:Nat} (h:a+q<=ws.length):(ws.take (a+q)).drop a=(List.range q).map λc=>ws.getD (a+c) 0:=by
 apply List.ext_getElem?;intro i;by_cases c:i<q
 ·rw[Ed c,QZ,List.getElem?_range c,Rv,ai (by omega),cM (by omega)]
 ·rw[QM (by simp;omega),QM (by simp;omega)]
theorem xU {k:Nat} {H W C:Nat} {xs:List Int} (r:kH H W C xs) (hk:512<k) {l:ax} {Z S h w c:Nat} (hz:l.size=Z) (hs:l.step=S) (v:KY H W Z S h w) (hc:c<C):
  cu k l (uE H W C xs) h w c=some (iH W C xs Z S h w c):=by
 have hM:=ar;have hv:=v;obtain⟨z1,z3,s2,hh,ww⟩:=hv;have:=r.h8;have:=r.w8;have:=r.c8;have hcu:=r.OM;have hlen:=r.len;unfold cu
 refine(fx Z 3 (λi=>(List.range Z).flatMap λj=>[atN W C xs (h*S+i) (w*S+j) c]) [] (fin:=some) (λi hi=>by
   have:=kG (λj=>[atN W C xs (h*S+i) (w*S+j) c]) 1 Z (λ_ _=>QE _);omega) (λi ys next hi hy=>?_) (λys next=>?_) (by omega)).trans (by rw[Rz];rfl)
 ·simp only[dA,hz,hs];rw[ab,if_pos (by omega),au hi (by omega)];refine fx Z 1 (λj=>[atN W C xs (h*S+i) (w*S+j) c]) ys (fin:=λy=>next (((i+1:Nat):Int),y)) (λ_ _=>QE _) (λj zs next2 hj hz2=>?_) (λzs next2=>?_) (by omega)
  ·simp only[dz,hz,hs]
   have e1:h*S+i<H:=by omega
   have e2:w*S+j<W:=by omega
   have e:=rI (k:=k) (c:=0) r e1 e2 (by omega);have hp:=tj e1 e2 hc;simp only[QY]at hy;rw[ab,if_pos (by omega)];simp only[uE];rw[Ea (by omega),EH (by omega),Ea (by omega),EH (by omega)];refine(congrArg (λo:Option Int=>o.bind _) e).trans ?_;rw[aa,ab,if_neg (by omega),QQ,EH (by omega),aE,Gb r e1 e2 hc,aa,cX (by simp;omega),au hj (by omega)]
  ·simp only[dz];rw[ab,if_neg (by omega)]
 ·simp only[dA];rw[ab,if_neg (by omega)]
theorem Ee {k:Nat} {H W C:Nat} {xs:List Int} (r:kH H W C xs) (hk:512<k) {l:ax} {Z S h w:Nat} (hz:l.size=Z) (hs:l.step=S) (v:KY H W Z S h w):
  cu k l (uE H W C xs) h w (-1)=some (Oo W C xs Z S h w):=by
 have hM:=ar;have hv:=v;obtain⟨z1,z3,s2,hh,ww⟩:=hv;have:=r.h8;have:=r.w8;have:=r.c8;have hc1:=r.c1;have hcu:=r.OM;have hlen:=r.len;unfold cu
 refine(fx Z 24 (λi=>(List.range Z).flatMap λj=>(List.range C).map λc=>atN W C xs (h*S+i) (w*S+j) c) [] (fin:=some) (λi hi=>by
   have:=kG (λj=>(List.range C).map λc=>atN W C xs (h*S+i) (w*S+j) c) 8 Z (λ_ _=>by simp;omega);omega) (λi ys next hi hy=>?_) (λys next=>?_) (by omega)).trans (by rw[Rz];rfl)
 ·simp only[dA,hz,hs];rw[ab,if_pos (by omega),au hi (by omega)];refine fx Z 8 (λj=>(List.range C).map λc=>atN W C xs (h*S+i) (w*S+j) c) ys (fin:=λy=>next (((i+1:Nat):Int),y)) (λ_ _=>by simp;omega) (λj zs next2 hj hz2=>?_) (λzs next2=>?_) (by omega)
  ·simp only[dz,hz,hs]
   have e1:h*S+i<H:=by omega
   have e2:w*S+j<W:=by omega
   have e:=rI (k:=k) (c:=0) r e1 e2 (by omega);have hp:=tj (C:=C) (c:=C-1) e1 e2 (by omega);simp only[QY]at hy;rw[ab,if_pos (by omega)];simp only[uE];rw[Ea (by omega),EH (by omega),Ea (by omega),EH (by omega)];refine(congrArg (λo:Option Int=>o.bind _) e).trans ?_;have e3:=KZ (ws:=xs) (a:=((h*S+i)*W+(w*S+j))*C) (q:=C) (by omega);have ew:IntKind.i64.wrap (((((h*S+i)*W+(w*S+j))*C:Nat):Int)+(C:Int))=((((h*S+i)*W+(w*S+j))*C+C:Nat):Int):=EH (by omega);rw[aa,KX (by omega),QQ];refine(KX (by rw[ew];omega) _ _).trans ?_;refine(KX (by rw[ew];omega) _ _).trans ?_;rw[ew,Ql,Ql,e3,cX (by simp;omega),au hj (by omega)];rfl
  ·simp only[dz];rw[ab,if_neg (by omega)]
 ·simp only[dA];rw[ab,if_neg (by omega)]
end
section
def Oq (xs ws:List Int):Int:=(List.range xs.length).foldl (λs i=>oA s (xN (xs.getD i 0)*xN (ws.getD i 0))) 0
theorem Pu (a b:Int):IntKind.i64.wrap (xN a*xN b)=xN a*xN b:=by
 have h1:=xO a;have h2:=xO b;have:=Om (A:=128) (B:=128) (x:=xN a) (y:=xN b) (by omega) (by omega);exact aK (by omega) (by omega)
theorem IV {k:Nat} {xs ws:List Int} (hk:xs.length<k) (hl:ws.length=xs.length) (hN:xs.length<=aU):BT k xs ws=some (Oq xs ws):=by
 have hM:=ar;unfold BT Oq
 exact nj xs.length (λs i=>oA s (xN (xs.getD i 0)*xN (ws.getD i 0))) 0 (fin:=some) (λi a next hi=>by
  simp only[qc,D4,od]
  rw[ab,if_pos (by omega),ab,if_pos (by omega),aE,ai hi,aa,aa,aE,ai (by omega),aa,aa,aa,Pu,au hi (by omega),cM hi,cM (by omega)]) (λa next=>by
  simp only[qc]
  rw[ab,if_neg (by omega)]) hk
theorem IW {k:Nat} {xs ws:List Int} (hk:xs.length<k) (hl:ws.length=xs.length) (hN:xs.length<=aU):BU k xs ws=some (Oq xs ws):=by
 have hM:=ar;unfold BU Oq;rw[if_neg (by omega)]
 exact nj xs.length (λs i=>oA s (xN (xs.getD i 0)*xN (ws.getD i 0))) 0 (fin:=some) (λi a next hi=>by
  simp only[qg,D5,xP]
  rw[ab,if_pos (by omega),aE,ai hi,aa,aa,aE,ai (by omega),aa,aa,aa,Pu,au hi (by omega),cM hi,cM (by omega)]) (λa next=>by
  simp only[qg]
  rw[ab,if_neg (by omega)]) hk
def rJ (l:ax) (xs:List Int) (o:Nat):Int:=
 xT (oA (Oq xs ((l.weights.take (o*xs.length+xs.length)).drop (o*xs.length))) (l.mG.getD o 0)) l.mult l.shift l.zero
theorem xV {k:Nat} {l:ax} {xs:List Int} {o:Nat} (hk:xs.length<k) (hN:xs.length<=aU) (hw:o*xs.length+xs.length<=l.weights.length) (hwN:l.weights.length<=aU) (hb:o<l.mG.length) (ho:o<8):
  fy k l xs o=some (rJ l xs o):=by
 have hM:=ar
 have e:(o+1)*xs.length=o*xs.length+xs.length:=by rw[QL,Nat.one_mul]
 have e1:IntKind.i64.wrap (IntKind.i64.wrap ((o:Int)+1)*(xs.length:Int))=((o*xs.length+xs.length:Nat):Int):=by
  rw[au ho (by omega),Ea (by omega),e]
 have e2:IntKind.i64.wrap ((o:Int)*(xs.length:Int))=((o*xs.length:Nat):Int):=Ea (by omega);unfold fy rJ;rw[e1,e2,ab,if_pos (by omega),ab,if_pos (by omega),Ql,Ql,IW hk (by simp;omega) hN,aa,aE,ai hb,aa,xP,aa,D9,aa,cM hb]
def kI:List Int->Int
 |[]=>0
 |x::xs=>xs.foldl (λm y=>if y>m then y else m) x
theorem Ht {R:Type} {xs:List Int} {x:Int} {g:Int× Int->(Int× Int->Option R)->Option R} {fin:Int->Option R} {k:Nat}
  (h:∀(i:Nat) a next (hi:i<xs.length),g (a,((i+1:Nat):Int)) next=next (if xs[i]>a then xs[i]else a,((i+1+1:Nat):Int))) (hn:∀a next,g (a,((xs.length+1:Nat):Int)) next=fin a) (hk:xs.length<k):
  iter g k (x,(1:Int))=fin (kI (x::xs)):=by
 have:=fg (g:=g) (st:=λi=>((xs.take i).foldl (λm y=>if y>m then y else m) x,((i+1:Nat):Int))) (n:=xs.length) (r:=fin (kI (x::xs))) (λi hi next=>by
  rw[h i _ next hi,dq hi,Ro];rfl) (λnext=>by rw[hn,Ra];rfl) hk
 exact this
theorem pG:∀(xs:List Int) (x:Int),kI (x::xs)∈x::xs
 |[],x=>by simp[kI]
 |y::xs,x=>by
  show xs.foldl _ (if y>x then y else x)∈_;by_cases c:y>x
  ·rw[if_pos c];exact QC _ (pG xs y)
  ·rw[if_neg c]
   rcases QG.1 (pG xs x)with h|h
   ·have h:xs.foldl (λm y=>if y>m then y else m) x=x:=h;rw[h];simp
   ·exact QC _ (QC _ h)
theorem xW:∀{xs:List Int},(∀x∈xs,-128<=x/\x<=127)->-128*(xs.length:Int)<=xs.sum/\xs.sum<=127*(xs.length:Int)
 |[],_=>by simp
 |x::xs,h=>by
  have h1:=xW λy hy=>h y (QC _ hy);have h2:=h x (by simp);rw[RD,Qy];omega
theorem Ef {R:Type} {xs:List Int} {g:Int× Int->(Int× Int->Option R)->Option R} {fin:Int->Option R} {k:Nat} (hx:∀x∈xs,-128<=x/\x<=127) (hN:xs.length<=aU)
  (h:∀(i:Nat) a next (hi:i<xs.length),g (a,(i:Int)) next=next (IntKind.i64.wrap (a+xs[i]),((i+1:Nat):Int))) (hn:∀a next,g (a,(xs.length:Int)) next=fin a) (hk:xs.length<k):
  iter g k ((0:Int),(0:Int))=fin xs.sum:=by
 have hM:=ar
 have:=fg (g:=g) (st:=λi=>((xs.take i).sum,(i:Int))) (n:=xs.length) (r:=fin xs.sum) (λi hi next=>by
  have hb:=xW (xs:=xs.take (i+1)) λx hm=>hx x (Se hm)
  have e:(xs.take (i+1)).sum=(xs.take i).sum+xs[i]:=by rw[dq hi,R4];simp
  rw[e]at hb;simp only[QX]at hb
  rw[h i _ next hi,e,aK (by omega) (by omega)]) (λnext=>by rw[hn,Ra]) hk
 exact this
def lD (W C:Nat) (xs:List Int) (l:ax) (Z S h w o:Nat):Int:=
  cond (l.kind==0) (rJ l xs o) (cond (l.kind==1) (rJ l (Oo W C xs Z S h w) o)
    (cond (l.kind==2) (kI (iH W C xs Z S h w o)) (cond (l.kind==3) (gl (iH W C xs Z S h w o).sum ((Z*Z:Nat):Int))
      (cond (l.kind==4) (if atN W C xs h w o<l.zero then l.zero else atN W C xs h w o) (xs.getD o 0)))))
inductive Fits (H W C:Nat) (xs:List Int) (l:ax) (Z S h w o:Nat):Prop
 |MO (h0:l.kind=0) (hb:o<l.mG.length) (h8:o<8) (hw:o*xs.length+xs.length<=l.weights.length)
 |conv (h0:l.kind=1) (hb:o<l.mG.length) (h8:o<8) (hw:o*(Z*(Z*C))+Z*(Z*C)<=l.weights.length) (v:KY H W Z S h w) (hi:∀x∈l.weights,-128<=x/\x<=127)
 |max (h0:l.kind=2) (v:KY H W Z S h w) (ho:o<C)
 |avg (h0:l.kind=3) (v:KY H W Z S h w) (ho:o<C)
 |PM (h0:l.kind=4) (h1:h<H) (h2:w<W) (h3:o<C) (hz:-128<=l.zero/\l.zero<=127)
 |flat (h0:l.kind=5) (ho:o<xs.length)
theorem v9 {H W C:Nat} {xs:List Int} (r:kH H W C xs) {Z S h w o:Nat} (v:KY H W Z S h w) (ho:o<C):∀x∈iH W C xs Z S h w o,-128<=x/\x<=127:=by
 intro x hx;obtain⟨z1,z3,s2,hh,ww⟩:=v;unfold iH at hx;rw[Sf]at hx;obtain⟨i,hi,hx⟩:=hx;rw[Sf]at hx;obtain⟨j,hj,hx⟩:=hx;rw[List.mem_range]at hi hj;rw[List.mem_singleton]at hx;rw[hx];exact Hs r (by omega) (by omega) ho
theorem xX {H W C:Nat} {xs:List Int} {Z S h w o:Nat} (v:KY H W Z S h w):∃x ys,iH W C xs Z S h w o=x::ys:=by
 have hl:=Eb W C xs Z S h w o;have:=v.z1
 have hp:1<=Z*(Z*1):=by rw[Nat.mul_one];exact Q2 this this
 cases hc:iH W C xs Z S h w o with
 |nil=>rw[hc]at hl;simp only[QY]at hl;omega
 |cons x ys=>exact⟨x,ys,rfl⟩
theorem nk {H W C:Nat} {xs:List Int} {Z S h w o:Nat} (v:KY H W Z S h w):(iH W C xs Z S h w o).length=Z*Z/\1<=Z*Z/\Z*Z<=9:=by
 have hl:=Eb W C xs Z S h w o;rw[Nat.mul_one]at hl;exact⟨hl,Q2 v.z1 v.z1,Q2 v.z3 v.z3⟩
theorem K0 {k:Nat} {H W C:Nat} {xs:List Int} (r:kH H W C xs) {l:ax} {Z S h w o:Nat} (hk:512<k) (hwN:l.weights.length<=aU) (hz:l.size=Z) (hs:l.step=S) (f:Fits H W C xs l Z S h w o):
  l7 k l (uE H W C xs) h w o=some (lD W C xs l Z S h w o):=by
 have hM:=ar;have hcu:=r.OM;have hlen:=r.len;unfold l7 lD
 cases f with
 |MO h0 hb h8 hw=>
  rw[h0];show(fy k l xs o).bind _=_
  rw[xV (by omega) (by omega) hw hwN hb h8];rfl
 |conv h0 hb h8 hw v hi=>
  have hl:=Ci W C xs Z S h w;have:Z*(Z*C)<=3*(3*8):=Q2 v.z3 (Q2 v.z3 r.c8);rw[h0];show(cu k l (uE H W C xs) h w (-1)).bind _=_
  rw[Ee r hk hz hs v,aa,xV (by omega) (by omega) (by rw[hl];exact hw) hwN hb h8];rfl
 |max h0 v ho=>
  rw[h0];show(cu k l (uE H W C xs) h w o).bind _=_;rw[xU r hk hz hs v ho,aa];have hl:=nk (xs:=xs) (C:=C) (o:=o) v;obtain⟨x,ys,e⟩:=xX (xs:=xs) (C:=C) (o:=o) v;rw[e]at hl;simp only[Qy]at hl;show(fh k (iH W C xs Z S h w o)).bind _=some (kI (iH W C xs Z S h w o));rw[e];unfold fh
  rw[ab,if_neg (by simp only[Qy];omega),vS,List.getElem?_cons_zero,aa,Ht (xs:=ys) (x:=x) (fin:=some) (λi a next hi=>by
   simp only[dQ]
   rw[ab,if_pos (by simp only[Qy];omega),aE,RP,ai hi,aa,au (show i+1<ys.length+1 by omega) (by omega)]) (λa next=>by
   simp only[dQ]
   rw[ab,if_neg (by simp only[Qy];omega)]) (by omega)]
  rfl
 |avg h0 v ho=>
  rw[h0];show(cu k l (uE H W C xs) h w o).bind _=_;rw[xU r hk hz hs v ho,aa];have hl:=nk (xs:=xs) (C:=C) (o:=o) v;have hm:=v9 r v ho;have hb:=xW hm;show _=some (gl (iH W C xs Z S h w o).sum ((Z*Z:Nat):Int))
  rw[Ef (xs:=iH W C xs Z S h w o) (fin:=λy=>(m9 k y (IntKind.i64.wrap (l.size*l.size))).bind λr9=>some r9) hm (by omega) (λi a next hi=>by
   simp only[iq]
   rw[ab,if_pos (by omega),ab,if_pos (by omega),Ql,ai hi,aa,au hi (by omega)]) (λa next=>by
   simp only[iq]
   rw[ab,if_neg (by omega)]) (by omega)]
  rw[hz,Ea (by omega),vm (by omega) (by omega),aa]
 |PM h0 h1 h2 h3 hz=>
  simp only[h0,show((4:Int)==0)=false from rfl,show((4:Int)==1)=false from rfl,show((4:Int)==2)=false from rfl,show((4:Int)==3)=false from rfl,beq_self_eq_true,cond_true,cond_false];refine(congrArg (λo:Option Int=>o.bind _) (rI (k:=k) r h1 h2 h3)).trans ?_;rw[aa];show(idx xs _).bind _=_;rw[aE,Gb r h1 h2 h3]
  rfl
 |flat h0 ho=>
  rw[h0];show(idx xs (o:Int)).bind _=_;rw[aE,ai ho];show _=some (xs.getD o 0);rw[cM ho];rfl
theorem Ot {W C:Nat} {xs:List Int} {Z S h w i j c:Nat} (hi:i<Z) (hj:j<Z) (hc:c<C):(Oo W C xs Z S h w)[i*(Z*C)+(j*C+c)]? =some (atN W C xs (h*S+i) (w*S+j) c):=by
 have hb:j*C+c<Z*C:=by
  have:(j+1)*C<=Z*C:=QB _ hj;rw[QL]at this;omega
 unfold Oo;rw[Cf _ (Z*C) Z (λi hi=>gC _ C Z λj hj=>by simp) i (j*C+c) hi hb,Cf _ C Z (λj hj=>by simp) j c hj hc,QZ,List.getElem?_range hc];rfl
theorem AB {o Z i j C c:Nat}:((o*Z+i)*Z+j)*C+c=o*(Z*(Z*C))+(i*(Z*C)+(j*C+c)):=by
 simp only[QL,Nat.mul_assoc,Rd]
theorem MP {H W C:Nat} {xs:List Int} (r:kH H W C xs) {ws:List Int} (hi:∀x∈ws,-128<=x/\x<=127) {Z S h w o:Nat} (v:KY H W Z S h w) (hw:o*(Z*(Z*C))+Z*(Z*C)<=ws.length):
  Oq (Oo W C xs Z S h w) ((ws.take (o*(Z*(Z*C))+Z*(Z*C))).drop (o*(Z*(Z*C))))=
   (List.range Z).foldl (λs i=>(List.range Z).foldl (λs j=>(List.range C).foldl (λs c=>oA s (atN W C xs (h*S+i) (w*S+j) c*ws.getD (((o*Z+i)*Z+j)*C+c) 0)) s) s) 0:=by
 obtain⟨z1,z3,s2,hh,ww⟩:=v;unfold Oq;rw[Ci,Cg];refine fold_congr Z _ λs i hi2=>?_;rw[Cg];refine fold_congr Z _ λs j hj=>?_;refine fold_congr C _ λs c hc=>?_
 have hb:j*C+c<Z*C:=by
  have:(j+1)*C<=Z*C:=QB _ hj;rw[QL]at this;omega
 have hb2:i*(Z*C)+(j*C+c)<Z*(Z*C):=by
  have:(i+1)*(Z*C)<=Z*(Z*C):=QB _ hi2;rw[QL]at this;omega
 have a1:=Hs r (show h*S+i<H by omega) (show w*S+j<W by omega) hc;have a2:=hi _ (v8 (xs:=ws) (i:=o*(Z*(Z*C))+(i*(Z*C)+(j*C+c))) (by omega));rw[QW,Ot hi2 hj hc,RC,QW,Ed hb2,<-QW,AB];unfold xN;rw[Ni (by omega) (by omega),Ni (by omega) (by omega)]
theorem K2 {k:Nat} {H W C:Nat} {xs:List Int} (r:kH H W C xs) {l:ax} {Z S h w o:Nat} (hk:512<k) (hwN:l.weights.length<=aU) (hz:l.size=Z) (hs:l.step=S) (f:Fits H W C xs l Z S h w o):
  sQ k (uE H W C xs) l h w o=some (lD W C xs l Z S h w o):=by
 have hM:=ar;have hcu:=r.OM;have hlen:=r.len;unfold sQ lD
 cases f with
 |MO h0 hb h8 hw=>
  rw[h0];simp only[beq_self_eq_true,cond_true]
  rw[nY,aa,show(uE H W C xs).sh.size=((xs.length:Nat):Int)from by rw[hlen];exact r.size,Ea (by omega),EH (by omega),ab,if_pos (by omega),ab,if_pos (by omega),Ql,Ql,
   show(uE H W C xs).data=xs from rfl,IV (by omega) (by simp;omega) (by omega),aa,aE,ai hb,aa,od,aa,vo,aa]
  unfold rJ
  rw[cM hb]
 |conv h0 hb h8 hw v hi=>
  have hl:=Ci W C xs Z S h w;have hvv:=v;obtain⟨z1,z3,s2,hh,ww⟩:=hvv;have:=r.h8;have:=r.w8;have hc8:=r.c8;have hq:Z*(Z*C)<=3*(3*8):=Q2 v.z3 (Q2 v.z3 r.c8);rw[h0];show iter _ k _=some (rJ l (Oo W C xs Z S h w) o)
  refine(nj Z (λs i=>(List.range Z).foldl (λs j=>(List.range C).foldl (λs c=>oA s (atN W C xs (h*S+i) (w*S+j) c*l.weights.getD (((o*Z+i)*Z+j)*C+c) 0)) s) s) 0
   (fin:=λy=>(idx l.mG (o:Int)).bind λe14=>(lU k y e14).bind λr15=>(m8 k r15 l.mult l.shift l.zero).bind λr16=>some r16) (λi a next hi2=>?_) (λa next=>?_) (by omega)).trans ?_
  ·simp only[l3,hz,hs];rw[ab,if_pos (by omega),au hi2 (by omega)];refine nj Z (λs j=>(List.range C).foldl (λs c=>oA s (atN W C xs (h*S+i) (w*S+j) c*l.weights.getD (((o*Z+i)*Z+j)*C+c) 0)) s) a (fin:=λy=>next (y,((i+1:Nat):Int))) (λj a2 next2 hj=>?_) (λa2 next2=>?_) (by omega)
   ·simp only[lZ,hz,hs];rw[ab,if_pos (by omega),au hj (by omega)];refine nj C (λs c=>oA s (atN W C xs (h*S+i) (w*S+j) c*l.weights.getD (((o*Z+i)*Z+j)*C+c) 0)) a2 (fin:=λy=>next2 (y,((j+1:Nat):Int))) (λc a3 next3 hc=>?_) (λa3 next3=>?_) (by omega)
    ·have e1:h*S+i<H:=by omega
     have e2:w*S+j<W:=by omega
     have e:=rH (k:=k) r hk e1 e2 hc;have o1:o*Z<=7*3:=Q2 (by omega) z3;have o2:(o*Z+i)*Z<=23*3:=Q2 (by omega) z3;have o3:((o*Z+i)*Z+j)*C<=71*8:=Q2 (by omega) hc8
     have hb:j*C+c<Z*C:=by
      have:(j+1)*C<=Z*C:=QB _ hj;rw[QL]at this;omega
     have hb2:i*(Z*C)+(j*C+c)<Z*(Z*C):=by
      have:(i+1)*(Z*C)<=Z*(Z*C):=QB _ hi2;rw[QL]at this;omega
     have hx:((o*Z+i)*Z+j)*C+c<l.weights.length:=by rw[AB];omega
     have a1:=Hs r e1 e2 hc;have a2:=hi _ (v8 hx);have a3:=Om (A:=128) (B:=128) (x:=atN W C xs (h*S+i) (w*S+j) c) (y:=l.weights.getD (((o*Z+i)*Z+j)*C+c) 0) (by omega) (by omega);unfold uE at e;simp only[lY,hz,hs,uE];refine(KX (by omega) _ _).trans ?_;rw[Ea (a:=h) (by omega),EH (b:=i) (by omega),Ea (a:=w) (by omega),EH (b:=j) (by omega),e,aa,Ea (a:=o) (by omega),EH (b:=i) (by omega),Ea (by omega),EH (b:=j) (by omega),Ea (by omega),EH (b:=c) (by omega),aE,ai hx,aa,<-cM hx 0,aK (n:=atN W C xs (h*S+i) (w*S+j) c*l.weights.getD (((o*Z+i)*Z+j)*C+c) 0) (by omega) (by omega),od,aa,au hc (by omega)]
    ·simp only[lY,uE];exact P7 (by omega) _ _
   ·simp only[lZ,hz];rw[ab,if_neg (by omega)]
  ·simp only[l3,hz];rw[ab,if_neg (by omega)]
  ·rw[aE,ai hb,aa,od,aa,vo,aa];unfold rJ
   rw[hl,MP r hi v hw,cM hb]
 |max h0 v ho=>
  rw[h0];show(lj k (uE H W C xs) l h w o).bind _=_;rw[Ec r hk hz hs v ho,aa];have hl:=nk (xs:=xs) (C:=C) (o:=o) v;obtain⟨x,ys,e⟩:=xX (xs:=xs) (C:=C) (o:=o) v;rw[e]at hl;simp only[Qy]at hl;show _=some (kI (iH W C xs Z S h w o));rw[e,ab,if_pos (by simp only[Qy];omega)];show(some x).bind _=_
  rw[aa,Ht (xs:=ys) (x:=x) (fin:=some) (λi a next hi=>by
   simp only[l4];rw[ab,if_pos (by simp only[Qy];omega),ab,if_pos (by simp only[Qy];omega),Ql,RP,ai hi,aa,au (show i+1<ys.length+1 by omega) (by omega)]
   have hlt:0<=((i+1:Nat):Int)/\((i+1:Nat):Int)<(((x::ys).length:Nat):Int):=by rw[Qy];omega
   rw[KX hlt,aa,ab];by_cases c:ys[i]>a
   ·rw[if_pos c,if_pos c]
   ·rw[if_neg c,if_neg c]) (λa next=>by
   simp only[l4]
   rw[ab,if_neg (by simp only[Qy];omega)]) (by omega)]
 |avg h0 v ho=>
  rw[h0];show(lj k (uE H W C xs) l h w o).bind _=_;rw[Ec r hk hz hs v ho,aa];have hl:=nk (xs:=xs) (C:=C) (o:=o) v;have hm:=v9 r v ho;have hb:=xW hm;show _=some (gl (iH W C xs Z S h w o).sum ((Z*Z:Nat):Int))
  rw[Ef (xs:=iH W C xs Z S h w o) (fin:=λy26=>(cond (decide (y26<(0:Int))) (cond (decide ((IntKind.i64.wrap ((2:Int)*((iH W C xs Z S h w o).length:Int)))=0)) none (some (IntKind.i64.wrap (0-(IntKind.i64.wrap ((IntKind.i64.wrap ((IntKind.i64.wrap ((-2:Int)*y26))+((iH W C xs Z S h w o).length:Int))).tdiv (IntKind.i64.wrap ((2:Int)*((iH W C xs Z S h w o).length:Int))))))))) (cond (decide ((IntKind.i64.wrap ((2:Int)*((iH W C xs Z S h w o).length:Int)))=0)) none (some (IntKind.i64.wrap ((IntKind.i64.wrap ((IntKind.i64.wrap ((2:Int)*y26))+((iH W C xs Z S h w o).length:Int))).tdiv (IntKind.i64.wrap ((2:Int)*((iH W C xs Z S h w o).length:Int))))))))) hm (by omega) (λi a next hi=>by
   simp only[l5]
   rw[ab,if_pos (by omega),ab,if_pos (by omega),Ql,ai hi,aa,au hi (by omega)]) (λa next=>by
   simp only[l5]
   rw[ab,if_neg (by omega)]) (by omega)]
  rw[hl.1]at hb⊢;generalize (iH W C xs Z S h w o).sum=y at hb⊢;obtain⟨n,hn⟩:∃n:Nat,n=Z*Z:=⟨_,rfl⟩;rw[<-hn]at hb hl⊢;unfold gl;rw[aK (n:=2*(n:Int)) (by omega) (by omega),ab];by_cases c:y<0
  ·rw[if_pos c,if_pos c,ab,if_neg (by omega),aK (n:=-2*y) (by omega) (by omega),aK (n:=-2*y+(n:Int)) (by omega) (by omega),Rc (by omega),show 2*-y+(n:Int)=-2*y+(n:Int)from by omega];have h:=Az (a:=-2*y+(n:Int)) (b:=2*(n:Int)) (by omega) (by omega);generalize (-2*y+(n:Int))/(2*(n:Int))=q at h;rw[aK (n:=q) (by omega) (by omega),aK (by omega) (by omega)]
   congr 1;omega
  ·rw[if_neg c,if_neg c,ab,if_neg (by omega),aK (n:=2*y) (by omega) (by omega),aK (n:=2*y+(n:Int)) (by omega) (by omega),Rc (by omega)];have h:=Az (a:=2*y+(n:Int)) (b:=2*(n:Int)) (by omega) (by omega)
   rw[aK (by omega) (by omega)]
 |PM h0 h1 h2 h3 hz=>
  rw[h0];show(nR k (uE H W C xs) h w o).bind _=_;rw[rH r hk h1 h2 h3,aa];show cond (decide (atN W C xs h w o<l.zero)) _ _=some (if atN W C xs h w o<l.zero then l.zero else atN W C xs h w o);rw[ab];by_cases c:atN W C xs h w o<l.zero
  ·rw[if_pos c,if_pos c]
  ·rw[if_neg c,if_neg c]
 |flat h0 ho=>
  rw[h0];show(idx xs (o:Int)).bind _=_;rw[aE,ai ho];show _=some (xs.getD o 0);rw[cM ho];rfl
end
end Go.Proofs.Ev
