/- Typed functions and what holds of them: part 3. -/
import Derived.Test.YtpiopmjbcadfbaaGreatEvL2
import Derived.KernelRfl
set_option linter.unusedVariables false
set_option linter.unusedSimpArgs false
set_option linter.unusedSectionVars false
namespace Go.Proofs.Ev
section
theorem LB {β R:Type} (n:Nat) (f:Nat->β) {g:Int× List β->(Int× List β->Option R)->Option R} {fin:List β->Option R}
  (h:∀(i:Nat) (ys:List β) (hi:i<n) (next:Int× List β->Option R),ys.length=i->g ((i:Int),ys) next=next (((i+1:Nat):Int),ys++[f i]))
  (hn:∀ys next,g ((n:Int),ys) next=fin ys) {k:Nat} (hk:n<k):iter g k (0,[])=fin ((List.range n).map f):=by
 have:=ep (g:=g) (st:=λi=>((i:Int),(List.range i).map f)) (n:=n) (r:=fin ((List.range n).map f)) (λi hi next=>by
  rw[h i _ hi next (by simp),SW,Sv];rfl) (λnext=>hn _ _) hk
 simpa using this
def takes (x:Step):Int:=cond (inB x.kind 4 5&&inB x.a 0 200) x.a 0
end
section
theorem jo {b c:Bool}:cond b (some c) (some false)=some (b&&c):=by cases b<;>rfl
theorem dt {α:Type} {b:Bool} {x y:α}:cond (!b) x y=cond b y x:=by cases b<;>rfl
theorem nF {α:Type} (a b:Int) (x y:α):cond (a !=b) x y=cond (decide (a=b)) y x:=by rw[Lv];by_cases h:a=b<;>simp[h]
theorem Et (a b:Int):(a==b)=decide (a=b):=O7 a b
def HX (l:ay):Bool:=inB l.out 1 8&&(inB l.mult 0 2147483647&&(inB l.shift 0 31&&(inB l.zero (-128) 127&&(decide ((l.m8.length:Int)=l.out)&&(l.m8.all (λx=>inB x (-1000000) 1000000)&&rz l.weights)))))
def sf (l:ay):Bool:=decide (l.out=0)&&(decide (l.mult=0)&&(decide (l.shift=0)&&(decide ((l.weights.length:Int)=0)&&decide ((l.m8.length:Int)=0))))
def pb (l:ay):Bool:=decide (l.size=0)&&decide (l.step=0)
def LC (s:Shape) (l:ay):Bool:=inB l.size 1 3&&(inB l.step 1 2&&(decide (l.size<=s.h)&&decide (l.size<=s.w)))
def gL (s:Shape) (l:ay):Bool:=s.okB&&
 (cond (decide (l.kind=0)) (pb l&&(HX l&&(decide (s.size<=64)&&decide ((l.weights.length:Int)=l.out*s.size))))
 (cond (decide (l.kind=1)) (LC s l&&(HX l&&(decide ((l.weights.length:Int)=l.out*l.size*l.size*s.c)&&decide ((l.weights.length:Int)<=600))))
 (cond (decide (l.kind=2)||decide (l.kind=3)) (LC s l&&(sf l&&decide (l.zero=0)))
 (cond (decide (l.kind=4)) (pb l&&(sf l&&inB l.zero (-128) 127))
 (cond (decide (l.kind=5)) (pb l&&(sf l&&(decide (l.zero=0)&&decide (s.size<=8)))) false)))))
def qU (s:Shape) (l:ay) (c:Int):Shape:=
 ⟨IntKind.i64.wrap ((IntKind.i64.wrap ((IntKind.i64.wrap (s.h-l.size)).tdiv l.step))+1),IntKind.i64.wrap ((IntKind.i64.wrap ((IntKind.i64.wrap (s.w-l.size)).tdiv l.step))+1),c⟩
def shapeOf (s:Shape) (l:ay):Shape:=
 cond (decide (l.kind=0)) ⟨1,1,l.out⟩ (cond (decide (l.kind=1)) (qU s l l.out) (cond (decide (l.kind=4)) s (cond (decide (l.kind=5)) ⟨1,1,s.size⟩ (qU s l s.c))))
def iR:Shape:=⟨0,0,0⟩
def gR (s:Shape) (l:ay):Shape× Bool:=cond (gL s l) (shapeOf s l,true) (iR,false)
theorem vL (k:Nat) (x:Int):gB k x=some (inB x (-128) 127):=by unfold gB;rw[cF,aa]
theorem GD {k:Nat} {l:ay} (hk:l.tot<k) (hN:l.tot<=aQ) (fin:Option Bool):
    (iter (λu16 n16=>fX k (l.kind,l.out,l.size,l.step,l.mult,l.shift,l.zero,l.weights,l.m8) u16 n16 (λy9=>iter (λu14 n14=>fY k (l.kind,l.out,l.size,l.step,l.mult,l.shift,l.zero,l.weights,l.m8) u14 n14 (λy12=>fin) (λy13=>some y13)) k (0:Int)) (λy15=>some y15)) k (0:Int))
      =cond (l.m8.all (λx=>inB x (-1000000) 1000000)) (cond (rz l.weights) fin (some false)) (some false):=by
  have hM:=ao;unfold ay.tot at hk hN
  rw [jy l.m8 (λ x => inB x (-1000000) 1000000) (yes := cond (rz l.weights) fin (some false)) (no := some false) (λ i hi next => by
    simp only[fX]
    rw[ab,if_pos (by omega),aC,ag hi,aa,cF,aa,cond_not,aq hi (by omega)]) (λnext=>by
    simp only[fX];rw[ab,if_neg (by omega)]
    exact jy l.weights (λx=>inB x (-128) 127) (λi hi next=>by
      simp only[fY]
      rw[ab,if_pos (by omega),aC,ag hi,aa,vL,aa,cond_not,aq hi (by omega)]) (λnext=>by
      simp only[fY];rw[ab,if_neg (by omega)]) (by omega)) (by omega)]
def yA (l:ay) (window weighs:Bool):Bool:=
 cond window (inB l.size 1 3&&inB l.step 1 2) (pb l)&&cond weighs (HX l) (sf l&&cond (decide (l.kind=4)) (inB l.zero (-128) 127) (decide (l.zero=0)))
theorem Ph (n:Nat):decide ((n:Int)>0)=!decide ((n:Int)=0):=by
 by_cases h:(n:Int)=0
 ·rw[decide_eq_true h,decide_eq_false (by omega)];rfl
 ·rw[decide_eq_false h,decide_eq_true (by omega)];rfl
theorem Cy {k:Nat} {l:ay} (hk:l.tot<k) (hN:l.tot<=aQ) (a b:Bool):qD k l a b=some (yA l a b):=by
 unfold qD yA HX sf pb;simp only[cF,vL,aa,dt,nF,GD hk hN,Ph,Et];cases a<;>cases b<;>simp only[cond_true,cond_false,jo]<;>(by_cases h4:l.kind=4<;>simp only[h4,decide_true,decide_false,cond_true,cond_false,jo,Bool.and_assoc,Tz])
theorem cn {x a b:Int}:inB x a b=true↔a<=x/\x<=b:=by unfold inB;simp
theorem pZ {s:Shape} {l:ay} (h:LC s l=true):1<=l.size/\l.size<=3/\1<=l.step/\l.step<=2/\l.size<=s.h/\l.size<=s.w:=by
 simp only[LC,Rk,cn,decide_eq_true_eq]at h;omega
theorem wH {l:ay} (h:HX l=true):1<=l.out/\l.out<=8:=by
 simp only[HX,Rk,cn]at h;omega
theorem Eu {o z c:Int} (h1:1<=o) (h2:o<=8) (h3:1<=z) (h4:z<=3) (h5:1<=c) (h6:c<=8):
  IntKind.i64.wrap (IntKind.i64.wrap (IntKind.i64.wrap (o*z)*z)*c)=o*z*z*c/\IntKind.i64.wrap (o*IntKind.i64.wrap (IntKind.i64.wrap (z*z)*c))=o*z*z*c:=by
 have a1:=pS (show 0<=o by omega) h2 (show 0<=z by omega) h4;have a2:=pS a1.1 a1.2 (show 0<=z by omega) h4;have a3:=pS a2.1 a2.2 (show 0<=c by omega) h6;have b1:=pS (show 0<=z by omega) h4 (show 0<=z by omega) h4;have b2:=pS b1.1 b1.2 (show 0<=c by omega) h6;have b3:=pS (show 0<=o by omega) h2 b2.1 b2.2;refine⟨?_,?_⟩
 ·rw[aH (n:=o*z) (by omega) (by omega),aH (n:=o*z*z) (by omega) (by omega),aH (by omega) (by omega)]
 ·rw[aH (n:=z*z) (by omega) (by omega),aH (n:=z*z*c) (by omega) (by omega),aH (by omega) (by omega),<-TW,<-TW]
theorem AZ {o:Int} {s:Shape} (h1:1<=o) (h2:o<=8):IntKind.i64.wrap (o*s.size)=o*s.size:=by
 have h:=Shape.Cx s;have a1:=pS (show 0<=o by omega) h2 h.1 h.2;exact aH (by omega) (by omega)
theorem oN {k:Nat} {s:Shape} {l:ay} (hk:l.tot<k) (hN:l.tot<=aQ):lg k s l=some (gR s l):=by
  unfold lg gR gL;simp only[ka,cF,oK,Cy hk hN,aa,dt,nF,Et];cases hs:s.okB
  · rfl
  obtain⟨c1,c2,c3,c4,c5,c6⟩:=Shape.tK hs;simp only[cond_true,Rs];by_cases k0:l.kind=0
  · have e1:inB l.kind 0 5=true:=by rw[cn];omega
    have e2:inB l.kind 1 3=false:=by rw[<-Bool.not_eq_true,cn];omega
    simp only[k0,e1,e2,cond_true,cond_false,yA,shapeOf,decide_true];simp only[k0]at e1 e2;simp only[e1,e2,cond_true,cond_false,show decide ((0:Int)<=1)=true from rfl];cases pb l
    · rfl
    cases hnum:HX l
    · rfl
    obtain⟨o1,o2⟩:=wH hnum;simp only[AZ o1 o2,Rs,cond_true];by_cases z:s.size<=64
    · rw[decide_eq_true z,decide_eq_false (by omega)];cases decide ((l.weights.length:Int)=l.out*s.size)<;>rfl
    · rw[decide_eq_false z,decide_eq_true (by omega)];rfl
  by_cases k1:l.kind=1
  · simp only[k1,yA,shapeOf,show inB 1 0 5=true from rfl,show inB 1 1 3=true from rfl,decide_true,cond_true,cond_false,show decide ((1:Int)=0)=false from rfl,show decide ((1:Int)<=1)=true from rfl];unfold LC;cases hz:inB l.size 1 3
    · rfl
    cases ht:inB l.step 1 2
    · rfl
    rw[cn]at hz ht;simp only[Rs,cond_true];cases hnum:HX l
    · simp only[cond_false,R8,Tn];rfl
    obtain⟨o1,o2⟩:=wH hnum;simp only[cond_true,Rs,(Eu o1 o2 hz.1 hz.2 c5 c6).1];rw[decide_eq_false (show¬l.step=0 by omega)];simp only[cond_false];by_cases w1:l.size<=s.h
    · rw [decide_eq_true w1, decide_eq_false (show ¬ l.size > s.h by omega)];by_cases w2:l.size<=s.w
      · rw[decide_eq_true w2,decide_eq_false (show¬l.size>s.w by omega)];simp only[cond_false,Rs];cases decide ((l.weights.length:Int)=l.out*l.size*l.size*s.c)
        · rfl
        · by_cases w3:(l.weights.length:Int)<=600
          · rw[decide_eq_true w3,decide_eq_false (by omega)];rfl
          · rw[decide_eq_false w3,decide_eq_true (by omega)];rfl
      · rw[decide_eq_false w2,decide_eq_true (show l.size>s.w by omega)];rfl
    · rw[decide_eq_false w1,decide_eq_true (show l.size>s.h by omega)];rfl
  have win:l.kind=2\/l.kind=3->_:=λh23=>by
    have e1:inB l.kind 0 5=true:=by rw[cn];omega
    have e2:inB l.kind 1 3=true:=by rw[cn];omega
    have e3:decide (l.kind<=1)=false:=decide_eq_false (by omega)
    have e4:(decide (l.kind=2)||decide (l.kind=3))=true:=by simpa using h23
    have e5:decide (l.kind=4)=false:=decide_eq_false (by omega);have e6:decide (l.kind=5)=false:=decide_eq_false (by omega);exact And.intro e1 (And.intro e2 (And.intro e3 (And.intro e4 (And.intro e5 e6))))
  by_cases h23:l.kind=2\/l.kind=3
  · obtain⟨e1,e2,e3,e4,e5,e6⟩:=win h23;simp only[e1,e2,e3,e4,e5,e6,decide_eq_false k0,decide_eq_false k1,yA,shapeOf,cond_true,cond_false];unfold LC;cases hz:inB l.size 1 3
    · rfl
    cases ht:inB l.step 1 2
    · rfl
    rw[cn]at hz ht;simp only[Rs,cond_true];rw[decide_eq_false (show¬l.step=0 by omega)];cases sf l
    · simp only[R8,Tn,cond_false];rfl
    cases decide (l.zero=0)
    · simp only[R8,Tn,cond_false];rfl
    simp only[cond_false,cond_true,Tz,Rs];by_cases w1:l.size<=s.h
    · rw[decide_eq_true w1,decide_eq_false (show¬l.size>s.h by omega)];by_cases w2:l.size<=s.w
      · rw[decide_eq_true w2,decide_eq_false (show¬l.size>s.w by omega)];rfl
      · rw[decide_eq_false w2,decide_eq_true (show l.size>s.w by omega)];rfl
    · rw[decide_eq_false w1,decide_eq_true (show l.size>s.h by omega)];rfl
  have e4:(decide (l.kind=2)||decide (l.kind=3))=false:=by simpa using h23
  by_cases k4:l.kind=4
  · simp only[k4,e4,yA,shapeOf,show inB 4 0 5=true from rfl,show inB 4 1 3=false from rfl,decide_true,cond_true,cond_false,show decide ((4:Int)=0)=false from rfl,show decide ((4:Int)=1)=false from rfl,show decide ((4:Int)<=1)=false from rfl,
      show(decide ((4:Int)=2)||decide ((4:Int)=3))=false from rfl,show decide ((4:Int)=5)=false from rfl]
    cases pb l<;>cases sf l<;>cases inB l.zero (-128) 127<;>rfl
  by_cases k5:l.kind=5
  · simp only[k5,yA,shapeOf,show inB 5 0 5=true from rfl,show inB 5 1 3=false from rfl,decide_true,cond_true,cond_false,show decide ((5:Int)=0)=false from rfl,show decide ((5:Int)=1)=false from rfl,show decide ((5:Int)<=1)=false from rfl,
      show(decide ((5:Int)=2)||decide ((5:Int)=3))=false from rfl,show decide ((5:Int)=4)=false from rfl]
    by_cases z:s.size<=8
    · rw[decide_eq_true z,decide_eq_false (show¬s.size>8 by omega)];cases pb l<;>cases sf l<;>cases decide (l.zero=0)<;>rfl
    · rw[decide_eq_false z,decide_eq_true (show s.size>8 by omega)];cases pb l<;>cases sf l<;>cases decide (l.zero=0)<;>rfl
  · have e1:inB l.kind 0 5=false:=by rw[<-Bool.not_eq_true,cn];omega
    simp only[e1,e4,decide_eq_false k0,decide_eq_false k1,decide_eq_false k4,decide_eq_false k5,cond_false];rfl
theorem tM (k:Nat) (l:ay):eP k l=some (pb l):=by
 unfold eP pb;simp only[Et,jo]
theorem vb (k:Nat) (l:ay):eD k l=some (sf l):=by
 unfold eD sf;simp only[Et,jo]
theorem sg (k:Nat) (s:Shape) (l:ay):dZ k l s=some (LC s l):=by
 unfold dZ LC;simp only[fA,aa,jo]
 congr 1
 rw[TA];simp only[Rk,cn,decide_eq_true_eq];split<;>split<;>constructor<;>intro h<;>omega
theorem GF {k:Nat} {xs:List Int} (hk:xs.length<k) (hx:xs.length<=pc):aO k xs=some (!xs.all (λx=>inB x (-1000000) 1000000)):=by
 unfold pc at hx;unfold aO bD
 rw[eO xs (λx=>!inB x (-1000000) 1000000) (λi hi next=>by
  simp only[aN,ab,gV,fA,aa]
  rw[if_pos (by omega),aC,ag hi,aa,aq hi (by omega)]) (λnext=>by
  simp only[aN,ab];rw[if_neg (by omega)]) hk]
 rw[cR];simp only[aa,nE];rw[S3];simp
theorem si {k:Nat} {l:ay} {n:Int} (hk:l.tot<k) (hN:l.tot<=aQ):fm k l n=some (HX l&&decide ((l.weights.length:Int)=IntKind.i64.wrap (l.out*n))):=by
 have hM:=ao;unfold ay.tot at hk hN;unfold fm HX;simp only[fA,aa,tL (xs:=l.weights) (k:=k) (by omega) (by unfold pc;omega),GF (xs:=l.m8) (k:=k) (by omega) (by unfold pc;omega),Et,TJ,jo]
 congr 1
 cases inB l.out 1 8<;>cases inB l.mult 0 2147483647<;>cases inB l.shift 0 31<;>cases inB l.zero (-128) 127<;>cases decide ((l.weights.length:Int)=IntKind.i64.wrap (l.out*n))<;>cases rz l.weights<;>cases decide ((l.m8.length:Int)=l.out)<;>cases l.m8.all (λx=>inB x (-1000000) 1000000)<;>rfl
theorem iS (k:Nat) {s:Shape} {l:ay} (c:Int) (h:1<=l.step):eQ k l s c=some (qU s l c):=by
 unfold eQ qU;rw[decide_eq_false (show¬l.step=0 by omega)];rfl
theorem oO {k:Nat} {s:Shape} {l:ay} (hk:l.tot<k) (hN:l.tot<=aQ):lh k s l=some (gR s l):=by
 unfold lh gR gL;simp only[pY,fA,se,tM,vb,sg,si hk hN,aa,dt,Et];cases hs:s.okB
 ·rfl
 obtain⟨c1,c2,c3,c4,c5,c6⟩:=Shape.tK hs;simp only[cond_true,Rs];by_cases k0:l.kind=0
 ·simp only[k0,shapeOf,decide_true,cond_true];cases hnum:HX l
  ·cases decide (s.size<=64)<;>cases pb l<;>rfl
  obtain⟨o1,o2⟩:=wH hnum;simp only[AZ o1 o2];cases decide (s.size<=64)<;>cases pb l<;>cases decide ((l.weights.length:Int)=l.out*s.size)<;>rfl
 by_cases k1:l.kind=1
 ·simp only[k1,shapeOf,show decide ((1:Int)=0)=false from rfl,decide_true,cond_true,cond_false];cases hw:LC s l
  ·rfl
  have hw:=pZ hw;cases hnum:HX l
  ·cases decide ((l.weights.length:Int)<=600)<;>rfl
  obtain⟨o1,o2⟩:=wH hnum;simp only[(Eu o1 o2 hw.1 hw.2.1 c5 c6).2,iS k _ hw.2.2.1,aa];cases decide ((l.weights.length:Int)<=600)<;>cases decide ((l.weights.length:Int)=l.out*l.size*l.size*s.c)<;>rfl
 simp only[decide_eq_false k0,decide_eq_false k1,cond_false];by_cases k2:l.kind=2
 ·simp only[k2,shapeOf,decide_true,Bool.true_or,cond_true,cond_false,show decide ((2:Int)=0)=false from rfl,show decide ((2:Int)=1)=false from rfl,show decide ((2:Int)=4)=false from rfl,show decide ((2:Int)=5)=false from rfl];cases hw:LC s l
  ·rfl
  have hw:=pZ hw;simp only[iS k _ hw.2.2.1,aa];cases sf l<;>cases decide (l.zero=0)<;>rfl
 by_cases k3:l.kind=3
 ·simp only[k3,shapeOf,decide_true,SZ,cond_true,cond_false,show decide ((3:Int)=0)=false from rfl,show decide ((3:Int)=1)=false from rfl,show decide ((3:Int)=2)=false from rfl,show decide ((3:Int)=4)=false from rfl,show decide ((3:Int)=5)=false from rfl];cases hw:LC s l
  ·rfl
  have hw:=pZ hw;simp only[iS k _ hw.2.2.1,aa];cases sf l<;>cases decide (l.zero=0)<;>rfl
 simp only[decide_eq_false k2,decide_eq_false k3,Bool.or_self,cond_false];by_cases k4:l.kind=4
 ·simp only[k4,shapeOf,decide_true,cond_true,cond_false,show decide ((4:Int)=0)=false from rfl,show decide ((4:Int)=1)=false from rfl];cases pb l<;>cases sf l<;>cases inB l.zero (-128) 127<;>rfl
 by_cases k5:l.kind=5
 ·simp only[k5,shapeOf,decide_true,cond_true,cond_false,show decide ((5:Int)=0)=false from rfl,show decide ((5:Int)=1)=false from rfl,show decide ((5:Int)=4)=false from rfl];cases pb l<;>cases sf l<;>cases decide (l.zero=0)<;>cases decide (s.size<=8)<;>rfl
 simp only[decide_eq_false k4,decide_eq_false k5,cond_false];rfl
def cg:Shape->List ay->Option (List Shape)
 |_,[]=>some []
 |s,l::ls=>cond (gL s l) ((cg (shapeOf s l) ls).map (shapeOf s l::·)) none
theorem rA:∀(ls:List ay) (s:Shape) (t:List Shape),cg s ls=some t->t.length=ls.length
 |[],s,t,h=>by cases h;rfl
 |l::ls,s,t,h=>by
  simp only[cg]at h;cases hb:gL s l<;>simp only[hb,cond_true,cond_false]at h
  ·exact nomatch h
  ·obtain⟨t',h1,rfl⟩:=Rt.1 h;simp[rA ls _ _ h1]
theorem sj {R:Type} {ar:List ay} {V:Type} {st:Nat->List Shape->Shape->V} {g:V->(V->Option R)->Option R} {fin:List Shape->Option R} {bad:Option R}
    (h:∀(i:Nat) (ys:List Shape) (s:Shape) (hi:i<ar.length) (next:V->Option R),ys.length=i+1->ys[i]? =some s->g (st i ys s) next=cond (gL s ar[i]) (next (st (i+1) (ys++[shapeOf s ar[i]]) (shapeOf s ar[i]))) bad)
    (hn:∀ys s next,g (st ar.length ys s) next=fin ys):∀(rest:List ay) (i:Nat) (ys:List Shape) (s:Shape) (k:Nat),i<=ar.length->ar.drop i=rest->ys.length=i+1->ys[i]? =some s->rest.length<k->
      iter g k (st i ys s)=(cg s rest).elim bad λt=>fin (ys++t)
  |[],i,ys,s,0,hle,hd,hl,hs,hk=>by omega
  |_::_,i,ys,s,0,hle,hd,hl,hs,hk=>by omega
  | [], i, ys, s, k + 1, hle, hd, hl, hs, hk => by
    have h1:=congrArg List.length hd;simp only[Sy,RY]at h1;rw[aG]
    have c:i=ar.length:=by omega
    subst c;rw[hn];simp[cg]
  | l :: ls, i, ys, s, k + 1, hle, hd, hl, hs, hk => by
    have hi:i<ar.length:=by
      have h1:=congrArg List.length hd;simp only[Sy,Rw]at h1;omega
    rw[gA hi]at hd
    injection hd with h1 h2
    rw[aG,h i ys s hi _ hl hs,h1];simp only[cg];cases hb:gL s l
    · rfl
    · simp only[cond_true];rw[sj h hn ls (i+1) (ys++[shapeOf s l]) (shapeOf s l) k (by omega) h2 (by simp[hl]) (by rw[Rn (by omega),hl];simp) (by simpa using hk)]
      cases cg (shapeOf s l) ls with
      |none=>rfl
      |some t=>simp
def dy (m:Model):List Shape× Bool:=cond (m.inp.okB&&inB (m.ar.length:Int) 1 6) ((cg m.inp m.ar).elim ([],false) λt=>(m.inp::t,true)) ([],false)
theorem mF {m:Model} {k:Nat} (hk:m.tot<k) (hN:m.tot<=aQ) {l:ay} (h:l∈m.ar):l.tot<k/\l.tot<=aQ:=by
 have:=fc ay.tot h;unfold Model.tot at hk hN;omega
theorem gi {m:Model} {k:Nat} (hk:m.tot<k) (hN:m.tot<=aQ):m.ar.length<k/\m.ar.length<=aQ:=by
 have:=bu ay.tot m.ar;unfold Model.tot at hk hN;omega
theorem mZ {k:Nat} {m:Model} (hk:m.tot<k) (hN:m.tot<=aQ):jl k m=some (dy m):=by
  have hM:=ao;obtain⟨hlk,hlN⟩:=gi hk hN;unfold jl dy;simp only[ka,cF,aa,dt];cases m.inp.okB
  · rfl
  cases hlen:inB (m.ar.length:Int) 1 6
  · rfl
  rw[cn]at hlen;simp only[cond_true,Rs]
  have:=sj (ar:=m.ar) (V:=Int× List Shape) (st:=λi ys s=>((i:Int),ys)) (fin:=λy=>some (y,true)) (bad:=some (([]:List Shape),false))
    (g:=λu next=>gC k (m.inp.h,m.inp.w,m.inp.c,m.ar) u next (λy6=>some (y6,true)) (λy7=>some (([]:List Shape),y7))) (λi ys s hi next hl hs=>by
      obtain⟨a1,a2⟩:=mF hk hN (Rp hi);simp only[gC];rw[ab,if_pos (by omega),ab,if_pos (by omega),Rm,hs,aa,aC,ag hi,aa,oN a1 a2,aa,aq hi (by omega),cE (by simp;omega)];unfold gR
      cases gL s m.ar[i]<;>rfl) (λys s next=>by
      simp only[gC];rw[ab,if_neg (by omega)]) m.ar 0 [m.inp] m.inp k (by omega) rfl rfl rfl hlk
  refine this.trans ?_;cases cg m.inp m.ar<;>rfl
def tN (m:Model):List Shape× Bool:=(cg m.inp m.ar).elim ([],false) λt=>(m.inp::t,true)
theorem nG {k:Nat} {m:Model} (hk:m.tot<k) (hN:m.tot<aQ):gE k m=some (tN m):=by
  have hM:=ao;obtain⟨hlk,hlN⟩:=gi hk (TK hN)
  have hb:m.ar.length+1<=aQ:=by have:=bu ay.tot m.ar;unfold Model.tot at hN;omega
  unfold gE tN
  have := sj (ar := m.ar) (V := Int × List Shape × Int × Int × Int) (st := λ i ys s => ((i : Int), ys, s.h, s.w, s.c)) (fin := λ y => some (y, true)) (bad := some (([] : List Shape), false))
      (g:=λu next=>eR k (m.ar,(m.ar.length:Int)) u next (λy3=>some (y3,true)) (λy4=>some (([]:List Shape),y4))) (λi ys s hi next hl hs=>by
        obtain⟨a1,a2⟩:=mF hk (TK hN) (Rp hi);simp only[eR];rw[ab,if_pos (by omega),aC,ag hi,aa,oO a1 a2,aa,aq hi (by omega),cE (by simp;omega)];unfold gR
        cases gL s m.ar[i]<;>rfl) (λys s next=>by
        simp only[eR];rw[ab,if_neg (by omega)]) m.ar 0 [m.inp] m.inp k (by omega) rfl rfl rfl hlk
  refine this.trans ?_;cases cg m.inp m.ar<;>rfl
theorem Jv {s:Shape} {ls:List ay} (hs:s.okB=false) (hl:ls≠[]):cg s ls=none:=by
 cases ls with
 |nil=>exact(hl rfl).elim
 |cons l ls=>simp[cg,gL,hs]
def di (m:Model):Bool:=(dy m).2
theorem vM {m:Model} (h:inB (m.ar.length:Int) 1 6=true):tN m=dy m:=by
 unfold tN dy;rw[h,Tz];cases hs:m.inp.okB
 ·rw[Jv hs (λe=>by rw[e]at h;exact nomatch h)];rfl
 ·rfl
theorem A7 {m:Model} (h:inB (m.ar.length:Int) 1 6=false):di m=false:=by
 unfold di dy;rw[h,Tn];rfl
theorem p6 {k:Nat} {m:Model} (hk:m.tot<k) (hN:m.tot<=aQ):ns k m=some (di m):=by
 unfold ns;rw[mZ hk hN];rfl
theorem mG {k:Nat} {m:Model} (hk:m.tot<k) (hN:m.tot<aQ):jV k m=some (di m):=by
 unfold jV;rw[fA,aa,dt,nG hk hN];cases h:inB (m.ar.length:Int) 1 6
 ·rw[A7 h];rfl
 ·rw[vM h];rfl
def cd (m:Model):List Shape:=cond (di m) (dy m).1 []
theorem tO {k:Nat} {m:Model} (hk:m.tot<k) (hN:m.tot<aQ):nt k m=some (cd m):=by
 unfold nt cd;rw[mG hk hN,aa,dt,nG hk hN];cases h:di m
 ·rfl
 ·have:inB (m.ar.length:Int) 1 6=true:=by
   cases h2:inB (m.ar.length:Int) 1 6
   ·rw[A7 h2]at h;exact nomatch h
   ·rfl
  rw[vM this];rfl
theorem mH {m:Model} (h:di m=true):(cd m).length=m.ar.length+1:=by
 unfold cd;rw[h,cond_true];unfold di at h;unfold dy at h⊢;cases h1:(m.inp.okB&&inB (m.ar.length:Int) 1 6)<;>rw[h1]at h
 ·exact nomatch h
 ·simp only[cond_true]at h⊢
  cases h2:cg m.inp m.ar with
  |none=>rw[h2]at h;exact nomatch h
  |some t=>simp[rA _ _ _ h2]
def LD (s t:Shape) (l:ay):Int:=
  cond (decide (l.kind=0)) (IntKind.i64.wrap (1+(IntKind.i64.wrap ((IntKind.i64.wrap (t.size*s.size)).tdiv 16))))
  (cond (decide (l.kind=1)) (IntKind.i64.wrap (1+(IntKind.i64.wrap ((IntKind.i64.wrap ((IntKind.i64.wrap ((IntKind.i64.wrap (t.size*l.size))*l.size))*s.c)).tdiv 16))))
  (cond (decide (l.kind=2)) (IntKind.i64.wrap (1+(IntKind.i64.wrap ((IntKind.i64.wrap ((IntKind.i64.wrap (t.size*l.size))*l.size)).tdiv 16))))
  (cond (decide (l.kind=3)) (IntKind.i64.wrap (1+(IntKind.i64.wrap ((IntKind.i64.wrap ((IntKind.i64.wrap (t.size*l.size))*l.size)).tdiv 16))))
   (IntKind.i64.wrap (1+(IntKind.i64.wrap (s.size.tdiv 16)))))))
def yB (s:Shape) (l:ay):Int:=cond (gR s l).2 (LD s (gR s l).1 l) 0
theorem GG {k:Nat} {s:Shape} {l:ay} (hk:l.tot<k) (hN:l.tot<=aQ):wA k s l=some (yB s l):=by
 unfold wA yB LD;simp only[oN hk hN,oK,aa,dt,Et];cases(gR s l).2
 ·rfl
 simp only[cond_true];cases decide (l.kind=0)<;>cases decide (l.kind=1)<;>cases decide (l.kind=2)<;>cases decide (l.kind=3)<;>rfl
theorem GH {k:Nat} {s:Shape} {l:ay} (hk:l.tot<k) (hN:l.tot<=aQ):wB k s l=some (yB s l):=by
 unfold wB yB LD;simp only[oO hk hN,se,aa,dt,Et];rw[Int.mul_comm s.size];cases(gR s l).2
 ·rfl
 simp only[cond_true];cases decide (l.kind=0)<;>cases decide (l.kind=1)<;>cases decide (l.kind=2)<;>cases decide (l.kind=3)<;>rfl
def bq (m:Model):List Int:=cond (di m) ((List.range m.ar.length).map λi=>yB ((cd m).getD i iR) (m.ar.getD i ⟨0,0,0,0,0,0,0,[],[]⟩)) []
theorem bE {α:Type} {xs:List α} {i:Nat} (h:i<xs.length) (d:α):xs.getD i d=xs[i]:=by rw[RO,ag h];rfl
theorem kg {k:Nat} {m:Model} (hk:m.tot<k) (hN:m.tot<=aQ):jU k m=some (bq m):=by
 have hM:=ao;obtain⟨hlk,hlN⟩:=gi hk hN;unfold jU bq;rw[mZ hk hN,aa,dt];show cond (di m) _ _=_;cases h:di m
 ·rfl
 have hsl:=mH h
 have e:(dy m).1=cd m:=by unfold cd;rw[h];rfl
 simp only[cond_true,e]
 exact LB m.ar.length _ (g:=λu next=>jT k (m.inp.h,m.inp.w,m.inp.c,m.ar,cd m) u next (λy5=>some y5)) (fin:=some) (λi ys hi next hl=>by
  obtain⟨a1,a2⟩:=mF hk hN (Rp hi);simp only[jT]
  rw[ab,if_pos (by omega),ab,if_pos (by omega),Rm,ag (show i<(cd m).length by omega),aa,aC,ag hi,aa,GG a1 a2,aa,cE (by simp;omega),aq hi (by omega),bE (show i<(cd m).length by omega),bE hi]) (λys next=>by
  simp only[jT];rw[ab,if_neg (by omega)]) hlk
theorem kh {k:Nat} {m:Model} (hk:m.tot+1<k) (hN:m.tot<aQ):jX k m=some (bq m):=by
  have hM:=ao;obtain⟨hlk,hlN⟩:=gi (show m.tot<k-1 by omega) (TK hN);unfold jX bq;rw[tO (by omega) hN,aa];cases h:di m
  · have:cd m=[]:=by unfold cd;rw[h];rfl
    rw[this]
    cases k with
    |zero=>omega
    |succ k=>rfl
  have hsl:=mH h;simp only[cond_true];rw[hsl]
  have := ep (R := List Int) (g := λ u next => jW k (((m.ar.length + 1 : Nat) : Int), m.inp.h, m.inp.w, m.inp.c, m.ar, cd m) u next (λ y5 => some y5)) (n := m.ar.length + 1)
    (st:=λi=>((i:Int),(List.range (min i m.ar.length)).map λi=>yB ((cd m).getD i iR) (m.ar.getD i ⟨0,0,0,0,0,0,0,[],[]⟩)))
    (r := some ((List.range m.ar.length).map λ i => yB ((cd m).getD i iR) (m.ar.getD i ⟨0, 0, 0, 0, 0, 0, 0, [], []⟩))) (λ i hi next => by
      simp only[jW];rw[ab,if_pos (by omega),ab,if_pos (by omega),Rm,ag (show i<(cd m).length by omega),aa,aq hi (by omega),ab];by_cases c:i<m.ar.length
      · obtain⟨a1,a2⟩:=mF (show m.tot<k by omega) (TK hN) (Rp c);rw[if_pos (by omega),aC,ag c,aa,GH a1 a2,aa,cE (by simp;omega),TB (by omega),TB (by omega),SW,Sv,List.map_singleton,bE (show i<(cd m).length by omega),bE c]
      · rw[if_neg (by omega),Nat.min_eq_right (by omega),Nat.min_eq_right (by omega)]) (λnext=>by
      simp only[jW]
      rw[ab,if_neg (by omega),Nat.min_eq_right (by omega)]) (k:=k) (by omega)
  simpa using this
def yC (m:Model):Int:=(bq m).foldl (λs x=>IntKind.i64.wrap (s+x)) 0
theorem jq (m:Model):(bq m).length<=m.ar.length:=by
 unfold bq;cases di m<;>simp
theorem zS {k:Nat} {m:Model} (hk:m.tot<k) (hN:m.tot<=aQ):ow k m=some (yC m):=by
 have hM:=ao;obtain⟨hlk,hlN⟩:=gi hk hN;have hc:=jq m;unfold ow;rw[kg hk hN,aa]
 exact pR (bq m) (λs x=>IntKind.i64.wrap (s+x)) (g:=λu next=>gD k (bq m) u next (λy3=>some y3)) (fin:=some) 0 (λi s hi next _=>by
  simp only[gD]
  rw[ab,if_pos (by omega),ab,if_pos (by omega),Rm,ag hi,aa,aq hi (by omega)]) (λnext=>by
  simp only[gD];rw[ab,if_neg (by omega)]) (by omega)
theorem Cz {k:Nat} {xs:List Int} (hk:xs.length<k) (hN:xs.length<=aQ):LA k xs=some (xs.foldl (λs x=>IntKind.i64.wrap (s+x)) 0):=by
 have hM:=ao
 exact pR xs (λs x=>IntKind.i64.wrap (s+x)) (g:=λu next=>tp k (xs,(xs.length:Int)) u next (λy2=>some y2)) (fin:=some) 0 (λi s hi next _=>by
  simp only[tp]
  rw[ab,if_pos (by omega),aC,ag hi,aa,aq hi (by omega)]) (λnext=>by
  simp only[tp];rw[ab,if_neg (by omega)]) hk
theorem zT {k:Nat} {m:Model} (hk:m.tot+1<k) (hN:m.tot<aQ):oz k m=some (yC m):=by
 obtain⟨hlk,hlN⟩:=gi (show m.tot<k by omega) (TK hN);have hc:=jq m;unfold oz;rw[kh hk hN,aa,Cz (by omega) (by omega)];rfl
end
section
end
section
end
section
theorem Ew {k:Nat} {l:ay} (hk:l.tot<k) (hN:l.tot<=aQ):tq k l=some l:=by
 unfold ay.tot at hk hN;unfold tq;rw[ke (by omega) (by omega),aa,ke (by omega) (by omega)];rfl
theorem vc {k:Nat} {l:ay} (hN:l.tot<=aQ):jA k l=some l:=by
 unfold ay.tot at hN;unfold jA;rw[cS (by omega),aa,cS (by omega)];rfl
theorem vd {k:Nat} {xs:List ay} (hk:fy ay.tot xs<k) (hN:fy ay.tot xs<=aQ):mW k xs=some xs:=by
 have hM:=ao;have hl:=bu ay.tot xs
 have:=tb xs (λx=>x) (g:=λu next=>eS k (xs,(xs.length:Int)) u next (λy3=>some y3)) (fin:=some) (λi ys hi next hys=>by
  have hm:=fc ay.tot (Rp hi);simp only[eS]
  rw[ab,if_pos (by omega),aC,ag hi,aa,vc (by omega),aa,cE (by omega),aq hi (by omega)]) (λys next=>by
  simp only[eS];rw[ab,if_neg (by omega)]) (k:=k) (by omega)
 rw[TL]at this;exact this
theorem nH {k:Nat} {m:Model} (hk:m.tot<k) (hN:m.tot<=aQ):gF k m=some m:=by
 unfold Model.tot at hk hN;unfold gF;rw[vd (by omega) (by omega)];rfl
theorem p7 {k:Nat} {m:Model} (hk:m.tot<k) (hN:m.tot<=aQ):pW k m=some m:=by
 have hM:=ao;obtain⟨hlk,hlN⟩:=gi hk hN
 have:=tb m.ar (λx=>x) (g:=λu next=>jY k (m.inp.h,m.inp.w,m.inp.c,m.ar,(0:Int),(0:Int),(0:Int),m.inp.h,m.inp.w,m.inp.c) u next (λy3=>some (⟨m.inp,y3⟩:Model))) (fin:=λy3=>some (⟨m.inp,y3⟩:Model)) (λi ys hi next hys=>by
  obtain⟨a1,a2⟩:=mF hk hN (Rp hi);simp only[jY]
  rw[ab,if_pos (by omega),aC,ag hi,aa,Ew a1 a2,aa,cE (by omega),aq hi (by omega)]) (λys next=>by
  simp only[jY];rw[ab,if_neg (by omega)]) (k:=k) hlk
 rw[TL]at this;exact this
theorem yD {k:Nat} {j:Job} (hk:j.tot<k) (hN:j.tot<=aQ):mg k j=some j:=by
 unfold Job.tot ak.tot at hk hN;unfold mg;rw[nH (by omega) (by omega),aa,mD (by omega)];rfl
def da:Model:=⟨⟨0,0,0⟩,[]⟩
end
section
def Q3 (xs:List Int):Int:=xs.foldl (λs x=>IntKind.i64.wrap (s+x)) 0
theorem CA (a b:Shape):(cond (a.h==b.h) (cond (a.w==b.w) (cond (a.c==b.c) (true) false) false) false)=decide (a=b):=by
 obtain⟨a1,a2,a3⟩:=a;obtain⟨b1,b2,b3⟩:=b;by_cases h1:a1=b1<;>by_cases h2:a2=b2<;>by_cases h3:a3=b3<;>simp[h1,h2,h3]
def ua (j:Job):Bool:=di j.model&&(inB j.at_ 0 j.model.ar.length&&(j.act.okB&&(decide (j.act.sh=(cd j.model).getD j.at_.toNat iR)&&decide (j.iU=Q3 ((bq j.model).take j.at_.toNat)))))
theorem ik {m:Model} (h:di m=true):(bq m).length=m.ar.length:=by
 unfold bq;rw[h];simp
theorem A8 {k:Nat} {j:Job} (hk:j.tot+1<k) (hN:j.tot<aQ):xU k j=some (ua j):=by
 have hM:=ao;unfold Job.tot ak.tot at hk hN
 have hmk:j.model.tot+1<k:=by omega
 have hmN:j.model.tot<aQ:=by omega
 obtain⟨hlk,hlN⟩:=gi (show j.model.tot<k by omega) (TK hmN);unfold xU ua;rw[mG (by omega) hmN,aa];cases hm:di j.model
 ·rfl
 have hsl:=mH hm;have hcl:=ik hm;simp only[cond_true,Rs,fA,aa];cases hin:inB j.at_ 0 j.model.ar.length
 ·rfl
 rw[cn]at hin;simp only[cond_true,Rs];rw[oL (by omega) (by unfold pc;omega),aa];cases j.act.okB
 ·rfl
 have hi:j.at_.toNat<(cd j.model).length:=by omega
 simp only[cond_true,Rs];rw[tO (by omega) hmN,aa,ab,if_pos (by omega),ag hi,aa,CA,bE hi];cases decide (j.act.sh=(cd j.model)[j.at_.toNat])
 ·rfl
 simp only[cond_true,Rs]
 have htl:(((bq j.model).drop 0).take (j.at_.toNat-0)).length<=(bq j.model).length:=by simp;omega
 rw[kh hmk hmN,aa,ab,if_pos (by omega),Cz (by omega) (by omega),aa,Et,TG,R5];rfl
theorem qV {k:Nat} {j:Job} (hk:j.tot<k) (hN:j.tot<=aQ):rZ k j=some (ua j):=by
  have hM:=ao;unfold Job.tot ak.tot at hk hN
  have hmk:j.model.tot<k:=by omega
  have hmN:j.model.tot<=aQ:=by omega
  obtain⟨hlk,hlN⟩:=gi hmk hmN;unfold rZ ua;rw[mZ hmk hmN,aa,dt];show cond (di j.model) _ _=_;cases hm:di j.model
  · rfl
  have hsl:=mH hm;have hcl:=ik hm
  have e:(dy j.model).1=cd j.model:=by unfold cd;rw[hm];rfl
  simp only[cond_true,Rs,cF,aa,dt,e];cases hin:inB j.at_ 0 j.model.ar.length
  · rfl
  rw[cn]at hin;simp only[cond_true,Rs];rw[gg (by omega) (by unfold pc;omega),aa];cases j.act.okB
  · rfl
  have hi:j.at_.toNat<(cd j.model).length:=by omega
  simp only[cond_true,Rs];rw[ab,if_pos (by omega),ag hi,aa,CA,bE hi];cases decide (j.act.sh=(cd j.model)[j.at_.toNat])
  · rfl
  simp only[cond_true,Rs];rw[kg hmk hmN,aa]
  have htl:((bq j.model).take j.at_.toNat).length=j.at_.toNat:=by simp;omega
  have:=pR ((bq j.model).take j.at_.toNat) (λs x=>IntKind.i64.wrap (s+x)) (R:=Bool)
    (g:=λu next=>nu k (j.model.inp.h,j.model.inp.w,j.model.inp.c,j.model.ar,j.at_,j.act.sh.h,j.act.sh.w,j.act.sh.c,j.act.data,j.iU,bq j.model) u next (λy7=>some (j.iU==y7))) (fin:=λy7=>some (j.iU==y7)) 0 (λi s hi next _=>by
      rw[htl]at hi
      have hi2:i<(bq j.model).length:=by omega
      simp only[nu]
      rw[ab,if_pos (by omega),ab,if_pos (by omega),Rm,ag hi2,aa,aq hi2 (by omega),List.getElem_take]) (λnext=>by
      simp only[nu];rw[ab,if_neg (by omega)]) (k:=k) (by omega)
  rw[this,Et];rfl
def Q4:Job:=⟨⟨⟨0,0,0⟩,[]⟩,0,⟨⟨0,0,0⟩,[]⟩,0⟩
def dm (m:Model) (t:ak):Job× Bool:=cond (ua ⟨m,0,t,0⟩) (⟨m,0,t,0⟩,true) (Q4,false)
theorem CB {k:Nat} {m:Model} {t:ak} (hk:m.tot+t.tot<k) (hN:m.tot+t.tot<=aQ):qE k m t=some (dm m t):=by
 have ht:t.tot=t.data.length:=rfl;unfold qE dm;rw[p7 (by omega) (by omega),aa,mE (by omega) (by omega),aa,qV (by simp only[Job.tot];omega) (by simp only[Job.tot];omega),aa,dt];cases ua ⟨m,0,t,0⟩<;>rfl
theorem CC {k:Nat} {m:Model} {t:ak} (hk:m.tot+t.tot+1<k) (hN:m.tot+t.tot<aQ):qF k m t=some (dm m t):=by
 unfold qF dm;rw[A8 (by simp only[Job.tot];omega) (by simp only[Job.tot];omega),aa,dt];cases ua ⟨m,0,t,0⟩
 ·rfl
 ·simp only[cond_true];rw[yD (by simp only[Job.tot];omega) (by simp only[Job.tot];omega)];rfl
theorem vN (m:Model) (t:ak):(dm m t).1.tot<=m.tot+t.tot:=by
 unfold dm;cases ua ⟨m,0,t,0⟩
 ·exact RX _
 ·simp only[cond_true,Job.tot];omega
end
section
theorem yE (w a:Nat):(BitVec.ofInt w (a:Int)).toNat=a %2^w:=by
 simp
theorem Qj {a b n:Nat} (ha:a<2^n) (hb:b*2^n+a<9223372036854775808):
  IntKind.i64.wrap (((BitVec.ofInt IntKind.i64.bits (a:Int)||| BitVec.ofInt IntKind.i64.bits ((b*2^n:Nat):Int)).toNat:Nat):Int)=((a+b*2^n:Nat):Int):=by
 have h1:a %2^64=a:=R4 (by omega);have h2:(b*2^n) %2^64=b*2^n:=R4 (by omega)
 have h3:a||| b*2^n=a+b*2^n:=by
  have:=Nat.two_pow_add_eq_or_of_lt ha b;rw[Nat.or_comm,RV b,<-this,Nat.add_comm]
 have e:(BitVec.ofInt IntKind.i64.bits (a:Int)||| BitVec.ofInt IntKind.i64.bits ((b*2^n:Nat):Int)).toNat=a+b*2^n:=by
  rw[BitVec.toNat_or,yE,yE];show a %2^64||| (b*2^n) %2^64=_;rw[h1,h2,h3]
 rw[e,aH (by omega) (by omega)]
theorem Pj {c:Nat} (h:c<256):IntKind.i64.wrap (IntKind.u8.wrap (((BitVec.ofInt IntKind.u8.bits (c:Int)&&& BitVec.ofInt IntKind.u8.bits (127:Int)).toNat:Nat):Int))=((c %128:Nat):Int):=by
 have e:(BitVec.ofInt IntKind.u8.bits (c:Int)&&& BitVec.ofInt IntKind.u8.bits (127:Int)).toNat=c %128:=by
  rw[BitVec.toNat_and,yE];show c %2^8&&& 127=_;rw[R4 (by omega)];exact Nat.and_two_pow_sub_one_eq_mod c 7
 rw[e,Qi (by omega) (by omega),aH (by omega) (by omega)]
def p8 (b:List Int) (at_:Nat):Nat->Nat->Nat->Int× Int
  |0,_,_=>(0,-1)
  | f + 1, i, u =>
    match b[at_+i]? with
    |none=>(0,-1)
    | some c =>
      cond (decide (128<=c.toNat)) (p8 b at_ f (i+1) (u+c.toNat %128*2^(7*i)))
        (cond ((decide (0<i)&&decide (c.toNat=0))||decide (2199023255551<u+c.toNat %128*2^(7*i))) (0,-1)
          (cond (decide ((u+c.toNat %128*2^(7*i)) %2=1)) (-(((u+c.toNat %128*2^(7*i)+1)/2:Nat):Int)) (((u+c.toNat %128*2^(7*i))/2:Nat):Int),((at_+i+1:Nat):Int)))
def eI (b:List Int) (at_:Int):Int× Int:=cond (decide (0<=at_)) (p8 b at_.toNat 6 0 0) (0,-1)
theorem A9 {i:Nat} (hi:i<6):(2:Int)^(min (IntKind.u64.wrap (IntKind.i64.wrap ((7:Int)*(i:Int)))).toNat IntKind.i64.bits)=((2^(7*i):Nat):Int)/\
  (2:Int)^(min (IntKind.i64.wrap ((7:Int)*(i:Int))).toNat IntKind.i64.bits)=((2^(7*i):Nat):Int):=by
 have:i=0\/i=1\/i=2\/i=3\/i=4\/i=5:=by omega
 rcases this with rfl|rfl|rfl|rfl|rfl|rfl<;>exact⟨by kernel_rfl,by kernel_rfl⟩
theorem CD {i u c:Nat} (hi:i<6) (hu:u<2^(7*i)):u+c %128*2^(7*i)<2^(7*(i+1))/\2^(7*(i+1))<=4398046511104:=by
 have h1:2^(7*(i+1))=128*2^(7*i):=by rw[show 7*(i+1)=7*i+7 from by omega,Nat.pow_add];omega
 have h2:c %128*2^(7*i)<=127*2^(7*i):=RD _ (by omega);refine⟨by omega,?_⟩
 have:i=0\/i=1\/i=2\/i=3\/i=4\/i=5:=by omega
 rcases this with rfl|rfl|rfl|rfl|rfl|rfl<;>decide
theorem Ny {i u n:Nat} (hi:i<6) (hu:u<2^(7*i)) (hn:n<256):
  IntKind.i64.wrap ((u:Int)+(IntKind.i64.wrap (((IntKind.i64.wrap (n:Int)).tmod (128:Int))*2^(min (IntKind.u64.wrap (IntKind.i64.wrap ((7:Int)*(i:Int)))).toNat IntKind.i64.bits))))=((u+n %128*2^(7*i):Nat):Int):=by
 have h:=CD (c:=n) hi hu;have e:((n:Int).tmod 128)=((n %128:Nat):Int):=rfl;rw[aH (n:=(n:Int)) (by omega) (by omega),(A9 hi).1,e,<-Sw,aH (n:=((n %128*2^(7*i):Nat):Int)) (by omega) (by omega),<-Int.natCast_add,aH (by omega) (by omega)]
theorem Nz {U:Nat} (h:U<4398046511104):IntKind.i64.wrap ((IntKind.i64.wrap (0-(IntKind.i64.wrap ((U:Int)+(1:Int))))).tdiv (2:Int))=-(((U+1)/2:Nat):Int):=by
 have e:(-(((U+1:Nat):Int))).tdiv 2=-(((U+1)/2:Nat):Int):=by rw[Int.neg_tdiv];rfl
 rw[aH (n:=(U:Int)+1) (by omega) (by omega),aH (n:=0-((U:Int)+1)) (by omega) (by omega),show(0:Int)-((U:Int)+1)=-((U+1:Nat):Int)from by omega,e,aH (by omega) (by omega)]
theorem yF {U:Nat} (h:U<4398046511104):IntKind.i64.wrap ((U:Int).tdiv (2:Int))=((U/2:Nat):Int):=by
 have e:(U:Int).tdiv 2=((U/2:Nat):Int):=rfl;rw[e,aH (by omega) (by omega)]
theorem HY (U:Nat):((U:Int).tmod 2==(1:Int))=decide (U %2=1):=by
 have e:(U:Int).tmod 2=((U %2:Nat):Int):=rfl;rw[Et,e]
 congr 1
 rw[eq_iff_iff];omega
theorem yG {b:List Int} {a kk:Nat} (hb:∀x∈b,okB x) (hl:b.length<=aQ):∀(f i u k:Nat),i+f=6->u<2^(7*i)->f<k->
  iter (λu4 n4=>fZ kk (b,(a:Int)) u4 n4 (λy2=>some ((0:Int),(-1:Int))) (λy3=>some (y3.1,y3.2))) k ((u:Int),(i:Int))=some (p8 b a f i u)
 |f,i,u,0,_,_,hk=>by omega
 |0,i,u,k+1,hi,_,_=>by
  rw[aG];simp only[fZ]
  rw[ab,if_neg (by omega)];rfl
 |f+1,i,u,k+1,hi,hu,hk=>by
  have hM:=ao
  have hi6:i<6:=by omega
  rw[aG];simp only[fZ,p8];rw[ab,if_pos (by omega),ab,if_neg (by omega),aH (n:=(b.length:Int)-(i:Int)) (by omega) (by omega),ab];by_cases hin:a+i<b.length
  ·rw[if_neg (by omega),aH (n:=(a:Int)+(i:Int)) (by omega) (by omega),show(a:Int)+(i:Int)=((a+i:Nat):Int)from by omega,aC,ag hin,aa];have hc:=hb b[a+i] (Rp hin);unfold okB at hc;obtain⟨n,hn⟩:∃n:Nat,b[a+i]=(n:Int):=⟨b[a+i].toNat,by omega⟩;rw[hn]at hc⊢
   have hn256:n<256:=by omega
   obtain⟨w1,w2⟩:=CD (c:=n) hi6 hu
   have hU:u+n %128*2^(7*i)<4398046511104:=by omega
   simp only[Ny hi6 hu hn256,Nz hU,yF hU,HY,Rm]
   have hsh:IntKind.u64.wrap (IntKind.i64.wrap ((7:Int)*(i:Int)))=((7*i:Nat):Int):=by
    have:i=0\/i=1\/i=2\/i=3\/i=4\/i=5:=by omega
    rcases this with rfl|rfl|rfl|rfl|rfl|rfl<;>decide
   rw[hsh,ab,if_neg (by omega),aH (n:=(n:Int)) (by omega) (by omega),aH (n:=((a+i:Nat):Int)+1) (by omega) (by omega),aH (n:=(i:Int)+1) (by omega) (by omega),ab];by_cases h128:128<=n
   ·rw[if_neg (by omega),decide_eq_true h128,cond_true];exact yG (kk:=kk) hb hl f (i+1) _ k (by omega) w1 (by omega)
   ·rw[if_pos (by omega),decide_eq_false h128,cond_false,Et]
    have e1:decide ((n:Int)=0)=decide (n=0):=by congr 1;rw[eq_iff_iff];omega
    have e2:decide ((i:Int)>0)=decide (0<i):=by congr 1;rw[eq_iff_iff];omega
    have e3:((a+i:Nat):Int)+1=((a+i+1:Nat):Int):=by omega
    have e4:decide ((((u+n %128*2^(7*i)):Nat):Int)>2199023255551)=decide (2199023255551<(u+n %128*2^(7*i))):=by congr 1;rw[eq_iff_iff];omega
    rw[e1,e2,e3,e4];cases decide (2199023255551<(u+n %128*2^(7*i)))<;>cases decide (n=0)<;>cases decide (0<i)<;>cases decide ((u+n %128*2^(7*i)) %2=1)<;>rfl
  ·rw[if_pos (by omega),RJ (by omega)]
theorem CE {k:Nat} {b:List Int} {a:Int} (hk:7<=k) (hb:∀x∈b,okB x) (hl:b.length<=aQ):qK k b a=some (eI b a):=by
 unfold qK eI;by_cases h:0<=a
 ·rw[decide_eq_true h,cond_true];have:=yG (kk:=k) (a:=a.toNat) hb hl 6 0 0 k rfl (by decide) (by omega);rw[Int.toNat_of_nonneg h]at this;exact this
 ·rw[decide_eq_false h,cond_false];obtain⟨k,rfl⟩:∃k',k=k'+1:=⟨k-1,by omega⟩;rw[aG];simp only[fZ];rw[ab,if_pos (by omega),ab,if_pos (by omega)]
theorem Pk {i u n:Nat} (hi:i<6) (hu:u<2^(7*i)) (hn:n<256):
  IntKind.i64.wrap (((BitVec.ofInt IntKind.i64.bits (u:Int)||| BitVec.ofInt IntKind.i64.bits (IntKind.i64.wrap ((IntKind.i64.wrap (IntKind.u8.wrap (((BitVec.ofInt IntKind.u8.bits (n:Int)&&& BitVec.ofInt IntKind.u8.bits (127:Int)).toNat:Int))))*2^(min (IntKind.i64.wrap ((7:Int)*(i:Int))).toNat IntKind.i64.bits)))).toNat:Int))=((u+n %128*2^(7*i):Nat):Int):=by
 have h:=CD (c:=n) hi hu;rw[Pj hn,(A9 hi).2,<-Sw,aH (n:=((n %128*2^(7*i):Nat):Int)) (by omega) (by omega),Qj hu (by omega)]
theorem LF {U:Nat} (h:U<4398046511104) (ho:U %2=1):IntKind.i64.wrap ((IntKind.i64.wrap (0-(IntKind.i64.wrap ((U:Int).tdiv (2:Int)))))-(1:Int))=-(((U+1)/2:Nat):Int):=by
 rw[yF h,aH (n:=0-((U/2:Nat):Int)) (by omega) (by omega),aH (by omega) (by omega)];omega
theorem GI (k:Nat) (x:Int):oE k x=some (inB x (-1099511627776) 1099511627775):=by unfold oE;rw[fA];rfl
theorem yH {b l:List Int} {a kk:Nat} (hb:∀x∈b,okB x) (hlN:b.length<=aQ) (hl:l=(b.take (min (a+6) b.length)).drop a) (ha:a<=b.length):∀(f i u k:Nat),i+f=6->u<2^(7*i)->f<k->
    iter (λu9 n9=>iG kk ((a:Int),l,(l.length:Int)) u9 n9 (λy7=>some ((0:Int),(-1:Int))) (λy8=>some (y8.1,y8.2))) k ((u:Int),(i:Int))=some (p8 b a f i u)
  |f,i,u,0,_,_,hk=>by omega
  | 0, i, u, k + 1, hi, _, _ => by
    have hll:l.length<=6:=by rw[hl];simp;omega
    rw[aG];simp only[iG]
    rw[ab,if_neg (by omega)];rfl
  | f + 1, i, u, k + 1, hi, hu, hk => by
    have hM:=ao
    have hi6:i<6:=by omega
    have hll:l.length=min 6 (b.length-a):=by rw[hl];simp;omega
    rw[aG];generalize hnx:iter _ k=nx;simp only[iG,p8];by_cases hin:a+i<b.length
    · have hli:i<l.length:=by omega
      have hget:l[i]=b[a+i]:=by subst hl;simp
      rw[ab,if_pos (by omega),aC,ag hli,aa,ag hin,hget];have hc:=hb b[a+i] (Rp hin);unfold okB at hc;obtain⟨n,hn⟩:∃n:Nat,b[a+i]=(n:Int):=⟨b[a+i].toNat,by omega⟩;rw[hn]at hc⊢
      have hn256:n<256:=by omega
      obtain⟨w1,w2⟩:=CD (c:=n) hi6 hu
      have hU:u+n %128*2^(7*i)<4398046511104:=by omega
      have hsh:IntKind.i64.wrap ((7:Int)*(i:Int))=((7*i:Nat):Int):=by
        rw[aH (by omega) (by omega)];omega
      have hnn:¬(IntKind.i64.wrap ((7:Int)*(i:Int))<0):=by rw[hsh];omega
      rw[decide_eq_false hnn,cond_false];simp only[Pk hi6 hu hn256,HY,Rm,GI,aa,dt];rw[aH (n:=(a:Int)+(i:Int)) (by omega) (by omega),show(a:Int)+(i:Int)=((a+i:Nat):Int)from by omega,aH (n:=((a+i:Nat):Int)+1) (by omega) (by omega),aH (n:=(i:Int)+1) (by omega) (by omega),ab];by_cases h128:128<=n
      · rw[if_pos (by omega),decide_eq_true h128,cond_true];rw[<-hnx];exact yH (kk:=kk) hb hlN hl ha f (i+1) _ k (by omega) w1 (by omega)
      · rw [if_neg (by omega), decide_eq_false h128, cond_false, Et]
        have e1:decide ((n:Int)=0)=decide (n=0):=by congr 1;rw[eq_iff_iff];omega
        have e2:decide ((i:Int)>0)=decide (0<i):=by congr 1;rw[eq_iff_iff];omega
        have e3:((a+i:Nat):Int)+1=((a+i+1:Nat):Int):=by omega
        rw[e1,e2,e3];by_cases ho:(u+n %128*2^(7*i)) %2=1
        · rw[decide_eq_true ho,LF hU ho]
          have e4:inB (-(((u+n %128*2^(7*i)+1)/2:Nat):Int)) (-1099511627776) 1099511627775=!decide (2199023255551<(u+n %128*2^(7*i))):=by
            rw[TA,cn,Tk,decide_eq_false_iff_not];constructor<;>intro h<;>omega
          rw[e4];cases decide (2199023255551<(u+n %128*2^(7*i)))<;>cases decide (n=0)<;>cases decide (0<i)<;>rfl
        · rw[decide_eq_false ho,yF hU]
          have e4:inB (((u+n %128*2^(7*i))/2:Nat):Int) (-1099511627776) 1099511627775=!decide (2199023255551<(u+n %128*2^(7*i))):=by
            rw[TA,cn,Tk,decide_eq_false_iff_not];constructor<;>intro h<;>omega
          rw[e4];cases decide (2199023255551<(u+n %128*2^(7*i)))<;>cases decide (n=0)<;>cases decide (0<i)<;>rfl
    · rw[ab,if_neg (by omega),RJ (by omega)]
theorem CF {k:Nat} {b:List Int} {a:Int} (hk:7<=k) (hb:∀x∈b,okB x) (hl:b.length<=aQ):qL k b a=some (eI b a):=by
  have hM:=ao;unfold qL eI;rw[fA,aa,dt,aH (n:=(b.length:Int)-1) (by omega) (by omega)];by_cases h:0<=a
  · rw [decide_eq_true h, cond_true];by_cases h2:a<b.length
    · have e:inB a 0 ((b.length:Int)-1)=true:=cn.2 (by omega)
      have e6:(if IntKind.i64.wrap (a+6)<(b.length:Int)then IntKind.i64.wrap (a+6)else(b.length:Int))=((min (a.toNat+6) b.length:Nat):Int):=by
        rw[aH (by omega) (by omega)];split<;>omega
      rw[e,cond_true,e6,ab,if_pos (by omega),ab,if_pos (by omega),Rm];have:=yH (kk:=k) (l:=(b.take (min (a.toNat+6) b.length)).drop a.toNat) (a:=a.toNat) hb hl rfl (by omega) 6 0 0 k rfl (by decide) (by omega);rw[Int.toNat_of_nonneg h]at this;exact this
    · have e:inB a 0 ((b.length:Int)-1)=false:=by rw[<-Bool.not_eq_true,cn];omega
      rw[e,cond_false];simp only[p8];rw[RJ (by omega)]
  · have e:inB a 0 ((b.length:Int)-1)=false:=by rw[<-Bool.not_eq_true,cn];omega
    rw[decide_eq_false h,cond_false,e];rfl
end
section
def aR (b:List Int) (at_:Int) (bad:Bool):Int× Int× Bool:=
 cond bad (0,at_,true) (cond (decide ((eI b at_).2<0)) (0,at_,true) ((eI b at_).1,(eI b at_).2,false))
theorem mI {k:Nat} {b:List Int} {a:Int} {bad:Bool} (hk:7<=k) (hb:∀x∈b,okB x) (hl:b.length<=aQ):cC k b a bad=some (aR b a bad):=by
 unfold cC aR;simp only[CE hk hb hl,aa,decide_true,cond_true];cases bad<;>cases decide ((eI b a).2<0)<;>rfl
theorem lQ {k:Nat} {b:List Int} {a:Int} {bad:Bool} (hk:7<=k) (hb:∀x∈b,okB x) (hl:b.length<=aQ):aD k ⟨b,a,bad⟩=some (aR b a bad):=by
 unfold aD aR;simp only[CF hk hb hl,aa,decide_true,cond_true];cases bad<;>cases decide ((eI b a).2<0)<;>rfl
end
section
theorem Ba {b:List Int} {a:Nat}:∀(f i u:Nat),(p8 b a f i u).2=-1\/((a:Int)<(p8 b a f i u).2/\(p8 b a f i u).2<=b.length)
 |0,i,u=>.inl rfl
 |f+1,i,u=>by
  simp only[p8]
  cases hc:b[a+i]? with
  |none=>exact .inl rfl
  |some c=>
   have hlt:=(Of.1 hc).1;simp only;cases decide (128<=c.toNat)
   ·simp only[cond_false];cases((decide (0<i)&&decide (c.toNat=0))||decide (2199023255551<u+c.toNat %128*2^(7*i)))
    ·simp only[cond_false];right;omega
    ·exact .inl rfl
   ·exact Ba f (i+1) _
theorem Ey (b:List Int) (a:Int):(eI b a).2=-1\/(0<=a/\a<(eI b a).2/\(eI b a).2<=b.length):=by
 unfold eI;by_cases h:0<=a
 ·rw[decide_eq_true h,cond_true]
  rcases Ba (b:=b) (a:=a.toNat) 6 0 0 with h1|h1
  ·exact .inl h1
  ·right;omega
 ·rw[decide_eq_false h];exact .inl rfl
def Qk (b:List Int) (a:Int):Option (Int× Int):=cond (decide ((eI b a).2<0)) none (some (eI b a))
theorem NA {b:List Int} {a x p:Int} (h:Qk b a=some (x,p)):0<=a/\a<p/\p<=b.length:=by
 unfold Qk at h
 rcases Ey b a with h1|h1
 ·rw[h1]at h;exact nomatch h
 ·rw[decide_eq_false (by omega),cond_false,It]at h;rw[h]at h1;exact h1
theorem CG (b:List Int) (a:Int):aR b a false=(Qk b a).elim (0,a,true) λq=>(q.1,q.2,false):=by
 unfold aR Qk;cases decide ((eI b a).2<0)<;>rfl
def bW (b:List Int) (a:Int) (bad:Bool) (most:Int):Int× Int× Bool:=cond (inB (aR b a bad).1 0 most) (aR b a bad) (0,(aR b a bad).2.1,true)
theorem Bb {k:Nat} {b:List Int} {a most:Int} {bad:Bool} (hk:7<=k) (hb:∀x∈b,okB x) (hl:b.length<=aQ):dr k ⟨b,a,bad⟩ most=some (bW b a bad most):=by
 unfold dr bW;simp only[lQ hk hb hl,fA,aa,decide_true,cond_true,dt];cases inB (aR b a bad).1 0 most<;>rfl
theorem Jw {k:Nat} {b:List Int} {a:Int} {bad:Bool} (hk:7<=k) (hb:∀x∈b,okB x) (hl:b.length<=aQ):er k ⟨b,a,bad⟩=
  some (let r1:=aR b a bad;let r2:=aR b r1.2.1 r1.2.2;let r3:=aR b r2.2.1 r2.2.2;(⟨r1.1,r2.1,r3.1⟩,r3.2.1,r3.2.2)):=by
 unfold er;simp only[lQ hk hb hl,aa,decide_true,cond_true]
end
section
section
variable {R:Type} {k:Nat} {b:List Int} {m:Int} {q1 q2 q3 q4 q5 q6 q7 q8 q9 q10 q11 q12:Int} {d:List Int} {fin:Int× Bool× List Int->Option R}
end
end
section
section
variable {R:Type} {k:Nat} {b:List Int} {m:Int} {q1 q2 q3 q4 q5 q6 q7 q8 q9 q10 q11 q12:Int} {d:List Int} {fin:Int× Bool× List Int->Option R}
end
end
section
def GJ (s x:Int):Int:=(IntKind.i64.wrap ((IntKind.i64.wrap ((IntKind.i64.wrap ((257:Int)*s))+(IntKind.i64.wrap x)))+(1:Int))).tmod (1000003:Int)
def GK (b:List Int):Int:=b.foldl GJ 1
theorem Jx {k:Nat} {b:List Int} (hk:b.length<k) (hl:b.length<=aQ):Cu k b=some (GK b):=by
 have hM:=ao;unfold Cu
 exact pR b GJ (g:=λu next=>nA k b u next (λy2=>some y2)) (fin:=some) 1 (λi s hi next _=>by
  simp only[nA]
  rw[ab,if_pos (by omega),aC,ag hi,aa,aq hi (by omega)];rfl) (λnext=>by
  simp only[nA];rw[ab,if_neg (by omega)]) hk
theorem Jy {k:Nat} {b:List Int} (hk:b.length<k) (hl:b.length<=aQ):xY k b=some (GK b):=by
 have hM:=ao;unfold xY
 exact pR b GJ (g:=λu next=>nB k (b,(b.length:Int)) u next (λy2=>some y2)) (fin:=some) 1 (λi s hi next _=>by
  simp only[nB]
  rw[ab,if_pos (by omega),aC,ag hi,aa,aq hi (by omega),Int.mul_comm s 257];rfl) (λnext=>by
  simp only[nB];rw[ab,if_neg (by omega)]) hk
section
variable {R:Type} {k:Nat} {b:List Int} {m:Int}
end
end
set_option maxRecDepth 100000
set_option maxHeartbeats 4000000
section
def vO (b:List Int):Nat->Int->Bool->List Int->List Int× Int× Bool
 |0,a,bad,ys=>(ys,a,bad)
 |n+1,a,bad,ys=>cond bad (ys,a,bad) (vO b n (aR b a bad).2.1 (aR b a bad).2.2 (ys++[(aR b a bad).1]))
def qW (b:List Int) (a:Int) (bad:Bool):List Int× Int× Bool:=vO b (bW b a bad 2000).1.toNat (bW b a bad 2000).2.1 (bW b a bad 2000).2.2 []
section
variable {k:Nat} {b:List Int} (hk:7<=k) (hb:∀x∈b,okB x) (hl:b.length<=aQ)
include hk hb hl
theorem Bc {a:Int} {bad:Bool}:j6 k b a bad=some (bW b a bad 2000):=by
 unfold j6 bW;simp only[mI hk hb hl,cF,aa,decide_true,cond_true,dt];cases inB (aR b a bad).1 0 2000<;>rfl
theorem yI {R:Type} {fin:List Int× Int× Bool->Option R} {m:Int}:∀(n:Nat) (i a:Int) (bad:Bool) (ys:List Int) (kf:Nat),n<kf->m=i+n->0<=i->m<=100000->ys.length+n<=100000->
  iter (λu4 n4=>eE k (m,b) u4 n4 fin) kf (i,a,bad,ys)=fin (vO b n a bad ys)
 |_,_,_,_,_,0,h,_,_,_,_=>by omega
 |0,i,a,bad,ys,kf+1,_,hm,_,_,_=>by
  rw[aG];show eE k (m,b) _ _ fin=_;unfold eE;simp only
  rw[decide_eq_false (by omega)];rfl
 |n+1,i,a,bad,ys,kf+1,hkf,hm,hi,hm2,hy=>by
  have hM:=ao;rw[aG];show eE k (m,b) _ _ fin=_;unfold eE vO;simp only;rw[decide_eq_true (by omega),cond_true];cases bad
  ·simp only[RL,cond_true,cond_false];rw[mI hk hb hl,aa,cE (by simp;omega),aH (by omega) (by omega)];exact yI n (i+1) _ _ _ kf (by omega) (by omega) (by omega) hm2 (by simp;omega)
  ·rfl
theorem yJ {R:Type} {fin:List Int× Int× Bool->Option R}:∀(n:Nat) (a:Int) (bad:Bool) (ys:List Int) (kf:Nat),n<kf->ys.length+n<=100000->
  iter (λu4 n4=>bR k b u4 n4 fin) kf ((n:Int),a,bad,ys)=fin (vO b n a bad ys)
 |_,_,_,_,0,h,_=>by omega
 |0,a,bad,ys,kf+1,_,_=>by
  rw[aG];show bR k b _ _ fin=_;unfold bR;simp only
  rw[decide_eq_false (by omega)];rfl
 |n+1,a,bad,ys,kf+1,hkf,hy=>by
  have hM:=ao;rw[aG];show bR k b _ _ fin=_;unfold bR vO;simp only;rw[decide_eq_true (by omega),cond_true];cases bad
  ·simp only[RL,cond_true,cond_false];rw[lQ hk hb hl,aa,cE (by simp;omega),aH (by omega) (by omega),show((n+1:Nat):Int)-1=(n:Int)from by omega];exact yJ n _ _ _ kf (by omega) (by simp;omega)
  ·rfl
omit hk hb hl in
theorem qX (b:List Int) (a:Int) (bad:Bool):0<=(bW b a bad 2000).1/\(bW b a bad 2000).1<=2000:=by
 unfold bW;cases h:inB (aR b a bad).1 0 2000
 ·simp only[cond_false];omega
 ·exact of_decide_eq_true h
theorem LG (h3:2001<k) {a:Int} {bad:Bool}:lP k b a bad=some (qW b a bad):=by
 have hc:=qX b a bad;unfold lP;rw[Bc hk hb hl,aa];exact(yI hk hb hl (m:=(bW b a bad 2000).1) (fin:=λy3=>cond (decide (b=b)) (some (y3.1,y3.2.1,y3.2.2)) none) (bW b a bad 2000).1.toNat 0 _ _ [] k (by omega) (by omega) (by omega) (by omega) (by simp;omega)).trans (by rw[decide_eq_true rfl];rfl)
theorem Jz (h3:2001<k) {a:Int} {bad:Bool}:dD k ⟨b,a,bad⟩ 2000=some (qW b a bad):=by
 have hc:=qX b a bad;unfold dD;rw[Bb hk hb hl,aa];have:=yJ hk hb hl (fin:=λy3=>cond (decide (b=b)) (some (y3.1,y3.2.1,y3.2.2)) none) (bW b a bad 2000).1.toNat (bW b a bad 2000).2.1 (bW b a bad 2000).2.2 [] k (by omega) (by simp;omega);rw[show(((bW b a bad 2000).1.toNat:Nat):Int)=(bW b a bad 2000).1 from by omega]at this;exact this.trans (by rw[decide_eq_true rfl];rfl)
omit hk hb hl in
theorem Bd (b:List Int):∀(n:Nat) (a:Int) (bad:Bool) (ys:List Int),(vO b n a bad ys).1.length<=ys.length+n
 |0,_,_,_=>RE _
 |n+1,a,bad,ys=>by
  unfold vO;cases bad
  ·have:=Bd b n (aR b a false).2.1 (aR b a false).2.2 (ys++[(aR b a false).1]);simp only[cond_false];simp only[Rz,Rw,RY]at this;omega
  ·simp only[cond_true];omega
omit hk hb hl in
theorem vP (b:List Int) (a:Int) (bad:Bool):(qW b a bad).1.length<=2000:=by
 have hc:=qX b a bad;have:=Bd b (bW b a bad 2000).1.toNat (bW b a bad 2000).2.1 (bW b a bad 2000).2.2 [];unfold qW;simp only[RY]at this;omega
end
def cT (b:List Int) (a:Int) (bad:Bool):ay× Int× Bool:=
 let r1:=aR b a bad;let r2:=aR b r1.2.1 r1.2.2;let r3:=aR b r2.2.1 r2.2.2;let r4:=aR b r3.2.1 r3.2.2;let r5:=aR b r4.2.1 r4.2.2;let r6:=aR b r5.2.1 r5.2.2;let r7:=aR b r6.2.1 r6.2.2
 let r8:=qW b r7.2.1 r7.2.2;let r9:=qW b r8.2.1 r8.2.2
 (⟨r1.1,r2.1,r3.1,r4.1,r5.1,r6.1,r7.1,r8.1,r9.1⟩,r9.2.1,r9.2.2)
def qa (b:List Int):Nat->Int->Bool->List ay->Int× Bool× List ay
 |0,a,bad,ys=>(a,bad,ys)
 |n+1,a,bad,ys=>cond bad (a,bad,ys) (qa b n (cT b a bad).2.1 (cT b a bad).2.2 (ys++[(cT b a bad).1]))
def dT (b:List Int):Model× Int:=
 cond (decide ((b.length:Int)>6000)) (da,5) (cond (!decide (b.take 3=[80,77,49])) (da,1)
  (let r2:=aR b 3 false;let r3:=aR b r2.2.1 r2.2.2;let r4:=aR b r3.2.1 r3.2.2;let r5:=bW b r4.2.1 r4.2.2 2000;let y:=qa b r5.1.toNat r5.2.1 r5.2.2 [];let r6:=aR b y.1 y.2.1
  cond r6.2.2 (da,2) (cond (r6.1 !=GK ((b.take y.1.toNat).drop 0)) (da,3) (cond (r6.2.1 !=(b.length:Int)) (da,3)
   (cond (!di ⟨⟨r2.1,r3.1,r4.1⟩,y.2.2⟩) (da,4) (⟨⟨r2.1,r3.1,r4.1⟩,y.2.2⟩,0))))))
theorem CH (b:List Int) (a:Int) (bad:Bool):(cT b a bad).1.tot<=2000+(2000+0):=Nat.add_le_add (vP b _ _) (Nat.add_le_add (vP b _ _) (RE 0))
theorem qY (b:List Int):∀(n:Nat) (a:Int) (bad:Bool) (ys:List ay),fy ay.tot (qa b n a bad ys).2.2<=fy ay.tot ys+4001*n
 |0,_,_,_=>RE _
 |n+1,a,bad,ys=>by
  unfold qa;cases bad
  ·have:=qY b n (cT b a false).2.1 (cT b a false).2.2 (ys++[(cT b a false).1]);have hL:=CH b a false;rw[rY]at this
   have h1:fy ay.tot [(cT b a false).1]=(cT b a false).1.tot+1:=by simp[fy];omega
   simp only[cond_false];omega
  ·simp only[cond_true];omega
section
variable {k:Nat} {b:List Int} (hk:9000000<=k) (hb:∀x∈b,okB x) (hl:b.length<=aQ)
include hk hb hl
theorem JA {a:Int} {bad:Bool}:eu k ⟨b,a,bad⟩=some (cT b a bad):=by
 unfold eu cT;simp only[lQ (show 7<=k by omega) hb hl,Jz (show 7<=k by omega) hb hl (show 2001<k by omega),aa,decide_true,cond_true]
theorem tP {R:Type} {fin:Int× Bool× List ay->Option R} {m q1 q2 q3 q4 q5 q6 q7 q8 q9:Int}:∀(n:Nat) (i a:Int) (bad:Bool) (ys:List ay) (kf:Nat),n<kf->m=i+n->0<=i->m<=100000->ys.length+n<=100000->
  iter (λu19 n19=>cJ k (b,m,q1,q2,q3,q4,q5,q6,b,q7,q8,q9) u19 n19 fin) kf (i,a,bad,ys)=fin (qa b n a bad ys)
 |_,_,_,_,_,0,h,_,_,_,_=>by omega
 |0,i,a,bad,ys,kf+1,_,hm,_,_,_=>by
  rw[aG];show cJ k _ _ _ fin=_;unfold cJ;simp only
  rw[decide_eq_false (by omega)];rfl
 |n+1,i,a,bad,ys,kf+1,hkf,hm,hi,hm2,hy=>by
  have hM:=ao;rw[aG];cases bad
  ·have st:∀next,cJ k (b,m,q1,q2,q3,q4,q5,q6,b,q7,q8,q9) (i,a,false,ys) next fin=next (i+1,(cT b a false).2.1,(cT b a false).2.2,ys++[(cT b a false).1]):=λnext=>by
    unfold cJ;simp only;rw[decide_eq_true (by omega),cond_true];simp only[RL,cond_true,mI (show 7<=k by omega) hb hl,LG (show 7<=k by omega) hb hl (show 2001<k by omega),aa];rw[cE (by omega),aH (by omega) (by omega)];rfl
   exact(st _).trans (tP n (i+1) (cT b a false).2.1 (cT b a false).2.2 (ys++[(cT b a false).1]) kf (by omega) (by omega) (by omega) hm2 (by rw[Rz];simp only[Rw,RY];omega))
  ·show cJ k _ _ _ fin=_;unfold cJ;simp only;rw[decide_eq_true (by omega),cond_true];rfl
theorem tQ {R:Type} {fin:Int× Bool× List ay->Option R} {q1 q2 q3 q7 q8 q9:Int}:∀(n:Nat) (a:Int) (bad:Bool) (ys:List ay) (kf:Nat),n<kf->ys.length+n<=100000->
  iter (λu9 n9=>dw k (b,q1,q2,q3,b,q7,q8,q9) u9 n9 fin) kf ((n:Int),a,bad,ys)=fin (qa b n a bad ys)
 |_,_,_,_,0,h,_=>by omega
 |0,a,bad,ys,kf+1,_,_=>by
  rw[aG];show dw k _ _ _ fin=_;unfold dw;simp only
  rw[decide_eq_false (by omega)];rfl
 |n+1,a,bad,ys,kf+1,hkf,hy=>by
  have hM:=ao;rw[aG];show dw k _ _ _ fin=_;unfold dw qa;simp only;rw[decide_eq_true (by omega),cond_true];cases bad
  ·simp only[RL,cond_true,cond_false];rw[JA hk hb hl,aa,cE (by omega),aH (by omega) (by omega),show((n+1:Nat):Int)-1=(n:Int)from by omega];exact tQ (fin:=fin) (q1:=q1) (q2:=q2) (q3:=q3) (q7:=q7) (q8:=q8) (q9:=q9) n (cT b a false).2.1 (cT b a false).2.2 (ys++[(cT b a false).1]) kf (by omega) (by rw[Rz];simp only[Rw,RY];omega)
  ·rfl
end
theorem yK {b:List Int} {a:Int} {bad:Bool} (h:(aR b a bad).2.2=false):0<=a/\a<=b.length:=by
 cases bad
 ·rw[CG]at h
  cases hn:Qk b a with
  |none=>rw[hn]at h;exact nomatch h
  |some q=>have:=NA (x:=q.1) (p:=q.2) hn;omega
 ·exact nomatch h
theorem Ql {b:List Int}:(decide ((b.length:Int)>=3)=false/\decide (b.take 3=[80,77,49])=false)\/∃x y z l,b=x::y::z::l:=by
 match b with
 |[]=>exact .inl ⟨rfl,rfl⟩
 |[x]=>exact .inl ⟨rfl,by simp⟩
 |[x,y]=>exact .inl ⟨rfl,by simp⟩
 |x::y::z::l=>exact .inr ⟨x,y,z,l,rfl⟩
theorem Ez (k:Nat) (b:List Int):tH k b=some (decide (b.take 3=[80,77,49])):=by
 unfold tH
 rcases Ql (b:=b)with⟨h1,h2⟩|⟨x,y,z,l,rfl⟩
 ·rw[h1,h2];rfl
 ·rw[decide_eq_true (by simp;omega),cond_true];have e0:idx (x::y::z::l) 0=some x:=rfl;have e1:idx (x::y::z::l) 1=some y:=rfl;have e2:idx (x::y::z::l) 2=some z:=rfl;rw[e0,e1,e2];simp only[aa,List.take_succ_cons,List.take_zero,Sg,and_true,Bool.decide_and,Et];cases decide (x=80)<;>cases decide (y=77)<;>rfl
theorem CI {k:Nat} {b:List Int} (hb:∀x∈b,okB x) (hl:b.length<=aQ):iH k b [80,77,49]=some (decide (b.take 3=[80,77,49])):=by
 have hM:=ao;unfold iH;rw[ab];by_cases h:(b.length:Int)>=(([80,77,49]:List Int).length:Int)
 ·have h':3<=b.length:=by simp at h;omega
  rw[if_pos h,decide_eq_true (show 0<=((([80,77,49]:List Int).length:Nat):Int)/\((([80,77,49]:List Int).length:Nat):Int)<=(b.length:Int) by simp;omega),cond_true,TG];rw[show((([80,77,49]:List Int).length:Nat):Int).toNat=3 from rfl];rw[zR (λx hx=>hb x (To hx)) (λx hx=>by simp at hx;rcases hx with rfl|rfl|rfl<;>exact⟨by omega,by omega⟩),aa]
 ·rw[if_neg h]
  rcases Ql (b:=b)with⟨_,h2⟩|⟨x,y,z,l,rfl⟩
  ·rw[h2]
  ·simp at h;omega
section
variable {k:Nat} {b:List Int} (hk:9000000<=k) (hb:∀x∈b,okB x) (hl:b.length<=aQ)
include hk hb hl
theorem v8:kR k b=some (dT b):=by
 have hM:=ao;unfold kR dT;by_cases c:(b.length:Int)>6000
 ·rw[decide_eq_true c];rfl
 rw[decide_eq_false c,cond_false,cond_false,Ez,aa];cases decide (b.take 3=[80,77,49])
 ·rfl
 simp only[Rq,cond_false,mI (show 7<=k by omega) hb hl,Bc (show 7<=k by omega) hb hl,aa];generalize aR b 3 false=r2;generalize aR b r2.2.1 r2.2.2=r3;generalize aR b r3.2.1 r3.2.2=r4;have hc:=qX b r4.2.1 r4.2.2;generalize bW b r4.2.1 r4.2.2 2000=r5 at hc;refine(tP hk hb hl r5.1.toNat 0 _ _ [] k (by omega) (by omega) (by omega) (by omega) (by simp;omega)).trans ?_;have ht:=qY b r5.1.toNat r5.2.1 r5.2.2 [];rw[show fy ay.tot []=0 from rfl]at ht;generalize qa b r5.1.toNat r5.2.1 r5.2.2 []=y at ht;cases h6:(aR b y.1 y.2.1).2.2
 ·simp only[cond_false];obtain⟨g1,g2⟩:=yK h6;rw[decide_eq_true ⟨g1,g2⟩,cond_true,Jx (by simp;omega) (by simp;omega),aa];cases((aR b y.1 y.2.1).1 !=GK (List.drop 0 (b.take y.1.toNat)))
  ·simp only[cond_false];cases((aR b y.1 y.2.1).2.1 !=(b.length:Int))
   ·simp only[cond_false];rw[p6 (by show fy ay.tot y.2.2+0<k;omega) (by show fy ay.tot y.2.2+0<=aQ;omega),aa];generalize di _=q;cases q<;>rfl
   ·rfl
  ·rfl
 ·rfl
theorem v9:kW k b=some (dT b):=by
 have hM:=ao;unfold kW dT;by_cases c:(b.length:Int)>6000
 ·rw[decide_eq_true c];rfl
 rw[decide_eq_false c,cond_false,cond_false,CI hb hl,aa];cases decide (b.take 3=[80,77,49])
 ·rfl
 simp only[Rq,cond_false,Jw (show 7<=k by omega) hb hl,Bb (show 7<=k by omega) hb hl,aa];generalize aR b 3 false=r2;generalize aR b r2.2.1 r2.2.2=r3;generalize aR b r3.2.1 r3.2.2=r4;have hc:=qX b r4.2.1 r4.2.2;generalize bW b r4.2.1 r4.2.2 2000=r5 at hc;have:=tQ hk hb hl (q1:=0) (q2:=0) (q3:=0) (q7:=r2.1) (q8:=r3.1) (q9:=r4.1) (fin:=λy5=>(aD k (⟨b,y5.1,y5.2.1⟩:Reader)).bind λr6=>cond (r6.2.2) (some ((⟨(⟨(0:Int),(0:Int),(0:Int)⟩:Shape),([]:List ay)⟩:Model),(2:Int))) (cond (decide (0<=y5.1/\y5.1<=(b.length:Int))) ((xY k ((b.take y5.1.toNat).drop 0)).bind λr7=>cond (r6.1 !=r7) (some ((⟨(⟨(0:Int),(0:Int),(0:Int)⟩:Shape),([]:List ay)⟩:Model),(3:Int))) (cond (r6.2.1 !=(b.length:Int)) (some ((⟨(⟨(0:Int),(0:Int),(0:Int)⟩:Shape),([]:List ay)⟩:Model),(3:Int))) ((jV k (⟨⟨r2.1,r3.1,r4.1⟩,y5.2.2⟩:Model)).bind λr8=>cond (!r8) (some ((⟨(⟨(0:Int),(0:Int),(0:Int)⟩:Shape),([]:List ay)⟩:Model),(4:Int))) (some ((⟨⟨r2.1,r3.1,r4.1⟩,y5.2.2⟩:Model),(0:Int)))))) none)) r5.1.toNat r5.2.1 r5.2.2 [] k (by omega) (by simp;omega);rw[show((r5.1.toNat:Nat):Int)=r5.1 from by omega]at this;refine Eq.trans this ?_;have ht:=qY b r5.1.toNat r5.2.1 r5.2.2 [];rw[show fy ay.tot []=0 from rfl]at ht;generalize qa b r5.1.toNat r5.2.1 r5.2.2 []=y at ht;rw[lQ (show 7<=k by omega) hb hl,aa];cases h6:(aR b y.1 y.2.1).2.2
 ·simp only[cond_false];obtain⟨g1,g2⟩:=yK h6;rw[decide_eq_true ⟨g1,g2⟩,cond_true,Jy (by simp;omega) (by simp;omega),aa];cases((aR b y.1 y.2.1).1 !=GK (List.drop 0 (b.take y.1.toNat)))
  ·simp only[cond_false];cases((aR b y.1 y.2.1).2.1 !=(b.length:Int))
   ·simp only[cond_false];rw[mG (by show fy ay.tot y.2.2+0<k;omega) (by show fy ay.tot y.2.2+0<aQ;omega),aa];generalize di _=q;cases q<;>rfl
   ·rfl
  ·rfl
 ·rfl
end
end
section
def sat (a b x:Int):Int:=if x<a then a else if x>b then b else x
theorem EA {a b:Int} (h:a<=b) (x:Int):a<=sat a b x/\sat a b x<=b:=by
 unfold sat;by_cases h1:x<a
 ·rw[if_pos h1];omega
 ·rw[if_neg h1];by_cases h2:x>b
  ·rw[if_pos h2];omega
  ·rw[if_neg h2];omega
theorem Ob {a b x:Int} (h1:a<=x) (h2:x<=b):sat a b x=x:=by
 unfold sat;rw[if_neg (by omega),if_neg (by omega)]
theorem qb {k:Nat} {x a b:Int} (h:a<=b):nv k x a b=some (sat a b x):=by
 unfold nv sat;rw[ab,ab,ab];by_cases h1:x<a
 ·rw[if_pos h1,if_pos h1]
 ·rw[if_neg h1,if_neg h1,if_neg (by omega)];by_cases h2:x>b
  ·rw[if_pos h2,if_pos h2]
  ·rw[if_neg h2,if_neg h2]
theorem CJ {k:Nat} {x a b:Int} (h:a<=b):Jn k x a b=some (sat a b x):=by
 unfold Jn sat
 congr 1
 repeat' split
 all_goals omega
def yL (x:Int):Int:=sat (-128) 127 x
def ia (x:Int):Int:=sat (-2147483648) 2147483647 x
theorem yM (x:Int):-128<=yL x/\yL x<=127:=EA (by omega) x
theorem kX (x:Int):-2147483648<=ia x/\ia x<=2147483647:=EA (by omega) x
theorem EB (k:Nat) (x:Int):xV k x=some (yL x):=by unfold xV yL;rw[qb (by omega),aa]
theorem ve (k:Nat) (x:Int):mX k x=some (ia x):=by unfold mX ia;rw[qb (by omega),aa]
theorem EC (k:Nat) (x:Int):xX k x=some (yL x):=by unfold xX yL;rw[CJ (by omega),aa]
theorem vf (k:Nat) (x:Int):mY k x=some (ia x):=by unfold mY ia;rw[CJ (by omega),aa]
def o6 (a b:Int):Int:=ia (ia a+ia b)
theorem oQ (k:Nat) (a b:Int):mi k a b=some (o6 a b):=by
 have h1:=kX a;have h2:=kX b;unfold mi o6;simp only[ve,aa];rw[aH (by omega) (by omega)]
theorem yN (k:Nat) (a b:Int):tB k a b=some (o6 a b):=by
 have h1:=kX a;have h2:=kX b;unfold tB o6;simp only[vf,aa];rw[aH (by omega) (by omega)]
theorem Pm {x y A B:Int} (hx:-A<=x/\x<=A) (hy:-B<=y/\y<=B):-(A*B)<=x*y/\x*y<=A*B:=by
 have h1:=Tg (show 0<=A-x by omega) (show 0<=B+y by omega);have h2:=Tg (show 0<=A+x by omega) (show 0<=B-y by omega);have h3:=Tg (show 0<=A-x by omega) (show 0<=B-y by omega);have h4:=Tg (show 0<=A+x by omega) (show 0<=B+y by omega);simp only[Int.sub_mul,Int.add_mul,Int.mul_add,Int.mul_sub]at h1 h2 h3 h4;omega
def oR (a b:Int):Int:=ia ((ia a*ia b+1073741824)/2147483648)
theorem ED {k:Nat} {a:Int} (h1:-4611686018427387904<=a/\a<=9223372036854775807):tw k a 2147483648=some (a/2147483648):=by
 have e:=Int.mul_tdiv_add_tmod a 2147483648;have h2:=Int.tmod_lt_of_pos a (show(0:Int)<2147483648 by omega);unfold tw;rw[ab,if_neg (by omega),ab,if_neg (by omega),ab];by_cases c:0<=a
 ·have h3:=Int.tmod_nonneg 2147483648 c;rw[if_neg (by omega),aH (by omega) (by omega)]
  congr 1;omega
 ·have h3:=Int.tmod_nonneg 2147483648 (show 0<=-a by omega);have h4:=Int.tmod_lt_of_pos (-a) (show(0:Int)<2147483648 by omega);rw[Int.neg_tmod]at h3 h4;by_cases c2:a.tmod 2147483648<0
  ·rw[if_pos c2,aH (n:=a.tdiv 2147483648) (by omega) (by omega),aH (by omega) (by omega)]
   congr 1;omega
  ·rw[if_neg c2,aH (by omega) (by omega)]
   congr 1;omega
theorem Oc (a b:Int):-4611686018427387904<=ia a*ia b/\ia a*ia b<=4611686018427387904:=
 Pm (A:=2147483648) (B:=2147483648) (by have:=kX a;omega) (by have:=kX b;omega)
theorem EE (k:Nat) (a b:Int):tx k a b=some (oR a b):=by
 have h:=Oc a b;unfold tx oR;simp only[ve,aa];rw[aH (n:=ia a*ia b) (by omega) (by omega),aH (by omega) (by omega),ED (by omega),aa]
theorem EF (k:Nat) (a b:Int):tC k a b=some (oR a b):=by
 have h:=Oc a b;unfold tC oR;simp only[vf,aa];rw[aH (n:=ia a*ia b) (by omega) (by omega),aH (by omega) (by omega)]
 have e:((2:Int)^(min (31:Int).toNat IntKind.i64.bits))=2147483648:=by decide
 rw[e,Int.fdiv_eq_ediv_of_nonneg _ (by omega)]
def gw (x by_:Int):Int:=if x<0 then -((2*-x+by_)/(2*by_))else(2*x+by_)/(2*by_)
theorem Be {a b:Int} (ha:0<=a) (hb:1<=b):0<=a/b/\a/b<=a:=
 ⟨Int.ediv_nonneg ha (by omega),Int.ediv_le_self _ ha⟩
theorem vQ {k:Nat} {x d:Int} (hx:-2147483648<=x/\x<=2147483648) (hd:1<=d/\d<=2147483648):nz k x d=some (gw x d):=by
 unfold nz oB gw;rw[aH (n:=2*d) (by omega) (by omega),ab];by_cases c:x<0
 ·rw[if_pos c,if_pos c,aH (n:=0-x) (by omega) (by omega),ab,if_neg (by omega),ab,if_neg (by omega),aa,aH (n:=2*(0-x)) (by omega) (by omega),aH (n:=2*(0-x)+d) (by omega) (by omega),So (by omega)];have h:=Be (a:=2*(0-x)+d) (b:=2*d) (by omega) (by omega);rw[show 2*-x+d=2*(0-x)+d from by omega];generalize (2*(0-x)+d)/(2*d)=q at h;rw[aH (n:=q) (by omega) (by omega),aH (by omega) (by omega)]
  congr 1;omega
 ·rw[if_neg c,if_neg c,ab,if_neg (by omega),aH (n:=2*x) (by omega) (by omega),aH (n:=2*x+d) (by omega) (by omega),So (by omega)];have h:=Be (a:=2*x+d) (b:=2*d) (by omega) (by omega);rw[aH (by omega) (by omega)]
def il (x n:Int):Int:=gw (ia x) (2^(sat 0 31 n).toNat)
theorem yO {r:Int} (h:0<=r/\r<=31):IntKind.i64.wrap ((1:Int)*2^(min r.toNat IntKind.i64.bits))=2^r.toNat/\(1:Int)<=2^r.toNat/\(2:Int)^r.toNat<=2147483648:=by
 have hb:IntKind.i64.bits=64:=rfl;have h1:(2:Nat)^r.toNat<=2^31:=Nat.pow_le_pow_right (by omega) (by omega);have h2:1<=(2:Nat)^r.toNat:=Nat.one_le_two_pow
 have e:((2^r.toNat:Nat):Int)=2^r.toNat:=by simp
 rw[hb,TB (by omega),Int.one_mul];rw[<-e];refine⟨aH (by omega) (by omega),by omega,by omega⟩
theorem HZ {v:Int} {s:Nat}:(v+(2^s:Int)/2)/2^s=(2*v+2^s)/(2*2^s):=by
 cases s with
 |zero=>omega
 |succ s=>
  have e:(2:Int)^(s+1)=2*2^s:=by rw[Int.pow_succ,Int.mul_comm]
  rw[e]
  have e2:2*v+2*(2:Int)^s=2*(v+2^s):=by rw[Int.mul_add]
  rw[e2,Int.mul_ediv_mul_of_pos _ _ (by omega:(0:Int)<2),Int.mul_ediv_cancel_left _ (by omega:(2:Int)≠0)]
theorem yP (k:Nat) (x n:Int):mx k x n=some (il x n):=by
 have h1:=kX x;have h2:=EA (a:=0) (b:=31) (by omega) n;obtain⟨e,h3,h4⟩:=yO h2;unfold mx il;rw[vf,aa,CJ (by omega),aa,ab,if_neg (by omega),e,vQ (by omega) ⟨h3,h4⟩,aa]
theorem LH {r:Int} (h:0<=r/\r<=31):IntKind.u64.wrap r=r:=Go.IntWalk.u64_in r ⟨by omega,by omega⟩
theorem yQ (k:Nat) (x n:Int):mj k x n=some (il x n):=by
 have h1:=kX x;have h2:=EA (a:=0) (b:=31) (by omega) n;obtain⟨e,h3,h4⟩:=yO h2;unfold mj il gw;rw[ve,aa,qb (by omega),aa,LH h2,ab,if_neg (by omega),e,ab];have hh:((2:Int)^(sat 0 31 n).toNat).tdiv 2=2^(sat 0 31 n).toNat/2:=So (by omega);rw[hh,aH (n:=2^(sat 0 31 n).toNat/2) (by omega) (by omega)];by_cases c:ia x<0
 ·rw[if_pos c,if_pos c,ab,if_neg (by omega),aH (n:=0-ia x) (by omega) (by omega),aH (n:=0-ia x+2^(sat 0 31 n).toNat/2) (by omega) (by omega),So (by omega),HZ,show 2*-ia x+2^(sat 0 31 n).toNat=2*(0-ia x)+2^(sat 0 31 n).toNat from by omega];have h:=Be (a:=2*(0-ia x)+2^(sat 0 31 n).toNat) (b:=2*2^(sat 0 31 n).toNat) (by omega) (by omega);generalize (2*(0-ia x)+2^(sat 0 31 n).toNat)/(2*2^(sat 0 31 n).toNat)=q at h;rw[aH (n:=q) (by omega) (by omega),aH (by omega) (by omega)]
  congr 1;omega
 ·rw[if_neg c,if_neg c,ab,if_neg (by omega),aH (n:=ia x+2^(sat 0 31 n).toNat/2) (by omega) (by omega),So (by omega),HZ];have h:=Be (a:=2*ia x+2^(sat 0 31 n).toNat) (b:=2*2^(sat 0 31 n).toNat) (by omega) (by omega);rw[aH (by omega) (by omega)]
def yR (acc mult shift zero:Int):Int:=yL (il (oR acc mult) shift+yL zero)
theorem JB {x d B:Int} (hx:-B<=x/\x<=B) (hd:1<=d):-B<=gw x d/\gw x d<=B:=by
 have key:∀y:Int,0<=y->y<=B->0<=(2*y+d)/(2*d)/\(2*y+d)/(2*d)<=B:=λy h0 h1=>by
  refine⟨Int.ediv_nonneg (by omega) (by omega),?_⟩
  have hlt:(2*y+d)/(2*d)<B+1:=by
   apply Int.ediv_lt_of_lt_mul (by omega);have:=Tg (show 0<=B by omega) (show 0<=d-1 by omega);rw[Int.mul_sub,Int.mul_one]at this;rw[Int.add_mul,Int.one_mul,Int.mul_comm B,TW,Int.mul_comm d B];omega
  omega
 unfold gw;by_cases c:x<0
 ·rw[if_pos c];have:=key (-x) (by omega) (by omega);omega
 ·rw[if_neg c];have:=key x (by omega) (by omega);omega
theorem vR (acc mult shift zero:Int):IntKind.i64.wrap (il (oR acc mult) shift+yL zero)=il (oR acc mult) shift+yL zero:=by
 have h1:=yM zero;have h2:=EA (a:=0) (b:=31) (by omega) shift;have h3:=kX (oR acc mult);have h4:=JB (x:=ia (oR acc mult)) (d:=2^(sat 0 31 shift).toNat) (B:=2147483648) (by omega) (yO h2).2.1;unfold il;exact aH (by omega) (by omega)
theorem vS (k:Nat) (a b c d:Int):nw k a b c d=some (yR a b c d):=by
 unfold nw yR;simp only[EE,yQ,EB,aa,vR]
theorem EG (k:Nat) (a b c d:Int):tD k a b c d=some (yR a b c d):=by
 unfold tD yR;simp only[EF,yP,EC,aa,vR]
end
section
theorem kY {α:Type} (f:Nat->List α) (m:Nat):∀n,(∀i,i<n->(f i).length<=m)->((List.range n).flatMap f).length<=n*m
 |0,_=>by simp
 |n+1,h=>by
  have:=kY f m n λi hi=>h i (by omega);have:=h n (by omega);rw[SW,Tw,Rz,RM,show([n]:List Nat).flatMap f=f n from by simp];omega
theorem gN {α:Type} (f:Nat->List α) (m:Nat):∀n,(∀i,i<n->(f i).length=m)->((List.range n).flatMap f).length=n*m
 |0,_=>by simp
 |n+1,h=>by
  have:=gN f m n λi hi=>h i (by omega);have:=h n (by omega);rw[SW,Tw,Rz,RM,show([n]:List Nat).flatMap f=f n from by simp];omega
theorem CK {α:Type} (f:Nat->List α) (q:Nat):∀n,(∀i,i<n->(f i).length=q)->∀a b,a<n->b<q->((List.range n).flatMap f)[a*q+b]? =(f a)[b]?
 |0,_,a,b,h,_=>by omega
 |n+1,h,a,b,ha,hb=>by
  have hl:=gN f q n λi hi=>h i (by omega);rw[SW,Tw]
  have hs:([n]:List Nat).flatMap f=f n:=by simp
  rw[hs];by_cases c:a<n
  ·have:(a+1)*q<=n*q:=RD _ (by omega);rw[RM]at this;rw[Ro (by omega)];exact CK f q n (λi hi=>h i (by omega)) a b c hb
  ·have:a=n:=by omega
   subst this;rw[Rn (by omega),hl,RQ]
theorem ft {α R:Type} (n m:Nat) (f:Nat->List α) (xs0:List α) {g:Int× List α->(Int× List α->Option R)->Option R} {fin:List α->Option R} {k:Nat}
  (hf:∀i,i<n->(f i).length<=m)
  (h:∀(i:Nat) ys next,i<n->ys.length<=xs0.length+i*m->g ((i:Int),ys) next=next (((i+1:Nat):Int),ys++f i))
  (hn:∀ys next,g ((n:Int),ys) next=fin ys) (hk:n<k):iter g k ((0:Int),xs0)=fin (xs0++(List.range n).flatMap f):=by
 have:=ep (g:=g) (st:=λi=>((i:Int),xs0++(List.range i).flatMap f)) (n:=n) (r:=fin (xs0++(List.range n).flatMap f)) (λi hi next=>by
  have hl:=kY f m i λj hj=>hf j (by omega);rw[h i _ next hi (by rw[Rz];omega),SW,Tw]
  simp) (λnext=>hn _ _) hk
 simpa using this
theorem nI {β R:Type} (n:Nat) (f:β->Nat->β) (a0:β) {g:β× Int->(β× Int->Option R)->Option R} {fin:β->Option R} {k:Nat}
  (h:∀(i:Nat) a next,i<n->g (a,(i:Int)) next=next (f a i,((i+1:Nat):Int))) (hn:∀a next,g (a,(n:Int)) next=fin a) (hk:n<k):
  iter g k (a0,(0:Int))=fin ((List.range n).foldl f a0):=
 ep (g:=g) (st:=λi=>((List.range i).foldl f a0,(i:Int))) (n:=n) (r:=fin ((List.range n).foldl f a0)) (λi hi next=>by
  rw[h i _ next hi,SW,Sc];rfl) (λnext=>hn _ _) hk
theorem fold_congr {β:Type} {f g:β->Nat->β}:∀(n:Nat) (a:β),(∀a i,i<n->f a i=g a i)->(List.range n).foldl f a=(List.range n).foldl g a
 |0,_,_=>rfl
 |n+1,a,h=>by
  rw[SW,Sc,Sc,fold_congr n a λa i hi=>h a i (by omega)];exact h _ n (by omega)
theorem CL {β:Type} (f:β->Nat->β) (q:Nat):∀(m:Nat) (a:β),(List.range (m*q)).foldl f a=(List.range m).foldl (λa i=>(List.range q).foldl (λa j=>f a (i*q+j)) a) a
 |0,a=>by simp
 |m+1,a=>by
  rw[RM,Nat.one_mul,List.range_add,Sc,CL f q m a,SW,Sc,List.foldl_map];rfl
theorem EH {a b:Nat} (h:a*b<=9223372036854775807):IntKind.i64.wrap ((a:Int)*(b:Int))=((a*b:Nat):Int):=by
 rw[Sw];have e:((a:Int)*(b:Int))=((a*b:Nat):Int):=(Sw a b).symm;exact aH (by omega) (by omega)
theorem Ff {a b:Nat} (h:a+b<=9223372036854775807):IntKind.i64.wrap ((a:Int)+(b:Int))=((a+b:Nat):Int):=by
 rw[aH (by omega) (by omega)];omega
theorem LI {α:Type} {p:Prop} {i:Decidable p} (h:p) (x y:α):cond (@decide p i) x y=x:=by rw[decide_eq_true h];rfl
theorem Q5 {α:Type} {p:Prop} {i:Decidable p} (h:¬p) (x y:α):cond (@decide p i) x y=y:=by rw[decide_eq_false h];rfl
theorem tR {H W C h w c:Nat} (h1:h<H) (h2:w<W) (h3:c<C):(h*W+w)*C+c<H*W*C:=by
 have a1:(h+1)*W<=H*W:=RD _ h1;rw[RM]at a1;have a2:(h*W+w+1)*C<=H*W*C:=RD _ (by omega);rw[RM]at a2;omega
structure kZ (H W C:Nat) (xs:List Int):Prop where
 h1:1<=H
 h8:H<=8
 w1:1<=W
 w8:W<=8
 c1:1<=C
 c8:C<=8
 len:xs.length=H*W*C
 mem:∀x∈xs,-128<=x/\x<=127
def vg (H W C:Nat) (xs:List Int):ak:=⟨⟨H,W,C⟩,xs⟩
theorem kZ.PF {H W C:Nat} {xs:List Int} (r:kZ H W C xs):H*W*C<=512:=by
 have a:=R7 r.h8 r.w8;have b:=R7 a r.c8;omega
theorem kZ.sh {H W C:Nat} {xs:List Int} (r:kZ H W C xs):(⟨H,W,C⟩:Shape).okB=true:=by
 obtain⟨a,b,c,d,e,f,_,_⟩:=r;simp only[Shape.okB,inB,Rk,decide_eq_true_eq];omega
theorem kZ.size {H W C:Nat} {xs:List Int} (r:kZ H W C xs):(⟨H,W,C⟩:Shape).size=((H*W*C:Nat):Int):=by
 unfold Shape.size;rw[r.sh,cond_true,Sw,Sw]
theorem kZ.ok {H W C:Nat} {xs:List Int} (r:kZ H W C xs):(vg H W C xs).okB=true:=by
 unfold ak.okB vg;simp only[r.sh,r.size,r.len,decide_true,Rs];unfold rz;rw[SB];intro x hx;have:=r.mem x hx;rw[cn];omega
theorem CM {t:ak} (h:t.okB=true):∃H W C:Nat,kZ H W C t.data/\t=vg H W C t.data:=by
 unfold ak.okB at h;simp only[Rk,decide_eq_true_eq]at h;obtain⟨h1,h2,h3⟩:=h;have hs:=Shape.tK h1;unfold rz at h3;rw[SB]at h3;unfold Shape.size at h2;rw[h1,cond_true]at h2;obtain⟨⟨a,b,c⟩,xs⟩:=t;simp only at hs h2 h3;refine⟨a.toNat,b.toNat,c.toNat,⟨by omega,by omega,by omega,by omega,by omega,by omega,?_,λx hx=>cn.1 (h3 x hx)⟩,?_⟩
 ·have ea:((a.toNat:Nat):Int)=a:=by omega
  have eb:((b.toNat:Nat):Int)=b:=by omega
  have ec:((c.toNat:Nat):Int)=c:=by omega
  have e:((a.toNat*b.toNat*c.toNat:Nat):Int)=a*b*c:=by rw[Sw,Sw,ea,eb,ec]
  show xs.length=_;omega
 ·unfold vg
  congr 2<;>omega
def atN (W C:Nat) (xs:List Int) (h w c:Nat):Int:=xs.getD ((h*W+w)*C+c) 0
theorem GL {H W C:Nat} {xs:List Int} (r:kZ H W C xs) {h w c:Nat} (h1:h<H) (h2:w<W) (h3:c<C):xs[(h*W+w)*C+c]? =some (atN W C xs h w c):=by
 have:=tR h1 h2 h3;have hl:=r.len;unfold atN;rw[bE (by omega),ag (by omega)]
theorem wI {xs:List Int} {i:Nat} (h:i<xs.length):xs.getD i 0∈xs:=by rw[bE h];exact Rp h
theorem H3 {H W C:Nat} {xs:List Int} (r:kZ H W C xs) {h w c:Nat} (h1:h<H) (h2:w<W) (h3:c<C):-128<=atN W C xs h w c/\atN W C xs h w c<=127:=by
 have:=tR h1 h2 h3;have hl:=r.len;exact r.mem _ (wI (by omega))
theorem Bf {H W C:Nat} {xs:List Int} (r:kZ H W C xs) {h w c:Nat} (h1:h<H) (h2:w<W) (h3:c<C):
  IntKind.i64.wrap (IntKind.i64.wrap (IntKind.i64.wrap (IntKind.i64.wrap ((h:Int)*(W:Int))+(w:Int))*(C:Int))+(c:Int))=(((h*W+w)*C+c:Nat):Int):=by
 have a:=tR h1 h2 h3;have b:=r.PF;have d:h*W<=H*W:=RD _ (by omega);have e:=R7 r.h8 r.w8;rw[EH (by omega),Ff (by have:=r.w8;omega),EH (by omega),Ff (by omega)]
theorem sk {k:Nat} {H W C:Nat} {xs:List Int} (r:kZ H W C xs) (hk:512<k) {h w c:Nat} (h1:h<H) (h2:w<W) (h3:c<C):oA k (vg H W C xs) h w c=some (atN W C xs h w c,true):=by
 have hl:=r.len;have hc:=r.PF
 have hi:∀{a n:Nat},a<n->n<=8->inB (a:Int) 0 (IntKind.i64.wrap ((n:Int)-1))=true:=λ{a n} h h8=>by
  rw[aH (by omega) (by omega),cn];omega
 unfold oA xW;simp only[ka,cF,aa];rw[gg (t:=vg H W C xs) (by show xs.length<k;omega) (by unfold pc;show xs.length<=_;omega),r.ok];simp only[vg,r.sh,hi h1 r.h8,hi h2 r.w8,hi h3 r.c8,Rq,cond_false,aa,Bf r h1 h2 h3];rw[ab,if_neg (by omega),aC,GL r h1 h2 h3,aa]
theorem sn {k:Nat} {H W C:Nat} {xs:List Int} (r:kZ H W C xs) {h w c:Nat} (h1:h<H) (h2:w<W) (h3:c<C):iE k ⟨H,W,C⟩ h w c=some ((((h*W+w)*C+c:Nat)):Int):=by
 unfold iE;rw[Bf r h1 h2 h3]
structure LJ (H W Z S h w:Nat):Prop where
 z1:1<=Z
 z3:Z<=3
 s2:S<=2
 hh:h*S+Z<=H
 ww:w*S+Z<=W
def iW (W C:Nat) (xs:List Int) (Z S h w c:Nat):List Int:=
 (List.range Z).flatMap λi=>(List.range Z).flatMap λj=>[atN W C xs (h*S+i) (w*S+j) c]
def Pn (W C:Nat) (xs:List Int) (Z S h w:Nat):List Int:=
 (List.range Z).flatMap λi=>(List.range Z).flatMap λj=>(List.range C).map λc=>atN W C xs (h*S+i) (w*S+j) c
theorem EI (W C:Nat) (xs:List Int) (Z S h w c:Nat):(iW W C xs Z S h w c).length=Z*(Z*1):=
 gN _ _ _ λi hi=>gN _ _ _ λj hj=>rfl
theorem CN (W C:Nat) (xs:List Int) (Z S h w:Nat):(Pn W C xs Z S h w).length=Z*(Z*C):=
 gN _ _ _ λi hi=>gN _ _ _ λj hj=>by simp
theorem EJ {k:Nat} {H W C:Nat} {xs:List Int} (r:kZ H W C xs) (hk:512<k) {l:ay} {Z S h w c:Nat} (hz:l.size=Z) (hs:l.step=S) (v:LJ H W Z S h w) (hc:c<C):
  lK k (vg H W C xs) l h w c=some (iW W C xs Z S h w c):=by
 have hM:=ao;have hv:=v;obtain⟨z1,z3,s2,hh,ww⟩:=hv;have:=r.h8;have:=r.w8;unfold lK
 refine(ft Z 3 (λi=>(List.range Z).flatMap λj=>[atN W C xs (h*S+i) (w*S+j) c]) [] (fin:=some) (λi hi=>by
   have:=kY (λj=>[atN W C xs (h*S+i) (w*S+j) c]) 1 Z (λ_ _=>RE _);omega) (λi ys next hi hy=>?_) (λys next=>?_) (by omega)).trans (by rw[SL];rfl)
 ·simp only[mn,hz,hs];rw[ab,if_pos (by omega),aq hi (by omega)];refine ft Z 1 (λj=>[atN W C xs (h*S+i) (w*S+j) c]) ys (fin:=λy=>next (((i+1:Nat):Int),y)) (λ_ _=>RE _) (λj zs next2 hj hz2=>?_) (λzs next2=>?_) (by omega)
  ·simp only[mm,hz,hs]
   have e1:h*S+i<H:=by omega
   have e2:w*S+j<W:=by omega
   have e:=sk (k:=k) r hk e1 e2 hc;unfold vg at e;simp only[RY]at hy;rw[ab,if_pos (by omega)];simp only[vg];rw[EH (by omega),Ff (by omega),EH (by omega),Ff (by omega),e,aa,cE (by simp;omega),aq hj (by omega)]
  ·simp only[mm];rw[ab,if_neg (by omega)]
 ·simp only[mn];rw[ab,if_neg (by omega)]
theorem EK {α:Type} {ws:List α} {a q i:Nat} (hi:i<q):((ws.take (a+q)).drop a)[i]? =ws[a+i]? :=by
 rw[RA,RW,if_pos (by omega)]
theorem LK {ws:List Int} {a q:Nat} (h:a+q<=ws.length):(ws.take (a+q)).drop a=(List.range q).map λc=>ws.getD (a+c) 0:=by
 apply List.ext_getElem?;intro i;by_cases c:i<q
 ·rw[EK c,R3,List.getElem?_range c,SG,ag (by omega),bE (by omega)]
 ·rw[RJ (by simp;omega),RJ (by simp;omega)]
theorem yS {k:Nat} {H W C:Nat} {xs:List Int} (r:kZ H W C xs) (hk:512<k) {l:ay} {Z S h w c:Nat} (hz:l.size=Z) (hs:l.step=S) (v:LJ H W Z S h w) (hc:c<C):
  cH k l (vg H W C xs) h w c=some (iW W C xs Z S h w c):=by
 have hM:=ao;have hv:=v;obtain⟨z1,z3,s2,hh,ww⟩:=hv;have:=r.h8;have:=r.w8;have:=r.c8;have hcu:=r.PF;have hlen:=r.len;unfold cH
 refine(ft Z 3 (λi=>(List.range Z).flatMap λj=>[atN W C xs (h*S+i) (w*S+j) c]) [] (fin:=some) (λi hi=>by
   have:=kY (λj=>[atN W C xs (h*S+i) (w*S+j) c]) 1 Z (λ_ _=>RE _);omega) (λi ys next hi hy=>?_) (λys next=>?_) (by omega)).trans (by rw[SL];rfl)
 ·simp only[dK,hz,hs];rw[ab,if_pos (by omega),aq hi (by omega)];refine ft Z 1 (λj=>[atN W C xs (h*S+i) (w*S+j) c]) ys (fin:=λy=>next (((i+1:Nat):Int),y)) (λ_ _=>RE _) (λj zs next2 hj hz2=>?_) (λzs next2=>?_) (by omega)
  ·simp only[dJ,hz,hs]
   have e1:h*S+i<H:=by omega
   have e2:w*S+j<W:=by omega
   have e:=sn (k:=k) (c:=0) r e1 e2 (by omega);have hp:=tR e1 e2 hc;simp only[RY]at hy;rw[ab,if_pos (by omega)];simp only[vg];rw[EH (by omega),Ff (by omega),EH (by omega),Ff (by omega)];refine(congrArg (λo:Option Int=>o.bind _) e).trans ?_;rw[aa,ab,if_neg (by omega),RS,Ff (by omega),aC,GL r e1 e2 hc,aa,cE (by simp;omega),aq hj (by omega)]
  ·simp only[dJ];rw[ab,if_neg (by omega)]
 ·simp only[dK];rw[ab,if_neg (by omega)]
theorem EL {k:Nat} {H W C:Nat} {xs:List Int} (r:kZ H W C xs) (hk:512<k) {l:ay} {Z S h w:Nat} (hz:l.size=Z) (hs:l.step=S) (v:LJ H W Z S h w):
  cH k l (vg H W C xs) h w (-1)=some (Pn W C xs Z S h w):=by
 have hM:=ao;have hv:=v;obtain⟨z1,z3,s2,hh,ww⟩:=hv;have:=r.h8;have:=r.w8;have:=r.c8;have hc1:=r.c1;have hcu:=r.PF;have hlen:=r.len;unfold cH
 refine(ft Z 24 (λi=>(List.range Z).flatMap λj=>(List.range C).map λc=>atN W C xs (h*S+i) (w*S+j) c) [] (fin:=some) (λi hi=>by
   have:=kY (λj=>(List.range C).map λc=>atN W C xs (h*S+i) (w*S+j) c) 8 Z (λ_ _=>by simp;omega);omega) (λi ys next hi hy=>?_) (λys next=>?_) (by omega)).trans (by rw[SL];rfl)
 ·simp only[dK,hz,hs];rw[ab,if_pos (by omega),aq hi (by omega)];refine ft Z 8 (λj=>(List.range C).map λc=>atN W C xs (h*S+i) (w*S+j) c) ys (fin:=λy=>next (((i+1:Nat):Int),y)) (λ_ _=>by simp;omega) (λj zs next2 hj hz2=>?_) (λzs next2=>?_) (by omega)
  ·simp only[dJ,hz,hs]
   have e1:h*S+i<H:=by omega
   have e2:w*S+j<W:=by omega
   have e:=sn (k:=k) (c:=0) r e1 e2 (by omega);have hp:=tR (C:=C) (c:=C-1) e1 e2 (by omega);simp only[RY]at hy;rw[ab,if_pos (by omega)];simp only[vg];rw[EH (by omega),Ff (by omega),EH (by omega),Ff (by omega)];refine(congrArg (λo:Option Int=>o.bind _) e).trans ?_;have e3:=LK (ws:=xs) (a:=((h*S+i)*W+(w*S+j))*C) (q:=C) (by omega);have ew:IntKind.i64.wrap (((((h*S+i)*W+(w*S+j))*C:Nat):Int)+(C:Int))=((((h*S+i)*W+(w*S+j))*C+C:Nat):Int):=Ff (by omega);rw[aa,LI (by omega),RS];refine(LI (by rw[ew];omega) _ _).trans ?_;refine(LI (by rw[ew];omega) _ _).trans ?_;rw[ew,Rm,Rm,e3,cE (by simp;omega),aq hj (by omega)];rfl
  ·simp only[dJ];rw[ab,if_neg (by omega)]
 ·simp only[dK];rw[ab,if_neg (by omega)]
end
section
def Po (xs ws:List Int):Int:=(List.range xs.length).foldl (λs i=>o6 s (yL (xs.getD i 0)*yL (ws.getD i 0))) 0
theorem Qm (a b:Int):IntKind.i64.wrap (yL a*yL b)=yL a*yL b:=by
 have h1:=yM a;have h2:=yM b;have:=Pm (A:=128) (B:=128) (x:=yL a) (y:=yL b) (by omega) (by omega);exact aH (by omega) (by omega)
theorem JC {k:Nat} {xs ws:List Int} (hk:xs.length<k) (hl:ws.length=xs.length) (hN:xs.length<=aQ):Cs k xs ws=some (Po xs ws):=by
 have hM:=ao;unfold Cs Po
 exact nI xs.length (λs i=>o6 s (yL (xs.getD i 0)*yL (ws.getD i 0))) 0 (fin:=some) (λi a next hi=>by
  simp only[qG,EB,oQ]
  rw[ab,if_pos (by omega),ab,if_pos (by omega),aC,ag hi,aa,aa,aC,ag (by omega),aa,aa,aa,Qm,aq hi (by omega),bE hi,bE (by omega)]) (λa next=>by
  simp only[qG]
  rw[ab,if_neg (by omega)]) hk
theorem JD {k:Nat} {xs ws:List Int} (hk:xs.length<k) (hl:ws.length=xs.length) (hN:xs.length<=aQ):Ct k xs ws=some (Po xs ws):=by
 have hM:=ao;unfold Ct Po;rw[if_neg (by omega)]
 exact nI xs.length (λs i=>o6 s (yL (xs.getD i 0)*yL (ws.getD i 0))) 0 (fin:=some) (λi a next hi=>by
  simp only[qJ,EC,yN]
  rw[ab,if_pos (by omega),aC,ag hi,aa,aa,aC,ag (by omega),aa,aa,aa,Qm,aq hi (by omega),bE hi,bE (by omega)]) (λa next=>by
  simp only[qJ]
  rw[ab,if_neg (by omega)]) hk
def sq (l:ay) (xs:List Int) (o:Nat):Int:=
 yR (o6 (Po xs ((l.weights.take (o*xs.length+xs.length)).drop (o*xs.length))) (l.m8.getD o 0)) l.mult l.shift l.zero
theorem yU {k:Nat} {l:ay} {xs:List Int} {o:Nat} (hk:xs.length<k) (hN:xs.length<=aQ) (hw:o*xs.length+xs.length<=l.weights.length) (hwN:l.weights.length<=aQ) (hb:o<l.m8.length) (ho:o<8):
  fu k l xs o=some (sq l xs o):=by
 have hM:=ao
 have e:(o+1)*xs.length=o*xs.length+xs.length:=by rw[RM,Nat.one_mul]
 have e1:IntKind.i64.wrap (IntKind.i64.wrap ((o:Int)+1)*(xs.length:Int))=((o*xs.length+xs.length:Nat):Int):=by
  rw[aq ho (by omega),EH (by omega),e]
 have e2:IntKind.i64.wrap ((o:Int)*(xs.length:Int))=((o*xs.length:Nat):Int):=EH (by omega);unfold fu sq;rw[e1,e2,ab,if_pos (by omega),ab,if_pos (by omega),Rm,Rm,JD hk (by simp;omega) hN,aa,aC,ag hb,aa,yN,aa,EG,aa,bE hb]
def k6:List Int->Int
 |[]=>0
 |x::xs=>xs.foldl (λm y=>if y>m then y else m) x
theorem H4 {R:Type} {xs:List Int} {x:Int} {g:Int× Int->(Int× Int->Option R)->Option R} {fin:Int->Option R} {k:Nat}
  (h:∀(i:Nat) a next (hi:i<xs.length),g (a,((i+1:Nat):Int)) next=next (if xs[i]>a then xs[i]else a,((i+1+1:Nat):Int))) (hn:∀a next,g (a,((xs.length+1:Nat):Int)) next=fin a) (hk:xs.length<k):
  iter g k (x,(1:Int))=fin (k6 (x::xs)):=by
 have:=ep (g:=g) (st:=λi=>((xs.take i).foldl (λm y=>if y>m then y else m) x,((i+1:Nat):Int))) (n:=xs.length) (r:=fin (k6 (x::xs))) (λi hi next=>by
  rw[h i _ next hi,dq hi,Sc];rfl) (λnext=>by rw[hn,Sa];rfl) hk
 exact this
theorem qc:∀(xs:List Int) (x:Int),k6 (x::xs)∈x::xs
 |[],x=>by simp[k6]
 |y::xs,x=>by
  show xs.foldl _ (if y>x then y else x)∈_;by_cases c:y>x
  ·rw[if_pos c];exact RF _ (qc xs y)
  ·rw[if_neg c]
   rcases RI.1 (qc xs x)with h|h
   ·have h:xs.foldl (λm y=>if y>m then y else m) x=x:=h;rw[h];simp
   ·exact RF _ (RF _ h)
theorem yV:∀{xs:List Int},(∀x∈xs,-128<=x/\x<=127)->-128*(xs.length:Int)<=xs.sum/\xs.sum<=127*(xs.length:Int)
 |[],_=>by simp
 |x::xs,h=>by
  have h1:=yV λy hy=>h y (RF _ hy);have h2:=h x (by simp);rw[S1,Rw];omega
theorem EM {R:Type} {xs:List Int} {g:Int× Int->(Int× Int->Option R)->Option R} {fin:Int->Option R} {k:Nat} (hx:∀x∈xs,-128<=x/\x<=127) (hN:xs.length<=aQ)
  (h:∀(i:Nat) a next (hi:i<xs.length),g (a,(i:Int)) next=next (IntKind.i64.wrap (a+xs[i]),((i+1:Nat):Int))) (hn:∀a next,g (a,(xs.length:Int)) next=fin a) (hk:xs.length<k):
  iter g k ((0:Int),(0:Int))=fin xs.sum:=by
 have hM:=ao
 have:=ep (g:=g) (st:=λi=>((xs.take i).sum,(i:Int))) (n:=xs.length) (r:=fin xs.sum) (λi hi next=>by
  have hb:=yV (xs:=xs.take (i+1)) λx hm=>hx x (To hm)
  have e:(xs.take (i+1)).sum=(xs.take i).sum+xs[i]:=by rw[dq hi,Td];simp
  rw[e]at hb;simp only[R2]at hb
  rw[h i _ next hi,e,aH (by omega) (by omega)]) (λnext=>by rw[hn,Sa]) hk
 exact this
def lW (W C:Nat) (xs:List Int) (l:ay) (Z S h w o:Nat):Int:=
  cond (l.kind==0) (sq l xs o) (cond (l.kind==1) (sq l (Pn W C xs Z S h w) o)
    (cond (l.kind==2) (k6 (iW W C xs Z S h w o)) (cond (l.kind==3) (gw (iW W C xs Z S h w o).sum ((Z*Z:Nat):Int))
      (cond (l.kind==4) (if atN W C xs h w o<l.zero then l.zero else atN W C xs h w o) (xs.getD o 0)))))
inductive Fits (H W C:Nat) (xs:List Int) (l:ay) (Z S h w o:Nat):Prop
 |NB (h0:l.kind=0) (hb:o<l.m8.length) (h8:o<8) (hw:o*xs.length+xs.length<=l.weights.length)
 |conv (h0:l.kind=1) (hb:o<l.m8.length) (h8:o<8) (hw:o*(Z*(Z*C))+Z*(Z*C)<=l.weights.length) (v:LJ H W Z S h w) (hi:∀x∈l.weights,-128<=x/\x<=127)
 |max (h0:l.kind=2) (v:LJ H W Z S h w) (ho:o<C)
 |avg (h0:l.kind=3) (v:LJ H W Z S h w) (ho:o<C)
 |QH (h0:l.kind=4) (h1:h<H) (h2:w<W) (h3:o<C) (hz:-128<=l.zero/\l.zero<=127)
 |flat (h0:l.kind=5) (ho:o<xs.length)
theorem wJ {H W C:Nat} {xs:List Int} (r:kZ H W C xs) {Z S h w o:Nat} (v:LJ H W Z S h w) (ho:o<C):∀x∈iW W C xs Z S h w o,-128<=x/\x<=127:=by
 intro x hx;obtain⟨z1,z3,s2,hh,ww⟩:=v;unfold iW at hx;rw[Tq]at hx;obtain⟨i,hi,hx⟩:=hx;rw[Tq]at hx;obtain⟨j,hj,hx⟩:=hx;rw[List.mem_range]at hi hj;rw[SN]at hx;rw[hx];exact H3 r (by omega) (by omega) ho
theorem yW {H W C:Nat} {xs:List Int} {Z S h w o:Nat} (v:LJ H W Z S h w):∃x ys,iW W C xs Z S h w o=x::ys:=by
 have hl:=EI W C xs Z S h w o;have:=v.z1
 have hp:1<=Z*(Z*1):=by rw[Nat.mul_one];exact R7 this this
 cases hc:iW W C xs Z S h w o with
 |nil=>rw[hc]at hl;simp only[RY]at hl;omega
 |cons x ys=>exact⟨x,ys,rfl⟩
theorem nJ {H W C:Nat} {xs:List Int} {Z S h w o:Nat} (v:LJ H W Z S h w):(iW W C xs Z S h w o).length=Z*Z/\1<=Z*Z/\Z*Z<=9:=by
 have hl:=EI W C xs Z S h w o;rw[Nat.mul_one]at hl;exact⟨hl,R7 v.z1 v.z1,R7 v.z3 v.z3⟩
theorem LM {k:Nat} {H W C:Nat} {xs:List Int} (r:kZ H W C xs) {l:ay} {Z S h w o:Nat} (hk:512<k) (hwN:l.weights.length<=aQ) (hz:l.size=Z) (hs:l.step=S) (f:Fits H W C xs l Z S h w o):
  my k l (vg H W C xs) h w o=some (lW W C xs l Z S h w o):=by
 have hM:=ao;have hcu:=r.PF;have hlen:=r.len;unfold my lW
 cases f with
 |NB h0 hb h8 hw=>
  rw[h0];show(fu k l xs o).bind _=_
  rw[yU (by omega) (by omega) hw hwN hb h8];rfl
 |conv h0 hb h8 hw v hi=>
  have hl:=CN W C xs Z S h w;have:Z*(Z*C)<=3*(3*8):=R7 v.z3 (R7 v.z3 r.c8);rw[h0];show(cH k l (vg H W C xs) h w (-1)).bind _=_
  rw[EL r hk hz hs v,aa,yU (by omega) (by omega) (by rw[hl];exact hw) hwN hb h8];rfl
 |max h0 v ho=>
  rw[h0];show(cH k l (vg H W C xs) h w o).bind _=_;rw[yS r hk hz hs v ho,aa];have hl:=nJ (xs:=xs) (C:=C) (o:=o) v;obtain⟨x,ys,e⟩:=yW (xs:=xs) (C:=C) (o:=o) v;rw[e]at hl;simp only[Rw]at hl;show(ff k (iW W C xs Z S h w o)).bind _=some (k6 (iW W C xs Z S h w o));rw[e];unfold ff
  rw[ab,if_neg (by simp only[Rw];omega),s8,Te,aa,H4 (xs:=ys) (x:=x) (fin:=some) (λi a next hi=>by
   simp only[dV]
   rw[ab,if_pos (by simp only[Rw];omega),aC,S2,ag hi,aa,aq (show i+1<ys.length+1 by omega) (by omega)]) (λa next=>by
   simp only[dV]
   rw[ab,if_neg (by simp only[Rw];omega)]) (by omega)]
  rfl
 |avg h0 v ho=>
  rw[h0];show(cH k l (vg H W C xs) h w o).bind _=_;rw[yS r hk hz hs v ho,aa];have hl:=nJ (xs:=xs) (C:=C) (o:=o) v;have hm:=wJ r v ho;have hb:=yV hm;show _=some (gw (iW W C xs Z S h w o).sum ((Z*Z:Nat):Int))
  rw[EM (xs:=iW W C xs Z S h w o) (fin:=λy=>(nz k y (IntKind.i64.wrap (l.size*l.size))).bind λr9=>some r9) hm (by omega) (λi a next hi=>by
   simp only[iF]
   rw[ab,if_pos (by omega),ab,if_pos (by omega),Rm,ag hi,aa,aq hi (by omega)]) (λa next=>by
   simp only[iF]
   rw[ab,if_neg (by omega)]) (by omega)]
  rw[hz,EH (by omega),vQ (by omega) (by omega),aa]
 |QH h0 h1 h2 h3 hz=>
  simp only[h0,show((4:Int)==0)=false from rfl,show((4:Int)==1)=false from rfl,show((4:Int)==2)=false from rfl,show((4:Int)==3)=false from rfl,beq_self_eq_true,cond_true,cond_false];refine(congrArg (λo:Option Int=>o.bind _) (sn (k:=k) r h1 h2 h3)).trans ?_;rw[aa];show(idx xs _).bind _=_;rw[aC,GL r h1 h2 h3]
  rfl
 |flat h0 ho=>
  rw[h0];show(idx xs (o:Int)).bind _=_;rw[aC,ag ho];show _=some (xs.getD o 0);rw[bE ho];rfl
theorem Pp {W C:Nat} {xs:List Int} {Z S h w i j c:Nat} (hi:i<Z) (hj:j<Z) (hc:c<C):(Pn W C xs Z S h w)[i*(Z*C)+(j*C+c)]? =some (atN W C xs (h*S+i) (w*S+j) c):=by
 have hb:j*C+c<Z*C:=by
  have:(j+1)*C<=Z*C:=RD _ hj;rw[RM]at this;omega
 unfold Pn;rw[CK _ (Z*C) Z (λi hi=>gN _ C Z λj hj=>by simp) i (j*C+c) hi hb,CK _ C Z (λj hj=>by simp) j c hj hc,R3,List.getElem?_range hc];rfl
theorem Bg {o Z i j C c:Nat}:((o*Z+i)*Z+j)*C+c=o*(Z*(Z*C))+(i*(Z*C)+(j*C+c)):=by
 simp only[RM,Nat.mul_assoc,Sp]
theorem NC {H W C:Nat} {xs:List Int} (r:kZ H W C xs) {ws:List Int} (hi:∀x∈ws,-128<=x/\x<=127) {Z S h w o:Nat} (v:LJ H W Z S h w) (hw:o*(Z*(Z*C))+Z*(Z*C)<=ws.length):
  Po (Pn W C xs Z S h w) ((ws.take (o*(Z*(Z*C))+Z*(Z*C))).drop (o*(Z*(Z*C))))=
   (List.range Z).foldl (λs i=>(List.range Z).foldl (λs j=>(List.range C).foldl (λs c=>o6 s (atN W C xs (h*S+i) (w*S+j) c*ws.getD (((o*Z+i)*Z+j)*C+c) 0)) s) s) 0:=by
 obtain⟨z1,z3,s2,hh,ww⟩:=v;unfold Po;rw[CN,CL];refine fold_congr Z _ λs i hi2=>?_;rw[CL];refine fold_congr Z _ λs j hj=>?_;refine fold_congr C _ λs c hc=>?_
 have hb:j*C+c<Z*C:=by
  have:(j+1)*C<=Z*C:=RD _ hj;rw[RM]at this;omega
 have hb2:i*(Z*C)+(j*C+c)<Z*(Z*C):=by
  have:(i+1)*(Z*C)<=Z*(Z*C):=RD _ hi2;rw[RM]at this;omega
 have a1:=H3 r (show h*S+i<H by omega) (show w*S+j<W by omega) hc;have a2:=hi _ (wI (xs:=ws) (i:=o*(Z*(Z*C))+(i*(Z*C)+(j*C+c))) (by omega));rw[RO,Pp hi2 hj hc,SQ,RO,EK hb2,<-RO,Bg];unfold yL;rw[Ob (by omega) (by omega),Ob (by omega) (by omega)]
theorem LN {k:Nat} {H W C:Nat} {xs:List Int} (r:kZ H W C xs) {l:ay} {Z S h w o:Nat} (hk:512<k) (hwN:l.weights.length<=aQ) (hz:l.size=Z) (hs:l.step=S) (f:Fits H W C xs l Z S h w o):
  tz k (vg H W C xs) l h w o=some (lW W C xs l Z S h w o):=by
 have hM:=ao;have hcu:=r.PF;have hlen:=r.len;unfold tz lW
 cases f with
 |NB h0 hb h8 hw=>
  rw[h0];simp only[beq_self_eq_true,cond_true]
  rw[oK,aa,show(vg H W C xs).sh.size=((xs.length:Nat):Int)from by rw[hlen];exact r.size,EH (by omega),Ff (by omega),ab,if_pos (by omega),ab,if_pos (by omega),Rm,Rm,
   show(vg H W C xs).data=xs from rfl,JC (by omega) (by simp;omega) (by omega),aa,aC,ag hb,aa,oQ,aa,vS,aa]
  unfold sq
  rw[bE hb]
 |conv h0 hb h8 hw v hi=>
  have hl:=CN W C xs Z S h w;have hvv:=v;obtain⟨z1,z3,s2,hh,ww⟩:=hvv;have:=r.h8;have:=r.w8;have hc8:=r.c8;have hq:Z*(Z*C)<=3*(3*8):=R7 v.z3 (R7 v.z3 r.c8);rw[h0];show iter _ k _=some (sq l (Pn W C xs Z S h w) o)
  refine(nI Z (λs i=>(List.range Z).foldl (λs j=>(List.range C).foldl (λs c=>o6 s (atN W C xs (h*S+i) (w*S+j) c*l.weights.getD (((o*Z+i)*Z+j)*C+c) 0)) s) s) 0
   (fin:=λy=>(idx l.m8 (o:Int)).bind λe14=>(mi k y e14).bind λr15=>(nw k r15 l.mult l.shift l.zero).bind λr16=>some r16) (λi a next hi2=>?_) (λa next=>?_) (by omega)).trans ?_
  ·simp only[mr,hz,hs];rw[ab,if_pos (by omega),aq hi2 (by omega)];refine nI Z (λs j=>(List.range C).foldl (λs c=>o6 s (atN W C xs (h*S+i) (w*S+j) c*l.weights.getD (((o*Z+i)*Z+j)*C+c) 0)) s) a (fin:=λy=>next (y,((i+1:Nat):Int))) (λj a2 next2 hj=>?_) (λa2 next2=>?_) (by omega)
   ·simp only[mq,hz,hs];rw[ab,if_pos (by omega),aq hj (by omega)];refine nI C (λs c=>o6 s (atN W C xs (h*S+i) (w*S+j) c*l.weights.getD (((o*Z+i)*Z+j)*C+c) 0)) a2 (fin:=λy=>next2 (y,((j+1:Nat):Int))) (λc a3 next3 hc=>?_) (λa3 next3=>?_) (by omega)
    ·have e1:h*S+i<H:=by omega
     have e2:w*S+j<W:=by omega
     have e:=sk (k:=k) r hk e1 e2 hc;have o1:o*Z<=7*3:=R7 (by omega) z3;have o2:(o*Z+i)*Z<=23*3:=R7 (by omega) z3;have o3:((o*Z+i)*Z+j)*C<=71*8:=R7 (by omega) hc8
     have hb:j*C+c<Z*C:=by
      have:(j+1)*C<=Z*C:=RD _ hj;rw[RM]at this;omega
     have hb2:i*(Z*C)+(j*C+c)<Z*(Z*C):=by
      have:(i+1)*(Z*C)<=Z*(Z*C):=RD _ hi2;rw[RM]at this;omega
     have hx:((o*Z+i)*Z+j)*C+c<l.weights.length:=by rw[Bg];omega
     have a1:=H3 r e1 e2 hc;have a2:=hi _ (wI hx);have a3:=Pm (A:=128) (B:=128) (x:=atN W C xs (h*S+i) (w*S+j) c) (y:=l.weights.getD (((o*Z+i)*Z+j)*C+c) 0) (by omega) (by omega);unfold vg at e;simp only[mo,hz,hs,vg];refine(LI (by omega) _ _).trans ?_;rw[EH (a:=h) (by omega),Ff (b:=i) (by omega),EH (a:=w) (by omega),Ff (b:=j) (by omega),e,aa,EH (a:=o) (by omega),Ff (b:=i) (by omega),EH (by omega),Ff (b:=j) (by omega),EH (by omega),Ff (b:=c) (by omega),aC,ag hx,aa,<-bE hx 0,aH (n:=atN W C xs (h*S+i) (w*S+j) c*l.weights.getD (((o*Z+i)*Z+j)*C+c) 0) (by omega) (by omega),oQ,aa,aq hc (by omega)]
    ·simp only[mo,vg];exact Q5 (by omega) _ _
   ·simp only[mq,hz];rw[ab,if_neg (by omega)]
  ·simp only[mr,hz];rw[ab,if_neg (by omega)]
  ·rw[aC,ag hb,aa,oQ,aa,vS,aa];unfold sq
   rw[hl,NC r hi v hw,bE hb]
 |max h0 v ho=>
  rw[h0];show(lK k (vg H W C xs) l h w o).bind _=_;rw[EJ r hk hz hs v ho,aa];have hl:=nJ (xs:=xs) (C:=C) (o:=o) v;obtain⟨x,ys,e⟩:=yW (xs:=xs) (C:=C) (o:=o) v;rw[e]at hl;simp only[Rw]at hl;show _=some (k6 (iW W C xs Z S h w o));rw[e,ab,if_pos (by simp only[Rw];omega)];show(some x).bind _=_
  rw[aa,H4 (xs:=ys) (x:=x) (fin:=some) (λi a next hi=>by
   simp only[mu];rw[ab,if_pos (by simp only[Rw];omega),ab,if_pos (by simp only[Rw];omega),Rm,S2,ag hi,aa,aq (show i+1<ys.length+1 by omega) (by omega)]
   have hlt:0<=((i+1:Nat):Int)/\((i+1:Nat):Int)<(((x::ys).length:Nat):Int):=by rw[Rw];omega
   rw[LI hlt,aa,ab];by_cases c:ys[i]>a
   ·rw[if_pos c,if_pos c]
   ·rw[if_neg c,if_neg c]) (λa next=>by
   simp only[mu]
   rw[ab,if_neg (by simp only[Rw];omega)]) (by omega)]
 |avg h0 v ho=>
  rw[h0];show(lK k (vg H W C xs) l h w o).bind _=_;rw[EJ r hk hz hs v ho,aa];have hl:=nJ (xs:=xs) (C:=C) (o:=o) v;have hm:=wJ r v ho;have hb:=yV hm;show _=some (gw (iW W C xs Z S h w o).sum ((Z*Z:Nat):Int))
  rw[EM (xs:=iW W C xs Z S h w o) (fin:=λy26=>(cond (decide (y26<(0:Int))) (cond (decide ((IntKind.i64.wrap ((2:Int)*((iW W C xs Z S h w o).length:Int)))=0)) none (some (IntKind.i64.wrap (0-(IntKind.i64.wrap ((IntKind.i64.wrap ((IntKind.i64.wrap ((-2:Int)*y26))+((iW W C xs Z S h w o).length:Int))).tdiv (IntKind.i64.wrap ((2:Int)*((iW W C xs Z S h w o).length:Int))))))))) (cond (decide ((IntKind.i64.wrap ((2:Int)*((iW W C xs Z S h w o).length:Int)))=0)) none (some (IntKind.i64.wrap ((IntKind.i64.wrap ((IntKind.i64.wrap ((2:Int)*y26))+((iW W C xs Z S h w o).length:Int))).tdiv (IntKind.i64.wrap ((2:Int)*((iW W C xs Z S h w o).length:Int))))))))) hm (by omega) (λi a next hi=>by
   simp only[mv]
   rw[ab,if_pos (by omega),ab,if_pos (by omega),Rm,ag hi,aa,aq hi (by omega)]) (λa next=>by
   simp only[mv]
   rw[ab,if_neg (by omega)]) (by omega)]
  rw[hl.1]at hb⊢;generalize (iW W C xs Z S h w o).sum=y at hb⊢;obtain⟨n,hn⟩:∃n:Nat,n=Z*Z:=⟨_,rfl⟩;rw[<-hn]at hb hl⊢;unfold gw;rw[aH (n:=2*(n:Int)) (by omega) (by omega),ab];by_cases c:y<0
  ·rw[if_pos c,if_pos c,ab,if_neg (by omega),aH (n:=-2*y) (by omega) (by omega),aH (n:=-2*y+(n:Int)) (by omega) (by omega),So (by omega),show 2*-y+(n:Int)=-2*y+(n:Int)from by omega];have h:=Be (a:=-2*y+(n:Int)) (b:=2*(n:Int)) (by omega) (by omega);generalize (-2*y+(n:Int))/(2*(n:Int))=q at h;rw[aH (n:=q) (by omega) (by omega),aH (by omega) (by omega)]
   congr 1;omega
  ·rw[if_neg c,if_neg c,ab,if_neg (by omega),aH (n:=2*y) (by omega) (by omega),aH (n:=2*y+(n:Int)) (by omega) (by omega),So (by omega)];have h:=Be (a:=2*y+(n:Int)) (b:=2*(n:Int)) (by omega) (by omega)
   rw[aH (by omega) (by omega)]
 |QH h0 h1 h2 h3 hz=>
  rw[h0];show(oA k (vg H W C xs) h w o).bind _=_;rw[sk r hk h1 h2 h3,aa];show cond (decide (atN W C xs h w o<l.zero)) _ _=some (if atN W C xs h w o<l.zero then l.zero else atN W C xs h w o);rw[ab];by_cases c:atN W C xs h w o<l.zero
  ·rw[if_pos c,if_pos c]
  ·rw[if_neg c,if_neg c]
 |flat h0 ho=>
  rw[h0];show(idx xs (o:Int)).bind _=_;rw[aC,ag ho];show _=some (xs.getD o 0);rw[bE ho];rfl
end
end Go.Proofs.Ev
