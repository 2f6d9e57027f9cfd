/- Typed functions and what holds of them: part 3. -/
import Derived.Test.YtpiopmjbcadfbaaGreatEvL2
import Derived.KernelRfl
set_option linter.unusedVariables false
set_option linter.unusedSimpArgs false
set_option linter.unusedSectionVars false
namespace Go.Proofs.Ev
section
def aA.tot (x:aA):Nat:=x.data.length+(0)
def av.tot (x:av):Nat:=x.weights.length+(x.mT.length+(0))
def Model.tot (x:Model):Nat:=fJ av.tot x.aB+(0)
def Job.tot (x:Job):Nat:=x.model.tot+(x.act.tot+(0))
def Task.tot (x:Task):Nat:=x.ar.length+(0)
def aj.tot (x:aj):Nat:=fJ Task.tot x.tasks+(0)
def Request.tot (x:Request):Nat:=x.job.tot+(0)
def Runtime.tot (x:Runtime):Nat:=x.sched.tot+(fJ Model.tot x.ak+(x.al.length+(fJ Request.tot x.ae+(0))))
def Step.tot (x:Step):Nat:=x.data.length+(x.input.tot+(0))
def Event.tot (x:Event):Nat:=x.out.tot+(0)
def Entry.tot (x:Entry):Nat:=x.model.tot+(x.input.tot+(0))
theorem I6 {k:Nat} {xs:List Int} {n:Int} (hx:xs.length<=tO) (h1:0<=n) (h2:n<=1048576):Sz (sV k xs n) n xs.length:=Gb k xs n ⟨h1,h2⟩ hx
theorem I7 {k:Nat} {xs:List Int} (hk:xs.length<k) (hN:xs.length<=aU):sW k xs=some xs:=Gc hk hN
theorem I8 {k:Nat} {xs ys:List Int} (hk:xs.length<k) (hN:xs.length<=aU):wm k xs ys=some (decide (xs=ys)):=Gd hk (by unfold tO;rw[ao]at hN;omega)
theorem Gf {k:Nat} {xs:List Int} {n:Int} (hx:xs.length<=tO) (h1:0<=n) (h2:n<=1048576):Sz (pH k xs n) n xs.length:=D8 k xs n ⟨h1,h2⟩ hx
theorem Gg {k:Nat} {xs:List Int} (hk:xs.length<k) (hN:xs.length<=aU):pI k xs=some xs:=D9 hk hN
theorem Gh {k:Nat} {xs ys:List Int} (hk:xs.length<k) (hN:xs.length<=aU):sY k xs ys=some (decide (xs=ys)):=Eb hk (by unfold tO;rw[ao]at hN;omega)
theorem Gi {k:Nat} {x:Shape}:xI k x=some x:=rfl
theorem Gj {k:Nat} {x y:Shape}:xJ k x y=some (decide (x=y)):=by
 refine(Pm (Pm (Pm (Lb)))).trans ?_
 congr 1
 rw[decide_eq_decide];cases x;cases y;simp only[Shape.mk.injEq,and_true]
theorem Ed {k:Nat} {x:aA} {n:Int} (hx:x.Ok) (hk:x.tot<k) (h1:0<=n) (h2:n<=1048576):Sz (uL k x n) n x.tot:=by
 unfold aA.tot at hk;exact K9 h1 (I6 hx.2.1 h1 h2) λc0=>NQ (by omega)
theorem Ee {k:Nat} {x:aA} (hk:x.tot<k) (hN:x.tot<=aU):qq k x=some x:=by
 unfold aA.tot at hk hN;have e0:=Gi (k:=k) (x:=x.sh);have e1:=I7 (k:=k) (xs:=x.data) (by omega) (by omega);unfold qq;simp only[e0,e1,aa]
theorem Ef {k:Nat} {x y:aA} (hk:x.tot<k) (hN:x.tot<=aU):uM k x y=some (decide (x=y)):=by
 unfold aA.tot at hk hN;refine(Qm Gj (Qm (I8 (by omega) (by omega)) (Lb))).trans ?_
 congr 1
 rw[decide_eq_decide];cases x;cases y;simp only[aA.mk.injEq,and_true]
theorem I9 {k:Nat} {x:Step} {n:Int} (hx:x.Ok) (hk:x.tot<k) (h1:0<=n) (h2:n<=1048576):Sz (wo k x n) n x.tot:=by
 unfold Step.tot at hk;exact K9 h1 (Gf hx.2.2.2.1.1 h1 h2) λc0=>K9 (by omega) (Ed hx.2.2.2.2 (by omega) (by omega) (by omega)) λc1=>NQ (by omega)
theorem Ja {k:Nat} {x:Step} (hk:x.tot<k) (hN:x.tot<=aU):sX k x=some x:=by
 unfold Step.tot at hk hN;have e0:=Gg (k:=k) (xs:=x.data) (by omega) (by omega);have e1:=Ee (k:=k) (x:=x.input) (by omega) (by omega);unfold sX;simp only[e0,e1,aa]
theorem Jb {k:Nat} {x y:Step} (hk:x.tot<k) (hN:x.tot<=aU):wq k x y=some (decide (x=y)):=by
 unfold Step.tot at hk hN;refine(Pm (Pm (Pm (Qm (Gh (by omega) (by omega)) (Qm (Ef (by omega) (by omega)) (Lb)))))).trans ?_
 congr 1
 rw[decide_eq_decide];cases x;cases y;simp only[Step.mk.injEq,and_true]
theorem Gk {k:Nat} {xs:List Step} {n:Int} (hx:okS Step.Ok xs) (hk:fJ Step.tot xs<k) (h1:0<=n) (h2:n<=1048576):Sz (xL k xs n) n (fJ Step.tot xs):=
 OQ (f:=λx n=>wo k x n) (g:=λu next=>jO k xs u next (λy=>some y) (λy=>some y)) hx.1 (λx hm n a b=>I9 (hx.2 x hm) (by have:=fl Step.tot hm;omega) a b)
  (λi left hi next=>by simp only[jO];rw[ab,if_pos (by omega),aD,ai hi,aa]) (λleft next=>by simp only[jO];rw[ab,if_neg (by omega)]) (by have:=bw Step.tot xs;omega) h1 h2
theorem Gl {k:Nat} {xs:List Step} (hk:fJ Step.tot xs<k) (hN:fJ Step.tot xs<=aU):pJ k xs=some xs:=by
 have hl:xs.length<=fJ Step.tot xs:=bw _ _
 exact OR xs _ (f:=λx=>sX k x) (g:=λu next=>jP k xs u next (λy=>some y)) (by omega) (λx hm=>Ja (by have:=fl Step.tot hm;omega) (by have:=fl Step.tot hm;omega))
  (λi ys hi next=>by simp only[jP];rw[ab,if_pos (by omega),aD,ai hi,aa]) (λys next=>by simp only[jP];rw[ab,if_neg (by omega)]) (by omega)
theorem Gm {k:Nat} {xs ys:List Step} (hk:fJ Step.tot xs<k) (hN:fJ Step.tot xs<=aU):xM k xs ys=some (decide (xs=ys)):=by
 have hl:xs.length<=fJ Step.tot xs:=bw _ _;have h2:=ao
 exact OS (f:=λx y=>wq k x y) (g:=λu next=>jQ k (xs,ys) u next (λy=>some true) (λy=>some y)) (by omega) (λx hm y=>Jb (by have:=fl Step.tot hm;omega) (by have:=fl Step.tot hm;omega))
  (λi hi hi' next=>by simp only[jQ];rw[ab,if_pos (by omega),aD,aD,ai hi,ai hi',aa,aa]) (λnext=>by simp only[jQ];rw[ab,if_neg (by omega)]) (by omega)
end
section
end
section
theorem Li {β R:Type} (n:Nat) (f:Nat->β) {g:Int× List β->(Int× List β->Option R)->Option R} {fin:List β->Option R}
  (h:∀(i:Nat) (ys:List β) (hi:i<n) (next:Int× List β->Option R),ys.length=i->g ((i:Int),ys) next=next (((i+1:Nat):Int),ys++[f i]))
  (hn:∀ys next,g ((n:Int),ys) next=fin ys) {k:Nat} (hk:n<k):iter g k (0,[])=fin ((List.range n).map f):=by
 have:=fk (g:=g) (st:=λi=>((i:Int),(List.range i).map f)) (n:=n) (r:=fin ((List.range n).map f)) (λi hi next=>by
  rw[h i _ hi next (by simp),Sq,R2];rfl) (λnext=>hn _ _) hk
 simpa using this
def takes (x:Step):Int:=cond (inB x.kind 4 5&&inB x.a 0 200) x.a 0
theorem Cm (x:Step):0<=takes x/\takes x<=200:=by
 unfold takes;cases h:(inB x.kind 4 5&&inB x.a 0 200)
 ·simp
 ·simp only[inB,QX,decide_eq_true_eq]at h;simp only[cond_true];omega
theorem tx (k:Nat) (x:Step):qu k x=some (takes x):=by
 unfold qu takes;simp only[cw,aa];cases inB x.kind 4 5<;>cases inB x.a 0 200<;>rfl
theorem vS (k:Nat) (x:Step):kA k x=some (inB x.kind 4 5&&inB x.a 0 200):=by
 unfold kA;simp only[fw,aa,bJ];by_cases h4:x.kind=4
 ·rw[if_pos h4,h4];rfl
 ·rw[if_neg h4];by_cases h5:x.kind=5
  ·rw[if_pos h5,h5];rfl
  ·rw[if_neg h5,show inB x.kind 4 5=false from by unfold inB;rw[decide_eq_false_iff_not];omega];rfl
end
section
theorem jm {b c:Bool}:cond b (some c) (some false)=some (b&&c):=by cases b<;>rfl
theorem dr {α:Type} {b:Bool} {x y:α}:cond (!b) x y=cond b y x:=by cases b<;>rfl
theorem ny {α:Type} (a b:Int) (x y:α):cond (a !=b) x y=cond (decide (a=b)) y x:=by rw[K8];by_cases h:a=b<;>simp[h]
theorem Eg (a b:Int):(a==b)=decide (a=b):=OP a b
def HI (l:av):Bool:=inB l.out 1 8&&(inB l.mult 0 2147483647&&(inB l.shift 0 31&&(inB l.zero (-128) 127&&(decide ((l.mT.length:Int)=l.out)&&(l.mT.all (λx=>inB x (-1000000) 1000000)&&rp l.weights)))))
def rT (l:av):Bool:=decide (l.out=0)&&(decide (l.mult=0)&&(decide (l.shift=0)&&(decide ((l.weights.length:Int)=0)&&decide ((l.mT.length:Int)=0))))
def oU (l:av):Bool:=decide (l.size=0)&&decide (l.step=0)
def Lj (s:Shape) (l:av):Bool:=inB l.size 1 3&&(inB l.step 1 2&&(decide (l.size<=s.h)&&decide (l.size<=s.w)))
def iN (s:Shape) (l:av):Bool:=s.okB&&
 (cond (decide (l.kind=0)) (oU l&&(HI l&&(decide (s.size<=64)&&decide ((l.weights.length:Int)=l.out*s.size))))
 (cond (decide (l.kind=1)) (Lj s l&&(HI l&&(decide ((l.weights.length:Int)=l.out*l.size*l.size*s.c)&&decide ((l.weights.length:Int)<=600))))
 (cond (decide (l.kind=2)||decide (l.kind=3)) (Lj s l&&(rT l&&decide (l.zero=0)))
 (cond (decide (l.kind=4)) (oU l&&(rT l&&inB l.zero (-128) 127))
 (cond (decide (l.kind=5)) (oU l&&(rT l&&(decide (l.zero=0)&&decide (s.size<=8)))) false)))))
def qO (s:Shape) (l:av) (c:Int):Shape:=
 ⟨IntKind.i64.wrap ((IntKind.i64.wrap ((IntKind.i64.wrap (s.h-l.size)).tdiv l.step))+1),IntKind.i64.wrap ((IntKind.i64.wrap ((IntKind.i64.wrap (s.w-l.size)).tdiv l.step))+1),c⟩
def shapeOf (s:Shape) (l:av):Shape:=
 cond (decide (l.kind=0)) ⟨1,1,l.out⟩ (cond (decide (l.kind=1)) (qO s l l.out) (cond (decide (l.kind=4)) s (cond (decide (l.kind=5)) ⟨1,1,s.size⟩ (qO s l s.c))))
def jn:Shape:=⟨0,0,0⟩
def gP (s:Shape) (l:av):Shape× Bool:=cond (iN s l) (shapeOf s l,true) (jn,false)
theorem vu (k:Nat) (x:Int):gG k x=some (inB x (-128) 127):=by unfold gG;rw[cw,aa]
theorem Gn {k:Nat} {l:av} (hk:l.tot<k) (hN:l.tot<=aU) (fin:Option Bool):
    (iter (λu16 n16=>gj k (l.kind,l.out,l.size,l.step,l.mult,l.shift,l.zero,l.weights,l.mT) u16 n16 (λy9=>iter (λu14 n14=>gl k (l.kind,l.out,l.size,l.step,l.mult,l.shift,l.zero,l.weights,l.mT) u14 n14 (λy12=>fin) (λy13=>some y13)) k (0:Int)) (λy15=>some y15)) k (0:Int))
      =cond (l.mT.all (λx=>inB x (-1000000) 1000000)) (cond (rp l.weights) fin (some false)) (some false):=by
  have hM:=ao;unfold av.tot at hk hN
  rw [ky l.mT (λ x => inB x (-1000000) 1000000) (yes := cond (rp l.weights) fin (some false)) (no := some false) (λ i hi next => by
    simp only[gj]
    rw[ab,if_pos (by omega),aD,ai hi,aa,cw,aa,cond_not,au hi (by omega)]) (λnext=>by
    simp only[gj];rw[ab,if_neg (by omega)]
    exact ky l.weights (λx=>inB x (-128) 127) (λi hi next=>by
      simp only[gl]
      rw[ab,if_pos (by omega),aD,ai hi,aa,vu,aa,cond_not,au hi (by omega)]) (λnext=>by
      simp only[gl];rw[ab,if_neg (by omega)]) (by omega)) (by omega)]
def xT (l:av) (window weighs:Bool):Bool:=
 cond window (inB l.size 1 3&&inB l.step 1 2) (oU l)&&cond weighs (HI l) (rT l&&cond (decide (l.kind=4)) (inB l.zero (-128) 127) (decide (l.zero=0)))
theorem OX (n:Nat):decide ((n:Int)>0)=!decide ((n:Int)=0):=by
 by_cases h:(n:Int)=0
 ·rw[decide_eq_true h,decide_eq_false (by omega)];rfl
 ·rw[decide_eq_false h,decide_eq_true (by omega)];rfl
theorem Cn {k:Nat} {l:av} (hk:l.tot<k) (hN:l.tot<=aU) (a b:Bool):qv k l a b=some (xT l a b):=by
 unfold qv xT HI rT oU;simp only[cw,vu,aa,dr,ny,Gn hk hN,OX,Eg];cases a<;>cases b<;>simp only[cond_true,cond_false,jm]<;>(by_cases h4:l.kind=4<;>simp only[h4,decide_true,decide_false,cond_true,cond_false,jm,Bool.and_assoc,S8])
theorem cn {x a b:Int}:inB x a b=true↔a<=x/\x<=b:=by unfold inB;simp
theorem pP {s:Shape} {l:av} (h:Lj s l=true):1<=l.size/\l.size<=3/\1<=l.step/\l.step<=2/\l.size<=s.h/\l.size<=s.w:=by
 simp only[Lj,QX,cn,decide_eq_true_eq]at h;omega
theorem wC {l:av} (h:HI l=true):1<=l.out/\l.out<=8:=by
 simp only[HI,QX,cn]at h;omega
theorem Eh {o z c:Int} (h1:1<=o) (h2:o<=8) (h3:1<=z) (h4:z<=3) (h5:1<=c) (h6:c<=8):
  IntKind.i64.wrap (IntKind.i64.wrap (IntKind.i64.wrap (o*z)*z)*c)=o*z*z*c/\IntKind.i64.wrap (o*IntKind.i64.wrap (IntKind.i64.wrap (z*z)*c))=o*z*z*c:=by
 have a1:=pG (show 0<=o by omega) h2 (show 0<=z by omega) h4;have a2:=pG a1.1 a1.2 (show 0<=z by omega) h4;have a3:=pG a2.1 a2.2 (show 0<=c by omega) h6;have b1:=pG (show 0<=z by omega) h4 (show 0<=z by omega) h4;have b2:=pG b1.1 b1.2 (show 0<=c by omega) h6;have b3:=pG (show 0<=o by omega) h2 b2.1 b2.2;refine⟨?_,?_⟩
 ·rw[aH (n:=o*z) (by omega) (by omega),aH (n:=o*z*z) (by omega) (by omega),aH (by omega) (by omega)]
 ·rw[aH (n:=z*z) (by omega) (by omega),aH (n:=z*z*c) (by omega) (by omega),aH (by omega) (by omega),<-Tu,<-Tu]
theorem AK {o:Int} {s:Shape} (h1:1<=o) (h2:o<=8):IntKind.i64.wrap (o*s.size)=o*s.size:=by
 have h:=Shape.Lh s;have a1:=pG (show 0<=o by omega) h2 h.1 h.2;exact aH (by omega) (by omega)
theorem oC {k:Nat} {s:Shape} {l:av} (hk:l.tot<k) (hN:l.tot<=aU):k9 k s l=some (gP s l):=by
  unfold k9 gP iN;simp only[j5,cw,oA,Cn hk hN,aa,dr,ny,Eg];cases hs:s.okB
  · rfl
  obtain⟨c1,c2,c3,c4,c5,c6⟩:=Shape.tu hs;simp only[cond_true,Q6];by_cases k0:l.kind=0
  · have e1:inB l.kind 0 5=true:=by rw[cn];omega
    have e2:inB l.kind 1 3=false:=by rw[<-Bool.not_eq_true,cn];omega
    simp only[k0,e1,e2,cond_true,cond_false,xT,shapeOf,decide_true];simp only[k0]at e1 e2;simp only[e1,e2,cond_true,cond_false,show decide ((0:Int)<=1)=true from rfl];cases oU l
    · rfl
    cases hnum:HI l
    · rfl
    obtain⟨o1,o2⟩:=wC hnum;simp only[AK o1 o2,Q6,cond_true];by_cases z:s.size<=64
    · rw[decide_eq_true z,decide_eq_false (by omega)];cases decide ((l.weights.length:Int)=l.out*s.size)<;>rfl
    · rw[decide_eq_false z,decide_eq_true (by omega)];rfl
  by_cases k1:l.kind=1
  · simp only[k1,xT,shapeOf,show inB 1 0 5=true from rfl,show inB 1 1 3=true from rfl,decide_true,cond_true,cond_false,show decide ((1:Int)=0)=false from rfl,show decide ((1:Int)<=1)=true from rfl];unfold Lj;cases hz:inB l.size 1 3
    · rfl
    cases ht:inB l.step 1 2
    · rfl
    rw[cn]at hz ht;simp only[Q6,cond_true];cases hnum:HI l
    · simp only[cond_false,RP,SZ];rfl
    obtain⟨o1,o2⟩:=wC hnum;simp only[cond_true,Q6,(Eh o1 o2 hz.1 hz.2 c5 c6).1];rw[decide_eq_false (show¬l.step=0 by omega)];simp only[cond_false];by_cases w1:l.size<=s.h
    · rw [decide_eq_true w1, decide_eq_false (show ¬ l.size > s.h by omega)];by_cases w2:l.size<=s.w
      · rw[decide_eq_true w2,decide_eq_false (show¬l.size>s.w by omega)];simp only[cond_false,Q6];cases decide ((l.weights.length:Int)=l.out*l.size*l.size*s.c)
        · rfl
        · by_cases w3:(l.weights.length:Int)<=600
          · rw[decide_eq_true w3,decide_eq_false (by omega)];rfl
          · rw[decide_eq_false w3,decide_eq_true (by omega)];rfl
      · rw[decide_eq_false w2,decide_eq_true (show l.size>s.w by omega)];rfl
    · rw[decide_eq_false w1,decide_eq_true (show l.size>s.h by omega)];rfl
  have win:l.kind=2\/l.kind=3->_:=λh23=>by
    have e1:inB l.kind 0 5=true:=by rw[cn];omega
    have e2:inB l.kind 1 3=true:=by rw[cn];omega
    have e3:decide (l.kind<=1)=false:=decide_eq_false (by omega)
    have e4:(decide (l.kind=2)||decide (l.kind=3))=true:=by simpa using h23
    have e5:decide (l.kind=4)=false:=decide_eq_false (by omega);have e6:decide (l.kind=5)=false:=decide_eq_false (by omega);exact And.intro e1 (And.intro e2 (And.intro e3 (And.intro e4 (And.intro e5 e6))))
  by_cases h23:l.kind=2\/l.kind=3
  · obtain⟨e1,e2,e3,e4,e5,e6⟩:=win h23;simp only[e1,e2,e3,e4,e5,e6,decide_eq_false k0,decide_eq_false k1,xT,shapeOf,cond_true,cond_false];unfold Lj;cases hz:inB l.size 1 3
    · rfl
    cases ht:inB l.step 1 2
    · rfl
    rw[cn]at hz ht;simp only[Q6,cond_true];rw[decide_eq_false (show¬l.step=0 by omega)];cases rT l
    · simp only[RP,SZ,cond_false];rfl
    cases decide (l.zero=0)
    · simp only[RP,SZ,cond_false];rfl
    simp only[cond_false,cond_true,S8,Q6];by_cases w1:l.size<=s.h
    · rw[decide_eq_true w1,decide_eq_false (show¬l.size>s.h by omega)];by_cases w2:l.size<=s.w
      · rw[decide_eq_true w2,decide_eq_false (show¬l.size>s.w by omega)];rfl
      · rw[decide_eq_false w2,decide_eq_true (show l.size>s.w by omega)];rfl
    · rw[decide_eq_false w1,decide_eq_true (show l.size>s.h by omega)];rfl
  have e4:(decide (l.kind=2)||decide (l.kind=3))=false:=by simpa using h23
  by_cases k4:l.kind=4
  · simp only[k4,e4,xT,shapeOf,show inB 4 0 5=true from rfl,show inB 4 1 3=false from rfl,decide_true,cond_true,cond_false,show decide ((4:Int)=0)=false from rfl,show decide ((4:Int)=1)=false from rfl,show decide ((4:Int)<=1)=false from rfl,
      show(decide ((4:Int)=2)||decide ((4:Int)=3))=false from rfl,show decide ((4:Int)=5)=false from rfl]
    cases oU l<;>cases rT l<;>cases inB l.zero (-128) 127<;>rfl
  by_cases k5:l.kind=5
  · simp only[k5,xT,shapeOf,show inB 5 0 5=true from rfl,show inB 5 1 3=false from rfl,decide_true,cond_true,cond_false,show decide ((5:Int)=0)=false from rfl,show decide ((5:Int)=1)=false from rfl,show decide ((5:Int)<=1)=false from rfl,
      show(decide ((5:Int)=2)||decide ((5:Int)=3))=false from rfl,show decide ((5:Int)=4)=false from rfl]
    by_cases z:s.size<=8
    · rw[decide_eq_true z,decide_eq_false (show¬s.size>8 by omega)];cases oU l<;>cases rT l<;>cases decide (l.zero=0)<;>rfl
    · rw[decide_eq_false z,decide_eq_true (show s.size>8 by omega)];cases oU l<;>cases rT l<;>cases decide (l.zero=0)<;>rfl
  · have e1:inB l.kind 0 5=false:=by rw[<-Bool.not_eq_true,cn];omega
    simp only[e1,e4,decide_eq_false k0,decide_eq_false k1,decide_eq_false k4,decide_eq_false k5,cond_false];rfl
theorem tz (k:Nat) (l:av):eS k l=some (oU l):=by
 unfold eS oU;simp only[Eg,jm]
theorem uP (k:Nat) (l:av):eE k l=some (rT l):=by
 unfold eE rT;simp only[Eg,jm]
theorem rU (k:Nat) (s:Shape) (l:av):dZ k l s=some (Lj s l):=by
 unfold dZ Lj;simp only[fw,aa,jm]
 congr 1
 rw[S9];simp only[QX,cn,decide_eq_true_eq];split<;>split<;>constructor<;>intro h<;>omega
theorem Gp {k:Nat} {xs:List Int} (hk:xs.length<k) (hx:xs.length<=tO):aJ k xs=some (!xs.all (λx=>inB x (-1000000) 1000000)):=by
 unfold tO at hx;unfold aJ aW
 rw[eR xs (λx=>!inB x (-1000000) 1000000) (λi hi next=>by
  simp only[aE,ab,gS,fw,aa]
  rw[if_pos (by omega),aD,ai hi,aa,au hi (by omega)]) (λnext=>by
  simp only[aE,ab];rw[if_neg (by omega)]) hk]
 rw[cS];simp only[aa,nw];rw[SC];simp
theorem rV {k:Nat} {l:av} {n:Int} (hk:l.tot<k) (hN:l.tot<=aU):fA k l n=some (HI l&&decide ((l.weights.length:Int)=IntKind.i64.wrap (l.out*n))):=by
 have hM:=ao;unfold av.tot at hk hN;unfold fA HI;simp only[fw,aa,tv (xs:=l.weights) (k:=k) (by omega) (by unfold tO;omega),Gp (xs:=l.mT) (k:=k) (by omega) (by unfold tO;omega),Eg,Ti,jm]
 congr 1
 cases inB l.out 1 8<;>cases inB l.mult 0 2147483647<;>cases inB l.shift 0 31<;>cases inB l.zero (-128) 127<;>cases decide ((l.weights.length:Int)=IntKind.i64.wrap (l.out*n))<;>cases rp l.weights<;>cases decide ((l.mT.length:Int)=l.out)<;>cases l.mT.all (λx=>inB x (-1000000) 1000000)<;>rfl
theorem iO (k:Nat) {s:Shape} {l:av} (c:Int) (h:1<=l.step):eT k l s c=some (qO s l c):=by
 unfold eT qO;rw[decide_eq_false (show¬l.step=0 by omega)];rfl
theorem oD {k:Nat} {s:Shape} {l:av} (hk:l.tot<k) (hN:l.tot<=aU):la k s l=some (gP s l):=by
 unfold la gP iN;simp only[pN,fw,rS,tz,uP,rU,rV hk hN,aa,dr,Eg];cases hs:s.okB
 ·rfl
 obtain⟨c1,c2,c3,c4,c5,c6⟩:=Shape.tu hs;simp only[cond_true,Q6];by_cases k0:l.kind=0
 ·simp only[k0,shapeOf,decide_true,cond_true];cases hnum:HI l
  ·cases decide (s.size<=64)<;>cases oU l<;>rfl
  obtain⟨o1,o2⟩:=wC hnum;simp only[AK o1 o2];cases decide (s.size<=64)<;>cases oU l<;>cases decide ((l.weights.length:Int)=l.out*s.size)<;>rfl
 by_cases k1:l.kind=1
 ·simp only[k1,shapeOf,show decide ((1:Int)=0)=false from rfl,decide_true,cond_true,cond_false];cases hw:Lj s l
  ·rfl
  have hw:=pP hw;cases hnum:HI l
  ·cases decide ((l.weights.length:Int)<=600)<;>rfl
  obtain⟨o1,o2⟩:=wC hnum;simp only[(Eh o1 o2 hw.1 hw.2.1 c5 c6).2,iO k _ hw.2.2.1,aa];cases decide ((l.weights.length:Int)<=600)<;>cases decide ((l.weights.length:Int)=l.out*l.size*l.size*s.c)<;>rfl
 simp only[decide_eq_false k0,decide_eq_false k1,cond_false];by_cases k2:l.kind=2
 ·simp only[k2,shapeOf,decide_true,Bool.true_or,cond_true,cond_false,show decide ((2:Int)=0)=false from rfl,show decide ((2:Int)=1)=false from rfl,show decide ((2:Int)=4)=false from rfl,show decide ((2:Int)=5)=false from rfl];cases hw:Lj s l
  ·rfl
  have hw:=pP hw;simp only[iO k _ hw.2.2.1,aa];cases rT l<;>cases decide (l.zero=0)<;>rfl
 by_cases k3:l.kind=3
 ·simp only[k3,shapeOf,decide_true,Sw,cond_true,cond_false,show decide ((3:Int)=0)=false from rfl,show decide ((3:Int)=1)=false from rfl,show decide ((3:Int)=2)=false from rfl,show decide ((3:Int)=4)=false from rfl,show decide ((3:Int)=5)=false from rfl];cases hw:Lj s l
  ·rfl
  have hw:=pP hw;simp only[iO k _ hw.2.2.1,aa];cases rT l<;>cases decide (l.zero=0)<;>rfl
 simp only[decide_eq_false k2,decide_eq_false k3,Bool.or_self,cond_false];by_cases k4:l.kind=4
 ·simp only[k4,shapeOf,decide_true,cond_true,cond_false,show decide ((4:Int)=0)=false from rfl,show decide ((4:Int)=1)=false from rfl];cases oU l<;>cases rT l<;>cases inB l.zero (-128) 127<;>rfl
 by_cases k5:l.kind=5
 ·simp only[k5,shapeOf,decide_true,cond_true,cond_false,show decide ((5:Int)=0)=false from rfl,show decide ((5:Int)=1)=false from rfl,show decide ((5:Int)=4)=false from rfl];cases oU l<;>cases rT l<;>cases decide (l.zero=0)<;>cases decide (s.size<=8)<;>rfl
 simp only[decide_eq_false k4,decide_eq_false k5,cond_false];rfl
def cU:Shape->List av->Option (List Shape)
 |_,[]=>some []
 |s,l::ls=>cond (iN s l) ((cU (shapeOf s l) ls).map (shapeOf s l::·)) none
theorem rq:∀(ls:List av) (s:Shape) (t:List Shape),cU s ls=some t->t.length=ls.length
 |[],s,t,h=>by cases h;rfl
 |l::ls,s,t,h=>by
  simp only[cU]at h;cases hb:iN s l<;>simp only[hb,cond_true,cond_false]at h
  ·exact nomatch h
  ·obtain⟨t',h1,rfl⟩:=Q2.1 h;simp[rq ls _ _ h1]
theorem rW {R:Type} {aB:List av} {V:Type} {st:Nat->List Shape->Shape->V} {g:V->(V->Option R)->Option R} {fin:List Shape->Option R} {bad:Option R}
    (h:∀(i:Nat) (ys:List Shape) (s:Shape) (hi:i<aB.length) (next:V->Option R),ys.length=i+1->ys[i]? =some s->g (st i ys s) next=cond (iN s aB[i]) (next (st (i+1) (ys++[shapeOf s aB[i]]) (shapeOf s aB[i]))) bad)
    (hn:∀ys s next,g (st aB.length ys s) next=fin ys):∀(rest:List av) (i:Nat) (ys:List Shape) (s:Shape) (k:Nat),i<=aB.length->aB.drop i=rest->ys.length=i+1->ys[i]? =some s->rest.length<k->
      iter g k (st i ys s)=(cU s rest).elim bad λt=>fin (ys++t)
  |[],i,ys,s,0,hle,hd,hl,hs,hk=>by omega
  |_::_,i,ys,s,0,hle,hd,hl,hs,hk=>by omega
  | [], i, ys, s, k + 1, hle, hd, hl, hs, hk => by
    have h1:=congrArg List.length hd;simp only[R5,Rs]at h1;rw[aF]
    have c:i=aB.length:=by omega
    subst c;rw[hn];simp[cU]
  | l :: ls, i, ys, s, k + 1, hle, hd, hl, hs, hk => by
    have hi:i<aB.length:=by
      have h1:=congrArg List.length hd;simp only[R5,Q4]at h1;omega
    rw[gF hi]at hd
    injection hd with h1 h2
    rw[aF,h i ys s hi _ hl hs,h1];simp only[cU];cases hb:iN s l
    · rfl
    · simp only[cond_true];rw[rW h hn ls (i+1) (ys++[shapeOf s l]) (shapeOf s l) k (by omega) h2 (by simp[hl]) (by rw[QZ (by omega),hl];simp) (by simpa using hk)]
      cases cU (shapeOf s l) ls with
      |none=>rfl
      |some t=>simp
def dU (m:Model):List Shape× Bool:=cond (m.inp.okB&&inB (m.aB.length:Int) 1 6) ((cU m.inp m.aB).elim ([],false) λt=>(m.inp::t,true)) ([],false)
theorem tA {m:Model} {k:Nat} (hk:m.tot<k) (hN:m.tot<=aU) {l:av} (h:l∈m.aB):l.tot<k/\l.tot<=aU:=by
 have:=fl av.tot h;unfold Model.tot at hk hN;omega
theorem gp {m:Model} {k:Nat} (hk:m.tot<k) (hN:m.tot<=aU):m.aB.length<k/\m.aB.length<=aU:=by
 have:=bw av.tot m.aB;unfold Model.tot at hk hN;omega
theorem mQ {k:Nat} {m:Model} (hk:m.tot<k) (hN:m.tot<=aU):jj k m=some (dU m):=by
  have hM:=ao;obtain⟨hlk,hlN⟩:=gp hk hN;unfold jj dU;simp only[j5,cw,aa,dr];cases m.inp.okB
  · rfl
  cases hlen:inB (m.aB.length:Int) 1 6
  · rfl
  rw[cn]at hlen;simp only[cond_true,Q6]
  have:=rW (aB:=m.aB) (V:=Int× List Shape) (st:=λi ys s=>((i:Int),ys)) (fin:=λy=>some (y,true)) (bad:=some (([]:List Shape),false))
    (g:=λu next=>gH k (m.inp.h,m.inp.w,m.inp.c,m.aB) u next (λy6=>some (y6,true)) (λy7=>some (([]:List Shape),y7))) (λi ys s hi next hl hs=>by
      obtain⟨a1,a2⟩:=tA hk hN (Q7 hi);simp only[gH];rw[ab,if_pos (by omega),ab,if_pos (by omega),QY,hs,aa,aD,ai hi,aa,oC a1 a2,aa,au hi (by omega),cy (by simp;omega)];unfold gP
      cases iN s m.aB[i]<;>rfl) (λys s next=>by
      simp only[gH];rw[ab,if_neg (by omega)]) m.aB 0 [m.inp] m.inp k (by omega) rfl rfl rfl hlk
  refine this.trans ?_;cases cU m.inp m.aB<;>rfl
def tB (m:Model):List Shape× Bool:=(cU m.inp m.aB).elim ([],false) λt=>(m.inp::t,true)
theorem nz {k:Nat} {m:Model} (hk:m.tot<k) (hN:m.tot<aU):gJ k m=some (tB m):=by
  have hM:=ao;obtain⟨hlk,hlN⟩:=gp hk (Tj hN)
  have hb:m.aB.length+1<=aU:=by have:=bw av.tot m.aB;unfold Model.tot at hN;omega
  unfold gJ tB
  have := rW (aB := m.aB) (V := Int × List Shape × Int × Int × Int) (st := λ i ys s => ((i : Int), ys, s.h, s.w, s.c)) (fin := λ y => some (y, true)) (bad := some (([] : List Shape), false))
      (g:=λu next=>eU k (m.aB,(m.aB.length:Int)) u next (λy3=>some (y3,true)) (λy4=>some (([]:List Shape),y4))) (λi ys s hi next hl hs=>by
        obtain⟨a1,a2⟩:=tA hk (Tj hN) (Q7 hi);simp only[eU];rw[ab,if_pos (by omega),aD,ai hi,aa,oD a1 a2,aa,au hi (by omega),cy (by simp;omega)];unfold gP
        cases iN s m.aB[i]<;>rfl) (λys s next=>by
        simp only[eU];rw[ab,if_neg (by omega)]) m.aB 0 [m.inp] m.inp k (by omega) rfl rfl rfl hlk
  refine this.trans ?_;cases cU m.inp m.aB<;>rfl
theorem Jc {s:Shape} {ls:List av} (hs:s.okB=false) (hl:ls≠[]):cU s ls=none:=by
 cases ls with
 |nil=>exact(hl rfl).elim
 |cons l ls=>simp[cU,iN,hs]
def ey (m:Model):Bool:=(dU m).2
theorem vw {m:Model} (h:inB (m.aB.length:Int) 1 6=true):tB m=dU m:=by
 unfold tB dU;rw[h,S8];cases hs:m.inp.okB
 ·rw[Jc hs (λe=>by rw[e]at h;exact nomatch h)];rfl
 ·rfl
theorem AL {m:Model} (h:inB (m.aB.length:Int) 1 6=false):ey m=false:=by
 unfold ey dU;rw[h,SZ];rfl
theorem vx {k:Nat} {m:Model} (hk:m.tot<k) (hN:m.tot<=aU):pK k m=some (ey m):=by
 unfold pK;rw[mQ hk hN];rfl
theorem pQ {k:Nat} {m:Model} (hk:m.tot<k) (hN:m.tot<aU):lC k m=some (ey m):=by
 unfold lC;rw[fw,aa,dr,nz hk hN];cases h:inB (m.aB.length:Int) 1 6
 ·rw[AL h];rfl
 ·rw[vw h];rfl
def ch (m:Model):List Shape:=cond (ey m) (dU m).1 []
theorem tC {k:Nat} {m:Model} (hk:m.tot<k) (hN:m.tot<aU):nk k m=some (ch m):=by
 unfold nk ch;rw[pQ hk hN,aa,dr,nz hk hN];cases h:ey m
 ·rfl
 ·have:inB (m.aB.length:Int) 1 6=true:=by
   cases h2:inB (m.aB.length:Int) 1 6
   ·rw[AL h2]at h;exact nomatch h
   ·rfl
  rw[vw this];rfl
theorem mz {m:Model} (h:ey m=true):(ch m).length=m.aB.length+1:=by
 unfold ch;rw[h,cond_true];unfold ey at h;unfold dU at h⊢;cases h1:(m.inp.okB&&inB (m.aB.length:Int) 1 6)<;>rw[h1]at h
 ·exact nomatch h
 ·simp only[cond_true]at h⊢
  cases h2:cU m.inp m.aB with
  |none=>rw[h2]at h;exact nomatch h
  |some t=>simp[rq _ _ _ h2]
def Ll (s t:Shape) (l:av):Int:=
  cond (decide (l.kind=0)) (IntKind.i64.wrap (1+(IntKind.i64.wrap ((IntKind.i64.wrap (t.size*s.size)).tdiv 16))))
  (cond (decide (l.kind=1)) (IntKind.i64.wrap (1+(IntKind.i64.wrap ((IntKind.i64.wrap ((IntKind.i64.wrap ((IntKind.i64.wrap (t.size*l.size))*l.size))*s.c)).tdiv 16))))
  (cond (decide (l.kind=2)) (IntKind.i64.wrap (1+(IntKind.i64.wrap ((IntKind.i64.wrap ((IntKind.i64.wrap (t.size*l.size))*l.size)).tdiv 16))))
  (cond (decide (l.kind=3)) (IntKind.i64.wrap (1+(IntKind.i64.wrap ((IntKind.i64.wrap ((IntKind.i64.wrap (t.size*l.size))*l.size)).tdiv 16))))
   (IntKind.i64.wrap (1+(IntKind.i64.wrap (s.size.tdiv 16)))))))
def xU (s:Shape) (l:av):Int:=cond (gP s l).2 (Ll s (gP s l).1 l) 0
theorem Gq {k:Nat} {s:Shape} {l:av} (hk:l.tot<k) (hN:l.tot<=aU):wu k s l=some (xU s l):=by
 unfold wu xU Ll;simp only[oC hk hN,oA,aa,dr,Eg];cases(gP s l).2
 ·rfl
 simp only[cond_true];cases decide (l.kind=0)<;>cases decide (l.kind=1)<;>cases decide (l.kind=2)<;>cases decide (l.kind=3)<;>rfl
theorem Gr {k:Nat} {s:Shape} {l:av} (hk:l.tot<k) (hN:l.tot<=aU):wv k s l=some (xU s l):=by
 unfold wv xU Ll;simp only[oD hk hN,rS,aa,dr,Eg];rw[Int.mul_comm s.size];cases(gP s l).2
 ·rfl
 simp only[cond_true];cases decide (l.kind=0)<;>cases decide (l.kind=1)<;>cases decide (l.kind=2)<;>cases decide (l.kind=3)<;>rfl
def bC (m:Model):List Int:=cond (ey m) ((List.range m.aB.length).map λi=>xU ((ch m).getD i jn) (m.aB.getD i ⟨0,0,0,0,0,0,0,[],[]⟩)) []
theorem b8 {α:Type} {xs:List α} {i:Nat} (h:i<xs.length) (d:α):xs.getD i d=xs[i]:=by rw[Rt,ai h];rfl
theorem j7 {k:Nat} {m:Model} (hk:m.tot<k) (hN:m.tot<=aU):jS k m=some (bC m):=by
 have hM:=ao;obtain⟨hlk,hlN⟩:=gp hk hN;unfold jS bC;rw[mQ hk hN,aa,dr];show cond (ey m) _ _=_;cases h:ey m
 ·rfl
 have hsl:=mz h
 have e:(dU m).1=ch m:=by unfold ch;rw[h];rfl
 simp only[cond_true,e]
 exact Li m.aB.length _ (g:=λu next=>jR k (m.inp.h,m.inp.w,m.inp.c,m.aB,ch m) u next (λy5=>some y5)) (fin:=some) (λi ys hi next hl=>by
  obtain⟨a1,a2⟩:=tA hk hN (Q7 hi);simp only[jR]
  rw[ab,if_pos (by omega),ab,if_pos (by omega),QY,ai (show i<(ch m).length by omega),aa,aD,ai hi,aa,Gq a1 a2,aa,cy (by simp;omega),au hi (by omega),b8 (show i<(ch m).length by omega),b8 hi]) (λys next=>by
  simp only[jR];rw[ab,if_neg (by omega)]) hlk
theorem j8 {k:Nat} {m:Model} (hk:m.tot+1<k) (hN:m.tot<aU):jU k m=some (bC m):=by
  have hM:=ao;obtain⟨hlk,hlN⟩:=gp (show m.tot<k-1 by omega) (Tj hN);unfold jU bC;rw[tC (by omega) hN,aa];cases h:ey m
  · have:ch m=[]:=by unfold ch;rw[h];rfl
    rw[this]
    cases k with
    |zero=>omega
    |succ k=>rfl
  have hsl:=mz h;simp only[cond_true];rw[hsl]
  have := fk (R := List Int) (g := λ u next => jT k (((m.aB.length + 1 : Nat) : Int), m.inp.h, m.inp.w, m.inp.c, m.aB, ch m) u next (λ y5 => some y5)) (n := m.aB.length + 1)
    (st:=λi=>((i:Int),(List.range (min i m.aB.length)).map λi=>xU ((ch m).getD i jn) (m.aB.getD i ⟨0,0,0,0,0,0,0,[],[]⟩)))
    (r := some ((List.range m.aB.length).map λ i => xU ((ch m).getD i jn) (m.aB.getD i ⟨0, 0, 0, 0, 0, 0, 0, [], []⟩))) (λ i hi next => by
      simp only[jT];rw[ab,if_pos (by omega),ab,if_pos (by omega),QY,ai (show i<(ch m).length by omega),aa,au hi (by omega),ab];by_cases c:i<m.aB.length
      · obtain⟨a1,a2⟩:=tA (show m.tot<k by omega) (Tj hN) (Q7 c);rw[if_pos (by omega),aD,ai c,aa,Gr a1 a2,aa,cy (by simp;omega),Ta (by omega),Ta (by omega),Sq,R2,List.map_singleton,b8 (show i<(ch m).length by omega),b8 c]
      · rw[if_neg (by omega),Nat.min_eq_right (by omega),Nat.min_eq_right (by omega)]) (λnext=>by
      simp only[jT]
      rw[ab,if_neg (by omega),Nat.min_eq_right (by omega)]) (k:=k) (by omega)
  simpa using this
def xV (m:Model):Int:=(bC m).foldl (λs x=>IntKind.i64.wrap (s+x)) 0
theorem jo (m:Model):(bC m).length<=m.aB.length:=by
 unfold bC;cases ey m<;>simp
theorem zI {k:Nat} {m:Model} (hk:m.tot<k) (hN:m.tot<=aU):oe k m=some (xV m):=by
 have hM:=ao;obtain⟨hlk,hlN⟩:=gp hk hN;have hc:=jo m;unfold oe;rw[j7 hk hN,aa]
 exact pF (bC m) (λs x=>IntKind.i64.wrap (s+x)) (g:=λu next=>gI k (bC m) u next (λy3=>some y3)) (fin:=some) 0 (λi s hi next _=>by
  simp only[gI]
  rw[ab,if_pos (by omega),ab,if_pos (by omega),QY,ai hi,aa,au hi (by omega)]) (λnext=>by
  simp only[gI];rw[ab,if_neg (by omega)]) (by omega)
theorem Cp {k:Nat} {xs:List Int} (hk:xs.length<k) (hN:xs.length<=aU):Ld k xs=some (xs.foldl (λs x=>IntKind.i64.wrap (s+x)) 0):=by
 have hM:=ao
 exact pF xs (λs x=>IntKind.i64.wrap (s+x)) (g:=λu next=>sZ k (xs,(xs.length:Int)) u next (λy2=>some y2)) (fin:=some) 0 (λi s hi next _=>by
  simp only[sZ]
  rw[ab,if_pos (by omega),aD,ai hi,aa,au hi (by omega)]) (λnext=>by
  simp only[sZ];rw[ab,if_neg (by omega)]) hk
theorem zJ {k:Nat} {m:Model} (hk:m.tot+1<k) (hN:m.tot<aU):oh k m=some (xV m):=by
 obtain⟨hlk,hlN⟩:=gp (show m.tot<k by omega) (Tj hN);have hc:=jo m;unfold oh;rw[j8 hk hN,aa,Cp (by omega) (by omega)];rfl
end
section
end
section
end
section
theorem Ei {k:Nat} {l:av} (hk:l.tot<k) (hN:l.tot<=aU):s3 k l=some l:=by
 unfold av.tot at hk hN;unfold s3;rw[j6 (by omega) (by omega),aa,j6 (by omega) (by omega)];rfl
theorem uQ {k:Nat} {l:av} (hN:l.tot<=aU):jx k l=some l:=by
 unfold av.tot at hN;unfold jx;rw[cT (by omega),aa,cT (by omega)];rfl
theorem uR {k:Nat} {xs:List av} (hk:fJ av.tot xs<k) (hN:fJ av.tot xs<=aU):mN k xs=some xs:=by
 have hM:=ao;have hl:=bw av.tot xs
 have:=sT xs (λx=>x) (g:=λu next=>eV k (xs,(xs.length:Int)) u next (λy3=>some y3)) (fin:=some) (λi ys hi next hys=>by
  have hm:=fl av.tot (Q7 hi);simp only[eV]
  rw[ab,if_pos (by omega),aD,ai hi,aa,uQ (by omega),aa,cy (by omega),au hi (by omega)]) (λys next=>by
  simp only[eV];rw[ab,if_neg (by omega)]) (k:=k) (by omega)
 rw[Tk]at this;exact this
theorem nA {k:Nat} {m:Model} (hk:m.tot<k) (hN:m.tot<=aU):gK k m=some m:=by
 unfold Model.tot at hk hN;unfold gK;rw[uR (by omega) (by omega)];rfl
theorem pR {k:Nat} {m:Model} (hk:m.tot<k) (hN:m.tot<=aU):pL k m=some m:=by
 have hM:=ao;obtain⟨hlk,hlN⟩:=gp hk hN
 have:=sT m.aB (λx=>x) (g:=λu next=>jV k (m.inp.h,m.inp.w,m.inp.c,m.aB,(0:Int),(0:Int),(0:Int),m.inp.h,m.inp.w,m.inp.c) u next (λy3=>some (⟨m.inp,y3⟩:Model))) (fin:=λy3=>some (⟨m.inp,y3⟩:Model)) (λi ys hi next hys=>by
  obtain⟨a1,a2⟩:=tA hk hN (Q7 hi);simp only[jV]
  rw[ab,if_pos (by omega),aD,ai hi,aa,Ei a1 a2,aa,cy (by omega),au hi (by omega)]) (λys next=>by
  simp only[jV];rw[ab,if_neg (by omega)]) (k:=k) hlk
 rw[Tk]at this;exact this
theorem xW {k:Nat} {j:Job} (hk:j.tot<k) (hN:j.tot<=aU):l9 k j=some j:=by
 unfold Job.tot aA.tot at hk hN;unfold l9;rw[nA (by omega) (by omega),aa,my (by omega)];rfl
def dt:Model:=⟨⟨0,0,0⟩,[]⟩
end
section
def QF (xs:List Int):Int:=xs.foldl (λs x=>IntKind.i64.wrap (s+x)) 0
theorem Lm (a b:Shape):(cond (a.h==b.h) (cond (a.w==b.w) (cond (a.c==b.c) (true) false) false) false)=decide (a=b):=by
 obtain⟨a1,a2,a3⟩:=a;obtain⟨b1,b2,b3⟩:=b;by_cases h1:a1=b1<;>by_cases h2:a2=b2<;>by_cases h3:a3=b3<;>simp[h1,h2,h3]
def tP (j:Job):Bool:=ey j.model&&(inB j.at_ 0 j.model.aB.length&&(j.act.okB&&(decide (j.act.sh=(ch j.model).getD j.at_.toNat jn)&&decide (j.iR=QF ((bC j.model).take j.at_.toNat)))))
theorem ig {m:Model} (h:ey m=true):(bC m).length=m.aB.length:=by
 unfold bC;rw[h];simp
theorem AM {k:Nat} {j:Job} (hk:j.tot+1<k) (hN:j.tot<aU):xN k j=some (tP j):=by
 have hM:=ao;unfold Job.tot aA.tot at hk hN
 have hmk:j.model.tot+1<k:=by omega
 have hmN:j.model.tot<aU:=by omega
 obtain⟨hlk,hlN⟩:=gp (show j.model.tot<k by omega) (Tj hmN);unfold xN tP;rw[pQ (by omega) hmN,aa];cases hm:ey j.model
 ·rfl
 have hsl:=mz hm;have hcl:=ig hm;simp only[cond_true,Q6,fw,aa];cases hin:inB j.at_ 0 j.model.aB.length
 ·rfl
 rw[cn]at hin;simp only[cond_true,Q6];rw[tw (by omega) (by unfold tO;omega),aa];cases j.act.okB
 ·rfl
 have hi:j.at_.toNat<(ch j.model).length:=by omega
 simp only[cond_true,Q6];rw[tC (by omega) hmN,aa,ab,if_pos (by omega),ai hi,aa,Lm,b8 hi];cases decide (j.act.sh=(ch j.model)[j.at_.toNat])
 ·rfl
 simp only[cond_true,Q6]
 have htl:(((bC j.model).drop 0).take (j.at_.toNat-0)).length<=(bC j.model).length:=by simp;omega
 rw[j8 hmk hmN,aa,ab,if_pos (by omega),Cp (by omega) (by omega),aa,Eg,Tf,RF];rfl
theorem qP {k:Nat} {j:Job} (hk:j.tot<k) (hN:j.tot<=aU):rP k j=some (tP j):=by
  have hM:=ao;unfold Job.tot aA.tot at hk hN
  have hmk:j.model.tot<k:=by omega
  have hmN:j.model.tot<=aU:=by omega
  obtain⟨hlk,hlN⟩:=gp hmk hmN;unfold rP tP;rw[mQ hmk hmN,aa,dr];show cond (ey j.model) _ _=_;cases hm:ey j.model
  · rfl
  have hsl:=mz hm;have hcl:=ig hm
  have e:(dU j.model).1=ch j.model:=by unfold ch;rw[hm];rfl
  simp only[cond_true,Q6,cw,aa,dr,e];cases hin:inB j.at_ 0 j.model.aB.length
  · rfl
  rw[cn]at hin;simp only[cond_true,Q6];rw[oB (by omega) (by unfold tO;omega),aa];cases j.act.okB
  · rfl
  have hi:j.at_.toNat<(ch j.model).length:=by omega
  simp only[cond_true,Q6];rw[ab,if_pos (by omega),ai hi,aa,Lm,b8 hi];cases decide (j.act.sh=(ch j.model)[j.at_.toNat])
  · rfl
  simp only[cond_true,Q6];rw[j7 hmk hmN,aa]
  have htl:((bC j.model).take j.at_.toNat).length=j.at_.toNat:=by simp;omega
  have:=pF ((bC j.model).take j.at_.toNat) (λs x=>IntKind.i64.wrap (s+x)) (R:=Bool)
    (g:=λu next=>nm k (j.model.inp.h,j.model.inp.w,j.model.inp.c,j.model.aB,j.at_,j.act.sh.h,j.act.sh.w,j.act.sh.c,j.act.data,j.iR,bC j.model) u next (λy7=>some (j.iR==y7))) (fin:=λy7=>some (j.iR==y7)) 0 (λi s hi next _=>by
      rw[htl]at hi
      have hi2:i<(bC j.model).length:=by omega
      simp only[nm]
      rw[ab,if_pos (by omega),ab,if_pos (by omega),QY,ai hi2,aa,au hi2 (by omega),List.getElem_take]) (λnext=>by
      simp only[nm];rw[ab,if_neg (by omega)]) (k:=k) (by omega)
  rw[this,Eg];rfl
def QG:Job:=⟨⟨⟨0,0,0⟩,[]⟩,0,⟨⟨0,0,0⟩,[]⟩,0⟩
def dF (m:Model) (t:aA):Job× Bool:=cond (tP ⟨m,0,t,0⟩) (⟨m,0,t,0⟩,true) (QG,false)
theorem Cq {k:Nat} {m:Model} {t:aA} (hk:m.tot+t.tot<k) (hN:m.tot+t.tot<=aU):qw k m t=some (dF m t):=by
 have ht:t.tot=t.data.length:=rfl;unfold qw dF;rw[pR (by omega) (by omega),aa,pO (by omega) (by omega),aa,qP (by simp only[Job.tot];omega) (by simp only[Job.tot];omega),aa,dr];cases tP ⟨m,0,t,0⟩<;>rfl
theorem Cr {k:Nat} {m:Model} {t:aA} (hk:m.tot+t.tot+1<k) (hN:m.tot+t.tot<aU):qx k m t=some (dF m t):=by
 unfold qx dF;rw[AM (by simp only[Job.tot];omega) (by simp only[Job.tot];omega),aa,dr];cases tP ⟨m,0,t,0⟩
 ·rfl
 ·simp only[cond_true];rw[xW (by simp only[Job.tot];omega) (by simp only[Job.tot];omega)];rfl
theorem vy (m:Model) (t:aA):(dF m t).1.tot<=m.tot+t.tot:=by
 unfold dF;cases tP ⟨m,0,t,0⟩
 ·exact Rv _
 ·simp only[cond_true,Job.tot];omega
end
section
theorem xX (w a:Nat):(BitVec.ofInt w (a:Int)).toNat=a %2^w:=by
 simp
theorem P0 {a b n:Nat} (ha:a<2^n) (hb:b*2^n+a<9223372036854775808):
  IntKind.i64.wrap (((BitVec.ofInt IntKind.i64.bits (a:Int)||| BitVec.ofInt IntKind.i64.bits ((b*2^n:Nat):Int)).toNat:Nat):Int)=((a+b*2^n:Nat):Int):=by
 have h1:a %2^64=a:=RE (by omega);have h2:(b*2^n) %2^64=b*2^n:=RE (by omega)
 have h3:a||| b*2^n=a+b*2^n:=by
  have:=Nat.two_pow_add_eq_or_of_lt ha b;rw[Nat.or_comm,Rx b,<-this,Nat.add_comm]
 have e:(BitVec.ofInt IntKind.i64.bits (a:Int)||| BitVec.ofInt IntKind.i64.bits ((b*2^n:Nat):Int)).toNat=a+b*2^n:=by
  rw[BitVec.toNat_or,xX,xX];show a %2^64||| (b*2^n) %2^64=_;rw[h1,h2,h3]
 rw[e,aH (by omega) (by omega)]
theorem OY {c:Nat} (h:c<256):IntKind.i64.wrap (IntKind.u8.wrap (((BitVec.ofInt IntKind.u8.bits (c:Int)&&& BitVec.ofInt IntKind.u8.bits (127:Int)).toNat:Nat):Int))=((c %128:Nat):Int):=by
 have e:(BitVec.ofInt IntKind.u8.bits (c:Int)&&& BitVec.ofInt IntKind.u8.bits (127:Int)).toNat=c %128:=by
  rw[BitVec.toNat_and,xX];show c %2^8&&& 127=_;rw[RE (by omega)];exact Nat.and_two_pow_sub_one_eq_mod c 7
 rw[e,PZ (by omega) (by omega),aH (by omega) (by omega)]
def pS (b:List Int) (at_:Nat):Nat->Nat->Nat->Int× Int
  |0,_,_=>(0,-1)
  | f + 1, i, u =>
    match b[at_+i]? with
    |none=>(0,-1)
    | some c =>
      cond (decide (128<=c.toNat)) (pS b at_ f (i+1) (u+c.toNat %128*2^(7*i)))
        (cond ((decide (0<i)&&decide (c.toNat=0))||decide (2199023255551<u+c.toNat %128*2^(7*i))) (0,-1)
          (cond (decide ((u+c.toNat %128*2^(7*i)) %2=1)) (-(((u+c.toNat %128*2^(7*i)+1)/2:Nat):Int)) (((u+c.toNat %128*2^(7*i))/2:Nat):Int),((at_+i+1:Nat):Int)))
def eK (b:List Int) (at_:Int):Int× Int:=cond (decide (0<=at_)) (pS b at_.toNat 6 0 0) (0,-1)
theorem AO {i:Nat} (hi:i<6):(2:Int)^(min (IntKind.u64.wrap (IntKind.i64.wrap ((7:Int)*(i:Int)))).toNat IntKind.i64.bits)=((2^(7*i):Nat):Int)/\
  (2:Int)^(min (IntKind.i64.wrap ((7:Int)*(i:Int))).toNat IntKind.i64.bits)=((2^(7*i):Nat):Int):=by
 have:i=0\/i=1\/i=2\/i=3\/i=4\/i=5:=by omega
 rcases this with rfl|rfl|rfl|rfl|rfl|rfl<;>exact⟨by kernel_rfl,by kernel_rfl⟩
theorem Cs {i u c:Nat} (hi:i<6) (hu:u<2^(7*i)):u+c %128*2^(7*i)<2^(7*(i+1))/\2^(7*(i+1))<=4398046511104:=by
 have h1:2^(7*(i+1))=128*2^(7*i):=by rw[show 7*(i+1)=7*i+7 from by omega,Nat.pow_add];omega
 have h2:c %128*2^(7*i)<=127*2^(7*i):=Rg _ (by omega);refine⟨by omega,?_⟩
 have:i=0\/i=1\/i=2\/i=3\/i=4\/i=5:=by omega
 rcases this with rfl|rfl|rfl|rfl|rfl|rfl<;>decide
theorem Nd {i u n:Nat} (hi:i<6) (hu:u<2^(7*i)) (hn:n<256):
  IntKind.i64.wrap ((u:Int)+(IntKind.i64.wrap (((IntKind.i64.wrap (n:Int)).tmod (128:Int))*2^(min (IntKind.u64.wrap (IntKind.i64.wrap ((7:Int)*(i:Int)))).toNat IntKind.i64.bits))))=((u+n %128*2^(7*i):Nat):Int):=by
 have h:=Cs (c:=n) hi hu;have e:((n:Int).tmod 128)=((n %128:Nat):Int):=rfl;rw[aH (n:=(n:Int)) (by omega) (by omega),(AO hi).1,e,<-R3,aH (n:=((n %128*2^(7*i):Nat):Int)) (by omega) (by omega),<-Int.natCast_add,aH (by omega) (by omega)]
theorem Nf {U:Nat} (h:U<4398046511104):IntKind.i64.wrap ((IntKind.i64.wrap (0-(IntKind.i64.wrap ((U:Int)+(1:Int))))).tdiv (2:Int))=-(((U+1)/2:Nat):Int):=by
 have e:(-(((U+1:Nat):Int))).tdiv 2=-(((U+1)/2:Nat):Int):=by rw[Int.neg_tdiv];rfl
 rw[aH (n:=(U:Int)+1) (by omega) (by omega),aH (n:=0-((U:Int)+1)) (by omega) (by omega),show(0:Int)-((U:Int)+1)=-((U+1:Nat):Int)from by omega,e,aH (by omega) (by omega)]
theorem xY {U:Nat} (h:U<4398046511104):IntKind.i64.wrap ((U:Int).tdiv (2:Int))=((U/2:Nat):Int):=by
 have e:(U:Int).tdiv 2=((U/2:Nat):Int):=rfl;rw[e,aH (by omega) (by omega)]
theorem HJ (U:Nat):((U:Int).tmod 2==(1:Int))=decide (U %2=1):=by
 have e:(U:Int).tmod 2=((U %2:Nat):Int):=rfl;rw[Eg,e]
 congr 1
 rw[eq_iff_iff];omega
theorem xZ {b:List Int} {a kk:Nat} (hb:∀x∈b,okB x) (hl:b.length<=aU):∀(f i u k:Nat),i+f=6->u<2^(7*i)->f<k->
  iter (λu4 n4=>gn kk (b,(a:Int)) u4 n4 (λy2=>some ((0:Int),(-1:Int))) (λy3=>some (y3.1,y3.2))) k ((u:Int),(i:Int))=some (pS b a f i u)
 |f,i,u,0,_,_,hk=>by omega
 |0,i,u,k+1,hi,_,_=>by
  rw[aF];simp only[gn]
  rw[ab,if_neg (by omega)];rfl
 |f+1,i,u,k+1,hi,hu,hk=>by
  have hM:=ao
  have hi6:i<6:=by omega
  rw[aF];simp only[gn,pS];rw[ab,if_pos (by omega),ab,if_neg (by omega),aH (n:=(b.length:Int)-(i:Int)) (by omega) (by omega),ab];by_cases hin:a+i<b.length
  ·rw[if_neg (by omega),aH (n:=(a:Int)+(i:Int)) (by omega) (by omega),show(a:Int)+(i:Int)=((a+i:Nat):Int)from by omega,aD,ai hin,aa];have hc:=hb b[a+i] (Q7 hin);unfold okB at hc;obtain⟨n,hn⟩:∃n:Nat,b[a+i]=(n:Int):=⟨b[a+i].toNat,by omega⟩;rw[hn]at hc⊢
   have hn256:n<256:=by omega
   obtain⟨w1,w2⟩:=Cs (c:=n) hi6 hu
   have hU:u+n %128*2^(7*i)<4398046511104:=by omega
   simp only[Nd hi6 hu hn256,Nf hU,xY hU,HJ,QY]
   have hsh:IntKind.u64.wrap (IntKind.i64.wrap ((7:Int)*(i:Int)))=((7*i:Nat):Int):=by
    have:i=0\/i=1\/i=2\/i=3\/i=4\/i=5:=by omega
    rcases this with rfl|rfl|rfl|rfl|rfl|rfl<;>decide
   rw[hsh,ab,if_neg (by omega),aH (n:=(n:Int)) (by omega) (by omega),aH (n:=((a+i:Nat):Int)+1) (by omega) (by omega),aH (n:=(i:Int)+1) (by omega) (by omega),ab];by_cases h128:128<=n
   ·rw[if_neg (by omega),decide_eq_true h128,cond_true];exact xZ (kk:=kk) hb hl f (i+1) _ k (by omega) w1 (by omega)
   ·rw[if_pos (by omega),decide_eq_false h128,cond_false,Eg]
    have e1:decide ((n:Int)=0)=decide (n=0):=by congr 1;rw[eq_iff_iff];omega
    have e2:decide ((i:Int)>0)=decide (0<i):=by congr 1;rw[eq_iff_iff];omega
    have e3:((a+i:Nat):Int)+1=((a+i+1:Nat):Int):=by omega
    have e4:decide ((((u+n %128*2^(7*i)):Nat):Int)>2199023255551)=decide (2199023255551<(u+n %128*2^(7*i))):=by congr 1;rw[eq_iff_iff];omega
    rw[e1,e2,e3,e4];cases decide (2199023255551<(u+n %128*2^(7*i)))<;>cases decide (n=0)<;>cases decide (0<i)<;>cases decide ((u+n %128*2^(7*i)) %2=1)<;>rfl
  ·rw[if_pos (by omega),Rq (by omega)]
theorem Ct {k:Nat} {b:List Int} {a:Int} (hk:7<=k) (hb:∀x∈b,okB x) (hl:b.length<=aU):qE k b a=some (eK b a):=by
 unfold qE eK;by_cases h:0<=a
 ·rw[decide_eq_true h,cond_true];have:=xZ (kk:=k) (a:=a.toNat) hb hl 6 0 0 k rfl (by decide) (by omega);rw[Int.toNat_of_nonneg h]at this;exact this
 ·rw[decide_eq_false h,cond_false];obtain⟨k,rfl⟩:∃k',k=k'+1:=⟨k-1,by omega⟩;rw[aF];simp only[gn];rw[ab,if_pos (by omega),ab,if_pos (by omega)]
theorem OZ {i u n:Nat} (hi:i<6) (hu:u<2^(7*i)) (hn:n<256):
  IntKind.i64.wrap (((BitVec.ofInt IntKind.i64.bits (u:Int)||| BitVec.ofInt IntKind.i64.bits (IntKind.i64.wrap ((IntKind.i64.wrap (IntKind.u8.wrap (((BitVec.ofInt IntKind.u8.bits (n:Int)&&& BitVec.ofInt IntKind.u8.bits (127:Int)).toNat:Int))))*2^(min (IntKind.i64.wrap ((7:Int)*(i:Int))).toNat IntKind.i64.bits)))).toNat:Int))=((u+n %128*2^(7*i):Nat):Int):=by
 have h:=Cs (c:=n) hi hu;rw[OY hn,(AO hi).2,<-R3,aH (n:=((n %128*2^(7*i):Nat):Int)) (by omega) (by omega),P0 hu (by omega)]
theorem Ln {U:Nat} (h:U<4398046511104) (ho:U %2=1):IntKind.i64.wrap ((IntKind.i64.wrap (0-(IntKind.i64.wrap ((U:Int).tdiv (2:Int)))))-(1:Int))=-(((U+1)/2:Nat):Int):=by
 rw[xY h,aH (n:=0-((U/2:Nat):Int)) (by omega) (by omega),aH (by omega) (by omega)];omega
theorem Gs (k:Nat) (x:Int):oq k x=some (inB x (-1099511627776) 1099511627775):=by unfold oq;rw[fw];rfl
theorem yA {b l:List Int} {a kk:Nat} (hb:∀x∈b,okB x) (hlN:b.length<=aU) (hl:l=(b.take (min (a+6) b.length)).drop a) (ha:a<=b.length):∀(f i u k:Nat),i+f=6->u<2^(7*i)->f<k->
    iter (λu9 n9=>iD kk ((a:Int),l,(l.length:Int)) u9 n9 (λy7=>some ((0:Int),(-1:Int))) (λy8=>some (y8.1,y8.2))) k ((u:Int),(i:Int))=some (pS b a f i u)
  |f,i,u,0,_,_,hk=>by omega
  | 0, i, u, k + 1, hi, _, _ => by
    have hll:l.length<=6:=by rw[hl];simp;omega
    rw[aF];simp only[iD]
    rw[ab,if_neg (by omega)];rfl
  | f + 1, i, u, k + 1, hi, hu, hk => by
    have hM:=ao
    have hi6:i<6:=by omega
    have hll:l.length=min 6 (b.length-a):=by rw[hl];simp;omega
    rw[aF];generalize hnx:iter _ k=nx;simp only[iD,pS];by_cases hin:a+i<b.length
    · have hli:i<l.length:=by omega
      have hget:l[i]=b[a+i]:=by subst hl;simp
      rw[ab,if_pos (by omega),aD,ai hli,aa,ai hin,hget];have hc:=hb b[a+i] (Q7 hin);unfold okB at hc;obtain⟨n,hn⟩:∃n:Nat,b[a+i]=(n:Int):=⟨b[a+i].toNat,by omega⟩;rw[hn]at hc⊢
      have hn256:n<256:=by omega
      obtain⟨w1,w2⟩:=Cs (c:=n) hi6 hu
      have hU:u+n %128*2^(7*i)<4398046511104:=by omega
      have hsh:IntKind.i64.wrap ((7:Int)*(i:Int))=((7*i:Nat):Int):=by
        rw[aH (by omega) (by omega)];omega
      have hnn:¬(IntKind.i64.wrap ((7:Int)*(i:Int))<0):=by rw[hsh];omega
      rw[decide_eq_false hnn,cond_false];simp only[OZ hi6 hu hn256,HJ,QY,Gs,aa,dr];rw[aH (n:=(a:Int)+(i:Int)) (by omega) (by omega),show(a:Int)+(i:Int)=((a+i:Nat):Int)from by omega,aH (n:=((a+i:Nat):Int)+1) (by omega) (by omega),aH (n:=(i:Int)+1) (by omega) (by omega),ab];by_cases h128:128<=n
      · rw[if_pos (by omega),decide_eq_true h128,cond_true];rw[<-hnx];exact yA (kk:=kk) hb hlN hl ha f (i+1) _ k (by omega) w1 (by omega)
      · rw [if_neg (by omega), decide_eq_false h128, cond_false, Eg]
        have e1:decide ((n:Int)=0)=decide (n=0):=by congr 1;rw[eq_iff_iff];omega
        have e2:decide ((i:Int)>0)=decide (0<i):=by congr 1;rw[eq_iff_iff];omega
        have e3:((a+i:Nat):Int)+1=((a+i+1:Nat):Int):=by omega
        rw[e1,e2,e3];by_cases ho:(u+n %128*2^(7*i)) %2=1
        · rw[decide_eq_true ho,Ln hU ho]
          have e4:inB (-(((u+n %128*2^(7*i)+1)/2:Nat):Int)) (-1099511627776) 1099511627775=!decide (2199023255551<(u+n %128*2^(7*i))):=by
            rw[S9,cn,SW,decide_eq_false_iff_not];constructor<;>intro h<;>omega
          rw[e4];cases decide (2199023255551<(u+n %128*2^(7*i)))<;>cases decide (n=0)<;>cases decide (0<i)<;>rfl
        · rw[decide_eq_false ho,xY hU]
          have e4:inB (((u+n %128*2^(7*i))/2:Nat):Int) (-1099511627776) 1099511627775=!decide (2199023255551<(u+n %128*2^(7*i))):=by
            rw[S9,cn,SW,decide_eq_false_iff_not];constructor<;>intro h<;>omega
          rw[e4];cases decide (2199023255551<(u+n %128*2^(7*i)))<;>cases decide (n=0)<;>cases decide (0<i)<;>rfl
    · rw[ab,if_neg (by omega),Rq (by omega)]
theorem Cu {k:Nat} {b:List Int} {a:Int} (hk:7<=k) (hb:∀x∈b,okB x) (hl:b.length<=aU):qF k b a=some (eK b a):=by
  have hM:=ao;unfold qF eK;rw[fw,aa,dr,aH (n:=(b.length:Int)-1) (by omega) (by omega)];by_cases h:0<=a
  · rw [decide_eq_true h, cond_true];by_cases h2:a<b.length
    · have e:inB a 0 ((b.length:Int)-1)=true:=cn.2 (by omega)
      have e6:(if IntKind.i64.wrap (a+6)<(b.length:Int)then IntKind.i64.wrap (a+6)else(b.length:Int))=((min (a.toNat+6) b.length:Nat):Int):=by
        rw[aH (by omega) (by omega)];split<;>omega
      rw[e,cond_true,e6,ab,if_pos (by omega),ab,if_pos (by omega),QY];have:=yA (kk:=k) (l:=(b.take (min (a.toNat+6) b.length)).drop a.toNat) (a:=a.toNat) hb hl rfl (by omega) 6 0 0 k rfl (by decide) (by omega);rw[Int.toNat_of_nonneg h]at this;exact this
    · have e:inB a 0 ((b.length:Int)-1)=false:=by rw[<-Bool.not_eq_true,cn];omega
      rw[e,cond_false];simp only[pS];rw[Rq (by omega)]
  · have e:inB a 0 ((b.length:Int)-1)=false:=by rw[<-Bool.not_eq_true,cn];omega
    rw[decide_eq_false h,cond_false,e];rfl
end
section
def aV (b:List Int) (at_:Int) (bad:Bool):Int× Int× Bool:=
 cond bad (0,at_,true) (cond (decide ((eK b at_).2<0)) (0,at_,true) ((eK b at_).1,(eK b at_).2,false))
theorem mA {k:Nat} {b:List Int} {a:Int} {bad:Bool} (hk:7<=k) (hb:∀x∈b,okB x) (hl:b.length<=aU):cC k b a bad=some (aV b a bad):=by
 unfold cC aV;simp only[Ct hk hb hl,aa,decide_true,cond_true];cases bad<;>cases decide ((eK b a).2<0)<;>rfl
theorem lK {k:Nat} {b:List Int} {a:Int} {bad:Bool} (hk:7<=k) (hb:∀x∈b,okB x) (hl:b.length<=aU):aC k ⟨b,a,bad⟩=some (aV b a bad):=by
 unfold aC aV;simp only[Cu hk hb hl,aa,decide_true,cond_true];cases bad<;>cases decide ((eK b a).2<0)<;>rfl
end
section
theorem AP {b:List Int} {a:Nat}:∀(f i u:Nat),(pS b a f i u).2=-1\/((a:Int)<(pS b a f i u).2/\(pS b a f i u).2<=b.length)
 |0,i,u=>.inl rfl
 |f+1,i,u=>by
  simp only[pS]
  cases hc:b[a+i]? with
  |none=>exact .inl rfl
  |some c=>
   have hlt:=(Of.1 hc).1;simp only;cases decide (128<=c.toNat)
   ·simp only[cond_false];cases((decide (0<i)&&decide (c.toNat=0))||decide (2199023255551<u+c.toNat %128*2^(7*i)))
    ·simp only[cond_false];right;omega
    ·exact .inl rfl
   ·exact AP f (i+1) _
theorem Ej (b:List Int) (a:Int):(eK b a).2=-1\/(0<=a/\a<(eK b a).2/\(eK b a).2<=b.length):=by
 unfold eK;by_cases h:0<=a
 ·rw[decide_eq_true h,cond_true]
  rcases AP (b:=b) (a:=a.toNat) 6 0 0 with h1|h1
  ·exact .inl h1
  ·right;omega
 ·rw[decide_eq_false h];exact .inl rfl
def P1 (b:List Int) (a:Int):Option (Int× Int):=cond (decide ((eK b a).2<0)) none (some (eK b a))
theorem Ng {b:List Int} {a x p:Int} (h:P1 b a=some (x,p)):0<=a/\a<p/\p<=b.length:=by
 unfold P1 at h
 rcases Ej b a with h1|h1
 ·rw[h1]at h;exact nomatch h
 ·rw[decide_eq_false (by omega),cond_false,It]at h;rw[h]at h1;exact h1
theorem Cv (b:List Int) (a:Int):aV b a false=(P1 b a).elim (0,a,true) λq=>(q.1,q.2,false):=by
 unfold aV P1;cases decide ((eK b a).2<0)<;>rfl
def b9 (b:List Int) (a:Int) (bad:Bool) (most:Int):Int× Int× Bool:=cond (inB (aV b a bad).1 0 most) (aV b a bad) (0,(aV b a bad).2.1,true)
theorem AQ {k:Nat} {b:List Int} {a most:Int} {bad:Bool} (hk:7<=k) (hb:∀x∈b,okB x) (hl:b.length<=aU):dq k ⟨b,a,bad⟩ most=some (b9 b a bad most):=by
 unfold dq b9;simp only[lK hk hb hl,fw,aa,decide_true,cond_true,dr];cases inB (aV b a bad).1 0 most<;>rfl
theorem Jd {k:Nat} {b:List Int} {a:Int} {bad:Bool} (hk:7<=k) (hb:∀x∈b,okB x) (hl:b.length<=aU):ep k ⟨b,a,bad⟩=
  some (let r1:=aV b a bad;let r2:=aV b r1.2.1 r1.2.2;let r3:=aV b r2.2.1 r2.2.2;(⟨r1.1,r2.1,r3.1⟩,r3.2.1,r3.2.2)):=by
 unfold ep;simp only[lK hk hb hl,aa,decide_true,cond_true]
end
section
section
variable {R:Type} {k:Nat} {b:List Int} {m:Int} {q1 q2 q3 q4 q5 q6 q7 q8 q9 q10 q11 q12:Int} {d:List Int} {fin:Int× Bool× List Int->Option R}
end
end
section
section
variable {R:Type} {k:Nat} {b:List Int} {m:Int} {q1 q2 q3 q4 q5 q6 q7 q8 q9 q10 q11 q12:Int} {d:List Int} {fin:Int× Bool× List Int->Option R}
end
end
section
def Gt (s x:Int):Int:=(IntKind.i64.wrap ((IntKind.i64.wrap ((IntKind.i64.wrap ((257:Int)*s))+(IntKind.i64.wrap x)))+(1:Int))).tmod (1000003:Int)
def Gu (b:List Int):Int:=b.foldl Gt 1
theorem Je {k:Nat} {b:List Int} (hk:b.length<k) (hl:b.length<=aU):Cj k b=some (Gu b):=by
 have hM:=ao;unfold Cj
 exact pF b Gt (g:=λu next=>ns k b u next (λy2=>some y2)) (fin:=some) 1 (λi s hi next _=>by
  simp only[ns]
  rw[ab,if_pos (by omega),aD,ai hi,aa,au hi (by omega)];rfl) (λnext=>by
  simp only[ns];rw[ab,if_neg (by omega)]) hk
theorem Jf {k:Nat} {b:List Int} (hk:b.length<k) (hl:b.length<=aU):xR k b=some (Gu b):=by
 have hM:=ao;unfold xR
 exact pF b Gt (g:=λu next=>nt k (b,(b.length:Int)) u next (λy2=>some y2)) (fin:=some) 1 (λi s hi next _=>by
  simp only[nt]
  rw[ab,if_pos (by omega),aD,ai hi,aa,au hi (by omega),Int.mul_comm s 257];rfl) (λnext=>by
  simp only[nt];rw[ab,if_neg (by omega)]) hk
section
variable {R:Type} {k:Nat} {b:List Int} {m:Int}
end
end
set_option maxRecDepth 100000
set_option maxHeartbeats 4000000
section
def vz (b:List Int):Nat->Int->Bool->List Int->List Int× Int× Bool
 |0,a,bad,ys=>(ys,a,bad)
 |n+1,a,bad,ys=>cond bad (ys,a,bad) (vz b n (aV b a bad).2.1 (aV b a bad).2.2 (ys++[(aV b a bad).1]))
def qQ (b:List Int) (a:Int) (bad:Bool):List Int× Int× Bool:=vz b (b9 b a bad 2000).1.toNat (b9 b a bad 2000).2.1 (b9 b a bad 2000).2.2 []
section
variable {k:Nat} {b:List Int} (hk:7<=k) (hb:∀x∈b,okB x) (hl:b.length<=aU)
include hk hb hl
theorem AR {a:Int} {bad:Bool}:j3 k b a bad=some (b9 b a bad 2000):=by
 unfold j3 b9;simp only[mA hk hb hl,cw,aa,decide_true,cond_true,dr];cases inB (aV b a bad).1 0 2000<;>rfl
theorem yB {R:Type} {fin:List Int× Int× Bool->Option R} {m:Int}:∀(n:Nat) (i a:Int) (bad:Bool) (ys:List Int) (kf:Nat),n<kf->m=i+n->0<=i->m<=100000->ys.length+n<=100000->
  iter (λu4 n4=>eG k (m,b) u4 n4 fin) kf (i,a,bad,ys)=fin (vz b n a bad ys)
 |_,_,_,_,_,0,h,_,_,_,_=>by omega
 |0,i,a,bad,ys,kf+1,_,hm,_,_,_=>by
  rw[aF];show eG k (m,b) _ _ fin=_;unfold eG;simp only
  rw[decide_eq_false (by omega)];rfl
 |n+1,i,a,bad,ys,kf+1,hkf,hm,hi,hm2,hy=>by
  have hM:=ao;rw[aF];show eG k (m,b) _ _ fin=_;unfold eG vz;simp only;rw[decide_eq_true (by omega),cond_true];cases bad
  ·simp only[Ro,cond_true,cond_false];rw[mA hk hb hl,aa,cy (by simp;omega),aH (by omega) (by omega)];exact yB n (i+1) _ _ _ kf (by omega) (by omega) (by omega) hm2 (by simp;omega)
  ·rfl
theorem yC {R:Type} {fin:List Int× Int× Bool->Option R}:∀(n:Nat) (a:Int) (bad:Bool) (ys:List Int) (kf:Nat),n<kf->ys.length+n<=100000->
  iter (λu4 n4=>bV k b u4 n4 fin) kf ((n:Int),a,bad,ys)=fin (vz b n a bad ys)
 |_,_,_,_,0,h,_=>by omega
 |0,a,bad,ys,kf+1,_,_=>by
  rw[aF];show bV k b _ _ fin=_;unfold bV;simp only
  rw[decide_eq_false (by omega)];rfl
 |n+1,a,bad,ys,kf+1,hkf,hy=>by
  have hM:=ao;rw[aF];show bV k b _ _ fin=_;unfold bV vz;simp only;rw[decide_eq_true (by omega),cond_true];cases bad
  ·simp only[Ro,cond_true,cond_false];rw[lK hk hb hl,aa,cy (by simp;omega),aH (by omega) (by omega),show((n+1:Nat):Int)-1=(n:Int)from by omega];exact yC n _ _ _ kf (by omega) (by simp;omega)
  ·rfl
omit hk hb hl in
theorem qR (b:List Int) (a:Int) (bad:Bool):0<=(b9 b a bad 2000).1/\(b9 b a bad 2000).1<=2000:=by
 unfold b9;cases h:inB (aV b a bad).1 0 2000
 ·simp only[cond_false];omega
 ·exact of_decide_eq_true h
theorem Lo (h3:2001<k) {a:Int} {bad:Bool}:lI k b a bad=some (qQ b a bad):=by
 have hc:=qR b a bad;unfold lI;rw[AR hk hb hl,aa];exact(yB hk hb hl (m:=(b9 b a bad 2000).1) (fin:=λy3=>cond (decide (b=b)) (some (y3.1,y3.2.1,y3.2.2)) none) (b9 b a bad 2000).1.toNat 0 _ _ [] k (by omega) (by omega) (by omega) (by omega) (by simp;omega)).trans (by rw[decide_eq_true rfl];rfl)
theorem Jg (h3:2001<k) {a:Int} {bad:Bool}:dC k ⟨b,a,bad⟩ 2000=some (qQ b a bad):=by
 have hc:=qR b a bad;unfold dC;rw[AQ hk hb hl,aa];have:=yC hk hb hl (fin:=λy3=>cond (decide (b=b)) (some (y3.1,y3.2.1,y3.2.2)) none) (b9 b a bad 2000).1.toNat (b9 b a bad 2000).2.1 (b9 b a bad 2000).2.2 [] k (by omega) (by simp;omega);rw[show(((b9 b a bad 2000).1.toNat:Nat):Int)=(b9 b a bad 2000).1 from by omega]at this;exact this.trans (by rw[decide_eq_true rfl];rfl)
omit hk hb hl in
theorem AU (b:List Int):∀(n:Nat) (a:Int) (bad:Bool) (ys:List Int),(vz b n a bad ys).1.length<=ys.length+n
 |0,_,_,_=>Rd _
 |n+1,a,bad,ys=>by
  unfold vz;cases bad
  ·have:=AU b n (aV b a false).2.1 (aV b a false).2.2 (ys++[(aV b a false).1]);simp only[cond_false];simp only[Q5,Q4,Rs]at this;omega
  ·simp only[cond_true];omega
omit hk hb hl in
theorem vA (b:List Int) (a:Int) (bad:Bool):(qQ b a bad).1.length<=2000:=by
 have hc:=qR b a bad;have:=AU b (b9 b a bad 2000).1.toNat (b9 b a bad 2000).2.1 (b9 b a bad 2000).2.2 [];unfold qQ;simp only[Rs]at this;omega
end
def cW (b:List Int) (a:Int) (bad:Bool):av× Int× Bool:=
 let r1:=aV b a bad;let r2:=aV b r1.2.1 r1.2.2;let r3:=aV b r2.2.1 r2.2.2;let r4:=aV b r3.2.1 r3.2.2;let r5:=aV b r4.2.1 r4.2.2;let r6:=aV b r5.2.1 r5.2.2;let r7:=aV b r6.2.1 r6.2.2
 let r8:=qQ b r7.2.1 r7.2.2;let r9:=qQ b r8.2.1 r8.2.2
 (⟨r1.1,r2.1,r3.1,r4.1,r5.1,r6.1,r7.1,r8.1,r9.1⟩,r9.2.1,r9.2.2)
def pT (b:List Int):Nat->Int->Bool->List av->Int× Bool× List av
 |0,a,bad,ys=>(a,bad,ys)
 |n+1,a,bad,ys=>cond bad (a,bad,ys) (pT b n (cW b a bad).2.1 (cW b a bad).2.2 (ys++[(cW b a bad).1]))
def eH (b:List Int):Model× Int:=
 cond (decide ((b.length:Int)>6000)) (dt,5) (cond (!decide (b.take 3=[80,77,49])) (dt,1)
  (let r2:=aV b 3 false;let r3:=aV b r2.2.1 r2.2.2;let r4:=aV b r3.2.1 r3.2.2;let r5:=b9 b r4.2.1 r4.2.2 2000;let y:=pT b r5.1.toNat r5.2.1 r5.2.2 [];let r6:=aV b y.1 y.2.1
  cond r6.2.2 (dt,2) (cond (r6.1 !=Gu ((b.take y.1.toNat).drop 0)) (dt,3) (cond (r6.2.1 !=(b.length:Int)) (dt,3)
   (cond (!ey ⟨⟨r2.1,r3.1,r4.1⟩,y.2.2⟩) (dt,4) (⟨⟨r2.1,r3.1,r4.1⟩,y.2.2⟩,0))))))
theorem Cw (b:List Int) (a:Int) (bad:Bool):(cW b a bad).1.tot<=2000+(2000+0):=Nat.add_le_add (vA b _ _) (Nat.add_le_add (vA b _ _) (Rd 0))
theorem qS (b:List Int):∀(n:Nat) (a:Int) (bad:Bool) (ys:List av),fJ av.tot (pT b n a bad ys).2.2<=fJ av.tot ys+4001*n
 |0,_,_,_=>Rd _
 |n+1,a,bad,ys=>by
  unfold pT;cases bad
  ·have:=qS b n (cW b a false).2.1 (cW b a false).2.2 (ys++[(cW b a false).1]);have hL:=Cw b a false;rw[rO]at this
   have h1:fJ av.tot [(cW b a false).1]=(cW b a false).1.tot+1:=by simp[fJ];omega
   simp only[cond_false];omega
  ·simp only[cond_true];omega
section
variable {k:Nat} {b:List Int} (hk:9000000<=k) (hb:∀x∈b,okB x) (hl:b.length<=aU)
include hk hb hl
theorem Jh {a:Int} {bad:Bool}:et k ⟨b,a,bad⟩=some (cW b a bad):=by
 unfold et cW;simp only[lK (show 7<=k by omega) hb hl,Jg (show 7<=k by omega) hb hl (show 2001<k by omega),aa,decide_true,cond_true]
theorem tD {R:Type} {fin:Int× Bool× List av->Option R} {m q1 q2 q3 q4 q5 q6 q7 q8 q9:Int}:∀(n:Nat) (i a:Int) (bad:Bool) (ys:List av) (kf:Nat),n<kf->m=i+n->0<=i->m<=100000->ys.length+n<=100000->
  iter (λu19 n19=>cG k (b,m,q1,q2,q3,q4,q5,q6,b,q7,q8,q9) u19 n19 fin) kf (i,a,bad,ys)=fin (pT b n a bad ys)
 |_,_,_,_,_,0,h,_,_,_,_=>by omega
 |0,i,a,bad,ys,kf+1,_,hm,_,_,_=>by
  rw[aF];show cG k _ _ _ fin=_;unfold cG;simp only
  rw[decide_eq_false (by omega)];rfl
 |n+1,i,a,bad,ys,kf+1,hkf,hm,hi,hm2,hy=>by
  have hM:=ao;rw[aF];cases bad
  ·have st:∀next,cG k (b,m,q1,q2,q3,q4,q5,q6,b,q7,q8,q9) (i,a,false,ys) next fin=next (i+1,(cW b a false).2.1,(cW b a false).2.2,ys++[(cW b a false).1]):=λnext=>by
    unfold cG;simp only;rw[decide_eq_true (by omega),cond_true];simp only[Ro,cond_true,mA (show 7<=k by omega) hb hl,Lo (show 7<=k by omega) hb hl (show 2001<k by omega),aa];rw[cy (by omega),aH (by omega) (by omega)];rfl
   exact(st _).trans (tD n (i+1) (cW b a false).2.1 (cW b a false).2.2 (ys++[(cW b a false).1]) kf (by omega) (by omega) (by omega) hm2 (by rw[Q5];simp only[Q4,Rs];omega))
  ·show cG k _ _ _ fin=_;unfold cG;simp only;rw[decide_eq_true (by omega),cond_true];rfl
theorem tE {R:Type} {fin:Int× Bool× List av->Option R} {q1 q2 q3 q7 q8 q9:Int}:∀(n:Nat) (a:Int) (bad:Bool) (ys:List av) (kf:Nat),n<kf->ys.length+n<=100000->
  iter (λu9 n9=>dv k (b,q1,q2,q3,b,q7,q8,q9) u9 n9 fin) kf ((n:Int),a,bad,ys)=fin (pT b n a bad ys)
 |_,_,_,_,0,h,_=>by omega
 |0,a,bad,ys,kf+1,_,_=>by
  rw[aF];show dv k _ _ _ fin=_;unfold dv;simp only
  rw[decide_eq_false (by omega)];rfl
 |n+1,a,bad,ys,kf+1,hkf,hy=>by
  have hM:=ao;rw[aF];show dv k _ _ _ fin=_;unfold dv pT;simp only;rw[decide_eq_true (by omega),cond_true];cases bad
  ·simp only[Ro,cond_true,cond_false];rw[Jh hk hb hl,aa,cy (by omega),aH (by omega) (by omega),show((n+1:Nat):Int)-1=(n:Int)from by omega];exact tE (fin:=fin) (q1:=q1) (q2:=q2) (q3:=q3) (q7:=q7) (q8:=q8) (q9:=q9) n (cW b a false).2.1 (cW b a false).2.2 (ys++[(cW b a false).1]) kf (by omega) (by rw[Q5];simp only[Q4,Rs];omega)
  ·rfl
end
theorem yD {b:List Int} {a:Int} {bad:Bool} (h:(aV b a bad).2.2=false):0<=a/\a<=b.length:=by
 cases bad
 ·rw[Cv]at h
  cases hn:P1 b a with
  |none=>rw[hn]at h;exact nomatch h
  |some q=>have:=Ng (x:=q.1) (p:=q.2) hn;omega
 ·exact nomatch h
theorem P2 {b:List Int}:(decide ((b.length:Int)>=3)=false/\decide (b.take 3=[80,77,49])=false)\/∃x y z l,b=x::y::z::l:=by
 match b with
 |[]=>exact .inl ⟨rfl,rfl⟩
 |[x]=>exact .inl ⟨rfl,by simp⟩
 |[x,y]=>exact .inl ⟨rfl,by simp⟩
 |x::y::z::l=>exact .inr ⟨x,y,z,l,rfl⟩
theorem Ek (k:Nat) (b:List Int):tn k b=some (decide (b.take 3=[80,77,49])):=by
 unfold tn
 rcases P2 (b:=b)with⟨h1,h2⟩|⟨x,y,z,l,rfl⟩
 ·rw[h1,h2];rfl
 ·rw[decide_eq_true (by simp;omega),cond_true];have e0:idx (x::y::z::l) 0=some x:=rfl;have e1:idx (x::y::z::l) 1=some y:=rfl;have e2:idx (x::y::z::l) 2=some z:=rfl;rw[e0,e1,e2];simp only[aa,List.take_succ_cons,List.take_zero,RL,and_true,Bool.decide_and,Eg];cases decide (x=80)<;>cases decide (y=77)<;>rfl
theorem Cx {k:Nat} {b:List Int} (hb:∀x∈b,okB x) (hl:b.length<=aU):iE k b [80,77,49]=some (decide (b.take 3=[80,77,49])):=by
 have hM:=ao;unfold iE;rw[ab];by_cases h:(b.length:Int)>=(([80,77,49]:List Int).length:Int)
 ·have h':3<=b.length:=by simp at h;omega
  rw[if_pos h,decide_eq_true (show 0<=((([80,77,49]:List Int).length:Nat):Int)/\((([80,77,49]:List Int).length:Nat):Int)<=(b.length:Int) by simp;omega),cond_true,Tf];rw[show((([80,77,49]:List Int).length:Nat):Int).toNat=3 from rfl];rw[zH (λx hx=>hb x (S0 hx)) (λx hx=>by simp at hx;rcases hx with rfl|rfl|rfl<;>exact⟨by omega,by omega⟩),aa]
 ·rw[if_neg h]
  rcases P2 (b:=b)with⟨_,h2⟩|⟨x,y,z,l,rfl⟩
  ·rw[h2]
  ·simp at h;omega
section
variable {k:Nat} {b:List Int} (hk:9000000<=k) (hb:∀x∈b,okB x) (hl:b.length<=aU)
include hk hb hl
theorem vT:kL k b=some (eH b):=by
 have hM:=ao;unfold kL eH;by_cases c:(b.length:Int)>6000
 ·rw[decide_eq_true c];rfl
 rw[decide_eq_false c,cond_false,cond_false,Ek,aa];cases decide (b.take 3=[80,77,49])
 ·rfl
 simp only[Q3,cond_false,mA (show 7<=k by omega) hb hl,AR (show 7<=k by omega) hb hl,aa];generalize aV b 3 false=r2;generalize aV b r2.2.1 r2.2.2=r3;generalize aV b r3.2.1 r3.2.2=r4;have hc:=qR b r4.2.1 r4.2.2;generalize b9 b r4.2.1 r4.2.2 2000=r5 at hc;refine(tD hk hb hl r5.1.toNat 0 _ _ [] k (by omega) (by omega) (by omega) (by omega) (by simp;omega)).trans ?_;have ht:=qS b r5.1.toNat r5.2.1 r5.2.2 [];rw[show fJ av.tot []=0 from rfl]at ht;generalize pT b r5.1.toNat r5.2.1 r5.2.2 []=y at ht;cases h6:(aV b y.1 y.2.1).2.2
 ·simp only[cond_false];obtain⟨g1,g2⟩:=yD h6;rw[decide_eq_true ⟨g1,g2⟩,cond_true,Je (by simp;omega) (by simp;omega),aa];cases((aV b y.1 y.2.1).1 !=Gu (List.drop 0 (b.take y.1.toNat)))
  ·simp only[cond_false];cases((aV b y.1 y.2.1).2.1 !=(b.length:Int))
   ·simp only[cond_false];rw[vx (by show fJ av.tot y.2.2+0<k;omega) (by show fJ av.tot y.2.2+0<=aU;omega),aa];generalize ey _=q;cases q<;>rfl
   ·rfl
  ·rfl
 ·rfl
theorem vU:kP k b=some (eH b):=by
 have hM:=ao;unfold kP eH;by_cases c:(b.length:Int)>6000
 ·rw[decide_eq_true c];rfl
 rw[decide_eq_false c,cond_false,cond_false,Cx hb hl,aa];cases decide (b.take 3=[80,77,49])
 ·rfl
 simp only[Q3,cond_false,Jd (show 7<=k by omega) hb hl,AQ (show 7<=k by omega) hb hl,aa];generalize aV b 3 false=r2;generalize aV b r2.2.1 r2.2.2=r3;generalize aV b r3.2.1 r3.2.2=r4;have hc:=qR b r4.2.1 r4.2.2;generalize b9 b r4.2.1 r4.2.2 2000=r5 at hc;have:=tE hk hb hl (q1:=0) (q2:=0) (q3:=0) (q7:=r2.1) (q8:=r3.1) (q9:=r4.1) (fin:=λy5=>(aC k (⟨b,y5.1,y5.2.1⟩:Reader)).bind λr6=>cond (r6.2.2) (some ((⟨(⟨(0:Int),(0:Int),(0:Int)⟩:Shape),([]:List av)⟩:Model),(2:Int))) (cond (decide (0<=y5.1/\y5.1<=(b.length:Int))) ((xR k ((b.take y5.1.toNat).drop 0)).bind λr7=>cond (r6.1 !=r7) (some ((⟨(⟨(0:Int),(0:Int),(0:Int)⟩:Shape),([]:List av)⟩:Model),(3:Int))) (cond (r6.2.1 !=(b.length:Int)) (some ((⟨(⟨(0:Int),(0:Int),(0:Int)⟩:Shape),([]:List av)⟩:Model),(3:Int))) ((lC k (⟨⟨r2.1,r3.1,r4.1⟩,y5.2.2⟩:Model)).bind λr8=>cond (!r8) (some ((⟨(⟨(0:Int),(0:Int),(0:Int)⟩:Shape),([]:List av)⟩:Model),(4:Int))) (some ((⟨⟨r2.1,r3.1,r4.1⟩,y5.2.2⟩:Model),(0:Int)))))) none)) r5.1.toNat r5.2.1 r5.2.2 [] k (by omega) (by simp;omega);rw[show((r5.1.toNat:Nat):Int)=r5.1 from by omega]at this;refine Eq.trans this ?_;have ht:=qS b r5.1.toNat r5.2.1 r5.2.2 [];rw[show fJ av.tot []=0 from rfl]at ht;generalize pT b r5.1.toNat r5.2.1 r5.2.2 []=y at ht;rw[lK (show 7<=k by omega) hb hl,aa];cases h6:(aV b y.1 y.2.1).2.2
 ·simp only[cond_false];obtain⟨g1,g2⟩:=yD h6;rw[decide_eq_true ⟨g1,g2⟩,cond_true,Jf (by simp;omega) (by simp;omega),aa];cases((aV b y.1 y.2.1).1 !=Gu (List.drop 0 (b.take y.1.toNat)))
  ·simp only[cond_false];cases((aV b y.1 y.2.1).2.1 !=(b.length:Int))
   ·simp only[cond_false];rw[pQ (by show fJ av.tot y.2.2+0<k;omega) (by show fJ av.tot y.2.2+0<aU;omega),aa];generalize ey _=q;cases q<;>rfl
   ·rfl
  ·rfl
 ·rfl
end
end
section
def sat (a b x:Int):Int:=if x<a then a else if x>b then b else x
theorem Em {a b:Int} (h:a<=b) (x:Int):a<=sat a b x/\sat a b x<=b:=by
 unfold sat;by_cases h1:x<a
 ·rw[if_pos h1];omega
 ·rw[if_neg h1];by_cases h2:x>b
  ·rw[if_pos h2];omega
  ·rw[if_neg h2];omega
theorem NS {a b x:Int} (h1:a<=x) (h2:x<=b):sat a b x=x:=by
 unfold sat;rw[if_neg (by omega),if_neg (by omega)]
theorem pU {k:Nat} {x a b:Int} (h:a<=b):np k x a b=some (sat a b x):=by
 unfold np sat;rw[ab,ab,ab];by_cases h1:x<a
 ·rw[if_pos h1,if_pos h1]
 ·rw[if_neg h1,if_neg h1,if_neg (by omega)];by_cases h2:x>b
  ·rw[if_pos h2,if_pos h2]
  ·rw[if_neg h2,if_neg h2]
theorem Cy {k:Nat} {x a b:Int} (h:a<=b):I5 k x a b=some (sat a b x):=by
 unfold I5 sat
 congr 1
 repeat' split
 all_goals omega
def yE (x:Int):Int:=sat (-128) 127 x
def gZ (x:Int):Int:=sat (-2147483648) 2147483647 x
theorem yF (x:Int):-128<=yE x/\yE x<=127:=Em (by omega) x
theorem kR (x:Int):-2147483648<=gZ x/\gZ x<=2147483647:=Em (by omega) x
theorem En (k:Nat) (x:Int):xO k x=some (yE x):=by unfold xO yE;rw[pU (by omega),aa]
theorem uS (k:Nat) (x:Int):mO k x=some (gZ x):=by unfold mO gZ;rw[pU (by omega),aa]
theorem Eo (k:Nat) (x:Int):xQ k x=some (yE x):=by unfold xQ yE;rw[Cy (by omega),aa]
theorem uT (k:Nat) (x:Int):mP k x=some (gZ x):=by unfold mP gZ;rw[Cy (by omega),aa]
def oR (a b:Int):Int:=gZ (gZ a+gZ b)
theorem oE (k:Nat) (a b:Int):ma k a b=some (oR a b):=by
 have h1:=kR a;have h2:=kR b;unfold ma oR;simp only[uS,aa];rw[aH (by omega) (by omega)]
theorem yG (k:Nat) (a b:Int):ta k a b=some (oR a b):=by
 have h1:=kR a;have h2:=kR b;unfold ta oR;simp only[uT,aa];rw[aH (by omega) (by omega)]
theorem O0 {x y A B:Int} (hx:-A<=x/\x<=A) (hy:-B<=y/\y<=B):-(A*B)<=x*y/\x*y<=A*B:=by
 have h1:=SQ (show 0<=A-x by omega) (show 0<=B+y by omega);have h2:=SQ (show 0<=A+x by omega) (show 0<=B-y by omega);have h3:=SQ (show 0<=A-x by omega) (show 0<=B-y by omega);have h4:=SQ (show 0<=A+x by omega) (show 0<=B+y by omega);simp only[Int.sub_mul,Int.add_mul,Int.mul_add,Int.mul_sub]at h1 h2 h3 h4;omega
def oF (a b:Int):Int:=gZ ((gZ a*gZ b+1073741824)/2147483648)
theorem Ep {k:Nat} {a:Int} (h1:-4611686018427387904<=a/\a<=9223372036854775807):s6 k a 2147483648=some (a/2147483648):=by
 have e:=Int.mul_tdiv_add_tmod a 2147483648;have h2:=Int.tmod_lt_of_pos a (show(0:Int)<2147483648 by omega);unfold s6;rw[ab,if_neg (by omega),ab,if_neg (by omega),ab];by_cases c:0<=a
 ·have h3:=Int.tmod_nonneg 2147483648 c;rw[if_neg (by omega),aH (by omega) (by omega)]
  congr 1;omega
 ·have h3:=Int.tmod_nonneg 2147483648 (show 0<=-a by omega);have h4:=Int.tmod_lt_of_pos (-a) (show(0:Int)<2147483648 by omega);rw[Int.neg_tmod]at h3 h4;by_cases c2:a.tmod 2147483648<0
  ·rw[if_pos c2,aH (n:=a.tdiv 2147483648) (by omega) (by omega),aH (by omega) (by omega)]
   congr 1;omega
  ·rw[if_neg c2,aH (by omega) (by omega)]
   congr 1;omega
theorem NT (a b:Int):-4611686018427387904<=gZ a*gZ b/\gZ a*gZ b<=4611686018427387904:=
 O0 (A:=2147483648) (B:=2147483648) (by have:=kR a;omega) (by have:=kR b;omega)
theorem Er (k:Nat) (a b:Int):s7 k a b=some (oF a b):=by
 have h:=NT a b;unfold s7 oF;simp only[uS,aa];rw[aH (n:=gZ a*gZ b) (by omega) (by omega),aH (by omega) (by omega),Ep (by omega),aa]
theorem Es (k:Nat) (a b:Int):tb k a b=some (oF a b):=by
 have h:=NT a b;unfold tb oF;simp only[uT,aa];rw[aH (n:=gZ a*gZ b) (by omega) (by omega),aH (by omega) (by omega)]
 have e:((2:Int)^(min (31:Int).toNat IntKind.i64.bits))=2147483648:=by decide
 rw[e,Int.fdiv_eq_ediv_of_nonneg _ (by omega)]
def gA (x by_:Int):Int:=if x<0 then -((2*-x+by_)/(2*by_))else(2*x+by_)/(2*by_)
theorem AV {a b:Int} (ha:0<=a) (hb:1<=b):0<=a/b/\a/b<=a:=
 ⟨Int.ediv_nonneg ha (by omega),Int.ediv_le_self _ ha⟩
theorem vB {k:Nat} {x d:Int} (hx:-2147483648<=x/\x<=2147483648) (hd:1<=d/\d<=2147483648):nr k x d=some (gA x d):=by
 unfold nr oo gA;rw[aH (n:=2*d) (by omega) (by omega),ab];by_cases c:x<0
 ·rw[if_pos c,if_pos c,aH (n:=0-x) (by omega) (by omega),ab,if_neg (by omega),ab,if_neg (by omega),aa,aH (n:=2*(0-x)) (by omega) (by omega),aH (n:=2*(0-x)+d) (by omega) (by omega),RU (by omega)];have h:=AV (a:=2*(0-x)+d) (b:=2*d) (by omega) (by omega);rw[show 2*-x+d=2*(0-x)+d from by omega];generalize (2*(0-x)+d)/(2*d)=q at h;rw[aH (n:=q) (by omega) (by omega),aH (by omega) (by omega)]
  congr 1;omega
 ·rw[if_neg c,if_neg c,ab,if_neg (by omega),aH (n:=2*x) (by omega) (by omega),aH (n:=2*x+d) (by omega) (by omega),RU (by omega)];have h:=AV (a:=2*x+d) (b:=2*d) (by omega) (by omega);rw[aH (by omega) (by omega)]
def ij (x n:Int):Int:=gA (gZ x) (2^(sat 0 31 n).toNat)
theorem yH {r:Int} (h:0<=r/\r<=31):IntKind.i64.wrap ((1:Int)*2^(min r.toNat IntKind.i64.bits))=2^r.toNat/\(1:Int)<=2^r.toNat/\(2:Int)^r.toNat<=2147483648:=by
 have hb:IntKind.i64.bits=64:=rfl;have h1:(2:Nat)^r.toNat<=2^31:=Nat.pow_le_pow_right (by omega) (by omega);have h2:1<=(2:Nat)^r.toNat:=Nat.one_le_two_pow
 have e:((2^r.toNat:Nat):Int)=2^r.toNat:=by simp
 rw[hb,Ta (by omega),Int.one_mul];rw[<-e];refine⟨aH (by omega) (by omega),by omega,by omega⟩
theorem HK {v:Int} {s:Nat}:(v+(2^s:Int)/2)/2^s=(2*v+2^s)/(2*2^s):=by
 cases s with
 |zero=>omega
 |succ s=>
  have e:(2:Int)^(s+1)=2*2^s:=by rw[Int.pow_succ,Int.mul_comm]
  rw[e]
  have e2:2*v+2*(2:Int)^s=2*(v+2^s):=by rw[Int.mul_add]
  rw[e2,Int.mul_ediv_mul_of_pos _ _ (by omega:(0:Int)<2),Int.mul_ediv_cancel_left _ (by omega:(2:Int)≠0)]
theorem yI (k:Nat) (x n:Int):mo k x n=some (ij x n):=by
 have h1:=kR x;have h2:=Em (a:=0) (b:=31) (by omega) n;obtain⟨e,h3,h4⟩:=yH h2;unfold mo ij;rw[uT,aa,Cy (by omega),aa,ab,if_neg (by omega),e,vB (by omega) ⟨h3,h4⟩,aa]
theorem Lq {r:Int} (h:0<=r/\r<=31):IntKind.u64.wrap r=r:=Go.IntWalk.u64_in r ⟨by omega,by omega⟩
theorem yJ (k:Nat) (x n:Int):mb k x n=some (ij x n):=by
 have h1:=kR x;have h2:=Em (a:=0) (b:=31) (by omega) n;obtain⟨e,h3,h4⟩:=yH h2;unfold mb ij gA;rw[uS,aa,pU (by omega),aa,Lq h2,ab,if_neg (by omega),e,ab];have hh:((2:Int)^(sat 0 31 n).toNat).tdiv 2=2^(sat 0 31 n).toNat/2:=RU (by omega);rw[hh,aH (n:=2^(sat 0 31 n).toNat/2) (by omega) (by omega)];by_cases c:gZ x<0
 ·rw[if_pos c,if_pos c,ab,if_neg (by omega),aH (n:=0-gZ x) (by omega) (by omega),aH (n:=0-gZ x+2^(sat 0 31 n).toNat/2) (by omega) (by omega),RU (by omega),HK,show 2*-gZ x+2^(sat 0 31 n).toNat=2*(0-gZ x)+2^(sat 0 31 n).toNat from by omega];have h:=AV (a:=2*(0-gZ x)+2^(sat 0 31 n).toNat) (b:=2*2^(sat 0 31 n).toNat) (by omega) (by omega);generalize (2*(0-gZ x)+2^(sat 0 31 n).toNat)/(2*2^(sat 0 31 n).toNat)=q at h;rw[aH (n:=q) (by omega) (by omega),aH (by omega) (by omega)]
  congr 1;omega
 ·rw[if_neg c,if_neg c,ab,if_neg (by omega),aH (n:=gZ x+2^(sat 0 31 n).toNat/2) (by omega) (by omega),RU (by omega),HK];have h:=AV (a:=2*gZ x+2^(sat 0 31 n).toNat) (b:=2*2^(sat 0 31 n).toNat) (by omega) (by omega);rw[aH (by omega) (by omega)]
def yK (acc mult shift zero:Int):Int:=yE (ij (oF acc mult) shift+yE zero)
theorem Ji {x d B:Int} (hx:-B<=x/\x<=B) (hd:1<=d):-B<=gA x d/\gA x d<=B:=by
 have key:∀y:Int,0<=y->y<=B->0<=(2*y+d)/(2*d)/\(2*y+d)/(2*d)<=B:=λy h0 h1=>by
  refine⟨Int.ediv_nonneg (by omega) (by omega),?_⟩
  have hlt:(2*y+d)/(2*d)<B+1:=by
   apply Int.ediv_lt_of_lt_mul (by omega);have:=SQ (show 0<=B by omega) (show 0<=d-1 by omega);rw[Int.mul_sub,Int.mul_one]at this;rw[Int.add_mul,Int.one_mul,Int.mul_comm B,Tu,Int.mul_comm d B];omega
  omega
 unfold gA;by_cases c:x<0
 ·rw[if_pos c];have:=key (-x) (by omega) (by omega);omega
 ·rw[if_neg c];have:=key x (by omega) (by omega);omega
theorem vC (acc mult shift zero:Int):IntKind.i64.wrap (ij (oF acc mult) shift+yE zero)=ij (oF acc mult) shift+yE zero:=by
 have h1:=yF zero;have h2:=Em (a:=0) (b:=31) (by omega) shift;have h3:=kR (oF acc mult);have h4:=Ji (x:=gZ (oF acc mult)) (d:=2^(sat 0 31 shift).toNat) (B:=2147483648) (by omega) (yH h2).2.1;unfold ij;exact aH (by omega) (by omega)
theorem vD (k:Nat) (a b c d:Int):nq k a b c d=some (yK a b c d):=by
 unfold nq yK;simp only[Er,yJ,En,aa,vC]
theorem Et (k:Nat) (a b c d:Int):tc k a b c d=some (yK a b c d):=by
 unfold tc yK;simp only[Es,yI,Eo,aa,vC]
end
section
theorem kS {α:Type} (f:Nat->List α) (m:Nat):∀n,(∀i,i<n->(f i).length<=m)->((List.range n).flatMap f).length<=n*m
 |0,_=>by simp
 |n+1,h=>by
  have:=kS f m n λi hi=>h i (by omega);have:=h n (by omega);rw[Sq,S6,Q5,Rp,show([n]:List Nat).flatMap f=f n from by simp];omega
theorem gN {α:Type} (f:Nat->List α) (m:Nat):∀n,(∀i,i<n->(f i).length=m)->((List.range n).flatMap f).length=n*m
 |0,_=>by simp
 |n+1,h=>by
  have:=gN f m n λi hi=>h i (by omega);have:=h n (by omega);rw[Sq,S6,Q5,Rp,show([n]:List Nat).flatMap f=f n from by simp];omega
theorem Cz {α:Type} (f:Nat->List α) (q:Nat):∀n,(∀i,i<n->(f i).length=q)->∀a b,a<n->b<q->((List.range n).flatMap f)[a*q+b]? =(f a)[b]?
 |0,_,a,b,h,_=>by omega
 |n+1,h,a,b,ha,hb=>by
  have hl:=gN f q n λi hi=>h i (by omega);rw[Sq,S6]
  have hs:([n]:List Nat).flatMap f=f n:=by simp
  rw[hs];by_cases c:a<n
  ·have:(a+1)*q<=n*q:=Rg _ (by omega);rw[Rp]at this;rw[Q0 (by omega)];exact Cz f q n (λi hi=>h i (by omega)) a b c hb
  ·have:a=n:=by omega
   subst this;rw[QZ (by omega),hl,Ru]
theorem fG {α R:Type} (n m:Nat) (f:Nat->List α) (xs0:List α) {g:Int× List α->(Int× List α->Option R)->Option R} {fin:List α->Option R} {k:Nat}
  (hf:∀i,i<n->(f i).length<=m)
  (h:∀(i:Nat) ys next,i<n->ys.length<=xs0.length+i*m->g ((i:Int),ys) next=next (((i+1:Nat):Int),ys++f i))
  (hn:∀ys next,g ((n:Int),ys) next=fin ys) (hk:n<k):iter g k ((0:Int),xs0)=fin (xs0++(List.range n).flatMap f):=by
 have:=fk (g:=g) (st:=λi=>((i:Int),xs0++(List.range i).flatMap f)) (n:=n) (r:=fin (xs0++(List.range n).flatMap f)) (λi hi next=>by
  have hl:=kS f m i λj hj=>hf j (by omega);rw[h i _ next hi (by rw[Q5];omega),Sq,S6]
  simp) (λnext=>hn _ _) hk
 simpa using this
theorem nB {β R:Type} (n:Nat) (f:β->Nat->β) (a0:β) {g:β× Int->(β× Int->Option R)->Option R} {fin:β->Option R} {k:Nat}
  (h:∀(i:Nat) a next,i<n->g (a,(i:Int)) next=next (f a i,((i+1:Nat):Int))) (hn:∀a next,g (a,(n:Int)) next=fin a) (hk:n<k):
  iter g k (a0,(0:Int))=fin ((List.range n).foldl f a0):=
 fk (g:=g) (st:=λi=>((List.range i).foldl f a0,(i:Int))) (n:=n) (r:=fin ((List.range n).foldl f a0)) (λi hi next=>by
  rw[h i _ next hi,Sq,R6];rfl) (λnext=>hn _ _) hk
theorem fold_congr {β:Type} {f g:β->Nat->β}:∀(n:Nat) (a:β),(∀a i,i<n->f a i=g a i)->(List.range n).foldl f a=(List.range n).foldl g a
 |0,_,_=>rfl
 |n+1,a,h=>by
  rw[Sq,R6,R6,fold_congr n a λa i hi=>h a i (by omega)];exact h _ n (by omega)
theorem CA {β:Type} (f:β->Nat->β) (q:Nat):∀(m:Nat) (a:β),(List.range (m*q)).foldl f a=(List.range m).foldl (λa i=>(List.range q).foldl (λa j=>f a (i*q+j)) a) a
 |0,a=>by simp
 |m+1,a=>by
  rw[Rp,Nat.one_mul,List.range_add,R6,CA f q m a,Sq,R6,List.foldl_map];rfl
theorem Eu {a b:Nat} (h:a*b<=9223372036854775807):IntKind.i64.wrap ((a:Int)*(b:Int))=((a*b:Nat):Int):=by
 rw[R3];have e:((a:Int)*(b:Int))=((a*b:Nat):Int):=(R3 a b).symm;exact aH (by omega) (by omega)
theorem E0 {a b:Nat} (h:a+b<=9223372036854775807):IntKind.i64.wrap ((a:Int)+(b:Int))=((a+b:Nat):Int):=by
 rw[aH (by omega) (by omega)];omega
theorem Lr {α:Type} {p:Prop} {i:Decidable p} (h:p) (x y:α):cond (@decide p i) x y=x:=by rw[decide_eq_true h];rfl
theorem QH {α:Type} {p:Prop} {i:Decidable p} (h:¬p) (x y:α):cond (@decide p i) x y=y:=by rw[decide_eq_false h];rfl
theorem tF {H W C h w c:Nat} (h1:h<H) (h2:w<W) (h3:c<C):(h*W+w)*C+c<H*W*C:=by
 have a1:(h+1)*W<=H*W:=Rg _ h1;rw[Rp]at a1;have a2:(h*W+w+1)*C<=H*W*C:=Rg _ (by omega);rw[Rp]at a2;omega
structure kU (H W C:Nat) (xs:List Int):Prop where
 h1:1<=H
 h8:H<=8
 w1:1<=W
 w8:W<=8
 c1:1<=C
 c8:C<=8
 len:xs.length=H*W*C
 mem:∀x∈xs,-128<=x/\x<=127
def uU (H W C:Nat) (xs:List Int):aA:=⟨⟨H,W,C⟩,xs⟩
theorem kU.Pn {H W C:Nat} {xs:List Int} (r:kU H W C xs):H*W*C<=512:=by
 have a:=RH r.h8 r.w8;have b:=RH a r.c8;omega
theorem kU.sh {H W C:Nat} {xs:List Int} (r:kU H W C xs):(⟨H,W,C⟩:Shape).okB=true:=by
 obtain⟨a,b,c,d,e,f,_,_⟩:=r;simp only[Shape.okB,inB,QX,decide_eq_true_eq];omega
theorem kU.size {H W C:Nat} {xs:List Int} (r:kU H W C xs):(⟨H,W,C⟩:Shape).size=((H*W*C:Nat):Int):=by
 unfold Shape.size;rw[r.sh,cond_true,R3,R3]
theorem kU.ok {H W C:Nat} {xs:List Int} (r:kU H W C xs):(uU H W C xs).okB=true:=by
 unfold aA.okB uU;simp only[r.sh,r.size,r.len,decide_true,Q6];unfold rp;rw[Su];intro x hx;have:=r.mem x hx;rw[cn];omega
theorem CB {t:aA} (h:t.okB=true):∃H W C:Nat,kU H W C t.data/\t=uU H W C t.data:=by
 unfold aA.okB at h;simp only[QX,decide_eq_true_eq]at h;obtain⟨h1,h2,h3⟩:=h;have hs:=Shape.tu h1;unfold rp at h3;rw[Su]at h3;unfold Shape.size at h2;rw[h1,cond_true]at h2;obtain⟨⟨a,b,c⟩,xs⟩:=t;simp only at hs h2 h3;refine⟨a.toNat,b.toNat,c.toNat,⟨by omega,by omega,by omega,by omega,by omega,by omega,?_,λx hx=>cn.1 (h3 x hx)⟩,?_⟩
 ·have ea:((a.toNat:Nat):Int)=a:=by omega
  have eb:((b.toNat:Nat):Int)=b:=by omega
  have ec:((c.toNat:Nat):Int)=c:=by omega
  have e:((a.toNat*b.toNat*c.toNat:Nat):Int)=a*b*c:=by rw[R3,R3,ea,eb,ec]
  show xs.length=_;omega
 ·unfold uU
  congr 2<;>omega
def atN (W C:Nat) (xs:List Int) (h w c:Nat):Int:=xs.getD ((h*W+w)*C+c) 0
theorem Gv {H W C:Nat} {xs:List Int} (r:kU H W C xs) {h w c:Nat} (h1:h<H) (h2:w<W) (h3:c<C):xs[(h*W+w)*C+c]? =some (atN W C xs h w c):=by
 have:=tF h1 h2 h3;have hl:=r.len;unfold atN;rw[b8 (by omega),ai (by omega)]
theorem wD {xs:List Int} {i:Nat} (h:i<xs.length):xs.getD i 0∈xs:=by rw[b8 h];exact Q7 h
theorem HL {H W C:Nat} {xs:List Int} (r:kU H W C xs) {h w c:Nat} (h1:h<H) (h2:w<W) (h3:c<C):-128<=atN W C xs h w c/\atN W C xs h w c<=127:=by
 have:=tF h1 h2 h3;have hl:=r.len;exact r.mem _ (wD (by omega))
theorem AW {H W C:Nat} {xs:List Int} (r:kU H W C xs) {h w c:Nat} (h1:h<H) (h2:w<W) (h3:c<C):
  IntKind.i64.wrap (IntKind.i64.wrap (IntKind.i64.wrap (IntKind.i64.wrap ((h:Int)*(W:Int))+(w:Int))*(C:Int))+(c:Int))=(((h*W+w)*C+c:Nat):Int):=by
 have a:=tF h1 h2 h3;have b:=r.Pn;have d:h*W<=H*W:=Rg _ (by omega);have e:=RH r.h8 r.w8;rw[Eu (by omega),E0 (by have:=r.w8;omega),Eu (by omega),E0 (by omega)]
theorem rX {k:Nat} {H W C:Nat} {xs:List Int} (r:kU H W C xs) (hk:512<k) {h w c:Nat} (h1:h<H) (h2:w<W) (h3:c<C):om k (uU H W C xs) h w c=some (atN W C xs h w c,true):=by
 have hl:=r.len;have hc:=r.Pn
 have hi:∀{a n:Nat},a<n->n<=8->inB (a:Int) 0 (IntKind.i64.wrap ((n:Int)-1))=true:=λ{a n} h h8=>by
  rw[aH (by omega) (by omega),cn];omega
 unfold om xP;simp only[j5,cw,aa];rw[oB (t:=uU H W C xs) (by show xs.length<k;omega) (by unfold tO;show xs.length<=_;omega),r.ok];simp only[uU,r.sh,hi h1 r.h8,hi h2 r.w8,hi h3 r.c8,Q3,cond_false,aa,AW r h1 h2 h3];rw[ab,if_neg (by omega),aD,Gv r h1 h2 h3,aa]
theorem rY {k:Nat} {H W C:Nat} {xs:List Int} (r:kU H W C xs) {h w c:Nat} (h1:h<H) (h2:w<W) (h3:c<C):iB k ⟨H,W,C⟩ h w c=some ((((h*W+w)*C+c:Nat)):Int):=by
 unfold iB;rw[AW r h1 h2 h3]
structure Ls (H W Z S h w:Nat):Prop where
 z1:1<=Z
 z3:Z<=3
 s2:S<=2
 hh:h*S+Z<=H
 ww:w*S+Z<=W
def iU (W C:Nat) (xs:List Int) (Z S h w c:Nat):List Int:=
 (List.range Z).flatMap λi=>(List.range Z).flatMap λj=>[atN W C xs (h*S+i) (w*S+j) c]
def O1 (W C:Nat) (xs:List Int) (Z S h w:Nat):List Int:=
 (List.range Z).flatMap λi=>(List.range Z).flatMap λj=>(List.range C).map λc=>atN W C xs (h*S+i) (w*S+j) c
theorem Ew (W C:Nat) (xs:List Int) (Z S h w c:Nat):(iU W C xs Z S h w c).length=Z*(Z*1):=
 gN _ _ _ λi hi=>gN _ _ _ λj hj=>rfl
theorem CC (W C:Nat) (xs:List Int) (Z S h w:Nat):(O1 W C xs Z S h w).length=Z*(Z*C):=
 gN _ _ _ λi hi=>gN _ _ _ λj hj=>by simp
theorem Ey {k:Nat} {H W C:Nat} {xs:List Int} (r:kU H W C xs) (hk:512<k) {l:av} {Z S h w c:Nat} (hz:l.size=Z) (hs:l.step=S) (v:Ls H W Z S h w) (hc:c<C):
  lD k (uU H W C xs) l h w c=some (iU W C xs Z S h w c):=by
 have hM:=ao;have hv:=v;obtain⟨z1,z3,s2,hh,ww⟩:=hv;have:=r.h8;have:=r.w8;unfold lD
 refine(fG Z 3 (λi=>(List.range Z).flatMap λj=>[atN W C xs (h*S+i) (w*S+j) c]) [] (fin:=some) (λi hi=>by
   have:=kS (λj=>[atN W C xs (h*S+i) (w*S+j) c]) 1 Z (λ_ _=>Rd _);omega) (λi ys next hi hy=>?_) (λys next=>?_) (by omega)).trans (by rw[Si];rfl)
 ·simp only[mf,hz,hs];rw[ab,if_pos (by omega),au hi (by omega)];refine fG Z 1 (λj=>[atN W C xs (h*S+i) (w*S+j) c]) ys (fin:=λy=>next (((i+1:Nat):Int),y)) (λ_ _=>Rd _) (λj zs next2 hj hz2=>?_) (λzs next2=>?_) (by omega)
  ·simp only[md,hz,hs]
   have e1:h*S+i<H:=by omega
   have e2:w*S+j<W:=by omega
   have e:=rX (k:=k) r hk e1 e2 hc;unfold uU at e;simp only[Rs]at hy;rw[ab,if_pos (by omega)];simp only[uU];rw[Eu (by omega),E0 (by omega),Eu (by omega),E0 (by omega),e,aa,cy (by simp;omega),au hj (by omega)]
  ·simp only[md];rw[ab,if_neg (by omega)]
 ·simp only[mf];rw[ab,if_neg (by omega)]
theorem Ez {α:Type} {ws:List α} {a q i:Nat} (hi:i<q):((ws.take (a+q)).drop a)[i]? =ws[a+i]? :=by
 rw[Rc,Ry,if_pos (by omega)]
theorem Lt {ws:List Int} {a q:Nat} (h:a+q<=ws.length):(ws.take (a+q)).drop a=(List.range q).map λc=>ws.getD (a+c) 0:=by
 apply List.ext_getElem?;intro i;by_cases c:i<q
 ·rw[Ez c,RD,List.getElem?_range c,Sc,ai (by omega),b8 (by omega)]
 ·rw[Rq (by simp;omega),Rq (by simp;omega)]
theorem yL {k:Nat} {H W C:Nat} {xs:List Int} (r:kU H W C xs) (hk:512<k) {l:av} {Z S h w c:Nat} (hz:l.size=Z) (hs:l.step=S) (v:Ls H W Z S h w) (hc:c<C):
  cE k l (uU H W C xs) h w c=some (iU W C xs Z S h w c):=by
 have hM:=ao;have hv:=v;obtain⟨z1,z3,s2,hh,ww⟩:=hv;have:=r.h8;have:=r.w8;have:=r.c8;have hcu:=r.Pn;have hlen:=r.len;unfold cE
 refine(fG Z 3 (λi=>(List.range Z).flatMap λj=>[atN W C xs (h*S+i) (w*S+j) c]) [] (fin:=some) (λi hi=>by
   have:=kS (λj=>[atN W C xs (h*S+i) (w*S+j) c]) 1 Z (λ_ _=>Rd _);omega) (λi ys next hi hy=>?_) (λys next=>?_) (by omega)).trans (by rw[Si];rfl)
 ·simp only[dK,hz,hs];rw[ab,if_pos (by omega),au hi (by omega)];refine fG Z 1 (λj=>[atN W C xs (h*S+i) (w*S+j) c]) ys (fin:=λy=>next (((i+1:Nat):Int),y)) (λ_ _=>Rd _) (λj zs next2 hj hz2=>?_) (λzs next2=>?_) (by omega)
  ·simp only[dJ,hz,hs]
   have e1:h*S+i<H:=by omega
   have e2:w*S+j<W:=by omega
   have e:=rY (k:=k) (c:=0) r e1 e2 (by omega);have hp:=tF e1 e2 hc;simp only[Rs]at hy;rw[ab,if_pos (by omega)];simp only[uU];rw[Eu (by omega),E0 (by omega),Eu (by omega),E0 (by omega)];refine(congrArg (λo:Option Int=>o.bind _) e).trans ?_;rw[aa,ab,if_neg (by omega),Rw,E0 (by omega),aD,Gv r e1 e2 hc,aa,cy (by simp;omega),au hj (by omega)]
  ·simp only[dJ];rw[ab,if_neg (by omega)]
 ·simp only[dK];rw[ab,if_neg (by omega)]
theorem EA {k:Nat} {H W C:Nat} {xs:List Int} (r:kU H W C xs) (hk:512<k) {l:av} {Z S h w:Nat} (hz:l.size=Z) (hs:l.step=S) (v:Ls H W Z S h w):
  cE k l (uU H W C xs) h w (-1)=some (O1 W C xs Z S h w):=by
 have hM:=ao;have hv:=v;obtain⟨z1,z3,s2,hh,ww⟩:=hv;have:=r.h8;have:=r.w8;have:=r.c8;have hc1:=r.c1;have hcu:=r.Pn;have hlen:=r.len;unfold cE
 refine(fG Z 24 (λi=>(List.range Z).flatMap λj=>(List.range C).map λc=>atN W C xs (h*S+i) (w*S+j) c) [] (fin:=some) (λi hi=>by
   have:=kS (λj=>(List.range C).map λc=>atN W C xs (h*S+i) (w*S+j) c) 8 Z (λ_ _=>by simp;omega);omega) (λi ys next hi hy=>?_) (λys next=>?_) (by omega)).trans (by rw[Si];rfl)
 ·simp only[dK,hz,hs];rw[ab,if_pos (by omega),au hi (by omega)];refine fG Z 8 (λj=>(List.range C).map λc=>atN W C xs (h*S+i) (w*S+j) c) ys (fin:=λy=>next (((i+1:Nat):Int),y)) (λ_ _=>by simp;omega) (λj zs next2 hj hz2=>?_) (λzs next2=>?_) (by omega)
  ·simp only[dJ,hz,hs]
   have e1:h*S+i<H:=by omega
   have e2:w*S+j<W:=by omega
   have e:=rY (k:=k) (c:=0) r e1 e2 (by omega);have hp:=tF (C:=C) (c:=C-1) e1 e2 (by omega);simp only[Rs]at hy;rw[ab,if_pos (by omega)];simp only[uU];rw[Eu (by omega),E0 (by omega),Eu (by omega),E0 (by omega)];refine(congrArg (λo:Option Int=>o.bind _) e).trans ?_;have e3:=Lt (ws:=xs) (a:=((h*S+i)*W+(w*S+j))*C) (q:=C) (by omega);have ew:IntKind.i64.wrap (((((h*S+i)*W+(w*S+j))*C:Nat):Int)+(C:Int))=((((h*S+i)*W+(w*S+j))*C+C:Nat):Int):=E0 (by omega);rw[aa,Lr (by omega),Rw];refine(Lr (by rw[ew];omega) _ _).trans ?_;refine(Lr (by rw[ew];omega) _ _).trans ?_;rw[ew,QY,QY,e3,cy (by simp;omega),au hj (by omega)];rfl
  ·simp only[dJ];rw[ab,if_neg (by omega)]
 ·simp only[dK];rw[ab,if_neg (by omega)]
end
end Go.Proofs.Ev
