/- Typed functions and what holds of them: part 2. -/
import Derived.Test.YtjcmkefhdkccbaaEvL1
set_option linter.unusedVariables false
set_option linter.unusedSimpArgs false
set_option linter.unusedVariables false
set_option linter.unusedSimpArgs false
namespace Go.Proofs.Ev
theorem fB {b c:Bool}:cond b (some c) (some false)=some (b&&c):=by cases b<;>rfl
theorem fU {α:Type} {b:Bool} {x y:α}:cond (!b) x y=cond b y x:=by cases b<;>rfl
theorem uU {α:Type} (a b:Int) (x y:α):cond (a !=b) x y=cond (decide (a=b)) y x:=by rw[Bx];by_cases h:a=b<;>simp[h]
theorem Ei (a b:Int):(a==b)=decide (a=b):=Bw a b
def xX (l:ai):Bool:=inB l.out 1 8&&(inB l.mult 0 2147483647&&(inB l.shift 0 31&&(inB l.zero (-128) 127&&(decide ((l.fK.length:Int)=l.out)&&(l.fK.all (fun x=>inB x (-1000000) 1000000)&&kM l.weights)))))
def lZ (l:ai):Bool:=decide (l.out=0)&&(decide (l.mult=0)&&(decide (l.shift=0)&&(decide ((l.weights.length:Int)=0)&&decide ((l.fK.length:Int)=0))))
def j7 (l:ai):Bool:=decide (l.size=0)&&decide (l.step=0)
def BG (s:Shape) (l:ai):Bool:=inB l.size 1 3&&(inB l.step 1 2&&(decide (l.size≤s.h)&&decide (l.size≤s.w)))
def cI (s:Shape) (l:ai):Bool:=s.okB&&
  (cond (decide (l.kind=0)) (j7 l&&(xX l&&(decide (s.size≤64)&&decide ((l.weights.length:Int)=l.out*s.size))))
  (cond (decide (l.kind=1)) (BG s l&&(xX l&&(decide ((l.weights.length:Int)=l.out*l.size*l.size*s.c)&&decide ((l.weights.length:Int)≤600))))
  (cond (decide (l.kind=2)||decide (l.kind=3)) (BG s l&&(lZ l&&decide (l.zero=0)))
  (cond (decide (l.kind=4)) (j7 l&&(lZ l&&inB l.zero (-128) 127))
  (cond (decide (l.kind=5)) (j7 l&&(lZ l&&(decide (l.zero=0)&&decide (s.size≤8)))) false)))))
def lk (s:Shape) (l:ai) (c:Int):Shape:=
  ⟨IntKind.i64.wrap ((IntKind.i64.wrap ((IntKind.i64.wrap (s.h-l.size)).tdiv l.step))+1),IntKind.i64.wrap ((IntKind.i64.wrap ((IntKind.i64.wrap (s.w-l.size)).tdiv l.step))+1),c⟩
def shapeOf (s:Shape) (l:ai):Shape:=
  cond (decide (l.kind=0)) ⟨1,1,l.out⟩ (cond (decide (l.kind=1)) (lk s l l.out) (cond (decide (l.kind=4)) s (cond (decide (l.kind=5)) ⟨1,1,s.size⟩ (lk s l s.c))))
def bL:Shape:=⟨0,0,0⟩
def dU (s:Shape) (l:ai):Shape× Bool:=cond (cI s l) (shapeOf s l,true) (bL,false)
theorem oz (k:Nat) (x:Int):dN k x=some (inB x (-128) 127):=by unfold dN;rw[dH,aa]
theorem wR {k:Nat} {l:ai} (hk:l.tot<k) (hN:l.tot≤cK) (fin:Option Bool):
    (iter (fun u16 n16=>cu k (l.kind,l.out,l.size,l.step,l.mult,l.shift,l.zero,l.weights,l.fK) u16 n16 (fun y9=>iter (fun u14 n14=>cw k (l.kind,l.out,l.size,l.step,l.mult,l.shift,l.zero,l.weights,l.fK) u14 n14 (fun y12=>fin) (fun y13=>some y13)) k (0:Int)) (fun y15=>some y15)) k (0:Int))
      =cond (l.fK.all (fun x=>inB x (-1000000) 1000000)) (cond (kM l.weights) fin (some false)) (some false):=by
  have hM:=bo
  unfold ai.tot at hk hN
  rw [s7 l.fK (fun x => inB x (-1000000) 1000000) (yes := cond (kM l.weights) fin (some false)) (no := some false) (fun i hi next => by
    simp only[cu]
    rw[ag,if_pos (by omega),bJ,aT hi,aa,dH,aa,cond_not,aY hi (by omega)]) (fun next=>by
    simp only[cu]
    rw[ag,if_neg (by omega)]
    exact s7 l.weights (fun x=>inB x (-128) 127) (fun i hi next=>by
      simp only[cw]
      rw[ag,if_pos (by omega),bJ,aT hi,aa,oz,aa,cond_not,aY hi (by omega)]) (fun next=>by
      simp only[cw];rw[ag,if_neg (by omega)]) (by omega)) (by omega)]
def qb (l:ai) (window weighs:Bool):Bool:=
  cond window (inB l.size 1 3&&inB l.step 1 2) (j7 l)&&cond weighs (xX l) (lZ l&&cond (decide (l.kind=4)) (inB l.zero (-128) 127) (decide (l.zero=0)))
theorem Ej (n:Nat):decide ((n:Int)>0)=!decide ((n:Int)=0):=by
  by_cases h:(n:Int)=0
  · rw[decide_eq_true h,decide_eq_false (by omega)];rfl
  · rw[decide_eq_false h,decide_eq_true (by omega)];rfl
theorem ta {k:Nat} {l:ai} (hk:l.tot<k) (hN:l.tot≤cK) (a b:Bool):lf k l a b=some (qb l a b):=by
  unfold lf qb xX lZ j7
  simp only[dH,oz,aa,fU,uU,wR hk hN,Ej,Ei]
  cases a<;>cases b<;>simp only[cond_true,cond_false,fB]<;>(by_cases h4:l.kind=4<;>simp only[h4,decide_true,decide_false,cond_true,cond_false,fB,Bool.and_assoc,Bool.and_true])
theorem bG {x a b:Int}:inB x a b=true↔a≤x∧x≤b:=by unfold inB;simp
theorem kN {s:Shape} {l:ai} (h:BG s l=true):1≤l.size∧l.size≤3∧1≤l.step∧l.step≤2∧l.size≤s.h∧l.size≤s.w:=by
  simp only[BG,Bool.and_eq_true,bG,decide_eq_true_eq]at h;omega
theorem o7 {l:ai} (h:xX l=true):1≤l.out∧l.out≤8:=by
  simp only[xX,Bool.and_eq_true,bG]at h;omega
theorem uV {o z c:Int} (h1:1≤o) (h2:o≤8) (h3:1≤z) (h4:z≤3) (h5:1≤c) (h6:c≤8):
    IntKind.i64.wrap (IntKind.i64.wrap (IntKind.i64.wrap (o*z)*z)*c)=o*z*z*c∧IntKind.i64.wrap (o*IntKind.i64.wrap (IntKind.i64.wrap (z*z)*c))=o*z*z*c:=by
  have a1:=kK (show 0≤o by omega) h2 (show 0≤z by omega) h4
  have a2:=kK a1.1 a1.2 (show 0≤z by omega) h4
  have a3:=kK a2.1 a2.2 (show 0≤c by omega) h6
  have b1:=kK (show 0≤z by omega) h4 (show 0≤z by omega) h4
  have b2:=kK b1.1 b1.2 (show 0≤c by omega) h6
  have b3:=kK (show 0≤o by omega) h2 b2.1 b2.2
  refine⟨?_,?_⟩
  · rw[aN (n:=o*z) (by omega) (by omega),aN (n:=o*z*z) (by omega) (by omega),aN (by omega) (by omega)]
  · rw[aN (n:=z*z) (by omega) (by omega),aN (n:=z*z*c) (by omega) (by omega),aN (by omega) (by omega),←Int.mul_assoc,←Int.mul_assoc]
theorem rN {o:Int} {s:Shape} (h1:1≤o) (h2:o≤8):IntKind.i64.wrap (o*s.size)=o*s.size:=by
  have h:=Shape.BD s
  have a1:=kK (show 0≤o by omega) h2 h.1 h.2
  exact aN (by omega) (by omega)
theorem jT {k:Nat} {s:Shape} {l:ai} (hk:l.tot<k) (hN:l.tot≤cK):gz k s l=some (dU s l):=by
  unfold gz dU cI
  simp only[fT,dH,fy,ta hk hN,aa,fU,uU,Ei]
  cases hs:s.okB
  · rfl
  obtain⟨c1,c2,c3,c4,c5,c6⟩:=Shape.mZ hs
  simp only[cond_true,Bool.true_and]
  by_cases k0:l.kind=0
  · have e1:inB l.kind 0 5=true:=by rw[bG];omega
    have e2:inB l.kind 1 3=false:=by rw[←Bool.not_eq_true,bG];omega
    simp only[k0,e1,e2,cond_true,cond_false,qb,shapeOf,decide_true]
    simp only[k0]at e1 e2
    simp only[e1,e2,cond_true,cond_false,show decide ((0:Int)≤1)=true from rfl]
    cases j7 l
    · rfl
    cases hnum:xX l
    · rfl
    obtain⟨o1,o2⟩:=o7 hnum
    simp only[rN o1 o2,Bool.true_and,cond_true]
    by_cases z:s.size≤64
    · rw[decide_eq_true z,decide_eq_false (by omega)]
      cases decide ((l.weights.length:Int)=l.out*s.size)<;>rfl
    · rw[decide_eq_false z,decide_eq_true (by omega)];rfl
  by_cases k1:l.kind=1
  · simp only[k1,qb,shapeOf,show inB 1 0 5=true from rfl,show inB 1 1 3=true from rfl,decide_true,cond_true,cond_false,show decide ((1:Int)=0)=false from rfl,show decide ((1:Int)≤1)=true from rfl]
    unfold BG
    cases hz:inB l.size 1 3
    · rfl
    cases ht:inB l.step 1 2
    · rfl
    rw[bG]at hz ht
    simp only[Bool.true_and,cond_true]
    cases hnum:xX l
    · simp only[cond_false,Bool.false_and,Bool.and_false];rfl
    obtain⟨o1,o2⟩:=o7 hnum
    simp only[cond_true,Bool.true_and,(uV o1 o2 hz.1 hz.2 c5 c6).1]
    rw[decide_eq_false (show¬l.step=0 by omega)]
    simp only[cond_false]
    by_cases w1:l.size≤s.h
    · rw [decide_eq_true w1, decide_eq_false (show ¬ l.size > s.h by omega)]
      by_cases w2:l.size≤s.w
      · rw[decide_eq_true w2,decide_eq_false (show¬l.size>s.w by omega)]
        simp only[cond_false,Bool.true_and]
        cases decide ((l.weights.length:Int)=l.out*l.size*l.size*s.c)
        · rfl
        · by_cases w3:(l.weights.length:Int)≤600
          · rw[decide_eq_true w3,decide_eq_false (by omega)];rfl
          · rw[decide_eq_false w3,decide_eq_true (by omega)];rfl
      · rw[decide_eq_false w2,decide_eq_true (show l.size>s.w by omega)];rfl
    · rw[decide_eq_false w1,decide_eq_true (show l.size>s.h by omega)];rfl
  have win:l.kind=2∨l.kind=3→_:=fun h23=>by
    have e1:inB l.kind 0 5=true:=by rw[bG];omega
    have e2:inB l.kind 1 3=true:=by rw[bG];omega
    have e3:decide (l.kind≤1)=false:=decide_eq_false (by omega)
    have e4:(decide (l.kind=2)||decide (l.kind=3))=true:=by simpa using h23
    have e5:decide (l.kind=4)=false:=decide_eq_false (by omega)
    have e6:decide (l.kind=5)=false:=decide_eq_false (by omega)
    exact And.intro e1 (And.intro e2 (And.intro e3 (And.intro e4 (And.intro e5 e6))))
  by_cases h23:l.kind=2∨l.kind=3
  · obtain⟨e1,e2,e3,e4,e5,e6⟩:=win h23
    simp only[e1,e2,e3,e4,e5,e6,decide_eq_false k0,decide_eq_false k1,qb,shapeOf,cond_true,cond_false]
    unfold BG
    cases hz:inB l.size 1 3
    · rfl
    cases ht:inB l.step 1 2
    · rfl
    rw[bG]at hz ht
    simp only[Bool.true_and,cond_true]
    rw[decide_eq_false (show¬l.step=0 by omega)]
    cases lZ l
    · simp only[Bool.false_and,Bool.and_false,cond_false];rfl
    cases decide (l.zero=0)
    · simp only[Bool.false_and,Bool.and_false,cond_false];rfl
    simp only[cond_false,cond_true,Bool.and_true,Bool.true_and]
    by_cases w1:l.size≤s.h
    · rw[decide_eq_true w1,decide_eq_false (show¬l.size>s.h by omega)]
      by_cases w2:l.size≤s.w
      · rw[decide_eq_true w2,decide_eq_false (show¬l.size>s.w by omega)];rfl
      · rw[decide_eq_false w2,decide_eq_true (show l.size>s.w by omega)];rfl
    · rw[decide_eq_false w1,decide_eq_true (show l.size>s.h by omega)];rfl
  have e4:(decide (l.kind=2)||decide (l.kind=3))=false:=by simpa using h23
  by_cases k4:l.kind=4
  · simp only[k4,e4,qb,shapeOf,show inB 4 0 5=true from rfl,show inB 4 1 3=false from rfl,decide_true,cond_true,cond_false,show decide ((4:Int)=0)=false from rfl,show decide ((4:Int)=1)=false from rfl,show decide ((4:Int)≤1)=false from rfl,
      show(decide ((4:Int)=2)||decide ((4:Int)=3))=false from rfl,show decide ((4:Int)=5)=false from rfl]
    cases j7 l<;>cases lZ l<;>cases inB l.zero (-128) 127<;>rfl
  by_cases k5:l.kind=5
  · simp only[k5,qb,shapeOf,show inB 5 0 5=true from rfl,show inB 5 1 3=false from rfl,decide_true,cond_true,cond_false,show decide ((5:Int)=0)=false from rfl,show decide ((5:Int)=1)=false from rfl,show decide ((5:Int)≤1)=false from rfl,
      show(decide ((5:Int)=2)||decide ((5:Int)=3))=false from rfl,show decide ((5:Int)=4)=false from rfl]
    by_cases z:s.size≤8
    · rw[decide_eq_true z,decide_eq_false (show¬s.size>8 by omega)]
      cases j7 l<;>cases lZ l<;>cases decide (l.zero=0)<;>rfl
    · rw[decide_eq_false z,decide_eq_true (show s.size>8 by omega)]
      cases j7 l<;>cases lZ l<;>cases decide (l.zero=0)<;>rfl
  · have e1:inB l.kind 0 5=false:=by rw[←Bool.not_eq_true,bG];omega
    simp only[e1,e4,decide_eq_false k0,decide_eq_false k1,decide_eq_false k4,decide_eq_false k5,cond_false];rfl
theorem m8 (k:Nat) (l:ai):cQ k l=some (j7 l):=by
  unfold cQ j7
  simp only[Ei,fB]
theorem nS (k:Nat) (l:ai):cD k l=some (lZ l):=by
  unfold cD lZ
  simp only[Ei,fB]
theorem l0 (k:Nat) (s:Shape) (l:ai):cn k l s=some (BG s l):=by
  unfold cn BG
  simp only[lY,aa,fB]
  congr 1
  rw[Bool.eq_iff_iff]
  simp only[Bool.and_eq_true,bG,decide_eq_true_eq]
  split<;>split<;>constructor<;>intro h<;>omega
theorem wS {k:Nat} {xs:List Int} (hk:xs.length<k) (hx:xs.length≤nR):aE k xs=some (!xs.all (fun x=>inB x (-1000000) 1000000)):=by
  unfold nR at hx
  unfold aE aS
  rw[uP xs (fun x=>!inB x (-1000000) 1000000) (fun i hi next=>by
    simp only[az,ag,dY,lY,aa]
    rw[if_pos (by omega),bJ,aT hi,aa,aY hi (by omega)]) (fun next=>by
    simp only[az,ag];rw[if_neg (by omega)]) hk]
  rw[ow]
  simp only[aa,rM]
  rw[List.any_eq_not_all_not];simp
theorem l4 {k:Nat} {l:ai} {n:Int} (hk:l.tot<k) (hN:l.tot≤cK):cZ k l n=some (xX l&&decide ((l.weights.length:Int)=IntKind.i64.wrap (l.out*n))):=by
  have hM:=bo
  unfold ai.tot at hk hN
  unfold cZ xX
  simp only[lY,aa,m7 (xs:=l.weights) (k:=k) (by omega) (by unfold nR;omega),wS (xs:=l.fK) (k:=k) (by omega) (by unfold nR;omega),Ei,Bool.not_not,fB]
  congr 1
  cases inB l.out 1 8<;>cases inB l.mult 0 2147483647<;>cases inB l.shift 0 31<;>cases inB l.zero (-128) 127<;>cases decide ((l.weights.length:Int)=IntKind.i64.wrap (l.out*n))<;>cases kM l.weights<;>cases decide ((l.fK.length:Int)=l.out)<;>cases l.fK.all (fun x=>inB x (-1000000) 1000000)<;>rfl
theorem eY (k:Nat) {s:Shape} {l:ai} (c:Int) (h:1≤l.step):cR k l s c=some (lk s l c):=by
  unfold cR lk
  rw[decide_eq_false (show¬l.step=0 by omega)];rfl
theorem jU {k:Nat} {s:Shape} {l:ai} (hk:l.tot<k) (hN:l.tot≤cK):gA k s l=some (dU s l):=by
  unfold gA dU cI
  simp only[kL,lY,fA,m8,nS,l0,l4 hk hN,aa,fU,Ei]
  cases hs:s.okB
  · rfl
  obtain⟨c1,c2,c3,c4,c5,c6⟩:=Shape.mZ hs
  simp only[cond_true,Bool.true_and]
  by_cases k0:l.kind=0
  · simp only[k0,shapeOf,decide_true,cond_true]
    cases hnum:xX l
    · cases decide (s.size≤64)<;>cases j7 l<;>rfl
    obtain⟨o1,o2⟩:=o7 hnum
    simp only[rN o1 o2]
    cases decide (s.size≤64)<;>cases j7 l<;>cases decide ((l.weights.length:Int)=l.out*s.size)<;>rfl
  by_cases k1:l.kind=1
  · simp only[k1,shapeOf,show decide ((1:Int)=0)=false from rfl,decide_true,cond_true,cond_false]
    cases hw:BG s l
    · rfl
    have hw:=kN hw
    cases hnum:xX l
    · cases decide ((l.weights.length:Int)≤600)<;>rfl
    obtain⟨o1,o2⟩:=o7 hnum
    simp only[(uV o1 o2 hw.1 hw.2.1 c5 c6).2,eY k _ hw.2.2.1,aa]
    cases decide ((l.weights.length:Int)≤600)<;>cases decide ((l.weights.length:Int)=l.out*l.size*l.size*s.c)<;>rfl
  simp only[decide_eq_false k0,decide_eq_false k1,cond_false]
  by_cases k2:l.kind=2
  · simp only[k2,shapeOf,decide_true,Bool.true_or,cond_true,cond_false,show decide ((2:Int)=0)=false from rfl,show decide ((2:Int)=1)=false from rfl,show decide ((2:Int)=4)=false from rfl,show decide ((2:Int)=5)=false from rfl]
    cases hw:BG s l
    · rfl
    have hw:=kN hw
    simp only[eY k _ hw.2.2.1,aa]
    cases lZ l<;>cases decide (l.zero=0)<;>rfl
  by_cases k3:l.kind=3
  · simp only[k3,shapeOf,decide_true,Bool.or_true,cond_true,cond_false,show decide ((3:Int)=0)=false from rfl,show decide ((3:Int)=1)=false from rfl,show decide ((3:Int)=2)=false from rfl,show decide ((3:Int)=4)=false from rfl,show decide ((3:Int)=5)=false from rfl]
    cases hw:BG s l
    · rfl
    have hw:=kN hw
    simp only[eY k _ hw.2.2.1,aa]
    cases lZ l<;>cases decide (l.zero=0)<;>rfl
  simp only[decide_eq_false k2,decide_eq_false k3,Bool.or_self,cond_false]
  by_cases k4:l.kind=4
  · simp only[k4,shapeOf,decide_true,cond_true,cond_false,show decide ((4:Int)=0)=false from rfl,show decide ((4:Int)=1)=false from rfl]
    cases j7 l<;>cases lZ l<;>cases inB l.zero (-128) 127<;>rfl
  by_cases k5:l.kind=5
  · simp only[k5,shapeOf,decide_true,cond_true,cond_false,show decide ((5:Int)=0)=false from rfl,show decide ((5:Int)=1)=false from rfl,show decide ((5:Int)=4)=false from rfl]
    cases j7 l<;>cases lZ l<;>cases decide (l.zero=0)<;>cases decide (s.size≤8)<;>rfl
  simp only[decide_eq_false k4,decide_eq_false k5,cond_false];rfl
def aC:Shape→List ai→Option (List Shape)
  |_,[]=>some []
  |s,l::ls=>cond (cI s l) ((aC (shapeOf s l) ls).map (shapeOf s l::·)) none
theorem fI:∀(ls:List ai) (s:Shape) (t:List Shape),aC s ls=some t→t.length=ls.length
  |[],s,t,h=>by cases h;rfl
  | l :: ls, s, t, h => by
    simp only[aC]at h
    cases hb:cI s l<;>simp only[hb,cond_true,cond_false]at h
    · exact nomatch h
    · obtain⟨t',h1,rfl⟩:=Option.map_eq_some_iff.1 h
      simp[fI ls _ _ h1]
theorem l6 {R:Type} {ab:List ai} {V:Type} {st:Nat→List Shape→Shape→V} {g:V→(V→Option R)→Option R} {fin:List Shape→Option R} {bad:Option R}
    (h:∀(i:Nat) (ys:List Shape) (s:Shape) (hi:i<ab.length) (next:V→Option R),ys.length=i+1→ys[i]? =some s→g (st i ys s) next=cond (cI s ab[i]) (next (st (i+1) (ys++[shapeOf s ab[i]]) (shapeOf s ab[i]))) bad)
    (hn:∀ys s next,g (st ab.length ys s) next=fin ys):∀(rest:List ai) (i:Nat) (ys:List Shape) (s:Shape) (k:Nat),i≤ab.length→ab.drop i=rest→ys.length=i+1→ys[i]? =some s→rest.length<k→
      iter g k (st i ys s)=(aC s rest).elim bad fun t=>fin (ys++t)
  |[],i,ys,s,0,hle,hd,hl,hs,hk=>by omega
  |_::_,i,ys,s,0,hle,hd,hl,hs,hk=>by omega
  | [], i, ys, s, k + 1, hle, hd, hl, hs, hk => by
    have h1:=congrArg List.length hd
    simp only[List.length_drop,List.length_nil]at h1
    rw[mO]
    have c:i=ab.length:=by omega
    subst c;rw[hn];simp[aC]
  | l :: ls, i, ys, s, k + 1, hle, hd, hl, hs, hk => by
    have hi:i<ab.length:=by
      have h1:=congrArg List.length hd
      simp only[List.length_drop,List.length_cons]at h1
      omega
    rw[kI hi]at hd
    injection hd with h1 h2
    rw[mO,h i ys s hi _ hl hs,h1]
    simp only[aC]
    cases hb:cI s l
    · rfl
    · simp only[cond_true]
      rw[l6 h hn ls (i+1) (ys++[shapeOf s l]) (shapeOf s l) k (by omega) h2 (by simp[hl]) (by rw[List.getElem?_append_right (by omega),hl];simp) (by simpa using hk)]
      cases aC (shapeOf s l) ls with
      |none=>rfl
      |some t=>simp
def bM (m:Model):List Shape× Bool:=cond (m.inp.okB&&inB (m.ab.length:Int) 1 6) ((aC m.inp m.ab).elim ([],false) fun t=>(m.inp::t,true)) ([],false)
theorem ll {m:Model} {k:Nat} (hk:m.tot<k) (hN:m.tot≤cK) {l:ai} (h:l∈m.ab):l.tot<k∧l.tot≤cK:=by
  have:=o4 ai.tot h
  unfold Model.tot at hk hN
  omega
theorem ln {m:Model} {k:Nat} (hk:m.tot<k) (hN:m.tot≤cK):m.ab.length<k∧m.ab.length≤cK:=by
  have:=o5 ai.tot m.ab
  unfold Model.tot at hk hN
  omega
theorem qK {k:Nat} {m:Model} (hk:m.tot<k) (hN:m.tot≤cK):jL k m=some (bM m):=by
  have hM:=bo
  obtain⟨hlk,hlN⟩:=ln hk hN
  unfold jL bM
  simp only[fT,dH,aa,fU]
  cases m.inp.okB
  · rfl
  cases hlen:inB (m.ab.length:Int) 1 6
  · rfl
  rw[bG]at hlen
  simp only[cond_true,Bool.true_and]
  have:=l6 (ab:=m.ab) (V:=Int× List Shape) (st:=fun i ys s=>((i:Int),ys)) (fin:=fun y=>some (y,true)) (bad:=some (([]:List Shape),false))
    (g:=fun u next=>cC k (m.inp.h,m.inp.w,m.inp.c,m.ab) u next (fun y6=>some (y6,true)) (fun y7=>some (([]:List Shape),y7))) (fun i ys s hi next hl hs=>by
      obtain⟨a1,a2⟩:=ll hk hN (List.getElem_mem hi)
      simp only[cC]
      rw[ag,if_pos (by omega),ag,if_pos (by omega),Int.toNat_natCast,hs,aa,bJ,aT hi,aa,jT a1 a2,aa,aY hi (by omega),jf (by simp;omega)]
      unfold dU
      cases cI s m.ab[i]<;>rfl) (fun ys s next=>by
      simp only[cC];rw[ag,if_neg (by omega)]) m.ab 0 [m.inp] m.inp k (by omega) rfl rfl rfl hlk
  refine this.trans ?_
  cases aC m.inp m.ab<;>rfl
def m9 (m:Model):List Shape× Bool:=(aC m.inp m.ab).elim ([],false) fun t=>(m.inp::t,true)
theorem jg {k:Nat} {m:Model} (hk:m.tot<k) (hN:m.tot<cK):dO k m=some (m9 m):=by
  have hM:=bo
  obtain⟨hlk,hlN⟩:=ln hk (Nat.le_of_lt hN)
  have hb:m.ab.length+1≤cK:=by have:=o5 ai.tot m.ab;unfold Model.tot at hN;omega
  unfold dO m9
  have := l6 (ab := m.ab) (V := Int × List Shape × Int × Int × Int) (st := fun i ys s => ((i : Int), ys, s.h, s.w, s.c)) (fin := fun y => some (y, true)) (bad := some (([] : List Shape), false))
      (g:=fun u next=>bS k (m.ab,(m.ab.length:Int)) u next (fun y3=>some (y3,true)) (fun y4=>some (([]:List Shape),y4))) (fun i ys s hi next hl hs=>by
        obtain⟨a1,a2⟩:=ll hk (Nat.le_of_lt hN) (List.getElem_mem hi)
        simp only[bS]
        rw[ag,if_pos (by omega),bJ,aT hi,aa,jU a1 a2,aa,aY hi (by omega),jf (by simp;omega)]
        unfold dU
        cases cI s m.ab[i]<;>rfl) (fun ys s next=>by
        simp only[bS];rw[ag,if_neg (by omega)]) m.ab 0 [m.inp] m.inp k (by omega) rfl rfl rfl hlk
  refine this.trans ?_
  cases aC m.inp m.ab<;>rfl
theorem zG {s:Shape} {ls:List ai} (hs:s.okB=false) (hl:ls≠[]):aC s ls=none:=by
  cases ls with
  |nil=>exact(hl rfl).elim
  |cons l ls=>simp[aC,cI,hs]
def bR (m:Model):Bool:=(bM m).2
theorem oA {m:Model} (h:inB (m.ab.length:Int) 1 6=true):m9 m=bM m:=by
  unfold m9 bM
  rw[h,Bool.and_true]
  cases hs:m.inp.okB
  · rw[zG hs (fun e=>by rw[e]at h;exact nomatch h)];rfl
  · rfl
theorem rO {m:Model} (h:inB (m.ab.length:Int) 1 6=false):bR m=false:=by
  unfold bR bM;rw[h,Bool.and_false];rfl
theorem oB {k:Nat} {m:Model} (hk:m.tot<k) (hN:m.tot≤cK):iZ k m=some (bR m):=by
  unfold iZ
  rw[qK hk hN];rfl
theorem eF {k:Nat} {m:Model} (hk:m.tot<k) (hN:m.tot<cK):eR k m=some (bR m):=by
  unfold eR
  rw[lY,aa,fU,jg hk hN]
  cases h:inB (m.ab.length:Int) 1 6
  · rw[rO h];rfl
  · rw[oA h];rfl
def aL (m:Model):List Shape:=cond (bR m) (bM m).1 []
theorem eZ {k:Nat} {m:Model} (hk:m.tot<k) (hN:m.tot<cK):dz k m=some (aL m):=by
  unfold dz aL
  rw[eF hk hN,aa,fU,jg hk hN]
  cases h:bR m
  · rfl
  · have:inB (m.ab.length:Int) 1 6=true:=by
      cases h2:inB (m.ab.length:Int) 1 6
      · rw[rO h2]at h;exact nomatch h
      · rfl
    rw[oA this];rfl
theorem iq {m:Model} (h:bR m=true):(aL m).length=m.ab.length+1:=by
  unfold aL
  rw[h,cond_true]
  unfold bR at h
  unfold bM at h⊢
  cases h1:(m.inp.okB&&inB (m.ab.length:Int) 1 6)<;>rw[h1]at h
  · exact nomatch h
  · simp only[cond_true]at h⊢
    cases h2:aC m.inp m.ab with
    |none=>rw[h2]at h;exact nomatch h
    |some t=>simp[fI _ _ _ h2]
def Dr (s t:Shape) (l:ai):Int:=
  cond (decide (l.kind=0)) (IntKind.i64.wrap (1+(IntKind.i64.wrap ((IntKind.i64.wrap (t.size*s.size)).tdiv 16))))
  (cond (decide (l.kind=1)) (IntKind.i64.wrap (1+(IntKind.i64.wrap ((IntKind.i64.wrap ((IntKind.i64.wrap ((IntKind.i64.wrap (t.size*l.size))*l.size))*s.c)).tdiv 16))))
  (cond (decide (l.kind=2)) (IntKind.i64.wrap (1+(IntKind.i64.wrap ((IntKind.i64.wrap ((IntKind.i64.wrap (t.size*l.size))*l.size)).tdiv 16))))
  (cond (decide (l.kind=3)) (IntKind.i64.wrap (1+(IntKind.i64.wrap ((IntKind.i64.wrap ((IntKind.i64.wrap (t.size*l.size))*l.size)).tdiv 16))))
   (IntKind.i64.wrap (1+(IntKind.i64.wrap (s.size.tdiv 16)))))))
def qc (s:Shape) (l:ai):Int:=cond (dU s l).2 (Dr s (dU s l).1 l) 0
theorem wT {k:Nat} {s:Shape} {l:ai} (hk:l.tot<k) (hN:l.tot≤cK):o6 k s l=some (qc s l):=by
  unfold o6 qc Dr
  simp only[jU hk hN,fA,aa,fU,Ei]
  rw[Int.mul_comm s.size]
  cases(dU s l).2
  · rfl
  simp only[cond_true]
  cases decide (l.kind=0)<;>cases decide (l.kind=1)<;>cases decide (l.kind=2)<;>cases decide (l.kind=3)<;>rfl
def kO (m:Model):List Int:=cond (bR m) ((List.range m.ab.length).map fun i=>qc ((aL m).getD i bL) (m.ab.getD i ⟨0,0,0,0,0,0,0,[],[]⟩)) []
theorem cX {α:Type} {xs:List α} {i:Nat} (h:i<xs.length) (d:α):xs.getD i d=xs[i]:=by rw[List.getD_eq_getElem?_getD,aT h];rfl
theorem uW {k:Nat} {m:Model} (hk:m.tot+1<k) (hN:m.tot<cK):mS k m=some (kO m):=by
  have hM:=bo
  obtain⟨hlk,hlN⟩:=ln (show m.tot<k-1 by omega) (Nat.le_of_lt hN)
  unfold mS kO
  rw[eZ (by omega) hN,aa]
  cases h:bR m
  · have:aL m=[]:=by unfold aL;rw[h];rfl
    rw[this]
    cases k with
    |zero=>omega
    |succ k=>rfl
  have hsl:=iq h
  simp only[cond_true]
  rw[hsl]
  have := gf (R := List Int) (g := fun u next => dm k (((m.ab.length + 1 : Nat) : Int), m.inp.h, m.inp.w, m.inp.c, m.ab, aL m) u next (fun y5 => some y5)) (n := m.ab.length + 1)
    (st:=fun i=>((i:Int),(List.range (min i m.ab.length)).map fun i=>qc ((aL m).getD i bL) (m.ab.getD i ⟨0,0,0,0,0,0,0,[],[]⟩)))
    (r := some ((List.range m.ab.length).map fun i => qc ((aL m).getD i bL) (m.ab.getD i ⟨0, 0, 0, 0, 0, 0, 0, [], []⟩))) (fun i hi next => by
      simp only[dm]
      rw[ag,if_pos (by omega),ag,if_pos (by omega),Int.toNat_natCast,aT (show i<(aL m).length by omega),aa,aY hi (by omega),ag]
      by_cases c:i<m.ab.length
      · obtain⟨a1,a2⟩:=ll (show m.tot<k by omega) (Nat.le_of_lt hN) (List.getElem_mem c)
        rw[if_pos (by omega),bJ,aT c,aa,wT a1 a2,aa,jf (by simp;omega),Nat.min_eq_left (by omega),Nat.min_eq_left (by omega),List.range_succ,List.map_append,List.map_singleton,cX (show i<(aL m).length by omega),cX c]
      · rw[if_neg (by omega),Nat.min_eq_right (by omega),Nat.min_eq_right (by omega)]) (fun next=>by
      simp only[dm]
      rw[ag,if_neg (by omega),Nat.min_eq_right (by omega)]) (k:=k) (by omega)
  simpa using this
def e9 (m:Model):Int:=(kO m).foldl (fun s x=>IntKind.i64.wrap (s+x)) 0
theorem wU (m:Model):(kO m).length≤m.ab.length:=by
  unfold kO
  cases bR m<;>simp
theorem C4 {k:Nat} {xs:List Int} (hk:xs.length<k) (hN:xs.length≤cK):Ed k xs=some (xs.foldl (fun s x=>IntKind.i64.wrap (s+x)) 0):=by
  have hM:=bo
  exact BA xs (fun s x=>IntKind.i64.wrap (s+x)) (g:=fun u next=>jM k (xs,(xs.length:Int)) u next (fun y2=>some y2)) (fin:=some) 0 (fun i s hi next _=>by
    simp only[jM]
    rw[ag,if_pos (by omega),bJ,aT hi,aa,aY hi (by omega)]) (fun next=>by
    simp only[jM];rw[ag,if_neg (by omega)]) hk
theorem fJ {k:Nat} {m:Model} (hk:m.tot+1<k) (hN:m.tot<cK):bT k m=some (e9 m):=by
  obtain⟨hlk,hlN⟩:=ln (show m.tot<k by omega) (Nat.le_of_lt hN)
  have hc:=wU m
  unfold bT
  rw[uW hk hN,aa,C4 (by omega) (by omega)];rfl
end Go.Proofs.Ev
set_option linter.unusedVariables false
set_option linter.unusedSimpArgs false
namespace Go.Proofs.Ev
end Go.Proofs.Ev
set_option linter.unusedVariables false
set_option linter.unusedSimpArgs false
namespace Go.Proofs.Ev
end Go.Proofs.Ev
set_option linter.unusedVariables false
set_option linter.unusedSimpArgs false
namespace Go.Proofs.Ev
end Go.Proofs.Ev
set_option linter.unusedVariables false
set_option linter.unusedSimpArgs false
namespace Go.Proofs.Ev
def block (s:B7) (d:Int):Int:=(s.tasks.findIdx? fun t=>t.id==s.run).elim 0 fun i=>(s.tasks[i]?).elim 0 fun t=>cond (decide (t.due>d)) s.left 0
end Go.Proofs.Ev
set_option linter.unusedVariables false
set_option linter.unusedSimpArgs false
namespace Go.Proofs.Ev
end Go.Proofs.Ev
set_option linter.unusedVariables false
set_option linter.unusedSimpArgs false
namespace Go.Proofs.Ev
end Go.Proofs.Ev
set_option linter.unusedVariables false
set_option linter.unusedSimpArgs false
namespace Go.Proofs.Ev
end Go.Proofs.Ev
set_option linter.unusedVariables false
set_option linter.unusedSimpArgs false
namespace Go.Proofs.Ev
def ao {α:Type} (o:Option α) (Q:α→Prop):Prop:=∃r,o=some r∧Q r
theorem ao.bind {α β:Type} {o:Option α} {P:α→Prop} {f:α→Option β} {Q:β→Prop} (h:ao o P) (hf:∀a,P a→ao (f a) Q):ao (o.bind f) Q:=by
  obtain⟨r,e,hp⟩:=h
  rw[e];exact hf r hp
theorem ao.some {α:Type} {a:α} {Q:α→Prop} (h:Q a):ao (some a) Q:=⟨a,rfl,h⟩
theorem ao.cond {α:Type} {b:Bool} {x y:Option α} {Q:α→Prop} (h1:b=true→ao x Q) (h2:b=false→ao y Q):ao (cond b x y) Q:=by
  cases b
  · exact h2 rfl
  · exact h1 rfl
theorem ao.mono {α:Type} {o:Option α} {P Q:α→Prop} (h:ao o P) (hq:∀a,P a→Q a):ao o Q:=by
  obtain⟨r,e,hp⟩:=h
  exact⟨r,e,hq r hp⟩
theorem ao.iter {V R:Type} {g:V→(V→Option R)→Option R} {Inv:V→Prop} {m:V→Nat} {Q:R→Prop}
    (h:∀(v:V) (next:V→Option R),Inv v→(∀u,Inv u→m u<m v→ao (next u) Q)→ao (g v next) Q):∀(k:Nat) (v:V),Inv v→m v<k→ao (iter g k v) Q
  |0,v,_,hk=>by omega
  | k + 1, v, hv, hk => by
    rw[mO]
    exact h v _ hv fun u hu hm=>ao.iter h k u hu (by omega)
def Cur (b:List Int) (i:Int):Prop:=0≤i∧i≤b.length
theorem Ds (x:BitVec IntKind.i64.bits):0≤IntKind.i64.wrap (((x&&& BitVec.ofInt IntKind.i64.bits (255:Int)).toNat:Int))∧IntKind.i64.wrap (((x&&& BitVec.ofInt IntKind.i64.bits (255:Int)).toNat:Int))≤255:=by
  have h1:(x&&& BitVec.ofInt IntKind.i64.bits (255:Int)).toNat≤255:=by
    rw[BitVec.toNat_and]
    have:(BitVec.ofInt IntKind.i64.bits (255:Int)).toNat=255:=by decide
    rw[this];exact Nat.and_le_right
  rw[aN (by omega) (by omega)]
  omega
theorem lq {k:Nat} {b:List Int} {i h:Int} (hb:b.length≤1048576) (hc:Cur b i):ao (dZ k b i h) fun r=>(0≤r.1∧r.1≤255)∧Cur b r.2.1:=by
  unfold Cur at hc
  unfold dZ
  refine ao.cond (fun h1=>?_) fun h1=>?_
  · have h1:=of_decide_eq_true h1
    have hi:i.toNat<b.length:=by omega
    rw[p6 _ hc.1,aT hi,aa,decide_eq_true rfl]
    refine ao.some ⟨Ds _,?_⟩
    show Cur b (IntKind.i64.wrap (i+1))
    rw[aN (by omega) (by omega)]
    unfold Cur;omega
  · rw[decide_eq_true rfl]
    exact ao.some ⟨Ds _,hc⟩
theorem tb {x n:Int} (h0:0≤x) (hn:0<n):0≤x.tmod n∧x.tmod n<n:=⟨Int.tmod_nonneg n h0,Int.tmod_lt_of_pos x hn⟩
theorem aR {k:Nat} {b:List Int} {i h n:Int} (hb:b.length≤1048576) (hc:Cur b i):ao (ae k b i h n) fun r=>(0≤r.1∧(0<n→r.1<n)∧(n≤0→r.1=0))∧Cur b r.2.1:=by
  unfold ae
  refine ao.cond (fun h1=>?_) fun h1=>ao.cond (fun h2=>?_) fun h2=>?_
  · have h1:=of_decide_eq_true h1
    rw[decide_eq_true rfl]
    exact ao.some ⟨⟨Int.le_refl _,fun h=>by omega,fun _=>rfl⟩,hc⟩
  · have h1:=of_decide_eq_false h1
    refine(lq hb hc).bind fun r ⟨hr,hc1⟩=>?_
    rw[decide_eq_false (show¬n=0 by omega),decide_eq_true rfl]
    have:=tb (x:=r.1) (n:=n) hr.1 (by omega)
    exact ao.some ⟨⟨this.1,fun _=>this.2,fun h=>by omega⟩,hc1⟩
  · have h1:=of_decide_eq_false h1
    refine(lq hb hc).bind fun r ⟨hr,hc1⟩=>(lq hb hc1).bind fun r2 ⟨hr2,hc2⟩=>(lq hb hc2).bind fun r3 ⟨hr3,hc3⟩=>?_
    rw[decide_eq_false (show¬n=0 by omega),decide_eq_true rfl]
    rw[aN (n:=r.1*65536) (by omega) (by omega),aN (n:=r2.1*256) (by omega) (by omega),aN (n:=r.1*65536+r2.1*256) (by omega) (by omega),aN (n:=r.1*65536+r2.1*256+r3.1) (by omega) (by omega)]
    have:=tb (x:=r.1*65536+r2.1*256+r3.1) (n:=n) (by omega) (by omega)
    exact ao.some ⟨⟨this.1,fun _=>this.2,fun h=>by omega⟩,hc3⟩
theorem fC {k:Nat} {b:List Int} {i h:Int} {xs:List Int} (hb:b.length≤1048576) (hc:Cur b i) (hx:0<xs.length):ao (aV k b i h xs) fun r=>r.1∈xs∧Cur b r.2.1:=by
  unfold aV
  refine(aR hb hc).bind fun r ⟨⟨h0,h1,_⟩,hc1⟩=>?_
  have:=h1 (by omega)
  have hi:r.1.toNat<xs.length:=by omega
  rw[p6 _ h0,aT hi,aa,decide_eq_true rfl]
  exact ao.some ⟨List.getElem_mem hi,hc1⟩
theorem nT {k:Nat} {b:List Int} {i h n:Int} (hb:b.length≤1048576) (hc:Cur b i):ao (fw k b i h n) fun r=>Cur b r.2.1:=by
  unfold fw
  refine(aR hb hc).bind fun r ⟨_,hc1⟩=>?_
  rw[decide_eq_true rfl]
  exact ao.some hc1
theorem BH {k:Nat} {b:List Int} (hb:b.length≤1048576) (hk:b.length<k):ao (lh k b) fun r=>Cur b r.1:=by
  unfold lh
  refine ao.iter (Inv:=fun v:Int× Int=>0≤v.2∧v.2≤b.length) (m:=fun v=>b.length-v.2.toNat) (fun v next hv hn=>?_) k _ (by constructor<;>simp) (by simp;omega)
  unfold eT
  have fin:ao (cond (decide (b=b)) (some ((0:Int),v.1)) none) fun r=>Cur b r.1:=by
    rw[decide_eq_true rfl]
    exact ao.some ⟨Int.le_refl _,by show(0:Int)≤b.length;omega⟩
  refine ao.cond (fun h1=>ao.cond (fun h2=>?_) fun h2=>fin) fun h1=>fin
  have h1:=of_decide_eq_true h1
  have hi:v.2.toNat<b.length:=by omega
  rw[p6 _ hv.1,aT hi,aa]
  have e:IntKind.i64.wrap (v.2+1)=v.2+1:=aN (by omega) (by omega)
  rw[e]
  exact hn _ (by simp only;omega) (by simp only;omega)
end Go.Proofs.Ev
set_option linter.unusedVariables false
set_option linter.unusedSimpArgs false
namespace Go.Proofs.Ev
theorem ao.must {α:Type} {p:Prop} {i:Decidable p} {x y:Option α} {Q:α→Prop} (h:p) (hx:ao x Q):ao (bif (@decide p i)then x else y) Q:=by
  rw[decide_eq_true h];exact hx
theorem ao.ble {α:Type} {a b:Nat} {x y:Option α} {Q:α→Prop} (h:a≤b) (hx:ao x Q):ao (bif (Nat.ble a b)then x else y) Q:=by
  rw[Nat.ble_eq_true_of_le h];exact hx
end Go.Proofs.Ev
set_option linter.unusedVariables false
set_option linter.unusedSimpArgs false
namespace Go.Proofs.Ev
theorem BI (n:Int):∃q:Int,IntKind.i64.wrap n=n+18446744073709551616*q:=by
  have h:IntKind.i64.wrap n=if n %18446744073709551616≥9223372036854775808 then n %18446744073709551616-18446744073709551616 else n %18446744073709551616:=by
    unfold IntKind.wrap
    simp[IntKind.bits,IntKind.signed]
  rw[h]
  by_cases c:n %18446744073709551616≥9223372036854775808
  · rw[if_pos c];exact⟨-(n/18446744073709551616)-1,by omega⟩
  · rw[if_neg c];exact⟨-(n/18446744073709551616),by omega⟩
theorem rP {a b:Int} (q:Int) (h:a=b+18446744073709551616*q):IntKind.i64.wrap a=IntKind.i64.wrap b:=by
  subst h
  unfold IntKind.wrap
  simp[IntKind.bits,IntKind.signed]
end Go.Proofs.Ev
set_option linter.unusedVariables false
set_option linter.unusedSimpArgs false
namespace Go.Proofs.Ev
theorem nU {k:Nat} {l:ai} (hN:l.tot≤cK):fG k l=some l:=by
  unfold ai.tot at hN
  unfold fG
  rw[eE (by omega),aa,eE (by omega)];rfl
theorem jh {k:Nat} {xs:List ai} (hk:lA ai.tot xs<k) (hN:lA ai.tot xs≤cK):fH k xs=some xs:=by
  have hM:=bo
  have hl:=o5 ai.tot xs
  have:=xW xs (fun x=>x) (g:=fun u next=>bU k (xs,(xs.length:Int)) u next (fun y3=>some y3)) (fin:=some) (fun i ys hi next hys=>by
    have hm:=o4 ai.tot (List.getElem_mem hi)
    simp only[bU]
    rw[ag,if_pos (by omega),bJ,aT hi,aa,nU (by omega),aa,jf (by omega),aY hi (by omega)]) (fun ys next=>by
    simp only[bU];rw[ag,if_neg (by omega)]) (k:=k) (by omega)
  rw[List.map_id']at this
  exact this
def BJ:Model:=⟨⟨0,0,0⟩,[]⟩
def lr (m:Model) (a b:Int):Model× Bool:=
  cond (bR m&&(decide (0≤a)&&(decide (a<b)&&decide (b≤m.ab.length)))) (⟨(aL m).getD a.toNat bL,(m.ab.take b.toNat).drop a.toNat⟩,true) (BJ,false)
theorem uX {α:Type} (t:α→Nat) (xs:List α) (i:Nat):lA t (xs.drop i)≤lA t xs:=by
  have:=dX t (xs.take i) (xs.drop i)
  rw[List.take_append_drop]at this
  omega
theorem na {k:Nat} {m:Model} {a b:Int} (hk:m.tot<k) (hN:m.tot<cK):dA k m a b=some (lr m a b):=by
  unfold dA lr
  rw[eF hk hN,aa,fU]
  cases hm:bR m
  · rfl
  have hsl:=iq hm
  simp only[cond_true,Bool.true_and]
  by_cases h1:0≤a
  · rw [decide_eq_false (show ¬ a < 0 by omega), decide_eq_true h1]
    simp only[cond_false,Bool.true_and]
    by_cases h2:a<b
    · rw[decide_eq_false (show¬a≥b by omega),decide_eq_true h2]
      simp only[cond_false,Bool.true_and]
      by_cases h3:b≤m.ab.length
      · rw[decide_eq_false (show¬b>m.ab.length by omega),decide_eq_true h3]
        have hi:a.toNat<(aL m).length:=by omega
        have ht:=uX ai.tot (m.ab.take b.toNat) a.toNat
        have ht2:=uT ai.tot m.ab b.toNat
        have hk2:=hk
        have hN2:=hN
        unfold Model.tot at hk2 hN2
        simp only[cond_false,cond_true]
        rw[eZ hk hN,aa,ag,if_pos (by omega),aT hi,aa,ag,if_pos (by omega),ag,if_pos (by omega),jh (by omega) (by omega),aa,cX hi]
      · rw[decide_eq_true (show b>m.ab.length by omega),decide_eq_false h3];rfl
    · rw[decide_eq_true (show a≥b by omega),decide_eq_false h2];rfl
  · rw[decide_eq_true (show a<0 by omega),decide_eq_false h1];rfl
end Go.Proofs.Ev
set_option linter.unusedVariables false
set_option linter.unusedSimpArgs false
namespace Go.Proofs.Ev
theorem BK (a b:Shape):(cond (a.h==b.h) (cond (a.w==b.w) (cond (a.c==b.c) (true) false) false) false)=decide (a=b):=by
  obtain⟨a1,a2,a3⟩:=a
  obtain⟨b1,b2,b3⟩:=b
  by_cases h1:a1=b1<;>by_cases h2:a2=b2<;>by_cases h3:a3=b3<;>simp[h1,h2,h3]
end Go.Proofs.Ev
set_option linter.unusedVariables false
set_option linter.unusedSimpArgs false
namespace Go.Proofs.Ev
def sat (a b x:Int):Int:=if x<a then a else if x>b then b else x
theorem uY {a b:Int} (h:a≤b) (x:Int):a≤sat a b x∧sat a b x≤b:=by
  unfold sat
  by_cases h1:x<a
  · rw[if_pos h1];omega
  · rw[if_neg h1]
    by_cases h2:x>b
    · rw[if_pos h2];omega
    · rw[if_neg h2];omega
theorem Dt {a b x:Int} (h1:a≤x) (h2:x≤b):sat a b x=x:=by
  unfold sat;rw[if_neg (by omega),if_neg (by omega)]
theorem kP {k:Nat} {x a b:Int} (h:a≤b):ja k x a b=some (sat a b x):=by
  unfold ja sat
  rw[ag,ag,ag]
  by_cases h1:x<a
  · rw[if_pos h1,if_pos h1]
  · rw[if_neg h1,if_neg h1,if_neg (by omega)]
    by_cases h2:x>b
    · rw[if_pos h2,if_pos h2]
    · rw[if_neg h2,if_neg h2]
theorem tc {k:Nat} {x a b:Int} (h:a≤b):zE k x a b=some (sat a b x):=by
  unfold zE sat
  congr 1
  repeat' split
  all_goals omega
def qd (x:Int):Int:=sat (-128) 127 x
def ed (x:Int):Int:=sat (-2147483648) 2147483647 x
theorem qe (x:Int):-128≤qd x∧qd x≤127:=uY (by omega) x
theorem gi (x:Int):-2147483648≤ed x∧ed x≤2147483647:=uY (by omega) x
theorem uZ (k:Nat) (x:Int):p8 k x=some (qd x):=by unfold p8 qd;rw[kP (by omega),aa]
theorem nV (k:Nat) (x:Int):iF k x=some (ed x):=by unfold iF ed;rw[kP (by omega),aa]
theorem va (k:Nat) (x:Int):qa k x=some (qd x):=by unfold qa qd;rw[tc (by omega),aa]
theorem nW (k:Nat) (x:Int):iG k x=some (ed x):=by unfold iG ed;rw[tc (by omega),aa]
def j5 (a b:Int):Int:=ed (ed a+ed b)
theorem jV (k:Nat) (a b:Int):ig k a b=some (j5 a b):=by
  have h1:=gi a
  have h2:=gi b
  unfold ig j5
  simp only[nV,aa]
  rw[aN (by omega) (by omega)]
theorem qf (k:Nat) (a b:Int):mW k a b=some (j5 a b):=by
  have h1:=gi a
  have h2:=gi b
  unfold mW j5
  simp only[nW,aa]
  rw[aN (by omega) (by omega)]
theorem Ek {x y A B:Int} (hx:-A≤x∧x≤A) (hy:-B≤y∧y≤B):-(A*B)≤x*y∧x*y≤A*B:=by
  have h1:=Int.mul_nonneg (show 0≤A-x by omega) (show 0≤B+y by omega)
  have h2:=Int.mul_nonneg (show 0≤A+x by omega) (show 0≤B-y by omega)
  have h3:=Int.mul_nonneg (show 0≤A-x by omega) (show 0≤B-y by omega)
  have h4:=Int.mul_nonneg (show 0≤A+x by omega) (show 0≤B+y by omega)
  simp only[Int.sub_mul,Int.add_mul,Int.mul_add,Int.mul_sub]at h1 h2 h3 h4
  omega
def jW (a b:Int):Int:=ed ((ed a*ed b+1073741824)/2147483648)
theorem vb {k:Nat} {a:Int} (h1:-4611686018427387904≤a∧a≤9223372036854775807):mT k a 2147483648=some (a/2147483648):=by
  have e:=Int.mul_tdiv_add_tmod a 2147483648
  have h2:=Int.tmod_lt_of_pos a (show(0:Int)<2147483648 by omega)
  unfold mT
  rw[ag,if_neg (by omega),ag,if_neg (by omega),ag]
  by_cases c:0≤a
  · have h3:=Int.tmod_nonneg 2147483648 c
    rw[if_neg (by omega),aN (by omega) (by omega)]
    congr 1;omega
  · have h3:=Int.tmod_nonneg 2147483648 (show 0≤-a by omega)
    have h4:=Int.tmod_lt_of_pos (-a) (show(0:Int)<2147483648 by omega)
    rw[Int.neg_tmod]at h3 h4
    by_cases c2:a.tmod 2147483648<0
    · rw[if_pos c2,aN (n:=a.tdiv 2147483648) (by omega) (by omega),aN (by omega) (by omega)]
      congr 1;omega
    · rw[if_neg c2,aN (by omega) (by omega)]
      congr 1;omega
theorem Du (a b:Int):-4611686018427387904≤ed a*ed b∧ed a*ed b≤4611686018427387904:=
  Ek (A:=2147483648) (B:=2147483648) (by have:=gi a;omega) (by have:=gi b;omega)
theorem vc (k:Nat) (a b:Int):mU k a b=some (jW a b):=by
  have h:=Du a b
  unfold mU jW
  simp only[nV,aa]
  rw[aN (n:=ed a*ed b) (by omega) (by omega),aN (by omega) (by omega),vb (by omega),aa]
theorem vd (k:Nat) (a b:Int):mX k a b=some (jW a b):=by
  have h:=Du a b
  unfold mX jW
  simp only[nW,aa]
  rw[aN (n:=ed a*ed b) (by omega) (by omega),aN (by omega) (by omega)]
  have e:((2:Int)^(min (31:Int).toNat IntKind.i64.bits))=2147483648:=by decide
  rw[e,Int.fdiv_eq_ediv_of_nonneg _ (by omega)]
def dM (x by_:Int):Int:=if x<0 then -((2*-x+by_)/(2*by_))else(2*x+by_)/(2*by_)
theorem rQ {a b:Int} (ha:0≤a) (hb:1≤b):0≤a/b∧a/b≤a:=
  ⟨Int.ediv_nonneg ha (by omega),Int.ediv_le_self _ ha⟩
theorem oC {k:Nat} {x d:Int} (hx:-2147483648≤x∧x≤2147483648) (hd:1≤d∧d≤2147483648):jc k x d=some (dM x d):=by
  unfold jc jO dM
  rw[aN (n:=2*d) (by omega) (by omega),ag]
  by_cases c:x<0
  · rw[if_pos c,if_pos c,aN (n:=0-x) (by omega) (by omega),ag,if_neg (by omega),ag,if_neg (by omega),aa,aN (n:=2*(0-x)) (by omega) (by omega),aN (n:=2*(0-x)+d) (by omega) (by omega),Int.tdiv_eq_ediv_of_nonneg (by omega)]
    have h:=rQ (a:=2*(0-x)+d) (b:=2*d) (by omega) (by omega)
    rw[show 2*-x+d=2*(0-x)+d from by omega]
    generalize (2*(0-x)+d)/(2*d)=q at h
    rw[aN (n:=q) (by omega) (by omega),aN (by omega) (by omega)]
    congr 1;omega
  · rw[if_neg c,if_neg c,ag,if_neg (by omega),aN (n:=2*x) (by omega) (by omega),aN (n:=2*x+d) (by omega) (by omega),Int.tdiv_eq_ediv_of_nonneg (by omega)]
    have h:=rQ (a:=2*x+d) (b:=2*d) (by omega) (by omega)
    rw[aN (by omega) (by omega)]
def eG (x n:Int):Int:=dM (ed x) (2^(sat 0 31 n).toNat)
theorem qg {r:Int} (h:0≤r∧r≤31):IntKind.i64.wrap ((1:Int)*2^(min r.toNat IntKind.i64.bits))=2^r.toNat∧(1:Int)≤2^r.toNat∧(2:Int)^r.toNat≤2147483648:=by
  have hb:IntKind.i64.bits=64:=rfl
  have h1:(2:Nat)^r.toNat≤2^31:=Nat.pow_le_pow_right (by omega) (by omega)
  have h2:1≤(2:Nat)^r.toNat:=Nat.one_le_two_pow
  have e:((2^r.toNat:Nat):Int)=2^r.toNat:=by simp
  rw[hb,Nat.min_eq_left (by omega),Int.one_mul]
  rw[←e]
  refine⟨aN (by omega) (by omega),by omega,by omega⟩
theorem xY {v:Int} {s:Nat}:(v+(2^s:Int)/2)/2^s=(2*v+2^s)/(2*2^s):=by
  cases s with
  |zero=>omega
  | succ s =>
    have e:(2:Int)^(s+1)=2*2^s:=by rw[Int.pow_succ,Int.mul_comm]
    rw[e]
    have e2:2*v+2*(2:Int)^s=2*(v+2^s):=by rw[Int.mul_add]
    rw[e2,Int.mul_ediv_mul_of_pos _ _ (by omega:(0:Int)<2),Int.mul_ediv_cancel_left _ (by omega:(2:Int)≠0)]
theorem qh (k:Nat) (x n:Int):ik k x n=some (eG x n):=by
  have h1:=gi x
  have h2:=uY (a:=0) (b:=31) (by omega) n
  obtain⟨e,h3,h4⟩:=qg h2
  unfold ik eG
  rw[nW,aa,tc (by omega),aa,ag,if_neg (by omega),e,oC (by omega) ⟨h3,h4⟩,aa]
theorem BL {r:Int} (h:0≤r∧r≤31):IntKind.u64.wrap r=r:=Go.IntWalk.u64_in r ⟨by omega,by omega⟩
theorem qi (k:Nat) (x n:Int):ij k x n=some (eG x n):=by
  have h1:=gi x
  have h2:=uY (a:=0) (b:=31) (by omega) n
  obtain⟨e,h3,h4⟩:=qg h2
  unfold ij eG dM
  rw[nV,aa,kP (by omega),aa,BL h2,ag,if_neg (by omega),e,ag]
  have hh:((2:Int)^(sat 0 31 n).toNat).tdiv 2=2^(sat 0 31 n).toNat/2:=Int.tdiv_eq_ediv_of_nonneg (by omega)
  rw[hh,aN (n:=2^(sat 0 31 n).toNat/2) (by omega) (by omega)]
  by_cases c:ed x<0
  · rw[if_pos c,if_pos c,ag,if_neg (by omega),aN (n:=0-ed x) (by omega) (by omega),aN (n:=0-ed x+2^(sat 0 31 n).toNat/2) (by omega) (by omega),Int.tdiv_eq_ediv_of_nonneg (by omega),xY,show 2*-ed x+2^(sat 0 31 n).toNat=2*(0-ed x)+2^(sat 0 31 n).toNat from by omega]
    have h:=rQ (a:=2*(0-ed x)+2^(sat 0 31 n).toNat) (b:=2*2^(sat 0 31 n).toNat) (by omega) (by omega)
    generalize (2*(0-ed x)+2^(sat 0 31 n).toNat)/(2*2^(sat 0 31 n).toNat)=q at h
    rw[aN (n:=q) (by omega) (by omega),aN (by omega) (by omega)]
    congr 1;omega
  · rw[if_neg c,if_neg c,ag,if_neg (by omega),aN (n:=ed x+2^(sat 0 31 n).toNat/2) (by omega) (by omega),Int.tdiv_eq_ediv_of_nonneg (by omega),xY]
    have h:=rQ (a:=2*ed x+2^(sat 0 31 n).toNat) (b:=2*2^(sat 0 31 n).toNat) (by omega) (by omega)
    rw[aN (by omega) (by omega)]
def qj (acc mult shift zero:Int):Int:=qd (eG (jW acc mult) shift+qd zero)
theorem zH {x d B:Int} (hx:-B≤x∧x≤B) (hd:1≤d):-B≤dM x d∧dM x d≤B:=by
  have key:∀y:Int,0≤y→y≤B→0≤(2*y+d)/(2*d)∧(2*y+d)/(2*d)≤B:=fun y h0 h1=>by
    refine⟨Int.ediv_nonneg (by omega) (by omega),?_⟩
    have hlt:(2*y+d)/(2*d)<B+1:=by
      apply Int.ediv_lt_of_lt_mul (by omega)
      have:=Int.mul_nonneg (show 0≤B by omega) (show 0≤d-1 by omega)
      rw[Int.mul_sub,Int.mul_one]at this
      rw[Int.add_mul,Int.one_mul,Int.mul_comm B,Int.mul_assoc,Int.mul_comm d B]
      omega
    omega
  unfold dM
  by_cases c:x<0
  · rw[if_pos c]
    have:=key (-x) (by omega) (by omega)
    omega
  · rw[if_neg c]
    have:=key x (by omega) (by omega)
    omega
theorem oD (acc mult shift zero:Int):IntKind.i64.wrap (eG (jW acc mult) shift+qd zero)=eG (jW acc mult) shift+qd zero:=by
  have h1:=qe zero
  have h2:=uY (a:=0) (b:=31) (by omega) shift
  have h3:=gi (jW acc mult)
  have h4:=zH (x:=ed (jW acc mult)) (d:=2^(sat 0 31 shift).toNat) (B:=2147483648) (by omega) (qg h2).2.1
  unfold eG
  exact aN (by omega) (by omega)
theorem oE (k:Nat) (a b c d:Int):jb k a b c d=some (qj a b c d):=by
  unfold jb qj
  simp only[vc,qi,uZ,aa,oD]
theorem ve (k:Nat) (a b c d:Int):mY k a b c d=some (qj a b c d):=by
  unfold mY qj
  simp only[vd,qh,va,aa,oD]
end Go.Proofs.Ev
set_option linter.unusedVariables false
set_option linter.unusedSimpArgs false
namespace Go.Proofs.Ev
theorem gj {α:Type} (f:Nat→List α) (m:Nat):∀n,(∀i,i<n→(f i).length≤m)→((List.range n).flatMap f).length≤n*m
  |0,_=>by simp
  | n + 1, h => by
    have:=gj f m n fun i hi=>h i (by omega)
    have:=h n (by omega)
    rw[List.range_succ,List.flatMap_append,List.length_append,Nat.add_mul,show([n]:List Nat).flatMap f=f n from by simp]
    omega
theorem dP {α:Type} (f:Nat→List α) (m:Nat):∀n,(∀i,i<n→(f i).length=m)→((List.range n).flatMap f).length=n*m
  |0,_=>by simp
  | n + 1, h => by
    have:=dP f m n fun i hi=>h i (by omega)
    have:=h n (by omega)
    rw[List.range_succ,List.flatMap_append,List.length_append,Nat.add_mul,show([n]:List Nat).flatMap f=f n from by simp]
    omega
theorem td {α:Type} (f:Nat→List α) (q:Nat):∀n,(∀i,i<n→(f i).length=q)→∀a b,a<n→b<q→((List.range n).flatMap f)[a*q+b]? =(f a)[b]?
  |0,_,a,b,h,_=>by omega
  | n + 1, h, a, b, ha, hb => by
    have hl:=dP f q n fun i hi=>h i (by omega)
    rw[List.range_succ,List.flatMap_append]
    have hs:([n]:List Nat).flatMap f=f n:=by simp
    rw[hs]
    by_cases c:a<n
    · have:(a+1)*q≤n*q:=Nat.mul_le_mul_right _ (by omega)
      rw[Nat.add_mul]at this
      rw[List.getElem?_append_left (by omega)]
      exact td f q n (fun i hi=>h i (by omega)) a b c hb
    · have:a=n:=by omega
      subst this
      rw[List.getElem?_append_right (by omega),hl,Nat.add_sub_cancel_left]
theorem c9 {α R:Type} (n m:Nat) (f:Nat→List α) (xs0:List α) {g:Int× List α→(Int× List α→Option R)→Option R} {fin:List α→Option R} {k:Nat}
    (hf:∀i,i<n→(f i).length≤m)
    (h:∀(i:Nat) ys next,i<n→ys.length≤xs0.length+i*m→g ((i:Int),ys) next=next (((i+1:Nat):Int),ys++f i))
    (hn:∀ys next,g ((n:Int),ys) next=fin ys) (hk:n<k):iter g k ((0:Int),xs0)=fin (xs0++(List.range n).flatMap f):=by
  have:=gf (g:=g) (st:=fun i=>((i:Int),xs0++(List.range i).flatMap f)) (n:=n) (r:=fin (xs0++(List.range n).flatMap f)) (fun i hi next=>by
    have hl:=gj f m i fun j hj=>hf j (by omega)
    rw[h i _ next hi (by rw[List.length_append];omega),List.range_succ,List.flatMap_append]
    simp) (fun next=>hn _ _) hk
  simpa using this
theorem ji {β R:Type} (n:Nat) (f:β→Nat→β) (a0:β) {g:β× Int→(β× Int→Option R)→Option R} {fin:β→Option R} {k:Nat}
    (h:∀(i:Nat) a next,i<n→g (a,(i:Int)) next=next (f a i,((i+1:Nat):Int))) (hn:∀a next,g (a,(n:Int)) next=fin a) (hk:n<k):
    iter g k (a0,(0:Int))=fin ((List.range n).foldl f a0):=
  gf (g:=g) (st:=fun i=>((List.range i).foldl f a0,(i:Int))) (n:=n) (r:=fin ((List.range n).foldl f a0)) (fun i hi next=>by
    rw[h i _ next hi,List.range_succ,List.foldl_append];rfl) (fun next=>hn _ _) hk
theorem fold_congr {β:Type} {f g:β→Nat→β}:∀(n:Nat) (a:β),(∀a i,i<n→f a i=g a i)→(List.range n).foldl f a=(List.range n).foldl g a
  |0,_,_=>rfl
  | n + 1, a, h => by
    rw[List.range_succ,List.foldl_append,List.foldl_append,fold_congr n a fun a i hi=>h a i (by omega)]
    exact h _ n (by omega)
theorem te {β:Type} (f:β→Nat→β) (q:Nat):∀(m:Nat) (a:β),(List.range (m*q)).foldl f a=(List.range m).foldl (fun a i=>(List.range q).foldl (fun a j=>f a (i*q+j)) a) a
  |0,a=>by simp
  | m + 1, a => by
    rw[Nat.add_mul,Nat.one_mul,List.range_add,List.foldl_append,te f q m a,List.range_succ,List.foldl_append,List.foldl_map]
    rfl
theorem vf {a b:Nat} (h:a*b≤9223372036854775807):IntKind.i64.wrap ((a:Int)*(b:Int))=((a*b:Nat):Int):=by
  rw[Int.natCast_mul]
  have e:((a:Int)*(b:Int))=((a*b:Nat):Int):=(Int.natCast_mul a b).symm
  exact aN (by omega) (by omega)
theorem vr {a b:Nat} (h:a+b≤9223372036854775807):IntKind.i64.wrap ((a:Int)+(b:Int))=((a+b:Nat):Int):=by
  rw[aN (by omega) (by omega)];omega
theorem BM {α:Type} {p:Prop} {i:Decidable p} (h:p) (x y:α):cond (@decide p i) x y=x:=by rw[decide_eq_true h];rfl
theorem FJ {α:Type} {p:Prop} {i:Decidable p} (h:¬p) (x y:α):cond (@decide p i) x y=y:=by rw[decide_eq_false h];rfl
theorem nc {H W C h w c:Nat} (h1:h<H) (h2:w<W) (h3:c<C):(h*W+w)*C+c<H*W*C:=by
  have a1:(h+1)*W≤H*W:=Nat.mul_le_mul_right _ h1
  rw[Nat.add_mul]at a1
  have a2:(h*W+w+1)*C≤H*W*C:=Nat.mul_le_mul_right _ (by omega)
  rw[Nat.add_mul]at a2
  omega
structure gl (H W C:Nat) (xs:List Int):Prop where
  h1:1≤H
  h8:H≤8
  w1:1≤W
  w8:W≤8
  c1:1≤C
  c8:C≤8
  len:xs.length=H*W*C
  mem:∀x∈xs,-128≤x∧x≤127
def nX (H W C:Nat) (xs:List Int):aA:=⟨⟨H,W,C⟩,xs⟩
theorem gl.EB {H W C:Nat} {xs:List Int} (r:gl H W C xs):H*W*C≤512:=by
  have a:=Nat.mul_le_mul r.h8 r.w8
  have b:=Nat.mul_le_mul a r.c8
  omega
theorem gl.sh {H W C:Nat} {xs:List Int} (r:gl H W C xs):(⟨H,W,C⟩:Shape).okB=true:=by
  obtain⟨a,b,c,d,e,f,_,_⟩:=r
  simp only[Shape.okB,inB,Bool.and_eq_true,decide_eq_true_eq];omega
theorem gl.size {H W C:Nat} {xs:List Int} (r:gl H W C xs):(⟨H,W,C⟩:Shape).size=((H*W*C:Nat):Int):=by
  unfold Shape.size
  rw[r.sh,cond_true,Int.natCast_mul,Int.natCast_mul]
theorem gl.ok {H W C:Nat} {xs:List Int} (r:gl H W C xs):(nX H W C xs).okB=true:=by
  unfold aA.okB nX
  simp only[r.sh,r.size,r.len,decide_true,Bool.true_and]
  unfold kM
  rw[List.all_eq_true]
  intro x hx
  have:=r.mem x hx
  rw[bG];omega
theorem tf {t:aA} (h:t.okB=true):∃H W C:Nat,gl H W C t.data∧t=nX H W C t.data:=by
  unfold aA.okB at h
  simp only[Bool.and_eq_true,decide_eq_true_eq]at h
  obtain⟨h1,h2,h3⟩:=h
  have hs:=Shape.mZ h1
  unfold kM at h3
  rw[List.all_eq_true]at h3
  unfold Shape.size at h2
  rw[h1,cond_true]at h2
  obtain⟨⟨a,b,c⟩,xs⟩:=t
  simp only at hs h2 h3
  refine⟨a.toNat,b.toNat,c.toNat,⟨by omega,by omega,by omega,by omega,by omega,by omega,?_,fun x hx=>bG.1 (h3 x hx)⟩,?_⟩
  · have ea:((a.toNat:Nat):Int)=a:=by omega
    have eb:((b.toNat:Nat):Int)=b:=by omega
    have ec:((c.toNat:Nat):Int)=c:=by omega
    have e:((a.toNat*b.toNat*c.toNat:Nat):Int)=a*b*c:=by rw[Int.natCast_mul,Int.natCast_mul,ea,eb,ec]
    show xs.length=_
    omega
  · unfold nX
    congr 2<;>omega
def atN (W C:Nat) (xs:List Int) (h w c:Nat):Int:=xs.getD ((h*W+w)*C+c) 0
theorem wV {H W C:Nat} {xs:List Int} (r:gl H W C xs) {h w c:Nat} (h1:h<H) (h2:w<W) (h3:c<C):xs[(h*W+w)*C+c]? =some (atN W C xs h w c):=by
  have:=nc h1 h2 h3
  have hl:=r.len
  unfold atN
  rw[cX (by omega),aT (by omega)]
theorem o8 {xs:List Int} {i:Nat} (h:i<xs.length):xs.getD i 0∈xs:=by rw[cX h];exact List.getElem_mem h
theorem xZ {H W C:Nat} {xs:List Int} (r:gl H W C xs) {h w c:Nat} (h1:h<H) (h2:w<W) (h3:c<C):-128≤atN W C xs h w c∧atN W C xs h w c≤127:=by
  have:=nc h1 h2 h3
  have hl:=r.len
  exact r.mem _ (o8 (by omega))
theorem rR {H W C:Nat} {xs:List Int} (r:gl H W C xs) {h w c:Nat} (h1:h<H) (h2:w<W) (h3:c<C):
    IntKind.i64.wrap (IntKind.i64.wrap (IntKind.i64.wrap (IntKind.i64.wrap ((h:Int)*(W:Int))+(w:Int))*(C:Int))+(c:Int))=(((h*W+w)*C+c:Nat):Int):=by
  have a:=nc h1 h2 h3
  have b:=r.EB
  have d:h*W≤H*W:=Nat.mul_le_mul_right _ (by omega)
  have e:=Nat.mul_le_mul r.h8 r.w8
  rw[vf (by omega),vr (by have:=r.w8;omega),vf (by omega),vr (by omega)]
theorem l7 {k:Nat} {H W C:Nat} {xs:List Int} (r:gl H W C xs) (hk:512<k) {h w c:Nat} (h1:h<H) (h2:w<W) (h3:c<C):jN k (nX H W C xs) h w c=some (atN W C xs h w c,true):=by
  have hl:=r.len
  have hc:=r.EB
  have hi:∀{a n:Nat},a<n→n≤8→inB (a:Int) 0 (IntKind.i64.wrap ((n:Int)-1))=true:=fun{a n} h h8=>by
    rw[aN (by omega) (by omega),bG];omega
  unfold jN p9
  simp only[fT,dH,aa]
  rw[jR (t:=nX H W C xs) (by show xs.length<k;omega) (by unfold nR;show xs.length≤_;omega),r.ok]
  simp only[nX,r.sh,hi h1 r.h8,hi h2 r.w8,hi h3 r.c8,Bool.not_true,cond_false,aa,rR r h1 h2 h3]
  rw[ag,if_neg (by omega),bJ,wV r h1 h2 h3,aa]
theorem l9 {k:Nat} {H W C:Nat} {xs:List Int} (r:gl H W C xs) {h w c:Nat} (h1:h<H) (h2:w<W) (h3:c<C):eS k ⟨H,W,C⟩ h w c=some ((((h*W+w)*C+c:Nat)):Int):=by
  unfold eS
  rw[rR r h1 h2 h3]
structure BN (H W Z S h w:Nat):Prop where
  z1:1≤Z
  z3:Z≤3
  s2:S≤2
  hh:h*S+Z≤H
  ww:w*S+Z≤W
def ff (W C:Nat) (xs:List Int) (Z S h w c:Nat):List Int:=
  (List.range Z).flatMap fun i=>(List.range Z).flatMap fun j=>[atN W C xs (h*S+i) (w*S+j) c]
def Em (W C:Nat) (xs:List Int) (Z S h w:Nat):List Int:=
  (List.range Z).flatMap fun i=>(List.range Z).flatMap fun j=>(List.range C).map fun c=>atN W C xs (h*S+i) (w*S+j) c
theorem vg (W C:Nat) (xs:List Int) (Z S h w c:Nat):(ff W C xs Z S h w c).length=Z*(Z*1):=
  dP _ _ _ fun i hi=>dP _ _ _ fun j hj=>rfl
theorem tj (W C:Nat) (xs:List Int) (Z S h w:Nat):(Em W C xs Z S h w).length=Z*(Z*C):=
  dP _ _ _ fun i hi=>dP _ _ _ fun j hj=>by simp
theorem vh {k:Nat} {H W C:Nat} {xs:List Int} (r:gl H W C xs) (hk:512<k) {l:ai} {Z S h w c:Nat} (hz:l.size=Z) (hs:l.step=S) (v:BN H W Z S h w) (hc:c<C):
    gP k (nX H W C xs) l h w c=some (ff W C xs Z S h w c):=by
  have hM:=bo
  have hv:=v
  obtain⟨z1,z3,s2,hh,ww⟩:=hv
  have:=r.h8
  have:=r.w8
  unfold gP
  refine(c9 Z 3 (fun i=>(List.range Z).flatMap fun j=>[atN W C xs (h*S+i) (w*S+j) c]) [] (fin:=some) (fun i hi=>by
      have:=gj (fun j=>[atN W C xs (h*S+i) (w*S+j) c]) 1 Z (fun _ _=>Nat.le_refl _);omega) (fun i ys next hi hy=>?_) (fun ys next=>?_) (by omega)).trans (by rw[List.nil_append];rfl)
  · simp only[er,hz,hs]
    rw[ag,if_pos (by omega),aY hi (by omega)]
    refine c9 Z 1 (fun j=>[atN W C xs (h*S+i) (w*S+j) c]) ys (fin:=fun y=>next (((i+1:Nat):Int),y)) (fun _ _=>Nat.le_refl _) (fun j zs next2 hj hz2=>?_) (fun zs next2=>?_) (by omega)
    · simp only[ep,hz,hs]
      have e1:h*S+i<H:=by omega
      have e2:w*S+j<W:=by omega
      have e:=l7 (k:=k) r hk e1 e2 hc
      unfold nX at e
      simp only[List.length_nil]at hy
      rw[ag,if_pos (by omega)]
      simp only[nX]
      rw[vf (by omega),vr (by omega),vf (by omega),vr (by omega),e,aa,jf (by simp;omega),aY hj (by omega)]
    · simp only[ep]
      rw[ag,if_neg (by omega)]
  · simp only[er]
    rw[ag,if_neg (by omega)]
theorem vi {α:Type} {ws:List α} {a q i:Nat} (hi:i<q):((ws.take (a+q)).drop a)[i]? =ws[a+i]? :=by
  rw[List.getElem?_drop,List.getElem?_take,if_pos (by omega)]
theorem BO {ws:List Int} {a q:Nat} (h:a+q≤ws.length):(ws.take (a+q)).drop a=(List.range q).map fun c=>ws.getD (a+c) 0:=by
  apply List.ext_getElem?
  intro i
  by_cases c:i<q
  · rw[vi c,List.getElem?_map,List.getElem?_range c,Option.map_some,aT (by omega),cX (by omega)]
  · rw[List.getElem?_eq_none (by simp;omega),List.getElem?_eq_none (by simp;omega)]
theorem qk {k:Nat} {H W C:Nat} {xs:List Int} (r:gl H W C xs) (hk:512<k) {l:ai} {Z S h w c:Nat} (hz:l.size=Z) (hs:l.step=S) (v:BN H W Z S h w) (hc:c<C):
    bu k l (nX H W C xs) h w c=some (ff W C xs Z S h w c):=by
  have hM:=bo
  have hv:=v
  obtain⟨z1,z3,s2,hh,ww⟩:=hv
  have:=r.h8
  have:=r.w8
  have:=r.c8
  have hcu:=r.EB
  have hlen:=r.len
  unfold bu
  refine(c9 Z 3 (fun i=>(List.range Z).flatMap fun j=>[atN W C xs (h*S+i) (w*S+j) c]) [] (fin:=some) (fun i hi=>by
      have:=gj (fun j=>[atN W C xs (h*S+i) (w*S+j) c]) 1 Z (fun _ _=>Nat.le_refl _);omega) (fun i ys next hi hy=>?_) (fun ys next=>?_) (by omega)).trans (by rw[List.nil_append];rfl)
  · simp only[bF,hz,hs]
    rw[ag,if_pos (by omega),aY hi (by omega)]
    refine c9 Z 1 (fun j=>[atN W C xs (h*S+i) (w*S+j) c]) ys (fin:=fun y=>next (((i+1:Nat):Int),y)) (fun _ _=>Nat.le_refl _) (fun j zs next2 hj hz2=>?_) (fun zs next2=>?_) (by omega)
    · simp only[bE,hz,hs]
      have e1:h*S+i<H:=by omega
      have e2:w*S+j<W:=by omega
      have e:=l9 (k:=k) (c:=0) r e1 e2 (by omega)
      have hp:=nc e1 e2 hc
      simp only[List.length_nil]at hy
      rw[ag,if_pos (by omega)]
      simp only[nX]
      rw[vf (by omega),vr (by omega),vf (by omega),vr (by omega)]
      refine(congrArg (fun o:Option Int=>o.bind _) e).trans ?_
      rw[aa,ag,if_neg (by omega),Nat.add_zero,vr (by omega),bJ,wV r e1 e2 hc,aa,jf (by simp;omega),aY hj (by omega)]
    · simp only[bE]
      rw[ag,if_neg (by omega)]
  · simp only[bF]
    rw[ag,if_neg (by omega)]
theorem vj {k:Nat} {H W C:Nat} {xs:List Int} (r:gl H W C xs) (hk:512<k) {l:ai} {Z S h w:Nat} (hz:l.size=Z) (hs:l.step=S) (v:BN H W Z S h w):
    bu k l (nX H W C xs) h w (-1)=some (Em W C xs Z S h w):=by
  have hM:=bo
  have hv:=v
  obtain⟨z1,z3,s2,hh,ww⟩:=hv
  have:=r.h8
  have:=r.w8
  have:=r.c8
  have hc1:=r.c1
  have hcu:=r.EB
  have hlen:=r.len
  unfold bu
  refine(c9 Z 24 (fun i=>(List.range Z).flatMap fun j=>(List.range C).map fun c=>atN W C xs (h*S+i) (w*S+j) c) [] (fin:=some) (fun i hi=>by
      have:=gj (fun j=>(List.range C).map fun c=>atN W C xs (h*S+i) (w*S+j) c) 8 Z (fun _ _=>by simp;omega);omega) (fun i ys next hi hy=>?_) (fun ys next=>?_) (by omega)).trans (by rw[List.nil_append];rfl)
  · simp only[bF,hz,hs]
    rw[ag,if_pos (by omega),aY hi (by omega)]
    refine c9 Z 8 (fun j=>(List.range C).map fun c=>atN W C xs (h*S+i) (w*S+j) c) ys (fin:=fun y=>next (((i+1:Nat):Int),y)) (fun _ _=>by simp;omega) (fun j zs next2 hj hz2=>?_) (fun zs next2=>?_) (by omega)
    · simp only[bE,hz,hs]
      have e1:h*S+i<H:=by omega
      have e2:w*S+j<W:=by omega
      have e:=l9 (k:=k) (c:=0) r e1 e2 (by omega)
      have hp:=nc (C:=C) (c:=C-1) e1 e2 (by omega)
      simp only[List.length_nil]at hy
      rw[ag,if_pos (by omega)]
      simp only[nX]
      rw[vf (by omega),vr (by omega),vf (by omega),vr (by omega)]
      refine(congrArg (fun o:Option Int=>o.bind _) e).trans ?_
      have e3:=BO (ws:=xs) (a:=((h*S+i)*W+(w*S+j))*C) (q:=C) (by omega)
      have ew:IntKind.i64.wrap (((((h*S+i)*W+(w*S+j))*C:Nat):Int)+(C:Int))=((((h*S+i)*W+(w*S+j))*C+C:Nat):Int):=vr (by omega)
      rw[aa,BM (by omega),Nat.add_zero]
      refine(BM (by rw[ew];omega) _ _).trans ?_
      refine(BM (by rw[ew];omega) _ _).trans ?_
      rw[ew,Int.toNat_natCast,Int.toNat_natCast,e3,jf (by simp;omega),aY hj (by omega)]
      rfl
    · simp only[bE]
      rw[ag,if_neg (by omega)]
  · simp only[bF]
    rw[ag,if_neg (by omega)]
end Go.Proofs.Ev
set_option linter.unusedVariables false
set_option linter.unusedSimpArgs false
namespace Go.Proofs.Ev
def En (xs ws:List Int):Int:=(List.range xs.length).foldl (fun s i=>j5 s (qd (xs.getD i 0)*qd (ws.getD i 0))) 0
theorem Fe (a b:Int):IntKind.i64.wrap (qd a*qd b)=qd a*qd b:=by
  have h1:=qe a
  have h2:=qe b
  have:=Ek (A:=128) (B:=128) (x:=qd a) (y:=qd b) (by omega) (by omega)
  exact aN (by omega) (by omega)
theorem zI {k:Nat} {xs ws:List Int} (hk:xs.length<k) (hl:ws.length=xs.length) (hN:xs.length≤cK):s8 k xs ws=some (En xs ws):=by
  have hM:=bo
  unfold s8 En
  exact ji xs.length (fun s i=>j5 s (qd (xs.getD i 0)*qd (ws.getD i 0))) 0 (fin:=some) (fun i a next hi=>by
    simp only[gB,uZ,jV]
    rw[ag,if_pos (by omega),ag,if_pos (by omega),bJ,aT hi,aa,aa,bJ,aT (by omega),aa,aa,aa,Fe,aY hi (by omega),cX hi,cX (by omega)]) (fun a next=>by
    simp only[gB]
    rw[ag,if_neg (by omega)]) hk
theorem zJ {k:Nat} {xs ws:List Int} (hk:xs.length<k) (hl:ws.length=xs.length) (hN:xs.length≤cK):s9 k xs ws=some (En xs ws):=by
  have hM:=bo
  unfold s9 En
  rw[if_neg (by omega)]
  exact ji xs.length (fun s i=>j5 s (qd (xs.getD i 0)*qd (ws.getD i 0))) 0 (fin:=some) (fun i a next hi=>by
    simp only[gC,va,qf]
    rw[ag,if_pos (by omega),bJ,aT hi,aa,aa,bJ,aT (by omega),aa,aa,aa,Fe,aY hi (by omega),cX hi,cX (by omega)]) (fun a next=>by
    simp only[gC]
    rw[ag,if_neg (by omega)]) hk
def ma (l:ai) (xs:List Int) (o:Nat):Int:=
  qj (j5 (En xs ((l.weights.take (o*xs.length+xs.length)).drop (o*xs.length))) (l.fK.getD o 0)) l.mult l.shift l.zero
theorem ql {k:Nat} {l:ai} {xs:List Int} {o:Nat} (hk:xs.length<k) (hN:xs.length≤cK) (hw:o*xs.length+xs.length≤l.weights.length) (hwN:l.weights.length≤cK) (hb:o<l.fK.length) (ho:o<8):
    db k l xs o=some (ma l xs o):=by
  have hM:=bo
  have e:(o+1)*xs.length=o*xs.length+xs.length:=by rw[Nat.add_mul,Nat.one_mul]
  have e1:IntKind.i64.wrap (IntKind.i64.wrap ((o:Int)+1)*(xs.length:Int))=((o*xs.length+xs.length:Nat):Int):=by
    rw[aY ho (by omega),vf (by omega),e]
  have e2:IntKind.i64.wrap ((o:Int)*(xs.length:Int))=((o*xs.length:Nat):Int):=vf (by omega)
  unfold db ma
  rw[e1,e2,ag,if_pos (by omega),ag,if_pos (by omega),Int.toNat_natCast,Int.toNat_natCast,zJ hk (by simp;omega) hN,aa,bJ,aT hb,aa,qf,aa,ve,aa,cX hb]
def gm:List Int→Int
  |[]=>0
  |x::xs=>xs.foldl (fun m y=>if y>m then y else m) x
theorem yA {R:Type} {xs:List Int} {x:Int} {g:Int× Int→(Int× Int→Option R)→Option R} {fin:Int→Option R} {k:Nat}
    (h:∀(i:Nat) a next (hi:i<xs.length),g (a,((i+1:Nat):Int)) next=next (if xs[i]>a then xs[i]else a,((i+1+1:Nat):Int))) (hn:∀a next,g (a,((xs.length+1:Nat):Int)) next=fin a) (hk:xs.length<k):
    iter g k (x,(1:Int))=fin (gm (x::xs)):=by
  have:=gf (g:=g) (st:=fun i=>((xs.take i).foldl (fun m y=>if y>m then y else m) x,((i+1:Nat):Int))) (n:=xs.length) (r:=fin (gm (x::xs))) (fun i hi next=>by
    rw[h i _ next hi,kJ hi,List.foldl_append];rfl) (fun next=>by rw[hn,List.take_length];rfl) hk
  exact this
theorem kQ:∀(xs:List Int) (x:Int),gm (x::xs)∈x::xs
  |[],x=>by simp[gm]
  | y :: xs, x => by
    show xs.foldl _ (if y>x then y else x)∈_
    by_cases c:y>x
    · rw[if_pos c];exact List.mem_cons_of_mem _ (kQ xs y)
    · rw[if_neg c]
      rcases List.mem_cons.1 (kQ xs x)with h|h
      · have h:xs.foldl (fun m y=>if y>m then y else m) x=x:=h
        rw[h];simp
      · exact List.mem_cons_of_mem _ (List.mem_cons_of_mem _ h)
theorem qm:∀{xs:List Int},(∀x∈xs,-128≤x∧x≤127)→-128*(xs.length:Int)≤xs.sum∧xs.sum≤127*(xs.length:Int)
  |[],_=>by simp
  | x :: xs, h => by
    have h1:=qm fun y hy=>h y (List.mem_cons_of_mem _ hy)
    have h2:=h x (by simp)
    rw[List.sum_cons,List.length_cons];omega
theorem vk {R:Type} {xs:List Int} {g:Int× Int→(Int× Int→Option R)→Option R} {fin:Int→Option R} {k:Nat} (hx:∀x∈xs,-128≤x∧x≤127) (hN:xs.length≤cK)
    (h:∀(i:Nat) a next (hi:i<xs.length),g (a,(i:Int)) next=next (IntKind.i64.wrap (a+xs[i]),((i+1:Nat):Int))) (hn:∀a next,g (a,(xs.length:Int)) next=fin a) (hk:xs.length<k):
    iter g k ((0:Int),(0:Int))=fin xs.sum:=by
  have hM:=bo
  have:=gf (g:=g) (st:=fun i=>((xs.take i).sum,(i:Int))) (n:=xs.length) (r:=fin xs.sum) (fun i hi next=>by
    have hb:=qm (xs:=xs.take (i+1)) fun x hm=>hx x (List.mem_of_mem_take hm)
    have e:(xs.take (i+1)).sum=(xs.take i).sum+xs[i]:=by rw[kJ hi,List.sum_append];simp
    rw[e]at hb
    simp only[List.length_take]at hb
    rw[h i _ next hi,e,aN (by omega) (by omega)]) (fun next=>by rw[hn,List.take_length]) hk
  exact this
def gT (W C:Nat) (xs:List Int) (l:ai) (Z S h w o:Nat):Int:=
  cond (l.kind==0) (ma l xs o) (cond (l.kind==1) (ma l (Em W C xs Z S h w) o)
    (cond (l.kind==2) (gm (ff W C xs Z S h w o)) (cond (l.kind==3) (dM (ff W C xs Z S h w o).sum ((Z*Z:Nat):Int))
      (cond (l.kind==4) (if atN W C xs h w o<l.zero then l.zero else atN W C xs h w o) (xs.getD o 0)))))
inductive Fits (H W C:Nat) (xs:List Int) (l:ai) (Z S h w o:Nat):Prop
  |C5 (h0:l.kind=0) (hb:o<l.fK.length) (h8:o<8) (hw:o*xs.length+xs.length≤l.weights.length)
  |conv (h0:l.kind=1) (hb:o<l.fK.length) (h8:o<8) (hw:o*(Z*(Z*C))+Z*(Z*C)≤l.weights.length) (v:BN H W Z S h w) (hi:∀x∈l.weights,-128≤x∧x≤127)
  |max (h0:l.kind=2) (v:BN H W Z S h w) (ho:o<C)
  |avg (h0:l.kind=3) (v:BN H W Z S h w) (ho:o<C)
  |Fs (h0:l.kind=4) (h1:h<H) (h2:w<W) (h3:o<C) (hz:-128≤l.zero∧l.zero≤127)
  |flat (h0:l.kind=5) (ho:o<xs.length)
theorem o9 {H W C:Nat} {xs:List Int} (r:gl H W C xs) {Z S h w o:Nat} (v:BN H W Z S h w) (ho:o<C):∀x∈ff W C xs Z S h w o,-128≤x∧x≤127:=by
  intro x hx
  obtain⟨z1,z3,s2,hh,ww⟩:=v
  unfold ff at hx
  rw[List.mem_flatMap]at hx
  obtain⟨i,hi,hx⟩:=hx
  rw[List.mem_flatMap]at hx
  obtain⟨j,hj,hx⟩:=hx
  rw[List.mem_range]at hi hj
  rw[List.mem_singleton]at hx
  rw[hx]
  exact xZ r (by omega) (by omega) ho
theorem qn {H W C:Nat} {xs:List Int} {Z S h w o:Nat} (v:BN H W Z S h w):∃x ys,ff W C xs Z S h w o=x::ys:=by
  have hl:=vg W C xs Z S h w o
  have:=v.z1
  have hp:1≤Z*(Z*1):=by rw[Nat.mul_one];exact Nat.mul_le_mul this this
  cases hc:ff W C xs Z S h w o with
  |nil=>rw[hc]at hl;simp only[List.length_nil]at hl;omega
  |cons x ys=>exact⟨x,ys,rfl⟩
theorem jj {H W C:Nat} {xs:List Int} {Z S h w o:Nat} (v:BN H W Z S h w):(ff W C xs Z S h w o).length=Z*Z∧1≤Z*Z∧Z*Z≤9:=by
  have hl:=vg W C xs Z S h w o
  rw[Nat.mul_one]at hl
  exact⟨hl,Nat.mul_le_mul v.z1 v.z1,Nat.mul_le_mul v.z3 v.z3⟩
theorem BP {k:Nat} {H W C:Nat} {xs:List Int} (r:gl H W C xs) {l:ai} {Z S h w o:Nat} (hk:512<k) (hwN:l.weights.length≤cK) (hz:l.size=Z) (hs:l.step=S) (f:Fits H W C xs l Z S h w o):
    il k l (nX H W C xs) h w o=some (gT W C xs l Z S h w o):=by
  have hM:=bo
  have hcu:=r.EB
  have hlen:=r.len
  unfold il gT
  cases f with
  | C5 h0 hb h8 hw =>
    rw[h0]
    show(db k l xs o).bind _=_
    rw[ql (by omega) (by omega) hw hwN hb h8];rfl
  | conv h0 hb h8 hw v hi =>
    have hl:=tj W C xs Z S h w
    have:Z*(Z*C)≤3*(3*8):=Nat.mul_le_mul v.z3 (Nat.mul_le_mul v.z3 r.c8)
    rw[h0]
    show(bu k l (nX H W C xs) h w (-1)).bind _=_
    rw[vj r hk hz hs v,aa,ql (by omega) (by omega) (by rw[hl];exact hw) hwN hb h8];rfl
  | max h0 v ho =>
    rw[h0]
    show(bu k l (nX H W C xs) h w o).bind _=_
    rw[qk r hk hz hs v ho,aa]
    have hl:=jj (xs:=xs) (C:=C) (o:=o) v
    obtain⟨x,ys,e⟩:=qn (xs:=xs) (C:=C) (o:=o) v
    rw[e]at hl
    simp only[List.length_cons]at hl
    show(cV k (ff W C xs Z S h w o)).bind _=some (gm (ff W C xs Z S h w o))
    rw[e]
    unfold cV
    rw[ag,if_neg (by simp only[List.length_cons];omega),xU,List.getElem?_cons_zero,aa,yA (xs:=ys) (x:=x) (fin:=some) (fun i a next hi=>by
      simp only[br]
      rw[ag,if_pos (by simp only[List.length_cons];omega),bJ,List.getElem?_cons_succ,aT hi,aa,aY (show i+1<ys.length+1 by omega) (by omega)]) (fun a next=>by
      simp only[br]
      rw[ag,if_neg (by simp only[List.length_cons];omega)]) (by omega)]
    rfl
  | avg h0 v ho =>
    rw[h0]
    show(bu k l (nX H W C xs) h w o).bind _=_
    rw[qk r hk hz hs v ho,aa]
    have hl:=jj (xs:=xs) (C:=C) (o:=o) v
    have hm:=o9 r v ho
    have hb:=qm hm
    show _=some (dM (ff W C xs Z S h w o).sum ((Z*Z:Nat):Int))
    rw[vk (xs:=ff W C xs Z S h w o) (fin:=fun y=>(jc k y (IntKind.i64.wrap (l.size*l.size))).bind fun r9=>some r9) hm (by omega) (fun i a next hi=>by
      simp only[cS]
      rw[ag,if_pos (by omega),ag,if_pos (by omega),Int.toNat_natCast,aT hi,aa,aY hi (by omega)]) (fun a next=>by
      simp only[cS]
      rw[ag,if_neg (by omega)]) (by omega)]
    rw[hz,vf (by omega),oC (by omega) (by omega),aa]
  | Fs h0 h1 h2 h3 hz =>
    simp only[h0,show((4:Int)==0)=false from rfl,show((4:Int)==1)=false from rfl,show((4:Int)==2)=false from rfl,show((4:Int)==3)=false from rfl,beq_self_eq_true,cond_true,cond_false]
    refine(congrArg (fun o:Option Int=>o.bind _) (l9 (k:=k) r h1 h2 h3)).trans ?_
    rw[aa]
    show(idx xs _).bind _=_
    rw[bJ,wV r h1 h2 h3]
    rfl
  | flat h0 ho =>
    rw[h0]
    show(idx xs (o:Int)).bind _=_
    rw[bJ,aT ho]
    show _=some (xs.getD o 0)
    rw[cX ho];rfl
theorem Eo {W C:Nat} {xs:List Int} {Z S h w i j c:Nat} (hi:i<Z) (hj:j<Z) (hc:c<C):(Em W C xs Z S h w)[i*(Z*C)+(j*C+c)]? =some (atN W C xs (h*S+i) (w*S+j) c):=by
  have hb:j*C+c<Z*C:=by
    have:(j+1)*C≤Z*C:=Nat.mul_le_mul_right _ hj
    rw[Nat.add_mul]at this;omega
  unfold Em
  rw[td _ (Z*C) Z (fun i hi=>dP _ C Z fun j hj=>by simp) i (j*C+c) hi hb,td _ C Z (fun j hj=>by simp) j c hj hc,List.getElem?_map,List.getElem?_range hc]
  rfl
theorem rS {o Z i j C c:Nat}:((o*Z+i)*Z+j)*C+c=o*(Z*(Z*C))+(i*(Z*C)+(j*C+c)):=by
  simp only[Nat.add_mul,Nat.mul_assoc,Nat.add_assoc]
theorem C6 {H W C:Nat} {xs:List Int} (r:gl H W C xs) {ws:List Int} (hi:∀x∈ws,-128≤x∧x≤127) {Z S h w o:Nat} (v:BN H W Z S h w) (hw:o*(Z*(Z*C))+Z*(Z*C)≤ws.length):
    En (Em W C xs Z S h w) ((ws.take (o*(Z*(Z*C))+Z*(Z*C))).drop (o*(Z*(Z*C))))=
      (List.range Z).foldl (fun s i=>(List.range Z).foldl (fun s j=>(List.range C).foldl (fun s c=>j5 s (atN W C xs (h*S+i) (w*S+j) c*ws.getD (((o*Z+i)*Z+j)*C+c) 0)) s) s) 0:=by
  obtain⟨z1,z3,s2,hh,ww⟩:=v
  unfold En
  rw[tj,te]
  refine fold_congr Z _ fun s i hi2=>?_
  rw[te]
  refine fold_congr Z _ fun s j hj=>?_
  refine fold_congr C _ fun s c hc=>?_
  have hb:j*C+c<Z*C:=by
    have:(j+1)*C≤Z*C:=Nat.mul_le_mul_right _ hj
    rw[Nat.add_mul]at this;omega
  have hb2:i*(Z*C)+(j*C+c)<Z*(Z*C):=by
    have:(i+1)*(Z*C)≤Z*(Z*C):=Nat.mul_le_mul_right _ hi2
    rw[Nat.add_mul]at this;omega
  have a1:=xZ r (show h*S+i<H by omega) (show w*S+j<W by omega) hc
  have a2:=hi _ (o8 (xs:=ws) (i:=o*(Z*(Z*C))+(i*(Z*C)+(j*C+c))) (by omega))
  rw[List.getD_eq_getElem?_getD,Eo hi2 hj hc,Option.getD_some,List.getD_eq_getElem?_getD,vi hb2,←List.getD_eq_getElem?_getD,rS]
  unfold qd
  rw[Dt (by omega) (by omega),Dt (by omega) (by omega)]
theorem BQ {k:Nat} {H W C:Nat} {xs:List Int} (r:gl H W C xs) {l:ai} {Z S h w o:Nat} (hk:512<k) (hwN:l.weights.length≤cK) (hz:l.size=Z) (hs:l.step=S) (f:Fits H W C xs l Z S h w o):
    mV k (nX H W C xs) l h w o=some (gT W C xs l Z S h w o):=by
  have hM:=bo
  have hcu:=r.EB
  have hlen:=r.len
  unfold mV gT
  cases f with
  | C5 h0 hb h8 hw =>
    rw[h0]
    simp only[beq_self_eq_true,cond_true]
    rw[fy,aa,show(nX H W C xs).sh.size=((xs.length:Nat):Int)from by rw[hlen];exact r.size,vf (by omega),vr (by omega),ag,if_pos (by omega),ag,if_pos (by omega),Int.toNat_natCast,Int.toNat_natCast,
      show(nX H W C xs).data=xs from rfl,zI (by omega) (by simp;omega) (by omega),aa,bJ,aT hb,aa,jV,aa,oE,aa]
    unfold ma
    rw[cX hb]
  | conv h0 hb h8 hw v hi =>
    have hl:=tj W C xs Z S h w
    have hvv:=v
    obtain⟨z1,z3,s2,hh,ww⟩:=hvv
    have:=r.h8
    have:=r.w8
    have hc8:=r.c8
    have hq:Z*(Z*C)≤3*(3*8):=Nat.mul_le_mul v.z3 (Nat.mul_le_mul v.z3 r.c8)
    rw[h0]
    show iter _ k _=some (ma l (Em W C xs Z S h w) o)
    refine(ji Z (fun s i=>(List.range Z).foldl (fun s j=>(List.range C).foldl (fun s c=>j5 s (atN W C xs (h*S+i) (w*S+j) c*l.weights.getD (((o*Z+i)*Z+j)*C+c) 0)) s) s) 0
      (fin:=fun y=>(idx l.fK (o:Int)).bind fun e14=>(ig k y e14).bind fun r15=>(jb k r15 l.mult l.shift l.zero).bind fun r16=>some r16) (fun i a next hi2=>?_) (fun a next=>?_) (by omega)).trans ?_
    · simp only[ey,hz,hs]
      rw[ag,if_pos (by omega),aY hi2 (by omega)]
      refine ji Z (fun s j=>(List.range C).foldl (fun s c=>j5 s (atN W C xs (h*S+i) (w*S+j) c*l.weights.getD (((o*Z+i)*Z+j)*C+c) 0)) s) a (fin:=fun y=>next (y,((i+1:Nat):Int))) (fun j a2 next2 hj=>?_) (fun a2 next2=>?_) (by omega)
      · simp only[eu,hz,hs]
        rw[ag,if_pos (by omega),aY hj (by omega)]
        refine ji C (fun s c=>j5 s (atN W C xs (h*S+i) (w*S+j) c*l.weights.getD (((o*Z+i)*Z+j)*C+c) 0)) a2 (fin:=fun y=>next2 (y,((j+1:Nat):Int))) (fun c a3 next3 hc=>?_) (fun a3 next3=>?_) (by omega)
        · have e1:h*S+i<H:=by omega
          have e2:w*S+j<W:=by omega
          have e:=l7 (k:=k) r hk e1 e2 hc
          have o1:o*Z≤7*3:=Nat.mul_le_mul (by omega) z3
          have o2:(o*Z+i)*Z≤23*3:=Nat.mul_le_mul (by omega) z3
          have o3:((o*Z+i)*Z+j)*C≤71*8:=Nat.mul_le_mul (by omega) hc8
          have hb:j*C+c<Z*C:=by
            have:(j+1)*C≤Z*C:=Nat.mul_le_mul_right _ hj
            rw[Nat.add_mul]at this;omega
          have hb2:i*(Z*C)+(j*C+c)<Z*(Z*C):=by
            have:(i+1)*(Z*C)≤Z*(Z*C):=Nat.mul_le_mul_right _ hi2
            rw[Nat.add_mul]at this;omega
          have hx:((o*Z+i)*Z+j)*C+c<l.weights.length:=by rw[rS];omega
          have a1:=xZ r e1 e2 hc
          have a2:=hi _ (o8 hx)
          have a3:=Ek (A:=128) (B:=128) (x:=atN W C xs (h*S+i) (w*S+j) c) (y:=l.weights.getD (((o*Z+i)*Z+j)*C+c) 0) (by omega) (by omega)
          unfold nX at e
          simp only[et,hz,hs,nX]
          refine(BM (by omega) _ _).trans ?_
          rw[vf (a:=h) (by omega),vr (b:=i) (by omega),vf (a:=w) (by omega),vr (b:=j) (by omega),e,aa,vf (a:=o) (by omega),vr (b:=i) (by omega),vf (by omega),vr (b:=j) (by omega),vf (by omega),vr (b:=c) (by omega),bJ,aT hx,aa,←cX hx 0,aN (n:=atN W C xs (h*S+i) (w*S+j) c*l.weights.getD (((o*Z+i)*Z+j)*C+c) 0) (by omega) (by omega),jV,aa,aY hc (by omega)]
        · simp only[et,nX]
          exact FJ (by omega) _ _
      · simp only[eu,hz]
        rw[ag,if_neg (by omega)]
    · simp only[ey,hz]
      rw[ag,if_neg (by omega)]
    · rw[bJ,aT hb,aa,jV,aa,oE,aa]
      unfold ma
      rw[hl,C6 r hi v hw,cX hb]
  | max h0 v ho =>
    rw[h0]
    show(gP k (nX H W C xs) l h w o).bind _=_
    rw[vh r hk hz hs v ho,aa]
    have hl:=jj (xs:=xs) (C:=C) (o:=o) v
    obtain⟨x,ys,e⟩:=qn (xs:=xs) (C:=C) (o:=o) v
    rw[e]at hl
    simp only[List.length_cons]at hl
    show _=some (gm (ff W C xs Z S h w o))
    rw[e,ag,if_pos (by simp only[List.length_cons];omega)]
    show(some x).bind _=_
    rw[aa,yA (xs:=ys) (x:=x) (fin:=some) (fun i a next hi=>by
      simp only[ez]
      rw[ag,if_pos (by simp only[List.length_cons];omega),ag,if_pos (by simp only[List.length_cons];omega),Int.toNat_natCast,List.getElem?_cons_succ,aT hi,aa,aY (show i+1<ys.length+1 by omega) (by omega)]
      have hlt:0≤((i+1:Nat):Int)∧((i+1:Nat):Int)<(((x::ys).length:Nat):Int):=by rw[List.length_cons];omega
      rw[BM hlt,aa,ag]
      by_cases c:ys[i]>a
      · rw[if_pos c,if_pos c]
      · rw[if_neg c,if_neg c]) (fun a next=>by
      simp only[ez]
      rw[ag,if_neg (by simp only[List.length_cons];omega)]) (by omega)]
  | avg h0 v ho =>
    rw[h0]
    show(gP k (nX H W C xs) l h w o).bind _=_
    rw[vh r hk hz hs v ho,aa]
    have hl:=jj (xs:=xs) (C:=C) (o:=o) v
    have hm:=o9 r v ho
    have hb:=qm hm
    show _=some (dM (ff W C xs Z S h w o).sum ((Z*Z:Nat):Int))
    rw[vk (xs:=ff W C xs Z S h w o) (fin:=fun y26=>(cond (decide (y26<(0:Int))) (cond (decide ((IntKind.i64.wrap ((2:Int)*((ff W C xs Z S h w o).length:Int)))=0)) none (some (IntKind.i64.wrap (0-(IntKind.i64.wrap ((IntKind.i64.wrap ((IntKind.i64.wrap ((-2:Int)*y26))+((ff W C xs Z S h w o).length:Int))).tdiv (IntKind.i64.wrap ((2:Int)*((ff W C xs Z S h w o).length:Int))))))))) (cond (decide ((IntKind.i64.wrap ((2:Int)*((ff W C xs Z S h w o).length:Int)))=0)) none (some (IntKind.i64.wrap ((IntKind.i64.wrap ((IntKind.i64.wrap ((2:Int)*y26))+((ff W C xs Z S h w o).length:Int))).tdiv (IntKind.i64.wrap ((2:Int)*((ff W C xs Z S h w o).length:Int))))))))) hm (by omega) (fun i a next hi=>by
      simp only[eC]
      rw[ag,if_pos (by omega),ag,if_pos (by omega),Int.toNat_natCast,aT hi,aa,aY hi (by omega)]) (fun a next=>by
      simp only[eC]
      rw[ag,if_neg (by omega)]) (by omega)]
    rw[hl.1]at hb⊢
    generalize (ff W C xs Z S h w o).sum=y at hb⊢
    obtain⟨n,hn⟩:∃n:Nat,n=Z*Z:=⟨_,rfl⟩
    rw[←hn]at hb hl⊢
    unfold dM
    rw[aN (n:=2*(n:Int)) (by omega) (by omega),ag]
    by_cases c:y<0
    · rw[if_pos c,if_pos c,ag,if_neg (by omega),aN (n:=-2*y) (by omega) (by omega),aN (n:=-2*y+(n:Int)) (by omega) (by omega),Int.tdiv_eq_ediv_of_nonneg (by omega),show 2*-y+(n:Int)=-2*y+(n:Int)from by omega]
      have h:=rQ (a:=-2*y+(n:Int)) (b:=2*(n:Int)) (by omega) (by omega)
      generalize (-2*y+(n:Int))/(2*(n:Int))=q at h
      rw[aN (n:=q) (by omega) (by omega),aN (by omega) (by omega)]
      congr 1;omega
    · rw[if_neg c,if_neg c,ag,if_neg (by omega),aN (n:=2*y) (by omega) (by omega),aN (n:=2*y+(n:Int)) (by omega) (by omega),Int.tdiv_eq_ediv_of_nonneg (by omega)]
      have h:=rQ (a:=2*y+(n:Int)) (b:=2*(n:Int)) (by omega) (by omega)
      rw[aN (by omega) (by omega)]
  | Fs h0 h1 h2 h3 hz =>
    rw[h0]
    show(jN k (nX H W C xs) h w o).bind _=_
    rw[l7 r hk h1 h2 h3,aa]
    show cond (decide (atN W C xs h w o<l.zero)) _ _=some (if atN W C xs h w o<l.zero then l.zero else atN W C xs h w o)
    rw[ag]
    by_cases c:atN W C xs h w o<l.zero
    · rw[if_pos c,if_pos c]
    · rw[if_neg c,if_neg c]
  | flat h0 ho =>
    rw[h0]
    show(idx xs (o:Int)).bind _=_
    rw[bJ,aT ho]
    show _=some (xs.getD o 0)
    rw[cX ho];rfl
end Go.Proofs.Ev
set_option linter.unusedVariables false
set_option linter.unusedSimpArgs false
namespace Go.Proofs.Ev
theorem nY {a b:Int} {x:Int} (h:a≤x∧x≤b) (h0:0≤a):∃n:Nat,x=n:=⟨x.toNat,by omega⟩
theorem oF {H W C Z S:Nat} {l:ai} {c:Int} (hz:l.size=Z) (hs:l.step=S) (s1:1≤S) (h8:H≤8) (w8:W≤8) (hzH:Z≤H) (hzW:Z≤W):
    lk ⟨H,W,C⟩ l c=⟨((H-Z)/S+1:Nat),((W-Z)/S+1:Nat),c⟩:=by
  have key:∀n:Nat,n≤8→Z≤n→IntKind.i64.wrap ((IntKind.i64.wrap ((IntKind.i64.wrap ((n:Int)-(Z:Int))).tdiv (S:Int)))+1)=(((n-Z)/S+1:Nat):Int):=fun n h1 h2=>by
    have e1:((n:Int)-(Z:Int))=((n-Z:Nat):Int):=by omega
    have e2:(((n-Z:Nat):Int)).tdiv (S:Int)=(((n-Z)/S:Nat):Int):=rfl
    have e3:(n-Z)/S≤n-Z:=Nat.div_le_self _ _
    rw[e1,aN (n:=((n-Z:Nat):Int)) (by omega) (by omega),e2]
    generalize (n-Z)/S=q at e3
    rw[aN (n:=((q:Nat):Int)) (by omega) (by omega),aN (by omega) (by omega)]
    omega
  unfold lk
  rw[hz,hs]
  simp only[key H h8 hzH,key W w8 hzW]
theorem tl {n Z S:Nat} (h:n≤8) (h1:1≤Z) (h2:Z≤n):1≤(n-Z)/S+1∧(n-Z)/S+1≤8:=by
  have e3:(n-Z)/S≤n-Z:=Nat.div_le_self _ _
  generalize (n-Z)/S=q at e3
  omega
theorem BR {H W Z S h w:Nat} (z1:1≤Z) (z3:Z≤3) (s1:1≤S) (s2:S≤2) (hzH:Z≤H) (hzW:Z≤W) (hh:h<(H-Z)/S+1) (hw:w<(W-Z)/S+1):BN H W Z S h w:=by
  have a1:h*S≤H-Z:=(Nat.le_div_iff_mul_le (by omega)).1 (by omega)
  have a2:w*S≤W-Z:=(Nat.le_div_iff_mul_le (by omega)).1 (by omega)
  exact⟨z1,z3,s2,by omega,by omega⟩
theorem vl {l:ai} (h:xX l=true):(1≤l.out∧l.out≤8)∧(l.fK.length:Int)=l.out∧∀x∈l.weights,-128≤x∧x≤127:=by
  simp only[xX,Bool.and_eq_true,bG,decide_eq_true_eq]at h
  obtain⟨h1,h2,h3,h4,h5,h6,h7⟩:=h
  unfold kM at h7
  rw[List.all_eq_true]at h7
  exact⟨h1,h5,fun x hx=>bG.1 (h7 x hx)⟩
theorem nZ {H W C:Nat} {xs:List Int} (r:gl H W C xs) {l:ai} (hl:cI ⟨H,W,C⟩ l=true):
    ∃Z S H' W' C':Nat,l.size=Z∧l.step=S∧shapeOf ⟨H,W,C⟩ l=⟨H',W',C'⟩∧(1≤H'∧H'≤8)∧(1≤W'∧W'≤8)∧(1≤C'∧C'≤8)∧
      ∀h w o,h<H'→w<W'→o<C'→Fits H W C xs l Z S h w o:=by
  have hr:=r
  obtain⟨h1,h8,w1,w8,c1,c8,hlen,hmem⟩:=hr
  have hsz:=r.size
  unfold cI at hl
  rw[Bool.and_eq_true]at hl
  obtain⟨-,hl⟩:=hl
  unfold shapeOf
  by_cases k0:l.kind=0
  · rw[decide_eq_true k0]at hl⊢
    simp only[cond_true,Bool.and_eq_true,decide_eq_true_eq,j7]at hl
    obtain⟨⟨z0,s0⟩,hn,hs,hw⟩:=hl
    obtain⟨ho,hb,hi⟩:=vl hn
    obtain⟨O,hO⟩:=nY ho (by omega)
    rw[hO]at ho hb
    refine⟨0,0,1,1,O,by omega,by omega,by rw[cond_true,hO];rfl,by omega,by omega,by omega,fun h w o _ _ hlt=>.C5 k0 (by omega) (by omega) ?_⟩
    rw[hO,hsz]at hw
    have:((O:Int)*((H*W*C:Nat):Int))=((O*(H*W*C):Nat):Int):=(Int.natCast_mul _ _).symm
    rw[this]at hw
    have:(o+1)*(H*W*C)≤O*(H*W*C):=Nat.mul_le_mul_right _ hlt
    rw[Nat.add_mul,Nat.one_mul]at this
    rw[hlen];omega
  rw[decide_eq_false k0]at hl⊢
  simp only[cond_false]at hl⊢
  by_cases k1:l.kind=1
  · rw[decide_eq_true k1]at hl⊢
    simp only[cond_true,Bool.and_eq_true,decide_eq_true_eq]at hl⊢
    obtain⟨hwin,hn,hw,hw6⟩:=hl
    obtain⟨z1,z3,s1,s2,zh,zw⟩:=kN hwin
    obtain⟨ho,hb,hi⟩:=vl hn
    obtain⟨O,hO⟩:=nY ho (by omega)
    obtain⟨Z,hZ⟩:=nY ⟨z1,z3⟩ (by omega)
    obtain⟨S,hS⟩:=nY ⟨s1,s2⟩ (by omega)
    rw[hO]at ho hb
    rw[hZ]at z1 z3 zh zw
    rw[hS]at s1 s2
    have zh:Z≤H:=by have:((Z:Nat):Int)≤(H:Int):=zh;omega
    have zw:Z≤W:=by have:((Z:Nat):Int)≤(W:Int):=zw;omega
    have d1:=tl (S:=S) h8 (show 1≤Z by omega) zh
    have d2:=tl (S:=S) w8 (show 1≤Z by omega) zw
    refine⟨Z,S,(H-Z)/S+1,(W-Z)/S+1,O,hZ,hS,by rw[oF hZ hS (by omega) h8 w8 zh zw,hO],d1,d2,by omega,fun h w o hh hw2 hlt=>.conv k1 (by omega) (by omega) ?_ (BR (by omega) (by omega) (by omega) (by omega) zh zw hh hw2) hi⟩
    rw[hO,hZ]at hw
    have:((O:Int)*(Z:Int)*(Z:Int)*(C:Int))=((O*(Z*(Z*C)):Nat):Int):=by
      rw[Int.natCast_mul,Int.natCast_mul,Int.natCast_mul,Int.mul_assoc,Int.mul_assoc]
    have hw:(l.weights.length:Int)=(O:Int)*(Z:Int)*(Z:Int)*(C:Int):=hw
    rw[this]at hw
    have:(o+1)*(Z*(Z*C))≤O*(Z*(Z*C)):=Nat.mul_le_mul_right _ hlt
    rw[Nat.add_mul,Nat.one_mul]at this
    omega
  rw[decide_eq_false k1]at hl⊢
  simp only[cond_false]at hl⊢
  by_cases k2:l.kind=2∨l.kind=3
  · have hk:(decide (l.kind=2)||decide (l.kind=3))=true:=by simpa using k2
    rw[hk]at hl
    simp only[cond_true,Bool.and_eq_true,decide_eq_true_eq]at hl
    obtain⟨hwin,hn,hw⟩:=hl
    obtain⟨z1,z3,s1,s2,zh,zw⟩:=kN hwin
    obtain⟨Z,hZ⟩:=nY ⟨z1,z3⟩ (by omega)
    obtain⟨S,hS⟩:=nY ⟨s1,s2⟩ (by omega)
    rw[hZ]at z1 z3 zh zw
    rw[hS]at s1 s2
    have zh:Z≤H:=by have:((Z:Nat):Int)≤(H:Int):=zh;omega
    have zw:Z≤W:=by have:((Z:Nat):Int)≤(W:Int):=zw;omega
    have d1:=tl (S:=S) h8 (show 1≤Z by omega) zh
    have d2:=tl (S:=S) w8 (show 1≤Z by omega) zw
    rw[decide_eq_false (show¬l.kind=4 by omega),decide_eq_false (show¬l.kind=5 by omega)]
    simp only[cond_false]
    refine⟨Z,S,(H-Z)/S+1,(W-Z)/S+1,C,hZ,hS,oF hZ hS (by omega) h8 w8 zh zw,d1,d2,by omega,fun h w o hh hw2 hlt=>?_⟩
    have v:=BR (by omega) (by omega) (by omega) (by omega) zh zw hh hw2
    rcases k2 with k2|k2
    · exact .max k2 v hlt
    · exact .avg k2 v hlt
  have hk:(decide (l.kind=2)||decide (l.kind=3))=false:=by simpa using k2
  rw[hk]at hl
  simp only[cond_false]at hl
  by_cases k4:l.kind=4
  · rw[decide_eq_true k4]at hl⊢
    simp only[cond_true,Bool.and_eq_true,decide_eq_true_eq,j7,bG]at hl⊢
    obtain⟨⟨z0,s0⟩,hn,hz⟩:=hl
    exact⟨0,0,H,W,C,by omega,by omega,rfl,by omega,by omega,by omega,fun h w o a b c=>.Fs k4 a b c hz⟩
  rw[decide_eq_false k4]at hl⊢
  simp only[cond_false]at hl⊢
  by_cases k5:l.kind=5
  · rw[decide_eq_true k5]at hl⊢
    simp only[cond_true,Bool.and_eq_true,decide_eq_true_eq,j7]at hl⊢
    obtain⟨⟨z0,s0⟩,hn,hz,hs⟩:=hl
    have p1:1≤H*W:=Nat.mul_le_mul h1 w1
    have p2:1≤H*W*C:=Nat.mul_le_mul p1 c1
    rw[hsz]at hs⊢
    exact⟨0,0,1,1,H*W*C,by omega,by omega,rfl,by omega,by omega,by omega,fun h w o a b c=>.flat k5 (by rw[hlen];exact c)⟩
  rw[decide_eq_false k5]at hl
  exact nomatch hl
theorem zK {x d:Int} (hd:1≤d) (h1:-128*d≤x) (h2:x≤127*d):-128≤dM x d∧dM x d≤127:=by
  unfold dM
  by_cases c:x<0
  · rw[if_pos c]
    have a1:0≤(2*-x+d)/(2*d):=Int.ediv_nonneg (by omega) (by omega)
    have a2:(2*-x+d)/(2*d)<129:=Int.ediv_lt_of_lt_mul (by omega) (by omega)
    omega
  · rw[if_neg c]
    have a1:0≤(2*x+d)/(2*d):=Int.ediv_nonneg (by omega) (by omega)
    have a2:(2*x+d)/(2*d)<128:=Int.ediv_lt_of_lt_mul (by omega) (by omega)
    omega
theorem C7 {H W C:Nat} {xs:List Int} (r:gl H W C xs) {l:ai} {Z S h w o:Nat} (f:Fits H W C xs l Z S h w o):-128≤gT W C xs l Z S h w o∧gT W C xs l Z S h w o≤127:=by
  unfold gT
  cases f with
  |C5 h0 hb h8 hw=>rw[h0];exact qe _
  |conv h0 hb h8 hw v hi=>rw[h0];exact qe _
  | max h0 v ho =>
    rw[h0]
    obtain⟨x,ys,e⟩:=qn (xs:=xs) (C:=C) (o:=o) v
    show -128≤gm (ff W C xs Z S h w o)∧gm (ff W C xs Z S h w o)≤127
    have:=o9 r v ho
    rw[e]at this⊢
    exact this _ (kQ ys x)
  | avg h0 v ho =>
    rw[h0]
    have hl:=jj (xs:=xs) (C:=C) (o:=o) v
    have hb:=qm (o9 r v ho)
    rw[hl.1]at hb
    show -128≤dM (ff W C xs Z S h w o).sum ((Z*Z:Nat):Int)∧dM (ff W C xs Z S h w o).sum ((Z*Z:Nat):Int)≤127
    exact zK (by omega) hb.1 hb.2
  | Fs h0 h1 h2 h3 hz =>
    rw[h0]
    have:=xZ r h1 h2 h3
    show -128≤(if atN W C xs h w o<l.zero then l.zero else atN W C xs h w o)∧(if atN W C xs h w o<l.zero then l.zero else atN W C xs h w o)≤127
    by_cases c:atN W C xs h w o<l.zero
    · rw[if_pos c];exact hz
    · rw[if_neg c];exact this
  |flat h0 ho=>rw[h0];exact r.mem _ (o8 ho)
def runN (W C:Nat) (xs:List Int) (l:ai) (Z S H' W' C':Nat):List Int:=
  (List.range H').flatMap fun h=>(List.range W').flatMap fun w=>(List.range C').flatMap fun o=>[gT W C xs l Z S h w o]
def qz (t:aA) (l:ai):aA× Bool:=
  cond (t.okB&&cI t.sh l) (⟨shapeOf t.sh l,runN t.sh.w.toNat t.sh.c.toNat t.data l l.size.toNat l.step.toNat (shapeOf t.sh l).h.toNat (shapeOf t.sh l).w.toNat (shapeOf t.sh l).c.toNat⟩,true) (⟨bL,[]⟩,false)
theorem C8 (W C:Nat) (xs:List Int) (l:ai) (Z S H' W' C':Nat):(runN W C xs l Z S H' W' C').length=H'*(W'*(C'*1)):=
  dP _ _ _ fun i hi=>dP _ _ _ fun j hj=>dP _ _ _ fun o ho=>rfl
theorem oa {t:aA} {l:ai} (h1:t.okB=true) (h2:cI t.sh l=true):(qz t l).1.okB=true∧(qz t l).1.sh=shapeOf t.sh l∧(qz t l).2=true:=by
  obtain⟨H,W,C,r,e⟩:=tf h1
  have e2:t.sh=⟨H,W,C⟩:=by rw[e];rfl
  have h2':=h2
  rw[e2]at h2'
  obtain⟨Z,S,H',W',C',hz,hs,hsh,a1,a2,a3,hf⟩:=nZ r h2'
  unfold qz
  rw[h1,h2]
  simp only[Bool.and_self,cond_true]
  refine And.intro ?_ (by simp)
  rw[e2,hsh,show l.size.toNat=Z from by omega,show l.step.toNat=S from by omega]
  simp only[Int.toNat_natCast]
  refine gl.ok (H:=H') (W:=W') (C:=C') ⟨a1.1,a1.2,a2.1,a2.2,a3.1,a3.2,by rw[C8,Nat.mul_one,Nat.mul_assoc],fun x hx=>?_⟩
  unfold runN at hx
  rw[List.mem_flatMap]at hx
  obtain⟨i,hi,hx⟩:=hx
  rw[List.mem_flatMap]at hx
  obtain⟨j,hj,hx⟩:=hx
  rw[List.mem_flatMap]at hx
  obtain⟨o,ho,hx⟩:=hx
  rw[List.mem_range]at hi hj ho
  rw[List.mem_singleton]at hx
  rw[hx]
  exact C7 r (hf i j o hi hj ho)
theorem tn {k:Nat} {t:aA} {l:ai} (hk:512<k) (hd:t.data.length<k) (hdN:t.data.length≤cK) (hl:l.tot<k) (hlN:l.tot≤cK):lg k t l=some (qz t l):=by
  have hM:=bo
  unfold lg qz
  rw[jR hd (by unfold nR;omega),aa]
  cases h1:t.okB
  · rfl
  simp only[Bool.not_true,cond_false,Bool.true_and]
  rw[jT hl hlN,aa]
  unfold dU
  cases h2:cI t.sh l
  · rfl
  obtain⟨H,W,C,r,e⟩:=tf h1
  obtain⟨sh,xs⟩:=t
  have e2:sh=⟨H,W,C⟩:=congrArg aA.sh e
  subst e2
  obtain⟨Z,S,H',W',C',hz,hs,hsh,a1,a2,a3,hf⟩:=nZ r h2
  have hwN:l.weights.length≤cK:=by unfold ai.tot at hlN;omega
  simp only[cond_true,Bool.not_true,cond_false]
  rw[hsh,show l.size.toNat=Z from by omega,show l.step.toNat=S from by omega]
  simp only[Int.toNat_natCast]
  have m1:∀w:Nat,∀h:Nat,((List.range C').flatMap fun o=>[gT W C xs l Z S h w o]).length≤8:=fun w h=>by
    have:=gj (fun o=>[gT W C xs l Z S h w o]) 1 C' (fun _ _=>Nat.le_refl _);omega
  have m2:∀h:Nat,((List.range W').flatMap fun w=>(List.range C').flatMap fun o=>[gT W C xs l Z S h w o]).length≤64:=fun h=>by
    have:=gj (fun w=>(List.range C').flatMap fun o=>[gT W C xs l Z S h w o]) 8 W' (fun w _=>m1 w h);omega
  refine(c9 H' 64 (fun h=>(List.range W').flatMap fun w=>(List.range C').flatMap fun o=>[gT W C xs l Z S h w o]) [] (fin:=fun y=>some ((⟨⟨H',W',C'⟩,y⟩:aA),true)) (fun h _=>m2 h) (fun h ys next hi hy=>?_) (fun ys next=>?_) (by omega)).trans (by rw[List.nil_append];rfl)
  · simp only[dD]
    rw[ag,if_pos (by omega),aY hi (by omega)]
    refine c9 W' 8 (fun w=>(List.range C').flatMap fun o=>[gT W C xs l Z S h w o]) ys (fin:=fun y=>next (((h+1:Nat):Int),y)) (fun w _=>m1 w h) (fun w zs next2 hj hz2=>?_) (fun zs next2=>?_) (by omega)
    · simp only[dC]
      rw[ag,if_pos (by omega),aY hj (by omega)]
      refine c9 C' 1 (fun o=>[gT W C xs l Z S h w o]) zs (fin:=fun y=>next2 (((w+1:Nat):Int),y)) (fun _ _=>Nat.le_refl _) (fun o us next3 ho hz3=>?_) (fun us next3=>?_) (by omega)
      · simp only[dB]
        simp only[List.length_nil]at hy
        have eq:=BQ (k:=k) r (l:=l) hk hwN hz hs (hf h w o hi hj ho)
        rw[ag,if_pos (by omega)]
        refine(congrArg (fun o:Option Int=>o.bind _) eq).trans ?_
        rw[aa,jf (by simp;omega),aY ho (by omega)]
      · simp only[dB]
        rw[ag,if_neg (by omega)]
    · simp only[dC]
      rw[ag,if_neg (by omega)]
  · simp only[dD]
    rw[ag,if_neg (by omega)]
theorem nd {k:Nat} {t:aA} {l:ai} (hk:512<k) (hd:t.data.length<k) (hdN:t.data.length≤cK) (hl:l.tot<k) (hlN:l.tot≤cK):jd k t l=some (qz t l):=by
  have hM:=bo
  unfold jd qz
  rw[jU hl hlN,aa,jS hd (by unfold nR;omega)]
  unfold dU
  cases h2:cI t.sh l
  · cases t.okB<;>rfl
  simp only[cond_true,Bool.not_true,cond_false,aa]
  cases h1:t.okB
  · rfl
  simp only[Bool.not_true,cond_false,Bool.and_self,cond_true]
  obtain⟨H,W,C,r,e⟩:=tf h1
  obtain⟨sh,xs⟩:=t
  have e2:sh=⟨H,W,C⟩:=congrArg aA.sh e
  subst e2
  obtain⟨Z,S,H',W',C',hz,hs,hsh,a1,a2,a3,hf⟩:=nZ r h2
  have hwN:l.weights.length≤cK:=by unfold ai.tot at hlN;omega
  rw[hsh,show l.size.toNat=Z from by omega,show l.step.toNat=S from by omega]
  simp only[Int.toNat_natCast]
  have m1:∀w:Nat,∀h:Nat,((List.range C').flatMap fun o=>[gT W C xs l Z S h w o]).length≤8:=fun w h=>by
    have:=gj (fun o=>[gT W C xs l Z S h w o]) 1 C' (fun _ _=>Nat.le_refl _);omega
  have m2:∀h:Nat,((List.range W').flatMap fun w=>(List.range C').flatMap fun o=>[gT W C xs l Z S h w o]).length≤64:=fun h=>by
    have:=gj (fun w=>(List.range C').flatMap fun o=>[gT W C xs l Z S h w o]) 8 W' (fun w _=>m1 w h);omega
  refine(c9 H' 64 (fun h=>(List.range W').flatMap fun w=>(List.range C').flatMap fun o=>[gT W C xs l Z S h w o]) [] (fin:=fun y=>some ((⟨⟨H',W',C'⟩,y⟩:aA),true)) (fun h _=>m2 h) (fun h ys next hi hy=>?_) (fun ys next=>?_) (by omega)).trans (by rw[List.nil_append];rfl)
  · simp only[dG]
    rw[ag,if_pos (by omega),aY hi (by omega)]
    refine c9 W' 8 (fun w=>(List.range C').flatMap fun o=>[gT W C xs l Z S h w o]) ys (fin:=fun y=>next (((h+1:Nat):Int),y)) (fun w _=>m1 w h) (fun w zs next2 hj hz2=>?_) (fun zs next2=>?_) (by omega)
    · simp only[dF]
      rw[ag,if_pos (by omega),aY hj (by omega)]
      refine c9 C' 1 (fun o=>[gT W C xs l Z S h w o]) zs (fin:=fun y=>next2 (((w+1:Nat):Int),y)) (fun _ _=>Nat.le_refl _) (fun o us next3 ho hz3=>?_) (fun us next3=>?_) (by omega)
      · simp only[dE]
        simp only[List.length_nil]at hy
        have eq:=BP (k:=k) r (l:=l) hk hwN hz hs (hf h w o hi hj ho)
        rw[ag,if_pos (by omega)]
        refine(congrArg (fun o:Option Int=>o.bind _) eq).trans ?_
        rw[aa,jf (by simp;omega),aY ho (by omega)]
      · simp only[dE]
        rw[ag,if_neg (by omega)]
    · simp only[dF]
      rw[ag,if_neg (by omega)]
  · simp only[dG]
    rw[ag,if_neg (by omega)]
end Go.Proofs.Ev
set_option linter.unusedVariables false
set_option linter.unusedSimpArgs false
namespace Go.Proofs.Ev
end Go.Proofs.Ev
set_option linter.unusedVariables false
set_option linter.unusedSimpArgs false
namespace Go.Proofs.Ev
def qo:ai:=⟨0,0,0,0,0,0,0,[],[]⟩
theorem rT:∀(ls:List ai) (s:Shape) (t:List Shape),aC s ls=some t→∀i,i<ls.length→cI ((s::t).getD i bL) (ls.getD i qo)=true∧(s::t).getD (i+1) bL=shapeOf ((s::t).getD i bL) (ls.getD i qo)
  |[],s,t,h,i,hi=>by simp at hi
  | l :: ls, s, t, h, i, hi => by
    simp only[aC]at h
    cases hb:cI s l<;>simp only[hb,cond_true,cond_false]at h
    · exact nomatch h
    · obtain⟨t',h1,rfl⟩:=Option.map_eq_some_iff.1 h
      cases i with
      |zero=>exact⟨hb,rfl⟩
      |succ i=>exact rT ls (shapeOf s l) t' h1 i (by simpa using hi)
theorem lu {m:Model} (h:bR m=true):(1≤m.ab.length∧m.ab.length≤6)∧∀i,i<m.ab.length→cI ((aL m).getD i bL) (m.ab.getD i qo)=true∧(aL m).getD (i+1) bL=shapeOf ((aL m).getD i bL) (m.ab.getD i qo):=by
  unfold aL
  rw[h,cond_true]
  unfold bR at h
  unfold bM at h⊢
  cases h1:(m.inp.okB&&inB (m.ab.length:Int) 1 6)<;>rw[h1]at h
  · exact nomatch h
  · simp only[cond_true]at h⊢
    rw[Bool.and_eq_true,bG]at h1
    cases h2:aC m.inp m.ab with
    |none=>rw[h2]at h;exact nomatch h
    |some t=>exact⟨by omega,rT m.ab m.inp t h2⟩
end Go.Proofs.Ev
set_option linter.unusedVariables false
set_option linter.unusedSimpArgs false
namespace Go.Proofs.Ev
theorem yB (t:aA) (l:ai):(qz t l).1.data.length≤512:=by
  cases h1:t.okB
  · unfold qz;rw[h1];exact Nat.zero_le _
  cases h2:cI t.sh l
  · unfold qz;rw[h1,h2];exact Nat.zero_le _
  obtain⟨h3,_,_⟩:=oa h1 h2
  unfold aA.okB at h3
  simp only[Bool.and_eq_true,decide_eq_true_eq]at h3
  have:=Shape.BD (qz t l).1.sh
  omega
def b5 (t:aA) (ls:List ai):aA:=ls.foldl (fun t l=>(qz t l).1) t
theorem jk:∀(ls:List ai) (t:aA),(b5 t ls).data.length≤t.data.length+512
  |[],t=>Nat.le_add_right _ _
  | l :: ls, t => by
    have:∀(ls:List ai) (t:aA),t.data.length≤512→(b5 t ls).data.length≤512:=fun ls=>by
      induction ls with
      |nil=>exact fun t h=>h
      |cons l ls ih=>exact fun t _=>ih _ (yB t l)
    have:=this ls (qz t l).1 (yB t l)
    show(b5 (qz t l).1 ls).data.length≤_
    omega
theorem mb {t:aA} {ls:List ai} {i:Nat} (h:i<ls.length):b5 t (ls.take (i+1))=(qz (b5 t (ls.take i)) ls[i]).1:=by
  unfold b5
  rw[kJ h,List.foldl_append];rfl
def jX (m:Model) (t:aA):aA× Bool:=cond (bR m&&(t.okB&&decide (t.sh=m.inp))) (b5 t m.ab,true) (⟨bL,[]⟩,false)
def stE (i:Nat) (t:aA):Int× Int× Int× Int× List Int:=((i:Int),t.sh.h,t.sh.w,t.sh.c,t.data)
theorem qL {k:Nat} {m:Model} {t:aA} (hk:m.tot+t.data.length+520<k) (hN:m.tot+t.data.length+520≤cK):jP k m t=some (jX m t):=by
  have hM:=bo
  unfold jP jX
  rw[oB (by omega) (by omega),aa]
  cases hm:bR m
  · rfl
  simp only[Bool.not_true,cond_false,Bool.true_and]
  rw[jR (by omega) (by unfold nR;omega),aa,BK]
  cases t.okB
  · rfl
  simp only[Bool.not_true,cond_false,Bool.true_and]
  cases decide (t.sh=m.inp)
  · rfl
  simp only[Bool.not_true,cond_false,cond_true]
  rw[uS (by omega) (by omega),aa]
  obtain⟨hl,_⟩:=lu hm
  exact gf (g:=fun u7 n7=>cE k (m.inp.h,m.inp.w,m.inp.c,m.ab,(0:Int),(0:Int),(0:Int)) u7 n7 (fun y6=>some ((⟨(⟨y6.1,y6.2.1,y6.2.2.1⟩:Shape),y6.2.2.2⟩:aA),true)))
    (st:=fun i=>stE i (b5 t (m.ab.take i))) (n:=m.ab.length) (r:=some (b5 t m.ab,true)) (fun i hi next=>by
      have hlen:=jk (m.ab.take i) t
      have hlt:=ll (k:=k) (m:=m) (by omega) (by omega) (List.getElem_mem hi)
      unfold stE
      simp only[cE]
      rw[ag,if_pos (by omega),bJ,aT hi,aa,show(⟨⟨(b5 t (m.ab.take i)).sh.h,(b5 t (m.ab.take i)).sh.w,(b5 t (m.ab.take i)).sh.c⟩,(b5 t (m.ab.take i)).data⟩:aA)=b5 t (m.ab.take i)from rfl,
        tn (by omega) (by omega) (by omega) hlt.1 hlt.2,aa,aY hi (by omega),mb hi]) (fun next=>by
      rw[List.take_length]
      unfold stE
      simp only[cE]
      rw[ag,if_neg (by omega)]) (k:=k) (by omega)
theorem iH {k:Nat} {m:Model} {t:aA} (hk:m.tot+t.data.length+520<k) (hN:m.tot+t.data.length+520≤cK):cG k m t=some (jX m t):=by
  have hM:=bo
  unfold cG jX
  rw[eF (by omega) (by omega),aa]
  cases hm:bR m
  · rfl
  simp only[Bool.not_true,cond_false,Bool.true_and]
  rw[jS (by omega) (by unfold nR;omega),aa,BK]
  cases t.okB
  · rfl
  simp only[Bool.not_true,cond_false,Bool.true_and]
  cases decide (t.sh=m.inp)
  · rfl
  simp only[Bool.not_true,cond_false,cond_true]
  obtain⟨hl,_⟩:=lu hm
  have h0:0<m.ab.length:=by omega
  have hlt0:=ll (k:=k) (m:=m) (by omega) (by omega) (List.getElem_mem h0)
  rw[ag,if_pos (by omega),xU,aT h0,aa,nd (by omega) (by omega) (by omega) hlt0.1 hlt0.2,aa]
  have e0:((1:Int),(qz t m.ab[0]).1.sh.h,(qz t m.ab[0]).1.sh.w,(qz t m.ab[0]).1.sh.c,(qz t m.ab[0]).1.data)=stE (0+1) (b5 t (m.ab.take (0+1))):=by
    rw[mb h0];rfl
  rw[e0]
  exact gf (g:=fun u8 n8=>cF k (m.ab,(m.ab.length:Int),(0:Int),(0:Int),(0:Int)) u8 n8 (fun y7=>some ((⟨(⟨y7.1,y7.2.1,y7.2.2.1⟩:Shape),y7.2.2.2⟩:aA),true)))
    (st:=fun i=>stE (i+1) (b5 t (m.ab.take (i+1)))) (n:=m.ab.length-1) (r:=some (b5 t m.ab,true)) (fun i hi next=>by
      have hi:i+1<m.ab.length:=by omega
      have hlen:=jk (m.ab.take (i+1)) t
      have hlt:=ll (k:=k) (m:=m) (by omega) (by omega) (List.getElem_mem hi)
      unfold stE
      simp only[cF]
      rw[ag,if_pos (by omega),bJ,aT hi,aa,show(⟨⟨(b5 t (m.ab.take (i+1))).sh.h,(b5 t (m.ab.take (i+1))).sh.w,(b5 t (m.ab.take (i+1))).sh.c⟩,(b5 t (m.ab.take (i+1))).data⟩:aA)=b5 t (m.ab.take (i+1))from rfl,
        nd (by omega) (by omega) (by omega) hlt.1 hlt.2,aa,aY hi (by omega),mb hi]) (fun next=>by
      rw[show m.ab.length-1+1=m.ab.length from by omega,List.take_length]
      unfold stE
      simp only[cF]
      rw[ag,if_neg (by omega)]) (k:=k) (by omega)
theorem BS (m:Model) (t:aA):(jX m t).1.tot≤t.tot+512:=by
  unfold jX
  cases(bR m&&(t.okB&&decide (t.sh=m.inp)))
  · exact Nat.zero_le _
  · have:=jk m.ab t
    show(b5 t m.ab).data.length+0≤t.data.length+0+512
    omega
end Go.Proofs.Ev
set_option linter.unusedVariables false
set_option linter.unusedSimpArgs false
namespace Go.Proofs.Ev
def gU (s:Shape) (t:List Shape):Shape:=t.getLast?.getD s
theorem dI (s x:Shape) (t:List Shape):gU s (x::t)=gU x t:=by
  unfold gU
  cases t with
  |nil=>rfl
  |cons y t=>rw[List.getLast?_cons_cons];simp[List.getLast?_cons]
theorem rU:∀(xs ys:List ai) (s:Shape),aC s (xs++ys)=(aC s xs).bind fun t=>(aC (gU s t) ys).map (t++·)
  | [], ys, s => by
    show aC s ys=(aC s ys).map ([]++·)
    cases aC s ys<;>rfl
  | x :: xs, ys, s => by
    simp only[List.cons_append,aC]
    cases cI s x
    · rfl
    · simp only[cond_true]
      rw[rU xs ys (shapeOf s x)]
      cases aC (shapeOf s x) xs with
      |none=>rfl
      | some t =>
        simp only[Option.bind_some,Option.map_some,dI]
        cases aC (gU (shapeOf s x) t) ys<;>rfl
theorem gD {m:Model}:bR m=true↔m.inp.okB=true∧inB (m.ab.length:Int) 1 6=true∧(aC m.inp m.ab).isSome=true:=by
  unfold bR bM
  cases m.inp.okB<;>cases inB (m.ab.length:Int) 1 6<;>cases aC m.inp m.ab<;>simp
theorem oc {m:Model} (h:bR m=true):∃t,aC m.inp m.ab=some t∧bM m=(m.inp::t,true)∧t.length=m.ab.length:=by
  have h':=gD.1 h
  obtain⟨t,ht⟩:=Option.isSome_iff_exists.1 h'.2.2
  refine⟨t,ht,?_,fI _ _ _ ht⟩
  unfold bM
  rw[h'.1,h'.2.1,ht];rfl
def C9 (a b:Model):Model× Bool:=
  cond (bR a&&(bR b&&(decide ((a.ab.length:Int)+b.ab.length≤6)&&decide (gU a.inp ((bM a).1)=b.inp)))) (⟨a.inp,a.ab++b.ab⟩,true) (BJ,false)
theorem yC (s:Shape) (t:List Shape):(s::t)[t.length]? =some (gU s (s::t)):=by
  rw[dI]
  induction t generalizing s with
  |nil=>rfl
  |cons x t ih=>rw[List.length_cons,List.getElem?_cons_succ,ih,dI]
theorem Da (x y:Shape):cond (x.h==y.h) (cond (x.w==y.w) (cond (x.c==y.c) true false) false) false=decide (x=y):=by
  obtain⟨a,b,c⟩:=x
  obtain⟨d,e,f⟩:=y
  rw[Bool.eq_iff_iff,decide_eq_true_eq]
  simp only[Shape.mk.injEq,Bw]
  by_cases h1:a=d<;>by_cases h2:b=e<;>by_cases h3:c=f<;>simp[h1,h2,h3]
theorem Ep {k:Nat} {n:Int} (h:1≤n) (h2:n≤cK):bp k n=some []:=by
  have hM:=bo
  unfold bp
  rw[Int.sub_zero,aN (by omega) (by omega),ag,if_neg (by omega),ag,if_pos (by omega),ag,if_pos (by omega),ag,if_pos (by omega),ag,if_pos (by omega)]
  simp
theorem BT {k:Nat} {xs ys:List ai} (h:1≤xs.length) (hx:xs.length≤6) (hy:ys.length≤6):bj k xs ys=some (xs++ys):=by
  have hM:=bo
  unfold bj
  rw[Int.zero_add,aN (n:=(xs.length:Int)) (by omega) (by omega),aN (n:=(xs.length:Int)+ys.length) (by omega) (by omega),ag,if_neg (by omega),ag,if_neg (by omega),Ep (by omega) (by omega),aa]
  rw[jf (by simp;omega),jf (by simp;omega),decide_eq_true rfl,decide_eq_true rfl]
  rfl
theorem qp {k:Nat} {a b:Model} (hk:a.tot+b.tot<k) (hN:a.tot+b.tot<cK):eD k a b=some (C9 a b):=by
  have hM:=bo
  unfold eD C9
  rw[eF (by omega) (by omega),aa,eF (by omega) (by omega),aa]
  cases ha:bR a
  · rfl
  cases hb:bR b
  · rfl
  obtain⟨t,h1,h2,h3⟩:=oc ha
  have hla:=bG.1 (gD.1 ha).2.1
  have hlb:=bG.1 (gD.1 hb).2.1
  simp only[Bool.not_true,cond_false,Bool.true_and]
  rw[aN (by omega) (by omega),ag]
  by_cases c:(a.ab.length:Int)+b.ab.length>6
  · rw[if_pos c,decide_eq_false (by omega)];rfl
  rw[if_neg c,decide_eq_true (by omega),eZ (by omega) (by omega),aa]
  have hs:aL a=a.inp::t:=by unfold aL;rw[ha,h2];rfl
  rw[hs,ag,if_pos (by simp only[List.length_cons];omega),Int.toNat_natCast,←h3,yC,aa,Da,h2]
  by_cases d:gU a.inp (a.inp::t)=b.inp
  · rw[decide_eq_true d]
    simp only[Bool.not_true,cond_false,Bool.and_true]
    rw[BT (by omega) (by omega) (by omega),aa,jh (by rw[dX];unfold Model.tot at hk;omega) (by rw[dX];unfold Model.tot at hN;omega),aa]
    rfl
  · rw[decide_eq_false d];rfl
end Go.Proofs.Ev
set_option linter.unusedVariables false
set_option linter.unusedSimpArgs false
set_option maxRecDepth 100000
namespace Go.Proofs.Ev
theorem ao.bej {A R:Type} {B:A→Option R} {K:A} {Q:R→Prop} (h:ao (B K) Q):ao (bej B K) Q:=h
theorem ao.FO {R α:Type} {B:(α→Option R)→Option R} {K:α→Option R} {Q:R→Prop} (P:α→Prop) (hK:∀x,P x→ao (K x) Q) (hB:∀j:α→Option R,(∀x,P x→ao (j x) Q)→ao (B j) Q):ao (Go.Proofs.Ev.bej B K) Q:=hB K hK
theorem ao.FU {R α β γ:Type} {B:(α→β→γ→Option R)→Option R} {K:α→β→γ→Option R} {Q:R→Prop} (P:α→β→γ→Prop) (hK:∀x y z,P x y z→ao (K x y z) Q) (hB:∀j:α→β→γ→Option R,(∀x y z,P x y z→ao (j x y z) Q)→ao (B j) Q):ao (Go.Proofs.Ev.bej B K) Q:=hB K hK
theorem ao.FV {R α β γ δ:Type} {B:(α→β→γ→δ→Option R)→Option R} {K:α→β→γ→δ→Option R} {Q:R→Prop} (P:α→β→γ→δ→Prop) (hK:∀x y z u,P x y z u→ao (K x y z u) Q) (hB:∀j:α→β→γ→δ→Option R,(∀x y z u,P x y z u→ao (j x y z u) Q)→ao (B j) Q):ao (Go.Proofs.Ev.bej B K) Q:=hB K hK
theorem ao.of {α β:Type} {a:α} {f:α→Option β} {Q:β→Prop} (h:ao (f a) Q):ao ((Option.some a).bind f) Q:=h
theorem Shape.qq {s:Shape}:s.okB=true↔(1≤s.h∧s.h≤8)∧(1≤s.w∧s.w≤8)∧(1≤s.c∧s.c≤8):=by
  unfold Shape.okB
  simp only[Bool.and_eq_true,bG]
theorem Shape.iI (s:Shape):0≤s.size∧s.size≤512:=by
  unfold Shape.size
  cases h:s.okB
  · simp
  · obtain⟨⟨a1,a2⟩,⟨b1,b2⟩,c1,c2⟩:=Shape.qq.1 h
    simp only[cond_true]
    have h1:0≤s.h*s.w:=Int.mul_nonneg (by omega) (by omega)
    have h2:s.h*s.w≤8*8:=Int.mul_le_mul a2 b2 (by omega) (by omega)
    refine⟨Int.mul_nonneg h1 (by omega),?_⟩
    have h3:s.h*s.w*s.c≤64*8:=Int.mul_le_mul (by omega) c2 (by omega) (by omega)
    omega
theorem Shape.size_pos {s:Shape} (h:s.okB=true):1≤s.size:=by
  unfold Shape.size
  rw[h]
  obtain⟨⟨a1,a2⟩,⟨b1,b2⟩,c1,c2⟩:=Shape.qq.1 h
  simp only[cond_true]
  have h1:0<s.h*s.w:=Int.mul_pos (by omega) (by omega)
  have h2:0<s.h*s.w*s.c:=Int.mul_pos h1 (by omega)
  omega
section
variable {b:List Int} {k:Nat}
theorem kR (hb:b.length≤1048576) {i h m:Int} (hc:Cur b i) (h0:1≤m) (h1:m≤8):ao (c7 k b i h m) fun r=>r.1.okB=true∧Cur b r.2.1:=by
  unfold c7
  refine(aR hb hc).bind fun r1 ⟨⟨p1,p2,_⟩,hc1⟩=>(aR hb hc1).bind fun r2 ⟨⟨q1,q2,_⟩,hc2⟩=>(aR hb hc2).bind fun r3 ⟨⟨u1,u2,_⟩,hc3⟩=>ao.must rfl (ao.some ⟨?_,hc3⟩)
  have p2:=p2 (by omega)
  have q2:=q2 (by omega)
  have u2:=u2 (by omega)
  refine Shape.qq.2 ?_
  simp only
  rw[aN (n:=1+r1.1) (by omega) (by omega),aN (n:=1+r2.1) (by omega) (by omega),aN (n:=1+r3.1) (by omega) (by omega)]
  omega
theorem lH (hb:b.length≤1048576) {i h:Int} (hc:Cur b i):ao (dn k b i h) fun r=>(-128≤r.1∧r.1≤127)∧Cur b r.2.1:=by
  unfold dn
  refine(aR hb hc).bind fun r1 ⟨⟨p1,p2,_⟩,hc1⟩=>(aR hb hc1).bind fun r2 ⟨⟨q1,q2,_⟩,hc2⟩=>(fC hb hc2 (by simp)).bind fun r3 ⟨h3,hc3⟩=>ao.must rfl (ao.some ⟨?_,hc3⟩)
  have p2:=p2 (by omega)
  have q2:=q2 (by omega)
  rw[aN (n:=r1.1-128) (by omega) (by omega),aN (n:=r2.1-128) (by omega) (by omega)]at h3
  simp only[List.mem_cons,List.not_mem_nil,or_false]at h3
  omega
theorem fY (hb:b.length≤1048576) (hk:1000<k) {i h:Int} {s:Shape} (hc:Cur b i):ao (cf k b i h s) fun r=>(r.1.sh=s∧(r.1.data.length:Int)=s.size)∧Cur b r.2.1:=by
  have hM:=bo
  have hs:=s.iI
  unfold cf
  refine ao.iter (Inv:=fun v:Int× Int× Int× List Int=>Cur b v.2.1∧0≤v.1∧v.1≤s.size∧(v.2.2.2.length:Int)=v.1) (m:=fun v=>(s.size-v.1).toNat) (fun v next hv hn=>?_) k _ ⟨hc,by simp;omega⟩ (by simp only;omega)
  obtain⟨v1,v2,v3,v4⟩:=hv
  unfold cc
  rw[fy]
  refine ao.of (ao.cond (fun h1=>?_) fun h1=>ao.must rfl (ao.some ⟨⟨rfl,?_⟩,v1⟩))
  · have h1:v.1<s.size:=of_decide_eq_true h1
    refine(lH hb v1).bind fun r2 ⟨_,hc2⟩=>ao.ble (by simp;omega) (hn _ ⟨hc2,?_⟩ ?_)
    · simp only[List.length_append,List.length_cons,List.length_nil]
      rw[aN (n:=v.1+1) (by omega) (by omega)]
      omega
    · simp only
      rw[aN (n:=v.1+1) (by omega) (by omega)]
      omega
  · have h1:¬v.1<s.size:=of_decide_eq_false h1
    simp only;omega
theorem oK (hb:b.length≤1048576) (hk:1000<k) {i h:Int} (hc:Cur b i):ao (dT k b i h) fun r=>r.1.data.length≤513∧Cur b r.2.1:=by
  have hM:=bo
  unfold dT
  refine(kR hb hc (by omega) (by omega)).bind fun r1 ⟨ok1,hc1⟩=>(fY hb hk hc1).bind fun r2 ⟨⟨e2,l2⟩,hc2⟩=>(nT hb hc2).bind fun r3 hc3=>?_
  have hs:=r1.1.iI
  have hp:=Shape.size_pos ok1
  refine ao.cond (fun _=>(aR hb hc3).bind fun r4 ⟨_,hc4⟩=>?_) fun _=>ao.must rfl (ao.some ⟨by simp only;omega,hc3⟩)
  refine ao.cond (fun _=>?_) fun _=>ao.cond (fun _=>?_) fun _=>ao.cond (fun _=>?_) fun _=>ao.cond (fun _=>?_) fun _=>?_
  · exact(fC hb hc4 (by simp)).bind fun r5 ⟨_,hc5⟩=>ao.must rfl (ao.some ⟨by simp only;omega,hc5⟩)
  · exact ao.ble (by simp;omega) (ao.must rfl (ao.some ⟨by simp;omega,hc4⟩))
  · refine(aR hb hc4).bind fun r6 ⟨⟨a1,a2,_⟩,hc6⟩=>(fC hb hc6 (by simp)).bind fun r7 ⟨_,hc7⟩=>ao.must ⟨a1,a2 (by omega)⟩ (ao.must rfl (ao.some ⟨by simp;omega,hc7⟩))
  · exact(fY hb hk hc4).bind fun r8 ⟨⟨e8,l8⟩,hc8⟩=>ao.must rfl (ao.some ⟨by have:=(⟨8,8,8⟩:Shape).iI;simp only;omega,hc8⟩)
  · exact ao.must rfl (ao.some ⟨by simp only;omega,hc4⟩)
end
end Go.Proofs.Ev
