/- Typed functions and what holds of them: part 2. -/
import Derived.Test.YtjcmkefhdkccbaaGreatEvL1
set_option linter.unusedVariables false
set_option linter.unusedSimpArgs false
set_option linter.unusedVariables false
set_option linter.unusedSimpArgs false
namespace Go.Proofs.Ev
theorem fx {b c:Bool}:cond b (some c) (some false)=some (b&&c):=by cases b<;>rfl
theorem cW {α:Type} {b:Bool} {x y:α}:cond (!b) x y=cond b y x:=by cases b<;>rfl
theorem vl {α:Type} (a b:Int) (x y:α):cond (a !=b) x y=cond (decide (a=b)) y x:=by rw[Ce];by_cases h:a=b<;>simp[h]
theorem Au (a b:Int):(a==b)=decide (a=b):=EX a b
def yS (l:ag):Bool:=inB l.out 1 8&&(inB l.mult 0 2147483647&&(inB l.shift 0 31&&(inB l.zero (-128) 127&&(decide ((l.fX.length:Int)=l.out)&&(l.fX.all (fun x=>inB x (-1000000) 1000000)&&kM l.weights)))))
def l7 (l:ag):Bool:=decide (l.out=0)&&(decide (l.mult=0)&&(decide (l.shift=0)&&(decide ((l.weights.length:Int)=0)&&decide ((l.fX.length:Int)=0))))
def j6 (l:ag):Bool:=decide (l.size=0)&&decide (l.step=0)
def Ck (s:Shape) (l:ag):Bool:=inB l.size 1 3&&(inB l.step 1 2&&(decide (l.size≤s.h)&&decide (l.size≤s.w)))
def cN (s:Shape) (l:ag):Bool:=s.okB&&
  (cond (decide (l.kind=0)) (j6 l&&(yS l&&(decide (s.size≤64)&&decide ((l.weights.length:Int)=l.out*s.size))))
  (cond (decide (l.kind=1)) (Ck s l&&(yS l&&(decide ((l.weights.length:Int)=l.out*l.size*l.size*s.c)&&decide ((l.weights.length:Int)≤600))))
  (cond (decide (l.kind=2)||decide (l.kind=3)) (Ck s l&&(l7 l&&decide (l.zero=0)))
  (cond (decide (l.kind=4)) (j6 l&&(l7 l&&inB l.zero (-128) 127))
  (cond (decide (l.kind=5)) (j6 l&&(l7 l&&(decide (l.zero=0)&&decide (s.size≤8)))) false)))))
def lq (s:Shape) (l:ag) (c:Int):Shape:=
  ⟨IntKind.i64.wrap ((IntKind.i64.wrap ((IntKind.i64.wrap (s.h-l.size)).tdiv l.step))+1),IntKind.i64.wrap ((IntKind.i64.wrap ((IntKind.i64.wrap (s.w-l.size)).tdiv l.step))+1),c⟩
def shapeOf (s:Shape) (l:ag):Shape:=
  cond (decide (l.kind=0)) ⟨1,1,l.out⟩ (cond (decide (l.kind=1)) (lq s l l.out) (cond (decide (l.kind=4)) s (cond (decide (l.kind=5)) ⟨1,1,s.size⟩ (lq s l s.c))))
def dJ:Shape:=⟨0,0,0⟩
def da (s:Shape) (l:ag):Shape× Bool:=cond (cN s l) (shapeOf s l,true) (dJ,false)
theorem oN (k:Nat) (x:Int):dM k x=some (inB x (-128) 127):=by unfold dM;rw[c7,aa]
theorem xk {k:Nat} {l:ag} (hk:l.tot<k) (hN:l.tot≤b7) (fin:Option Bool):
    (iter (fun u16 n16=>cn k (l.kind,l.out,l.size,l.step,l.mult,l.shift,l.zero,l.weights,l.fX) u16 n16 (fun y9=>iter (fun u14 n14=>cp k (l.kind,l.out,l.size,l.step,l.mult,l.shift,l.zero,l.weights,l.fX) u14 n14 (fun y12=>fin) (fun y13=>some y13)) k (0:Int)) (fun y15=>some y15)) k (0:Int))
      =cond (l.fX.all (fun x=>inB x (-1000000) 1000000)) (cond (kM l.weights) fin (some false)) (some false):=by
  have hM:=bm
  unfold ag.tot at hk hN
  rw [tr l.fX (fun x => inB x (-1000000) 1000000) (yes := cond (kM l.weights) fin (some false)) (no := some false) (fun i hi next => by
    simp only[cn]
    rw[ae,if_pos (by omega),bF,aK hi,aa,c7,aa,cond_not,aU hi (by omega)]) (fun next=>by
    simp only[cn]
    rw[ae,if_neg (by omega)]
    exact tr l.weights (fun x=>inB x (-128) 127) (fun i hi next=>by
      simp only[cp]
      rw[ae,if_pos (by omega),bF,aK hi,aa,oN,aa,cond_not,aU hi (by omega)]) (fun next=>by
      simp only[cp];rw[ae,if_neg (by omega)]) (by omega)) (by omega)]
def qu (l:ag) (window weighs:Bool):Bool:=
  cond window (inB l.size 1 3&&inB l.step 1 2) (j6 l)&&cond weighs (yS l) (l7 l&&cond (decide (l.kind=4)) (inB l.zero (-128) 127) (decide (l.zero=0)))
theorem E2 (n:Nat):decide ((n:Int)>0)=!decide ((n:Int)=0):=by
  by_cases h:(n:Int)=0
  · rw[decide_eq_true h,decide_eq_false (by omega)];rfl
  · rw[decide_eq_false h,decide_eq_true (by omega)];rfl
theorem tz {k:Nat} {l:ag} (hk:l.tot<k) (hN:l.tot≤b7) (a b:Bool):lh k l a b=some (qu l a b):=by
  unfold lh qu yS l7 j6
  simp only[c7,oN,aa,cW,vl,xk hk hN,E2,Au]
  cases a<;>cases b<;>simp only[cond_true,cond_false,fx]<;>(by_cases h4:l.kind=4<;>simp only[h4,decide_true,decide_false,cond_true,cond_false,fx,Bool.and_assoc,Bool.and_true])
theorem bE {x a b:Int}:inB x a b=true↔a≤x∧x≤b:=by unfold inB;simp
theorem jf {s:Shape} {l:ag} (h:Ck s l=true):1≤l.size∧l.size≤3∧1≤l.step∧l.step≤2∧l.size≤s.h∧l.size≤s.w:=by
  simp only[Ck,Bool.and_eq_true,bE,decide_eq_true_eq]at h;omega
theorem px {l:ag} (h:yS l=true):1≤l.out∧l.out≤8:=by
  simp only[yS,Bool.and_eq_true,bE]at h;omega
theorem vm {o z c:Int} (h1:1≤o) (h2:o≤8) (h3:1≤z) (h4:z≤3) (h5:1≤c) (h6:c≤8):
    IntKind.i64.wrap (IntKind.i64.wrap (IntKind.i64.wrap (o*z)*z)*c)=o*z*z*c∧IntKind.i64.wrap (o*IntKind.i64.wrap (IntKind.i64.wrap (z*z)*c))=o*z*z*c:=by
  have a1:=kI (show 0≤o by omega) h2 (show 0≤z by omega) h4
  have a2:=kI a1.1 a1.2 (show 0≤z by omega) h4
  have a3:=kI a2.1 a2.2 (show 0≤c by omega) h6
  have b1:=kI (show 0≤z by omega) h4 (show 0≤z by omega) h4
  have b2:=kI b1.1 b1.2 (show 0≤c by omega) h6
  have b3:=kI (show 0≤o by omega) h2 b2.1 b2.2
  refine⟨?_,?_⟩
  · rw[aN (n:=o*z) (by omega) (by omega),aN (n:=o*z*z) (by omega) (by omega),aN (by omega) (by omega)]
  · rw[aN (n:=z*z) (by omega) (by omega),aN (n:=z*z*c) (by omega) (by omega),aN (by omega) (by omega),←Int.mul_assoc,←Int.mul_assoc]
theorem rZ {o:Int} {s:Shape} (h1:1≤o) (h2:o≤8):IntKind.i64.wrap (o*s.size)=o*s.size:=by
  have h:=Shape.xj s
  have a1:=kI (show 0≤o by omega) h2 h.1 h.2
  exact aN (by omega) (by omega)
theorem gg {k:Nat} {s:Shape} {l:ag} (hk:l.tot<k) (hN:l.tot≤b7):fq k s l=some (da s l):=by
  unfold fq da cN
  simp only[fR,c7,ed,tz hk hN,aa,cW,vl,Au]
  cases hs:s.okB
  · rfl
  obtain⟨c1,c2,c3,c4,c5,c6⟩:=Shape.ng hs
  simp only[cond_true,Bool.true_and]
  by_cases k0:l.kind=0
  · have e1:inB l.kind 0 5=true:=by rw[bE];omega
    have e2:inB l.kind 1 3=false:=by rw[←Bool.not_eq_true,bE];omega
    simp only[k0,e1,e2,cond_true,cond_false,qu,shapeOf,decide_true]
    simp only[k0]at e1 e2
    simp only[e1,e2,cond_true,cond_false,show decide ((0:Int)≤1)=true from rfl]
    cases j6 l
    · rfl
    cases hnum:yS l
    · rfl
    obtain⟨o1,o2⟩:=px hnum
    simp only[rZ o1 o2,Bool.true_and,cond_true]
    by_cases z:s.size≤64
    · rw[decide_eq_true z,decide_eq_false (by omega)]
      cases decide ((l.weights.length:Int)=l.out*s.size)<;>rfl
    · rw[decide_eq_false z,decide_eq_true (by omega)];rfl
  by_cases k1:l.kind=1
  · simp only[k1,qu,shapeOf,show inB 1 0 5=true from rfl,show inB 1 1 3=true from rfl,decide_true,cond_true,cond_false,show decide ((1:Int)=0)=false from rfl,show decide ((1:Int)≤1)=true from rfl]
    unfold Ck
    cases hz:inB l.size 1 3
    · rfl
    cases ht:inB l.step 1 2
    · rfl
    rw[bE]at hz ht
    simp only[Bool.true_and,cond_true]
    cases hnum:yS l
    · simp only[cond_false,Bool.false_and,Bool.and_false];rfl
    obtain⟨o1,o2⟩:=px hnum
    simp only[cond_true,Bool.true_and,(vm o1 o2 hz.1 hz.2 c5 c6).1]
    rw[decide_eq_false (show¬l.step=0 by omega)]
    simp only[cond_false]
    by_cases w1:l.size≤s.h
    · rw [decide_eq_true w1, decide_eq_false (show ¬ l.size > s.h by omega)]
      by_cases w2:l.size≤s.w
      · rw[decide_eq_true w2,decide_eq_false (show¬l.size>s.w by omega)]
        simp only[cond_false,Bool.true_and]
        cases decide ((l.weights.length:Int)=l.out*l.size*l.size*s.c)
        · rfl
        · by_cases w3:(l.weights.length:Int)≤600
          · rw[decide_eq_true w3,decide_eq_false (by omega)];rfl
          · rw[decide_eq_false w3,decide_eq_true (by omega)];rfl
      · rw[decide_eq_false w2,decide_eq_true (show l.size>s.w by omega)];rfl
    · rw[decide_eq_false w1,decide_eq_true (show l.size>s.h by omega)];rfl
  have win:l.kind=2∨l.kind=3→_:=fun h23=>by
    have e1:inB l.kind 0 5=true:=by rw[bE];omega
    have e2:inB l.kind 1 3=true:=by rw[bE];omega
    have e3:decide (l.kind≤1)=false:=decide_eq_false (by omega)
    have e4:(decide (l.kind=2)||decide (l.kind=3))=true:=by simpa using h23
    have e5:decide (l.kind=4)=false:=decide_eq_false (by omega)
    have e6:decide (l.kind=5)=false:=decide_eq_false (by omega)
    exact And.intro e1 (And.intro e2 (And.intro e3 (And.intro e4 (And.intro e5 e6))))
  by_cases h23:l.kind=2∨l.kind=3
  · obtain⟨e1,e2,e3,e4,e5,e6⟩:=win h23
    simp only[e1,e2,e3,e4,e5,e6,decide_eq_false k0,decide_eq_false k1,qu,shapeOf,cond_true,cond_false]
    unfold Ck
    cases hz:inB l.size 1 3
    · rfl
    cases ht:inB l.step 1 2
    · rfl
    rw[bE]at hz ht
    simp only[Bool.true_and,cond_true]
    rw[decide_eq_false (show¬l.step=0 by omega)]
    cases l7 l
    · simp only[Bool.false_and,Bool.and_false,cond_false];rfl
    cases decide (l.zero=0)
    · simp only[Bool.false_and,Bool.and_false,cond_false];rfl
    simp only[cond_false,cond_true,Bool.and_true,Bool.true_and]
    by_cases w1:l.size≤s.h
    · rw[decide_eq_true w1,decide_eq_false (show¬l.size>s.h by omega)]
      by_cases w2:l.size≤s.w
      · rw[decide_eq_true w2,decide_eq_false (show¬l.size>s.w by omega)];rfl
      · rw[decide_eq_false w2,decide_eq_true (show l.size>s.w by omega)];rfl
    · rw[decide_eq_false w1,decide_eq_true (show l.size>s.h by omega)];rfl
  have e4:(decide (l.kind=2)||decide (l.kind=3))=false:=by simpa using h23
  by_cases k4:l.kind=4
  · simp only[k4,e4,qu,shapeOf,show inB 4 0 5=true from rfl,show inB 4 1 3=false from rfl,decide_true,cond_true,cond_false,show decide ((4:Int)=0)=false from rfl,show decide ((4:Int)=1)=false from rfl,show decide ((4:Int)≤1)=false from rfl,
      show(decide ((4:Int)=2)||decide ((4:Int)=3))=false from rfl,show decide ((4:Int)=5)=false from rfl]
    cases j6 l<;>cases l7 l<;>cases inB l.zero (-128) 127<;>rfl
  by_cases k5:l.kind=5
  · simp only[k5,qu,shapeOf,show inB 5 0 5=true from rfl,show inB 5 1 3=false from rfl,decide_true,cond_true,cond_false,show decide ((5:Int)=0)=false from rfl,show decide ((5:Int)=1)=false from rfl,show decide ((5:Int)≤1)=false from rfl,
      show(decide ((5:Int)=2)||decide ((5:Int)=3))=false from rfl,show decide ((5:Int)=4)=false from rfl]
    by_cases z:s.size≤8
    · rw[decide_eq_true z,decide_eq_false (show¬s.size>8 by omega)]
      cases j6 l<;>cases l7 l<;>cases decide (l.zero=0)<;>rfl
    · rw[decide_eq_false z,decide_eq_true (show s.size>8 by omega)]
      cases j6 l<;>cases l7 l<;>cases decide (l.zero=0)<;>rfl
  · have e1:inB l.kind 0 5=false:=by rw[←Bool.not_eq_true,bE];omega
    simp only[e1,e4,decide_eq_false k0,decide_eq_false k1,decide_eq_false k4,decide_eq_false k5,cond_false];rfl
theorem nj (k:Nat) (l:ag):cJ k l=some (j6 l):=by
  unfold cJ j6
  simp only[Au,fx]
theorem oa (k:Nat) (l:ag):cu k l=some (l7 l):=by
  unfold cu l7
  simp only[Au,fx]
theorem l9 (k:Nat) (s:Shape) (l:ag):cf k l s=some (Ck s l):=by
  unfold cf Ck
  simp only[kK,aa,fx]
  congr 1
  rw[Bool.eq_iff_iff]
  simp only[Bool.and_eq_true,bE,decide_eq_true_eq]
  split<;>split<;>constructor<;>intro h<;>omega
theorem xl {k:Nat} {xs:List Int} (hk:xs.length<k) (hx:xs.length≤pn):aB k xs=some (!xs.all (fun x=>inB x (-1000000) 1000000)):=by
  unfold pn at hx
  unfold aB aP
  rw[vf xs (fun x=>!inB x (-1000000) 1000000) (fun i hi next=>by
    simp only[ay,ae,dW,kK,aa]
    rw[if_pos (by omega),bF,aK hi,aa,aU hi (by omega)]) (fun next=>by
    simp only[ay,ae];rw[if_neg (by omega)]) hk]
  rw[oL]
  simp only[aa,rY]
  rw[List.any_eq_not_all_not];simp
theorem ma {k:Nat} {l:ag} {n:Int} (hk:l.tot<k) (hN:l.tot≤b7):cU k l n=some (yS l&&decide ((l.weights.length:Int)=IntKind.i64.wrap (l.out*n))):=by
  have hM:=bm
  unfold ag.tot at hk hN
  unfold cU yS
  simp only[kK,aa,nh (xs:=l.weights) (k:=k) (by omega) (by unfold pn;omega),xl (xs:=l.fX) (k:=k) (by omega) (by unfold pn;omega),Au,Bool.not_not,fx]
  congr 1
  cases inB l.out 1 8<;>cases inB l.mult 0 2147483647<;>cases inB l.shift 0 31<;>cases inB l.zero (-128) 127<;>cases decide ((l.weights.length:Int)=IntKind.i64.wrap (l.out*n))<;>cases kM l.weights<;>cases decide ((l.fX.length:Int)=l.out)<;>cases l.fX.all (fun x=>inB x (-1000000) 1000000)<;>rfl
theorem eW (k:Nat) {s:Shape} {l:ag} (c:Int) (h:1≤l.step):cK k l s c=some (lq s l c):=by
  unfold cK lq
  rw[decide_eq_false (show¬l.step=0 by omega)];rfl
theorem jQ {k:Nat} {s:Shape} {l:ag} (hk:l.tot<k) (hN:l.tot≤b7):gx k s l=some (da s l):=by
  unfold gx da cN
  simp only[kL,kK,l6,nj,oa,l9,ma hk hN,aa,cW,Au]
  cases hs:s.okB
  · rfl
  obtain⟨c1,c2,c3,c4,c5,c6⟩:=Shape.ng hs
  simp only[cond_true,Bool.true_and]
  by_cases k0:l.kind=0
  · simp only[k0,shapeOf,decide_true,cond_true]
    cases hnum:yS l
    · cases decide (s.size≤64)<;>cases j6 l<;>rfl
    obtain⟨o1,o2⟩:=px hnum
    simp only[rZ o1 o2]
    cases decide (s.size≤64)<;>cases j6 l<;>cases decide ((l.weights.length:Int)=l.out*s.size)<;>rfl
  by_cases k1:l.kind=1
  · simp only[k1,shapeOf,show decide ((1:Int)=0)=false from rfl,decide_true,cond_true,cond_false]
    cases hw:Ck s l
    · rfl
    have hw:=jf hw
    cases hnum:yS l
    · cases decide ((l.weights.length:Int)≤600)<;>rfl
    obtain⟨o1,o2⟩:=px hnum
    simp only[(vm o1 o2 hw.1 hw.2.1 c5 c6).2,eW k _ hw.2.2.1,aa]
    cases decide ((l.weights.length:Int)≤600)<;>cases decide ((l.weights.length:Int)=l.out*l.size*l.size*s.c)<;>rfl
  simp only[decide_eq_false k0,decide_eq_false k1,cond_false]
  by_cases k2:l.kind=2
  · simp only[k2,shapeOf,decide_true,Bool.true_or,cond_true,cond_false,show decide ((2:Int)=0)=false from rfl,show decide ((2:Int)=1)=false from rfl,show decide ((2:Int)=4)=false from rfl,show decide ((2:Int)=5)=false from rfl]
    cases hw:Ck s l
    · rfl
    have hw:=jf hw
    simp only[eW k _ hw.2.2.1,aa]
    cases l7 l<;>cases decide (l.zero=0)<;>rfl
  by_cases k3:l.kind=3
  · simp only[k3,shapeOf,decide_true,Bool.or_true,cond_true,cond_false,show decide ((3:Int)=0)=false from rfl,show decide ((3:Int)=1)=false from rfl,show decide ((3:Int)=2)=false from rfl,show decide ((3:Int)=4)=false from rfl,show decide ((3:Int)=5)=false from rfl]
    cases hw:Ck s l
    · rfl
    have hw:=jf hw
    simp only[eW k _ hw.2.2.1,aa]
    cases l7 l<;>cases decide (l.zero=0)<;>rfl
  simp only[decide_eq_false k2,decide_eq_false k3,Bool.or_self,cond_false]
  by_cases k4:l.kind=4
  · simp only[k4,shapeOf,decide_true,cond_true,cond_false,show decide ((4:Int)=0)=false from rfl,show decide ((4:Int)=1)=false from rfl]
    cases j6 l<;>cases l7 l<;>cases inB l.zero (-128) 127<;>rfl
  by_cases k5:l.kind=5
  · simp only[k5,shapeOf,decide_true,cond_true,cond_false,show decide ((5:Int)=0)=false from rfl,show decide ((5:Int)=1)=false from rfl,show decide ((5:Int)=4)=false from rfl]
    cases j6 l<;>cases l7 l<;>cases decide (l.zero=0)<;>cases decide (s.size≤8)<;>rfl
  simp only[decide_eq_false k4,decide_eq_false k5,cond_false];rfl
def bc:Shape→List ag→Option (List Shape)
  |_,[]=>some []
  |s,l::ls=>cond (cN s l) ((bc (shapeOf s l) ls).map (shapeOf s l::·)) none
theorem iF:∀(ls:List ag) (s:Shape) (t:List Shape),bc s ls=some t→t.length=ls.length
  |[],s,t,h=>by cases h;rfl
  | l :: ls, s, t, h => by
    simp only[bc]at h
    cases hb:cN s l<;>simp only[hb,cond_true,cond_false]at h
    · exact nomatch h
    · obtain⟨t',h1,rfl⟩:=Option.map_eq_some_iff.1 h
      simp[iF ls _ _ h1]
theorem mb {R:Type} {ai:List ag} {V:Type} {st:Nat→List Shape→Shape→V} {g:V→(V→Option R)→Option R} {fin:List Shape→Option R} {bad:Option R}
    (h:∀(i:Nat) (ys:List Shape) (s:Shape) (hi:i<ai.length) (next:V→Option R),ys.length=i+1→ys[i]? =some s→g (st i ys s) next=cond (cN s ai[i]) (next (st (i+1) (ys++[shapeOf s ai[i]]) (shapeOf s ai[i]))) bad)
    (hn:∀ys s next,g (st ai.length ys s) next=fin ys):∀(rest:List ag) (i:Nat) (ys:List Shape) (s:Shape) (k:Nat),i≤ai.length→ai.drop i=rest→ys.length=i+1→ys[i]? =some s→rest.length<k→
      iter g k (st i ys s)=(bc s rest).elim bad fun t=>fin (ys++t)
  |[],i,ys,s,0,hle,hd,hl,hs,hk=>by omega
  |_::_,i,ys,s,0,hle,hd,hl,hs,hk=>by omega
  | [], i, ys, s, k + 1, hle, hd, hl, hs, hk => by
    have h1:=congrArg List.length hd
    simp only[List.length_drop,List.length_nil]at h1
    rw[fP]
    have c:i=ai.length:=by omega
    subst c;rw[hn];simp[bc]
  | l :: ls, i, ys, s, k + 1, hle, hd, hl, hs, hk => by
    have hi:i<ai.length:=by
      have h1:=congrArg List.length hd
      simp only[List.length_drop,List.length_cons]at h1
      omega
    rw[kH hi]at hd
    injection hd with h1 h2
    rw[fP,h i ys s hi _ hl hs,h1]
    simp only[bc]
    cases hb:cN s l
    · rfl
    · simp only[cond_true]
      rw[mb h hn ls (i+1) (ys++[shapeOf s l]) (shapeOf s l) k (by omega) h2 (by simp[hl]) (by rw[List.getElem?_append_right (by omega),hl];simp) (by simpa using hk)]
      cases bc (shapeOf s l) ls with
      |none=>rfl
      |some t=>simp
def bJ (m:Model):List Shape× Bool:=cond (m.inp.okB&&inB (m.ai.length:Int) 1 6) ((bc m.inp m.ai).elim ([],false) fun t=>(m.inp::t,true)) ([],false)
theorem nk {m:Model} {k:Nat} (hk:m.tot<k) (hN:m.tot≤b7) {l:ag} (h:l∈m.ai):l.tot<k∧l.tot≤b7:=by
  have:=pk ag.tot h
  unfold Model.tot at hk hN
  omega
theorem fy {m:Model} {k:Nat} (hk:m.tot<k) (hN:m.tot≤b7):m.ai.length<k∧m.ai.length≤b7:=by
  have:=tu ag.tot m.ai
  unfold Model.tot at hk hN
  omega
theorem iG {k:Nat} {m:Model} (hk:m.tot<k) (hN:m.tot≤b7):ft k m=some (bJ m):=by
  have hM:=bm
  obtain⟨hlk,hlN⟩:=fy hk hN
  unfold ft bJ
  simp only[fR,c7,aa,cW]
  cases m.inp.okB
  · rfl
  cases hlen:inB (m.ai.length:Int) 1 6
  · rfl
  rw[bE]at hlen
  simp only[cond_true,Bool.true_and]
  have:=mb (ai:=m.ai) (V:=Int× List Shape) (st:=fun i ys s=>((i:Int),ys)) (fin:=fun y=>some (y,true)) (bad:=some (([]:List Shape),false))
    (g:=fun u next=>ct k (m.inp.h,m.inp.w,m.inp.c,m.ai) u next (fun y6=>some (y6,true)) (fun y7=>some (([]:List Shape),y7))) (fun i ys s hi next hl hs=>by
      obtain⟨a1,a2⟩:=nk hk hN (List.getElem_mem hi)
      simp only[ct]
      rw[ae,if_pos (by omega),ae,if_pos (by omega),Int.toNat_natCast,hs,aa,bF,aK hi,aa,gg a1 a2,aa,aU hi (by omega),j1 (by simp;omega)]
      unfold da
      cases cN s m.ai[i]<;>rfl) (fun ys s next=>by
      simp only[ct];rw[ae,if_neg (by omega)]) m.ai 0 [m.inp] m.inp k (by omega) rfl rfl rfl hlk
  refine this.trans ?_
  cases bc m.inp m.ai<;>rfl
def nm (m:Model):List Shape× Bool:=(bc m.inp m.ai).elim ([],false) fun t=>(m.inp::t,true)
theorem jg {k:Nat} {m:Model} (hk:m.tot<k) (hN:m.tot<b7):dN k m=some (nm m):=by
  have hM:=bm
  obtain⟨hlk,hlN⟩:=fy hk (Nat.le_of_lt hN)
  have hb:m.ai.length+1≤b7:=by have:=tu ag.tot m.ai;unfold Model.tot at hN;omega
  unfold dN nm
  have := mb (ai := m.ai) (V := Int × List Shape × Int × Int × Int) (st := fun i ys s => ((i : Int), ys, s.h, s.w, s.c)) (fin := fun y => some (y, true)) (bad := some (([] : List Shape), false))
      (g:=fun u next=>bO k (m.ai,(m.ai.length:Int)) u next (fun y3=>some (y3,true)) (fun y4=>some (([]:List Shape),y4))) (fun i ys s hi next hl hs=>by
        obtain⟨a1,a2⟩:=nk hk (Nat.le_of_lt hN) (List.getElem_mem hi)
        simp only[bO]
        rw[ae,if_pos (by omega),bF,aK hi,aa,jQ a1 a2,aa,aU hi (by omega),j1 (by simp;omega)]
        unfold da
        cases cN s m.ai[i]<;>rfl) (fun ys s next=>by
        simp only[bO];rw[ae,if_neg (by omega)]) m.ai 0 [m.inp] m.inp k (by omega) rfl rfl rfl hlk
  refine this.trans ?_
  cases bc m.inp m.ai<;>rfl
theorem Ab {s:Shape} {ls:List ag} (hs:s.okB=false) (hl:ls≠[]):bc s ls=none:=by
  cases ls with
  |nil=>exact(hl rfl).elim
  |cons l ls=>simp[bc,cN,hs]
def cd (m:Model):Bool:=(bJ m).2
theorem oO {m:Model} (h:inB (m.ai.length:Int) 1 6=true):nm m=bJ m:=by
  unfold nm bJ
  rw[h,Bool.and_true]
  cases hs:m.inp.okB
  · rw[Ab hs (fun e=>by rw[e]at h;exact nomatch h)];rfl
  · rfl
theorem sa {m:Model} (h:inB (m.ai.length:Int) 1 6=false):cd m=false:=by
  unfold cd bJ;rw[h,Bool.and_false];rfl
theorem vn {k:Nat} {m:Model} (hk:m.tot<k) (hN:m.tot≤b7):mU k m=some (cd m):=by
  unfold mU
  rw[iG hk hN];rfl
theorem oQ {k:Nat} {m:Model} (hk:m.tot<k) (hN:m.tot<b7):kJ k m=some (cd m):=by
  unfold kJ
  rw[kK,aa,cW,jg hk hN]
  cases h:inB (m.ai.length:Int) 1 6
  · rw[sa h];rfl
  · rw[oO h];rfl
def bd (m:Model):List Shape:=cond (cd m) (bJ m).1 []
theorem np {k:Nat} {m:Model} (hk:m.tot<k) (hN:m.tot<b7):iZ k m=some (bd m):=by
  unfold iZ bd
  rw[oQ hk hN,aa,cW,jg hk hN]
  cases h:cd m
  · rfl
  · have:inB (m.ai.length:Int) 1 6=true:=by
      cases h2:inB (m.ai.length:Int) 1 6
      · rw[sa h2]at h;exact nomatch h
      · rfl
    rw[oO this];rfl
theorem ik {m:Model} (h:cd m=true):(bd m).length=m.ai.length+1:=by
  unfold bd
  rw[h,cond_true]
  unfold cd at h
  unfold bJ at h⊢
  cases h1:(m.inp.okB&&inB (m.ai.length:Int) 1 6)<;>rw[h1]at h
  · exact nomatch h
  · simp only[cond_true]at h⊢
    cases h2:bc m.inp m.ai with
    |none=>rw[h2]at h;exact nomatch h
    |some t=>simp[iF _ _ _ h2]
def vo (s t:Shape) (l:ag):Int:=
  cond (decide (l.kind=0)) (IntKind.i64.wrap (1+(IntKind.i64.wrap ((IntKind.i64.wrap (t.size*s.size)).tdiv 16))))
  (cond (decide (l.kind=1)) (IntKind.i64.wrap (1+(IntKind.i64.wrap ((IntKind.i64.wrap ((IntKind.i64.wrap ((IntKind.i64.wrap (t.size*l.size))*l.size))*s.c)).tdiv 16))))
  (cond (decide (l.kind=2)) (IntKind.i64.wrap (1+(IntKind.i64.wrap ((IntKind.i64.wrap ((IntKind.i64.wrap (t.size*l.size))*l.size)).tdiv 16))))
  (cond (decide (l.kind=3)) (IntKind.i64.wrap (1+(IntKind.i64.wrap ((IntKind.i64.wrap ((IntKind.i64.wrap (t.size*l.size))*l.size)).tdiv 16))))
   (IntKind.i64.wrap (1+(IntKind.i64.wrap (s.size.tdiv 16)))))))
def nq (s:Shape) (l:ag):Int:=cond (da s l).2 (vo s (da s l).1 l) 0
theorem xm {k:Nat} {s:Shape} {l:ag} (hk:l.tot<k) (hN:l.tot≤b7):pq k s l=some (nq s l):=by
  unfold pq nq vo
  simp only[gg hk hN,ed,aa,cW,Au]
  cases(da s l).2
  · rfl
  simp only[cond_true]
  cases decide (l.kind=0)<;>cases decide (l.kind=1)<;>cases decide (l.kind=2)<;>cases decide (l.kind=3)<;>rfl
theorem xn {k:Nat} {s:Shape} {l:ag} (hk:l.tot<k) (hN:l.tot≤b7):pt k s l=some (nq s l):=by
  unfold pt nq vo
  simp only[jQ hk hN,l6,aa,cW,Au]
  rw[Int.mul_comm s.size]
  cases(da s l).2
  · rfl
  simp only[cond_true]
  cases decide (l.kind=0)<;>cases decide (l.kind=1)<;>cases decide (l.kind=2)<;>cases decide (l.kind=3)<;>rfl
def b5 (m:Model):List Int:=cond (cd m) ((List.range m.ai.length).map fun i=>nq ((bd m).getD i dJ) (m.ai.getD i ⟨0,0,0,0,0,0,0,[],[]⟩)) []
theorem cc {α:Type} {xs:List α} {i:Nat} (h:i<xs.length) (d:α):xs.getD i d=xs[i]:=by rw[List.getD_eq_getElem?_getD,aK h];rfl
theorem vp {k:Nat} {m:Model} (hk:m.tot<k) (hN:m.tot≤b7):mV k m=some (b5 m):=by
  have hM:=bm
  obtain⟨hlk,hlN⟩:=fy hk hN
  unfold mV b5
  rw[iG hk hN,aa,cW]
  show cond (cd m) _ _=_
  cases h:cd m
  · rfl
  have hsl:=ik h
  have e:(bJ m).1=bd m:=by unfold bd;rw[h];rfl
  simp only[cond_true,e]
  exact Cj m.ai.length _ (g:=fun u next=>dj k (m.inp.h,m.inp.w,m.inp.c,m.ai,bd m) u next (fun y5=>some y5)) (fin:=some) (fun i ys hi next hl=>by
    obtain⟨a1,a2⟩:=nk hk hN (List.getElem_mem hi)
    simp only[dj]
    rw[ae,if_pos (by omega),ae,if_pos (by omega),Int.toNat_natCast,aK (show i<(bd m).length by omega),aa,bF,aK hi,aa,xm a1 a2,aa,j1 (by simp;omega),aU hi (by omega),cc (show i<(bd m).length by omega),cc hi]) (fun ys next=>by
    simp only[dj];rw[ae,if_neg (by omega)]) hlk
theorem kN {k:Nat} {m:Model} (hk:m.tot+1<k) (hN:m.tot<b7):ja k m=some (b5 m):=by
  have hM:=bm
  obtain⟨hlk,hlN⟩:=fy (show m.tot<k-1 by omega) (Nat.le_of_lt hN)
  unfold ja b5
  rw[np (by omega) hN,aa]
  cases h:cd m
  · have:bd m=[]:=by unfold bd;rw[h];rfl
    rw[this]
    cases k with
    |zero=>omega
    |succ k=>rfl
  have hsl:=ik h
  simp only[cond_true]
  rw[hsl]
  have := fE (R := List Int) (g := fun u next => dk k (((m.ai.length + 1 : Nat) : Int), m.inp.h, m.inp.w, m.inp.c, m.ai, bd m) u next (fun y5 => some y5)) (n := m.ai.length + 1)
    (st:=fun i=>((i:Int),(List.range (min i m.ai.length)).map fun i=>nq ((bd m).getD i dJ) (m.ai.getD i ⟨0,0,0,0,0,0,0,[],[]⟩)))
    (r := some ((List.range m.ai.length).map fun i => nq ((bd m).getD i dJ) (m.ai.getD i ⟨0, 0, 0, 0, 0, 0, 0, [], []⟩))) (fun i hi next => by
      simp only[dk]
      rw[ae,if_pos (by omega),ae,if_pos (by omega),Int.toNat_natCast,aK (show i<(bd m).length by omega),aa,aU hi (by omega),ae]
      by_cases c:i<m.ai.length
      · obtain⟨a1,a2⟩:=nk (show m.tot<k by omega) (Nat.le_of_lt hN) (List.getElem_mem c)
        rw[if_pos (by omega),bF,aK c,aa,xn a1 a2,aa,j1 (by simp;omega),Nat.min_eq_left (by omega),Nat.min_eq_left (by omega),List.range_succ,List.map_append,List.map_singleton,cc (show i<(bd m).length by omega),cc c]
      · rw[if_neg (by omega),Nat.min_eq_right (by omega),Nat.min_eq_right (by omega)]) (fun next=>by
      simp only[dk]
      rw[ae,if_neg (by omega),Nat.min_eq_right (by omega)]) (k:=k) (by omega)
  simpa using this
def kO (m:Model):Int:=(b5 m).foldl (fun s x=>IntKind.i64.wrap (s+x)) 0
theorem qv (m:Model):(b5 m).length≤m.ai.length:=by
  unfold b5
  cases cd m<;>simp
theorem yU {k:Nat} {xs:List Int} (hk:xs.length<k) (hN:xs.length≤b7):DH k xs=some (xs.foldl (fun s x=>IntKind.i64.wrap (s+x)) 0):=by
  have hM:=bm
  exact vg xs (fun s x=>IntKind.i64.wrap (s+x)) (g:=fun u next=>jJ k (xs,(xs.length:Int)) u next (fun y2=>some y2)) (fin:=some) 0 (fun i s hi next _=>by
    simp only[jJ]
    rw[ae,if_pos (by omega),bF,aK hi,aa,aU hi (by omega)]) (fun next=>by
    simp only[jJ];rw[ae,if_neg (by omega)]) hk
theorem qW {k:Nat} {m:Model} (hk:m.tot+1<k) (hN:m.tot<b7):jK k m=some (kO m):=by
  obtain⟨hlk,hlN⟩:=fy (show m.tot<k by omega) (Nat.le_of_lt hN)
  have hc:=qv m
  unfold jK
  rw[kN hk hN,aa,yU (by omega) (by omega)];rfl
end Go.Proofs.Ev
set_option linter.unusedVariables false
set_option linter.unusedSimpArgs false
namespace Go.Proofs.Ev
end Go.Proofs.Ev
set_option linter.unusedVariables false
set_option linter.unusedSimpArgs false
namespace Go.Proofs.Ev
end Go.Proofs.Ev
set_option linter.unusedVariables false
set_option linter.unusedSimpArgs false
namespace Go.Proofs.Ev
end Go.Proofs.Ev
set_option linter.unusedVariables false
set_option linter.unusedSimpArgs false
namespace Go.Proofs.Ev
def block (s:CH) (d:Int):Int:=(s.tasks.findIdx? fun t=>t.id==s.run).elim 0 fun i=>(s.tasks[i]?).elim 0 fun t=>cond (decide (t.due>d)) s.left 0
end Go.Proofs.Ev
set_option linter.unusedVariables false
set_option linter.unusedSimpArgs false
namespace Go.Proofs.Ev
end Go.Proofs.Ev
set_option linter.unusedVariables false
set_option linter.unusedSimpArgs false
namespace Go.Proofs.Ev
end Go.Proofs.Ev
set_option linter.unusedVariables false
set_option linter.unusedSimpArgs false
namespace Go.Proofs.Ev
end Go.Proofs.Ev
set_option linter.unusedVariables false
set_option linter.unusedSimpArgs false
namespace Go.Proofs.Ev
def ao {α:Type} (o:Option α) (Q:α→Prop):Prop:=∃r,o=some r∧Q r
theorem ao.bind {α β:Type} {o:Option α} {P:α→Prop} {f:α→Option β} {Q:β→Prop} (h:ao o P) (hf:∀a,P a→ao (f a) Q):ao (o.bind f) Q:=by
  obtain⟨r,e,hp⟩:=h
  rw[e];exact hf r hp
theorem ao.some {α:Type} {a:α} {Q:α→Prop} (h:Q a):ao (some a) Q:=⟨a,rfl,h⟩
theorem ao.cond {α:Type} {b:Bool} {x y:Option α} {Q:α→Prop} (h1:b=true→ao x Q) (h2:b=false→ao y Q):ao (cond b x y) Q:=by
  cases b
  · exact h2 rfl
  · exact h1 rfl
theorem ao.mono {α:Type} {o:Option α} {P Q:α→Prop} (h:ao o P) (hq:∀a,P a→Q a):ao o Q:=by
  obtain⟨r,e,hp⟩:=h
  exact⟨r,e,hq r hp⟩
theorem ao.iter {V R:Type} {g:V→(V→Option R)→Option R} {Inv:V→Prop} {m:V→Nat} {Q:R→Prop}
    (h:∀(v:V) (next:V→Option R),Inv v→(∀u,Inv u→m u<m v→ao (next u) Q)→ao (g v next) Q):∀(k:Nat) (v:V),Inv v→m v<k→ao (iter g k v) Q
  |0,v,_,hk=>by omega
  | k + 1, v, hv, hk => by
    rw[fP]
    exact h v _ hv fun u hu hm=>ao.iter h k u hu (by omega)
def Cur (b:List Int) (i:Int):Prop:=0≤i∧i≤b.length
theorem D9 (x:BitVec IntKind.i64.bits):0≤IntKind.i64.wrap (((x&&& BitVec.ofInt IntKind.i64.bits (255:Int)).toNat:Int))∧IntKind.i64.wrap (((x&&& BitVec.ofInt IntKind.i64.bits (255:Int)).toNat:Int))≤255:=by
  have h1:(x&&& BitVec.ofInt IntKind.i64.bits (255:Int)).toNat≤255:=by
    rw[BitVec.toNat_and]
    have:(BitVec.ofInt IntKind.i64.bits (255:Int)).toNat=255:=by decide
    rw[this];exact Nat.and_le_right
  rw[aN (by omega) (by omega)]
  omega
theorem lr {k:Nat} {b:List Int} {i h:Int} (hb:b.length≤1048576) (hc:Cur b i):ao (dZ k b i h) fun r=>(0≤r.1∧r.1≤255)∧Cur b r.2.1:=by
  unfold Cur at hc
  unfold dZ
  refine ao.cond (fun h1=>?_) fun h1=>?_
  · have h1:=of_decide_eq_true h1
    have hi:i.toNat<b.length:=by omega
    rw[tp _ hc.1,aK hi,aa,decide_eq_true rfl]
    refine ao.some ⟨D9 _,?_⟩
    show Cur b (IntKind.i64.wrap (i+1))
    rw[aN (by omega) (by omega)]
    unfold Cur;omega
  · rw[decide_eq_true rfl]
    exact ao.some ⟨D9 _,hc⟩
theorem tA {x n:Int} (h0:0≤x) (hn:0<n):0≤x.tmod n∧x.tmod n<n:=⟨Int.tmod_nonneg n h0,Int.tmod_lt_of_pos x hn⟩
theorem aO {k:Nat} {b:List Int} {i h n:Int} (hb:b.length≤1048576) (hc:Cur b i):ao (ab k b i h n) fun r=>(0≤r.1∧(0<n→r.1<n)∧(n≤0→r.1=0))∧Cur b r.2.1:=by
  unfold ab
  refine ao.cond (fun h1=>?_) fun h1=>ao.cond (fun h2=>?_) fun h2=>?_
  · have h1:=of_decide_eq_true h1
    rw[decide_eq_true rfl]
    exact ao.some ⟨⟨Int.le_refl _,fun h=>by omega,fun _=>rfl⟩,hc⟩
  · have h1:=of_decide_eq_false h1
    refine(lr hb hc).bind fun r ⟨hr,hc1⟩=>?_
    rw[decide_eq_false (show¬n=0 by omega),decide_eq_true rfl]
    have:=tA (x:=r.1) (n:=n) hr.1 (by omega)
    exact ao.some ⟨⟨this.1,fun _=>this.2,fun h=>by omega⟩,hc1⟩
  · have h1:=of_decide_eq_false h1
    refine(lr hb hc).bind fun r ⟨hr,hc1⟩=>(lr hb hc1).bind fun r2 ⟨hr2,hc2⟩=>(lr hb hc2).bind fun r3 ⟨hr3,hc3⟩=>?_
    rw[decide_eq_false (show¬n=0 by omega),decide_eq_true rfl]
    rw[aN (n:=r.1*65536) (by omega) (by omega),aN (n:=r2.1*256) (by omega) (by omega),aN (n:=r.1*65536+r2.1*256) (by omega) (by omega),aN (n:=r.1*65536+r2.1*256+r3.1) (by omega) (by omega)]
    have:=tA (x:=r.1*65536+r2.1*256+r3.1) (n:=n) (by omega) (by omega)
    exact ao.some ⟨⟨this.1,fun _=>this.2,fun h=>by omega⟩,hc3⟩
theorem fA {k:Nat} {b:List Int} {i h:Int} {xs:List Int} (hb:b.length≤1048576) (hc:Cur b i) (hx:0<xs.length):ao (aR k b i h xs) fun r=>r.1∈xs∧Cur b r.2.1:=by
  unfold aR
  refine(aO hb hc).bind fun r ⟨⟨h0,h1,_⟩,hc1⟩=>?_
  have:=h1 (by omega)
  have hi:r.1.toNat<xs.length:=by omega
  rw[tp _ h0,aK hi,aa,decide_eq_true rfl]
  exact ao.some ⟨List.getElem_mem hi,hc1⟩
theorem oc {k:Nat} {b:List Int} {i h n:Int} (hb:b.length≤1048576) (hc:Cur b i):ao (fv k b i h n) fun r=>Cur b r.2.1:=by
  unfold fv
  refine(aO hb hc).bind fun r ⟨_,hc1⟩=>?_
  rw[decide_eq_true rfl]
  exact ao.some hc1
theorem Cl {k:Nat} {b:List Int} (hb:b.length≤1048576) (hk:b.length<k):ao (ln k b) fun r=>Cur b r.1:=by
  unfold ln
  refine ao.iter (Inv:=fun v:Int× Int=>0≤v.2∧v.2≤b.length) (m:=fun v=>b.length-v.2.toNat) (fun v next hv hn=>?_) k _ (by constructor<;>simp) (by simp;omega)
  unfold eT
  have fin:ao (cond (decide (b=b)) (some ((0:Int),v.1)) none) fun r=>Cur b r.1:=by
    rw[decide_eq_true rfl]
    exact ao.some ⟨Int.le_refl _,by show(0:Int)≤b.length;omega⟩
  refine ao.cond (fun h1=>ao.cond (fun h2=>?_) fun h2=>fin) fun h1=>fin
  have h1:=of_decide_eq_true h1
  have hi:v.2.toNat<b.length:=by omega
  rw[tp _ hv.1,aK hi,aa]
  have e:IntKind.i64.wrap (v.2+1)=v.2+1:=aN (by omega) (by omega)
  rw[e]
  exact hn _ (by simp only;omega) (by simp only;omega)
end Go.Proofs.Ev
set_option linter.unusedVariables false
set_option linter.unusedSimpArgs false
namespace Go.Proofs.Ev
theorem ao.must {α:Type} {p:Prop} {i:Decidable p} {x y:Option α} {Q:α→Prop} (h:p) (hx:ao x Q):ao (bif (@decide p i)then x else y) Q:=by
  rw[decide_eq_true h];exact hx
theorem ao.ble {α:Type} {a b:Nat} {x y:Option α} {Q:α→Prop} (h:a≤b) (hx:ao x Q):ao (bif (Nat.ble a b)then x else y) Q:=by
  rw[Nat.ble_eq_true_of_le h];exact hx
end Go.Proofs.Ev
set_option linter.unusedVariables false
set_option linter.unusedSimpArgs false
namespace Go.Proofs.Ev
theorem vq (n:Int):∃q:Int,IntKind.i64.wrap n=n+18446744073709551616*q:=by
  have h:IntKind.i64.wrap n=if n %18446744073709551616≥9223372036854775808 then n %18446744073709551616-18446744073709551616 else n %18446744073709551616:=by
    unfold IntKind.wrap
    simp[IntKind.bits,IntKind.signed]
  rw[h]
  by_cases c:n %18446744073709551616≥9223372036854775808
  · rw[if_pos c];exact⟨-(n/18446744073709551616)-1,by omega⟩
  · rw[if_neg c];exact⟨-(n/18446744073709551616),by omega⟩
theorem od {a b:Int} (q:Int) (h:a=b+18446744073709551616*q):IntKind.i64.wrap a=IntKind.i64.wrap b:=by
  subst h
  unfold IntKind.wrap
  simp[IntKind.bits,IntKind.signed]
end Go.Proofs.Ev
set_option linter.unusedVariables false
set_option linter.unusedSimpArgs false
namespace Go.Proofs.Ev
theorem oe {k:Nat} {l:ag} (hN:l.tot≤b7):fG k l=some l:=by
  unfold ag.tot at hN
  unfold fG
  rw[cM (by omega),aa,cM (by omega)];rfl
theorem oh {k:Nat} {xs:List ag} (hk:oK ag.tot xs<k) (hN:oK ag.tot xs≤b7):iB k xs=some xs:=by
  have hM:=bm
  have hl:=tu ag.tot xs
  have:=yR xs (fun x=>x) (g:=fun u next=>bP k (xs,(xs.length:Int)) u next (fun y3=>some y3)) (fin:=some) (fun i ys hi next hys=>by
    have hm:=pk ag.tot (List.getElem_mem hi)
    simp only[bP]
    rw[ae,if_pos (by omega),bF,aK hi,aa,oe (by omega),aa,j1 (by omega),aU hi (by omega)]) (fun ys next=>by
    simp only[bP];rw[ae,if_neg (by omega)]) (k:=k) (by omega)
  rw[List.map_id']at this
  exact this
theorem om {k:Nat} {m:Model} (hk:m.tot<k) (hN:m.tot≤b7):fH k m=some m:=by
  unfold Model.tot at hk hN
  unfold fH
  rw[oh (by omega) (by omega)];rfl
theorem eX {k:Nat} {j:Job} (hk:j.tot<k) (hN:j.tot≤b7):dm k j=some j:=by
  unfold Job.tot al.tot at hk hN
  unfold dm
  rw[om (by omega) (by omega),aa,ni (by omega)];rfl
end Go.Proofs.Ev
set_option linter.unusedVariables false
set_option linter.unusedSimpArgs false
namespace Go.Proofs.Ev
def Ea (xs:List Int):Int:=xs.foldl (fun s x=>IntKind.i64.wrap (s+x)) 0
theorem xo (a b:Shape):(cond (a.h==b.h) (cond (a.w==b.w) (cond (a.c==b.c) (true) false) false) false)=decide (a=b):=by
  obtain⟨a1,a2,a3⟩:=a
  obtain⟨b1,b2,b3⟩:=b
  by_cases h1:a1=b1<;>by_cases h2:a2=b2<;>by_cases h3:a3=b3<;>simp[h1,h2,h3]
def lA (j:Job):Bool:=cd j.model&&(inB j.at_ 0 j.model.ai.length&&(j.act.okB&&(decide (j.act.sh=(bd j.model).getD j.at_.toNat dJ)&&decide (j.cS=Ea ((b5 j.model).take j.at_.toNat)))))
theorem il {m:Model} (h:cd m=true):(b5 m).length=m.ai.length:=by
  unfold b5
  rw[h];simp
theorem gA {k:Nat} {j:Job} (hk:j.tot+1<k) (hN:j.tot<b7):jL k j=some (lA j):=by
  have hM:=bm
  unfold Job.tot al.tot at hk hN
  have hmk:j.model.tot+1<k:=by omega
  have hmN:j.model.tot<b7:=by omega
  obtain⟨hlk,hlN⟩:=fy (show j.model.tot<k by omega) (Nat.le_of_lt hmN)
  unfold jL lA
  rw[oQ (by omega) hmN,aa]
  cases hm:cd j.model
  · rfl
  have hsl:=ik hm
  have hcl:=il hm
  simp only[cond_true,Bool.true_and,kK,aa]
  cases hin:inB j.at_ 0 j.model.ai.length
  · rfl
  rw[bE]at hin
  simp only[cond_true,Bool.true_and]
  rw[jP (by omega) (by unfold pn;omega),aa]
  cases j.act.okB
  · rfl
  have hi:j.at_.toNat<(bd j.model).length:=by omega
  simp only[cond_true,Bool.true_and]
  rw[np (by omega) hmN,aa,ae,if_pos (by omega),aK hi,aa,xo,cc hi]
  cases decide (j.act.sh=(bd j.model)[j.at_.toNat])
  · rfl
  simp only[cond_true,Bool.true_and]
  have htl:(((b5 j.model).drop 0).take (j.at_.toNat-0)).length≤(b5 j.model).length:=by simp;omega
  rw[kN hmk hmN,aa,ae,if_pos (by omega),yU (by omega) (by omega),aa,Au,List.drop_zero,Nat.sub_zero]
  rfl
theorem Ac {k:Nat} {j:Job} (hk:j.tot<k) (hN:j.tot≤b7):tv k j=some (lA j):=by
  have hM:=bm
  unfold Job.tot al.tot at hk hN
  have hmk:j.model.tot<k:=by omega
  have hmN:j.model.tot≤b7:=by omega
  obtain⟨hlk,hlN⟩:=fy hmk hmN
  unfold tv lA
  rw[iG hmk hmN,aa,cW]
  show cond (cd j.model) _ _=_
  cases hm:cd j.model
  · rfl
  have hsl:=ik hm
  have hcl:=il hm
  have e:(bJ j.model).1=bd j.model:=by unfold bd;rw[hm];rfl
  simp only[cond_true,Bool.true_and,c7,aa,cW,e]
  cases hin:inB j.at_ 0 j.model.ai.length
  · rfl
  rw[bE]at hin
  simp only[cond_true,Bool.true_and]
  rw[gf (by omega) (by unfold pn;omega),aa]
  cases j.act.okB
  · rfl
  have hi:j.at_.toNat<(bd j.model).length:=by omega
  simp only[cond_true,Bool.true_and]
  rw[ae,if_pos (by omega),aK hi,aa,xo,cc hi]
  cases decide (j.act.sh=(bd j.model)[j.at_.toNat])
  · rfl
  simp only[cond_true,Bool.true_and]
  rw[vp hmk hmN,aa]
  have htl:((b5 j.model).take j.at_.toNat).length=j.at_.toNat:=by simp;omega
  have:=vg ((b5 j.model).take j.at_.toNat) (fun s x=>IntKind.i64.wrap (s+x)) (R:=Bool)
    (g:=fun u next=>fu k (j.model.inp.h,j.model.inp.w,j.model.inp.c,j.model.ai,j.at_,j.act.sh.h,j.act.sh.w,j.act.sh.c,j.act.data,j.cS,b5 j.model) u next (fun y7=>some (j.cS==y7))) (fin:=fun y7=>some (j.cS==y7)) 0 (fun i s hi next _=>by
      rw[htl]at hi
      have hi2:i<(b5 j.model).length:=by omega
      simp only[fu]
      rw[ae,if_pos (by omega),ae,if_pos (by omega),Int.toNat_natCast,aK hi2,aa,aU hi2 (by omega),List.getElem_take]) (fun next=>by
      simp only[fu];rw[ae,if_neg (by omega)]) (k:=k) (by omega)
  rw[this,Au]
  rfl
def Gs:Job:=⟨⟨⟨0,0,0⟩,[]⟩,0,⟨⟨0,0,0⟩,[]⟩,0⟩
def jR (m:Model) (t:al):Job× Bool:=cond (lA ⟨m,0,t,0⟩) (⟨m,0,t,0⟩,true) (Gs,false)
theorem tB {k:Nat} {m:Model} {t:al} (hk:m.tot+t.tot+1<k) (hN:m.tot+t.tot<b7):lj k m t=some (jR m t):=by
  unfold lj jR
  rw[gA (by simp only[Job.tot];omega) (by simp only[Job.tot];omega),aa,cW]
  cases lA ⟨m,0,t,0⟩
  · rfl
  · simp only[cond_true]
    rw[eX (by simp only[Job.tot];omega) (by simp only[Job.tot];omega)];rfl
end Go.Proofs.Ev
set_option linter.unusedVariables false
set_option linter.unusedSimpArgs false
namespace Go.Proofs.Ev
def sat (a b x:Int):Int:=if x<a then a else if x>b then b else x
theorem vr {a b:Int} (h:a≤b) (x:Int):a≤sat a b x∧sat a b x≤b:=by
  unfold sat
  by_cases h1:x<a
  · rw[if_pos h1];omega
  · rw[if_neg h1]
    by_cases h2:x>b
    · rw[if_pos h2];omega
    · rw[if_neg h2];omega
theorem Eb {a b x:Int} (h1:a≤x) (h2:x≤b):sat a b x=x:=by
  unfold sat;rw[if_neg (by omega),if_neg (by omega)]
theorem kP {k:Nat} {x a b:Int} (h:a≤b):jb k x a b=some (sat a b x):=by
  unfold jb sat
  rw[ae,ae,ae]
  by_cases h1:x<a
  · rw[if_pos h1,if_pos h1]
  · rw[if_neg h1,if_neg h1,if_neg (by omega)]
    by_cases h2:x>b
    · rw[if_pos h2,if_pos h2]
    · rw[if_neg h2,if_neg h2]
theorem tC {k:Nat} {x a b:Int} (h:a≤b):zZ k x a b=some (sat a b x):=by
  unfold zZ sat
  congr 1
  repeat' split
  all_goals omega
def qw (x:Int):Int:=sat (-128) 127 x
def eg (x:Int):Int:=sat (-2147483648) 2147483647 x
theorem qx (x:Int):-128≤qw x∧qw x≤127:=vr (by omega) x
theorem gi (x:Int):-2147483648≤eg x∧eg x≤2147483647:=vr (by omega) x
theorem vt (k:Nat) (x:Int):qp k x=some (qw x):=by unfold qp qw;rw[kP (by omega),aa]
theorem oo (k:Nat) (x:Int):iC k x=some (eg x):=by unfold iC eg;rw[kP (by omega),aa]
theorem vu (k:Nat) (x:Int):qt k x=some (qw x):=by unfold qt qw;rw[tC (by omega),aa]
theorem oq (k:Nat) (x:Int):iD k x=some (eg x):=by unfold iD eg;rw[tC (by omega),aa]
def j3 (a b:Int):Int:=eg (eg a+eg b)
theorem jS (k:Nat) (a b:Int):ib k a b=some (j3 a b):=by
  have h1:=gi a
  have h2:=gi b
  unfold ib j3
  simp only[oo,aa]
  rw[aN (by omega) (by omega)]
theorem qy (k:Nat) (a b:Int):m7 k a b=some (j3 a b):=by
  have h1:=gi a
  have h2:=gi b
  unfold m7 j3
  simp only[oq,aa]
  rw[aN (by omega) (by omega)]
theorem E3 {x y A B:Int} (hx:-A≤x∧x≤A) (hy:-B≤y∧y≤B):-(A*B)≤x*y∧x*y≤A*B:=by
  have h1:=Int.mul_nonneg (show 0≤A-x by omega) (show 0≤B+y by omega)
  have h2:=Int.mul_nonneg (show 0≤A+x by omega) (show 0≤B-y by omega)
  have h3:=Int.mul_nonneg (show 0≤A-x by omega) (show 0≤B-y by omega)
  have h4:=Int.mul_nonneg (show 0≤A+x by omega) (show 0≤B+y by omega)
  simp only[Int.sub_mul,Int.add_mul,Int.mul_add,Int.mul_sub]at h1 h2 h3 h4
  omega
def jT (a b:Int):Int:=eg ((eg a*eg b+1073741824)/2147483648)
theorem vw {k:Nat} {a:Int} (h1:-4611686018427387904≤a∧a≤9223372036854775807):mW k a 2147483648=some (a/2147483648):=by
  have e:=Int.mul_tdiv_add_tmod a 2147483648
  have h2:=Int.tmod_lt_of_pos a (show(0:Int)<2147483648 by omega)
  unfold mW
  rw[ae,if_neg (by omega),ae,if_neg (by omega),ae]
  by_cases c:0≤a
  · have h3:=Int.tmod_nonneg 2147483648 c
    rw[if_neg (by omega),aN (by omega) (by omega)]
    congr 1;omega
  · have h3:=Int.tmod_nonneg 2147483648 (show 0≤-a by omega)
    have h4:=Int.tmod_lt_of_pos (-a) (show(0:Int)<2147483648 by omega)
    rw[Int.neg_tmod]at h3 h4
    by_cases c2:a.tmod 2147483648<0
    · rw[if_pos c2,aN (n:=a.tdiv 2147483648) (by omega) (by omega),aN (by omega) (by omega)]
      congr 1;omega
    · rw[if_neg c2,aN (by omega) (by omega)]
      congr 1;omega
theorem Ec (a b:Int):-4611686018427387904≤eg a*eg b∧eg a*eg b≤4611686018427387904:=
  E3 (A:=2147483648) (B:=2147483648) (by have:=gi a;omega) (by have:=gi b;omega)
theorem vx (k:Nat) (a b:Int):mX k a b=some (jT a b):=by
  have h:=Ec a b
  unfold mX jT
  simp only[oo,aa]
  rw[aN (n:=eg a*eg b) (by omega) (by omega),aN (by omega) (by omega),vw (by omega),aa]
theorem vy (k:Nat) (a b:Int):m8 k a b=some (jT a b):=by
  have h:=Ec a b
  unfold m8 jT
  simp only[oq,aa]
  rw[aN (n:=eg a*eg b) (by omega) (by omega),aN (by omega) (by omega)]
  have e:((2:Int)^(min (31:Int).toNat IntKind.i64.bits))=2147483648:=by decide
  rw[e,Int.fdiv_eq_ediv_of_nonneg _ (by omega)]
def dK (x by_:Int):Int:=if x<0 then -((2*-x+by_)/(2*by_))else(2*x+by_)/(2*by_)
theorem sb {a b:Int} (ha:0≤a) (hb:1≤b):0≤a/b∧a/b≤a:=
  ⟨Int.ediv_nonneg ha (by omega),Int.ediv_le_self _ ha⟩
theorem oR {k:Nat} {x d:Int} (hx:-2147483648≤x∧x≤2147483648) (hd:1≤d∧d≤2147483648):jd k x d=some (dK x d):=by
  unfold jd jN dK
  rw[aN (n:=2*d) (by omega) (by omega),ae]
  by_cases c:x<0
  · rw[if_pos c,if_pos c,aN (n:=0-x) (by omega) (by omega),ae,if_neg (by omega),ae,if_neg (by omega),aa,aN (n:=2*(0-x)) (by omega) (by omega),aN (n:=2*(0-x)+d) (by omega) (by omega),Int.tdiv_eq_ediv_of_nonneg (by omega)]
    have h:=sb (a:=2*(0-x)+d) (b:=2*d) (by omega) (by omega)
    rw[show 2*-x+d=2*(0-x)+d from by omega]
    generalize (2*(0-x)+d)/(2*d)=q at h
    rw[aN (n:=q) (by omega) (by omega),aN (by omega) (by omega)]
    congr 1;omega
  · rw[if_neg c,if_neg c,ae,if_neg (by omega),aN (n:=2*x) (by omega) (by omega),aN (n:=2*x+d) (by omega) (by omega),Int.tdiv_eq_ediv_of_nonneg (by omega)]
    have h:=sb (a:=2*x+d) (b:=2*d) (by omega) (by omega)
    rw[aN (by omega) (by omega)]
def eE (x n:Int):Int:=dK (eg x) (2^(sat 0 31 n).toNat)
theorem qz {r:Int} (h:0≤r∧r≤31):IntKind.i64.wrap ((1:Int)*2^(min r.toNat IntKind.i64.bits))=2^r.toNat∧(1:Int)≤2^r.toNat∧(2:Int)^r.toNat≤2147483648:=by
  have hb:IntKind.i64.bits=64:=rfl
  have h1:(2:Nat)^r.toNat≤2^31:=Nat.pow_le_pow_right (by omega) (by omega)
  have h2:1≤(2:Nat)^r.toNat:=Nat.one_le_two_pow
  have e:((2^r.toNat:Nat):Int)=2^r.toNat:=by simp
  rw[hb,Nat.min_eq_left (by omega),Int.one_mul]
  rw[←e]
  refine⟨aN (by omega) (by omega),by omega,by omega⟩
theorem yV {v:Int} {s:Nat}:(v+(2^s:Int)/2)/2^s=(2*v+2^s)/(2*2^s):=by
  cases s with
  |zero=>omega
  | succ s =>
    have e:(2:Int)^(s+1)=2*2^s:=by rw[Int.pow_succ,Int.mul_comm]
    rw[e]
    have e2:2*v+2*(2:Int)^s=2*(v+2^s):=by rw[Int.mul_add]
    rw[e2,Int.mul_ediv_mul_of_pos _ _ (by omega:(0:Int)<2),Int.mul_ediv_cancel_left _ (by omega:(2:Int)≠0)]
theorem qA (k:Nat) (x n:Int):ie k x n=some (eE x n):=by
  have h1:=gi x
  have h2:=vr (a:=0) (b:=31) (by omega) n
  obtain⟨e,h3,h4⟩:=qz h2
  unfold ie eE
  rw[oq,aa,tC (by omega),aa,ae,if_neg (by omega),e,oR (by omega) ⟨h3,h4⟩,aa]
theorem Cm {r:Int} (h:0≤r∧r≤31):IntKind.u64.wrap r=r:=Go.IntWalk.u64_in r ⟨by omega,by omega⟩
theorem qB (k:Nat) (x n:Int):ic k x n=some (eE x n):=by
  have h1:=gi x
  have h2:=vr (a:=0) (b:=31) (by omega) n
  obtain⟨e,h3,h4⟩:=qz h2
  unfold ic eE dK
  rw[oo,aa,kP (by omega),aa,Cm h2,ae,if_neg (by omega),e,ae]
  have hh:((2:Int)^(sat 0 31 n).toNat).tdiv 2=2^(sat 0 31 n).toNat/2:=Int.tdiv_eq_ediv_of_nonneg (by omega)
  rw[hh,aN (n:=2^(sat 0 31 n).toNat/2) (by omega) (by omega)]
  by_cases c:eg x<0
  · rw[if_pos c,if_pos c,ae,if_neg (by omega),aN (n:=0-eg x) (by omega) (by omega),aN (n:=0-eg x+2^(sat 0 31 n).toNat/2) (by omega) (by omega),Int.tdiv_eq_ediv_of_nonneg (by omega),yV,show 2*-eg x+2^(sat 0 31 n).toNat=2*(0-eg x)+2^(sat 0 31 n).toNat from by omega]
    have h:=sb (a:=2*(0-eg x)+2^(sat 0 31 n).toNat) (b:=2*2^(sat 0 31 n).toNat) (by omega) (by omega)
    generalize (2*(0-eg x)+2^(sat 0 31 n).toNat)/(2*2^(sat 0 31 n).toNat)=q at h
    rw[aN (n:=q) (by omega) (by omega),aN (by omega) (by omega)]
    congr 1;omega
  · rw[if_neg c,if_neg c,ae,if_neg (by omega),aN (n:=eg x+2^(sat 0 31 n).toNat/2) (by omega) (by omega),Int.tdiv_eq_ediv_of_nonneg (by omega),yV]
    have h:=sb (a:=2*eg x+2^(sat 0 31 n).toNat) (b:=2*2^(sat 0 31 n).toNat) (by omega) (by omega)
    rw[aN (by omega) (by omega)]
def qC (acc mult shift zero:Int):Int:=qw (eE (jT acc mult) shift+qw zero)
theorem Ad {x d B:Int} (hx:-B≤x∧x≤B) (hd:1≤d):-B≤dK x d∧dK x d≤B:=by
  have key:∀y:Int,0≤y→y≤B→0≤(2*y+d)/(2*d)∧(2*y+d)/(2*d)≤B:=fun y h0 h1=>by
    refine⟨Int.ediv_nonneg (by omega) (by omega),?_⟩
    have hlt:(2*y+d)/(2*d)<B+1:=by
      apply Int.ediv_lt_of_lt_mul (by omega)
      have:=Int.mul_nonneg (show 0≤B by omega) (show 0≤d-1 by omega)
      rw[Int.mul_sub,Int.mul_one]at this
      rw[Int.add_mul,Int.one_mul,Int.mul_comm B,Int.mul_assoc,Int.mul_comm d B]
      omega
    omega
  unfold dK
  by_cases c:x<0
  · rw[if_pos c]
    have:=key (-x) (by omega) (by omega)
    omega
  · rw[if_neg c]
    have:=key x (by omega) (by omega)
    omega
theorem oS (acc mult shift zero:Int):IntKind.i64.wrap (eE (jT acc mult) shift+qw zero)=eE (jT acc mult) shift+qw zero:=by
  have h1:=qx zero
  have h2:=vr (a:=0) (b:=31) (by omega) shift
  have h3:=gi (jT acc mult)
  have h4:=Ad (x:=eg (jT acc mult)) (d:=2^(sat 0 31 shift).toNat) (B:=2147483648) (by omega) (qz h2).2.1
  unfold eE
  exact aN (by omega) (by omega)
theorem oT (k:Nat) (a b c d:Int):jc k a b c d=some (qC a b c d):=by
  unfold jc qC
  simp only[vx,qB,vt,aa,oS]
theorem vz (k:Nat) (a b c d:Int):m9 k a b c d=some (qC a b c d):=by
  unfold m9 qC
  simp only[vy,qA,vu,aa,oS]
end Go.Proofs.Ev
set_option linter.unusedVariables false
set_option linter.unusedSimpArgs false
namespace Go.Proofs.Ev
theorem gj {α:Type} (f:Nat→List α) (m:Nat):∀n,(∀i,i<n→(f i).length≤m)→((List.range n).flatMap f).length≤n*m
  |0,_=>by simp
  | n + 1, h => by
    have:=gj f m n fun i hi=>h i (by omega)
    have:=h n (by omega)
    rw[List.range_succ,List.flatMap_append,List.length_append,Nat.add_mul,show([n]:List Nat).flatMap f=f n from by simp]
    omega
theorem dO {α:Type} (f:Nat→List α) (m:Nat):∀n,(∀i,i<n→(f i).length=m)→((List.range n).flatMap f).length=n*m
  |0,_=>by simp
  | n + 1, h => by
    have:=dO f m n fun i hi=>h i (by omega)
    have:=h n (by omega)
    rw[List.range_succ,List.flatMap_append,List.length_append,Nat.add_mul,show([n]:List Nat).flatMap f=f n from by simp]
    omega
theorem tD {α:Type} (f:Nat→List α) (q:Nat):∀n,(∀i,i<n→(f i).length=q)→∀a b,a<n→b<q→((List.range n).flatMap f)[a*q+b]? =(f a)[b]?
  |0,_,a,b,h,_=>by omega
  | n + 1, h, a, b, ha, hb => by
    have hl:=dO f q n fun i hi=>h i (by omega)
    rw[List.range_succ,List.flatMap_append]
    have hs:([n]:List Nat).flatMap f=f n:=by simp
    rw[hs]
    by_cases c:a<n
    · have:(a+1)*q≤n*q:=Nat.mul_le_mul_right _ (by omega)
      rw[Nat.add_mul]at this
      rw[List.getElem?_append_left (by omega)]
      exact tD f q n (fun i hi=>h i (by omega)) a b c hb
    · have:a=n:=by omega
      subst this
      rw[List.getElem?_append_right (by omega),hl,Nat.add_sub_cancel_left]
theorem cX {α R:Type} (n m:Nat) (f:Nat→List α) (xs0:List α) {g:Int× List α→(Int× List α→Option R)→Option R} {fin:List α→Option R} {k:Nat}
    (hf:∀i,i<n→(f i).length≤m)
    (h:∀(i:Nat) ys next,i<n→ys.length≤xs0.length+i*m→g ((i:Int),ys) next=next (((i+1:Nat):Int),ys++f i))
    (hn:∀ys next,g ((n:Int),ys) next=fin ys) (hk:n<k):iter g k ((0:Int),xs0)=fin (xs0++(List.range n).flatMap f):=by
  have:=fE (g:=g) (st:=fun i=>((i:Int),xs0++(List.range i).flatMap f)) (n:=n) (r:=fin (xs0++(List.range n).flatMap f)) (fun i hi next=>by
    have hl:=gj f m i fun j hj=>hf j (by omega)
    rw[h i _ next hi (by rw[List.length_append];omega),List.range_succ,List.flatMap_append]
    simp) (fun next=>hn _ _) hk
  simpa using this
theorem jh {β R:Type} (n:Nat) (f:β→Nat→β) (a0:β) {g:β× Int→(β× Int→Option R)→Option R} {fin:β→Option R} {k:Nat}
    (h:∀(i:Nat) a next,i<n→g (a,(i:Int)) next=next (f a i,((i+1:Nat):Int))) (hn:∀a next,g (a,(n:Int)) next=fin a) (hk:n<k):
    iter g k (a0,(0:Int))=fin ((List.range n).foldl f a0):=
  fE (g:=g) (st:=fun i=>((List.range i).foldl f a0,(i:Int))) (n:=n) (r:=fin ((List.range n).foldl f a0)) (fun i hi next=>by
    rw[h i _ next hi,List.range_succ,List.foldl_append];rfl) (fun next=>hn _ _) hk
theorem fold_congr {β:Type} {f g:β→Nat→β}:∀(n:Nat) (a:β),(∀a i,i<n→f a i=g a i)→(List.range n).foldl f a=(List.range n).foldl g a
  |0,_,_=>rfl
  | n + 1, a, h => by
    rw[List.range_succ,List.foldl_append,List.foldl_append,fold_congr n a fun a i hi=>h a i (by omega)]
    exact h _ n (by omega)
theorem tE {β:Type} (f:β→Nat→β) (q:Nat):∀(m:Nat) (a:β),(List.range (m*q)).foldl f a=(List.range m).foldl (fun a i=>(List.range q).foldl (fun a j=>f a (i*q+j)) a) a
  |0,a=>by simp
  | m + 1, a => by
    rw[Nat.add_mul,Nat.one_mul,List.range_add,List.foldl_append,tE f q m a,List.range_succ,List.foldl_append,List.foldl_map]
    rfl
theorem vA {a b:Nat} (h:a*b≤9223372036854775807):IntKind.i64.wrap ((a:Int)*(b:Int))=((a*b:Nat):Int):=by
  rw[Int.natCast_mul]
  have e:((a:Int)*(b:Int))=((a*b:Nat):Int):=(Int.natCast_mul a b).symm
  exact aN (by omega) (by omega)
theorem vN {a b:Nat} (h:a+b≤9223372036854775807):IntKind.i64.wrap ((a:Int)+(b:Int))=((a+b:Nat):Int):=by
  rw[aN (by omega) (by omega)];omega
theorem Cn {α:Type} {p:Prop} {i:Decidable p} (h:p) (x y:α):cond (@decide p i) x y=x:=by rw[decide_eq_true h];rfl
theorem Gt {α:Type} {p:Prop} {i:Decidable p} (h:¬p) (x y:α):cond (@decide p i) x y=y:=by rw[decide_eq_false h];rfl
theorem nr {H W C h w c:Nat} (h1:h<H) (h2:w<W) (h3:c<C):(h*W+w)*C+c<H*W*C:=by
  have a1:(h+1)*W≤H*W:=Nat.mul_le_mul_right _ h1
  rw[Nat.add_mul]at a1
  have a2:(h*W+w+1)*C≤H*W*C:=Nat.mul_le_mul_right _ (by omega)
  rw[Nat.add_mul]at a2
  omega
structure gl (H W C:Nat) (xs:List Int):Prop where
  h1:1≤H
  h8:H≤8
  w1:1≤W
  w8:W≤8
  c1:1≤C
  c8:C≤8
  len:xs.length=H*W*C
  mem:∀x∈xs,-128≤x∧x≤127
def ot (H W C:Nat) (xs:List Int):al:=⟨⟨H,W,C⟩,xs⟩
theorem gl.Fg {H W C:Nat} {xs:List Int} (r:gl H W C xs):H*W*C≤512:=by
  have a:=Nat.mul_le_mul r.h8 r.w8
  have b:=Nat.mul_le_mul a r.c8
  omega
theorem gl.sh {H W C:Nat} {xs:List Int} (r:gl H W C xs):(⟨H,W,C⟩:Shape).okB=true:=by
  obtain⟨a,b,c,d,e,f,_,_⟩:=r
  simp only[Shape.okB,inB,Bool.and_eq_true,decide_eq_true_eq];omega
theorem gl.size {H W C:Nat} {xs:List Int} (r:gl H W C xs):(⟨H,W,C⟩:Shape).size=((H*W*C:Nat):Int):=by
  unfold Shape.size
  rw[r.sh,cond_true,Int.natCast_mul,Int.natCast_mul]
theorem gl.ok {H W C:Nat} {xs:List Int} (r:gl H W C xs):(ot H W C xs).okB=true:=by
  unfold al.okB ot
  simp only[r.sh,r.size,r.len,decide_true,Bool.true_and]
  unfold kM
  rw[List.all_eq_true]
  intro x hx
  have:=r.mem x hx
  rw[bE];omega
theorem tF {t:al} (h:t.okB=true):∃H W C:Nat,gl H W C t.data∧t=ot H W C t.data:=by
  unfold al.okB at h
  simp only[Bool.and_eq_true,decide_eq_true_eq]at h
  obtain⟨h1,h2,h3⟩:=h
  have hs:=Shape.ng h1
  unfold kM at h3
  rw[List.all_eq_true]at h3
  unfold Shape.size at h2
  rw[h1,cond_true]at h2
  obtain⟨⟨a,b,c⟩,xs⟩:=t
  simp only at hs h2 h3
  refine⟨a.toNat,b.toNat,c.toNat,⟨by omega,by omega,by omega,by omega,by omega,by omega,?_,fun x hx=>bE.1 (h3 x hx)⟩,?_⟩
  · have ea:((a.toNat:Nat):Int)=a:=by omega
    have eb:((b.toNat:Nat):Int)=b:=by omega
    have ec:((c.toNat:Nat):Int)=c:=by omega
    have e:((a.toNat*b.toNat*c.toNat:Nat):Int)=a*b*c:=by rw[Int.natCast_mul,Int.natCast_mul,ea,eb,ec]
    show xs.length=_
    omega
  · unfold ot
    congr 2<;>omega
def atN (W C:Nat) (xs:List Int) (h w c:Nat):Int:=xs.getD ((h*W+w)*C+c) 0
theorem xp {H W C:Nat} {xs:List Int} (r:gl H W C xs) {h w c:Nat} (h1:h<H) (h2:w<W) (h3:c<C):xs[(h*W+w)*C+c]? =some (atN W C xs h w c):=by
  have:=nr h1 h2 h3
  have hl:=r.len
  unfold atN
  rw[cc (by omega),aK (by omega)]
theorem py {xs:List Int} {i:Nat} (h:i<xs.length):xs.getD i 0∈xs:=by rw[cc h];exact List.getElem_mem h
theorem yW {H W C:Nat} {xs:List Int} (r:gl H W C xs) {h w c:Nat} (h1:h<H) (h2:w<W) (h3:c<C):-128≤atN W C xs h w c∧atN W C xs h w c≤127:=by
  have:=nr h1 h2 h3
  have hl:=r.len
  exact r.mem _ (py (by omega))
theorem sd {H W C:Nat} {xs:List Int} (r:gl H W C xs) {h w c:Nat} (h1:h<H) (h2:w<W) (h3:c<C):
    IntKind.i64.wrap (IntKind.i64.wrap (IntKind.i64.wrap (IntKind.i64.wrap ((h:Int)*(W:Int))+(w:Int))*(C:Int))+(c:Int))=(((h*W+w)*C+c:Nat):Int):=by
  have a:=nr h1 h2 h3
  have b:=r.Fg
  have d:h*W≤H*W:=Nat.mul_le_mul_right _ (by omega)
  have e:=Nat.mul_le_mul r.h8 r.w8
  rw[vA (by omega),vN (by have:=r.w8;omega),vA (by omega),vN (by omega)]
theorem md {k:Nat} {H W C:Nat} {xs:List Int} (r:gl H W C xs) (hk:512<k) {h w c:Nat} (h1:h<H) (h2:w<W) (h3:c<C):jM k (ot H W C xs) h w c=some (atN W C xs h w c,true):=by
  have hl:=r.len
  have hc:=r.Fg
  have hi:∀{a n:Nat},a<n→n≤8→inB (a:Int) 0 (IntKind.i64.wrap ((n:Int)-1))=true:=fun{a n} h h8=>by
    rw[aN (by omega) (by omega),bE];omega
  unfold jM qq
  simp only[fR,c7,aa]
  rw[gf (t:=ot H W C xs) (by show xs.length<k;omega) (by unfold pn;show xs.length≤_;omega),r.ok]
  simp only[ot,r.sh,hi h1 r.h8,hi h2 r.w8,hi h3 r.c8,Bool.not_true,cond_false,aa,sd r h1 h2 h3]
  rw[ae,if_neg (by omega),bF,xp r h1 h2 h3,aa]
theorem me {k:Nat} {H W C:Nat} {xs:List Int} (r:gl H W C xs) {h w c:Nat} (h1:h<H) (h2:w<W) (h3:c<C):eS k ⟨H,W,C⟩ h w c=some ((((h*W+w)*C+c:Nat)):Int):=by
  unfold eS
  rw[sd r h1 h2 h3]
structure Cp (H W Z S h w:Nat):Prop where
  z1:1≤Z
  z3:Z≤3
  s2:S≤2
  hh:h*S+Z≤H
  ww:w*S+Z≤W
def eZ (W C:Nat) (xs:List Int) (Z S h w c:Nat):List Int:=
  (List.range Z).flatMap fun i=>(List.range Z).flatMap fun j=>[atN W C xs (h*S+i) (w*S+j) c]
def E4 (W C:Nat) (xs:List Int) (Z S h w:Nat):List Int:=
  (List.range Z).flatMap fun i=>(List.range Z).flatMap fun j=>(List.range C).map fun c=>atN W C xs (h*S+i) (w*S+j) c
theorem vB (W C:Nat) (xs:List Int) (Z S h w c:Nat):(eZ W C xs Z S h w c).length=Z*(Z*1):=
  dO _ _ _ fun i hi=>dO _ _ _ fun j hj=>rfl
theorem tG (W C:Nat) (xs:List Int) (Z S h w:Nat):(E4 W C xs Z S h w).length=Z*(Z*C):=
  dO _ _ _ fun i hi=>dO _ _ _ fun j hj=>by simp
theorem vC {k:Nat} {H W C:Nat} {xs:List Int} (r:gl H W C xs) (hk:512<k) {l:ag} {Z S h w c:Nat} (hz:l.size=Z) (hs:l.step=S) (v:Cp H W Z S h w) (hc:c<C):
    gN k (ot H W C xs) l h w c=some (eZ W C xs Z S h w c):=by
  have hM:=bm
  have hv:=v
  obtain⟨z1,z3,s2,hh,ww⟩:=hv
  have:=r.h8
  have:=r.w8
  unfold gN
  refine(cX Z 3 (fun i=>(List.range Z).flatMap fun j=>[atN W C xs (h*S+i) (w*S+j) c]) [] (fin:=some) (fun i hi=>by
      have:=gj (fun j=>[atN W C xs (h*S+i) (w*S+j) c]) 1 Z (fun _ _=>Nat.le_refl _);omega) (fun i ys next hi hy=>?_) (fun ys next=>?_) (by omega)).trans (by rw[List.nil_append];rfl)
  · simp only[ey,hz,hs]
    rw[ae,if_pos (by omega),aU hi (by omega)]
    refine cX Z 1 (fun j=>[atN W C xs (h*S+i) (w*S+j) c]) ys (fin:=fun y=>next (((i+1:Nat):Int),y)) (fun _ _=>Nat.le_refl _) (fun j zs next2 hj hz2=>?_) (fun zs next2=>?_) (by omega)
    · simp only[eu,hz,hs]
      have e1:h*S+i<H:=by omega
      have e2:w*S+j<W:=by omega
      have e:=md (k:=k) r hk e1 e2 hc
      unfold ot at e
      simp only[List.length_nil]at hy
      rw[ae,if_pos (by omega)]
      simp only[ot]
      rw[vA (by omega),vN (by omega),vA (by omega),vN (by omega),e,aa,j1 (by simp;omega),aU hj (by omega)]
    · simp only[eu]
      rw[ae,if_neg (by omega)]
  · simp only[ey]
    rw[ae,if_neg (by omega)]
theorem vD {α:Type} {ws:List α} {a q i:Nat} (hi:i<q):((ws.take (a+q)).drop a)[i]? =ws[a+i]? :=by
  rw[List.getElem?_drop,List.getElem?_take,if_pos (by omega)]
theorem Cq {ws:List Int} {a q:Nat} (h:a+q≤ws.length):(ws.take (a+q)).drop a=(List.range q).map fun c=>ws.getD (a+c) 0:=by
  apply List.ext_getElem?
  intro i
  by_cases c:i<q
  · rw[vD c,List.getElem?_map,List.getElem?_range c,Option.map_some,aK (by omega),cc (by omega)]
  · rw[List.getElem?_eq_none (by simp;omega),List.getElem?_eq_none (by simp;omega)]
theorem qD {k:Nat} {H W C:Nat} {xs:List Int} (r:gl H W C xs) (hk:512<k) {l:ag} {Z S h w c:Nat} (hz:l.size=Z) (hs:l.step=S) (v:Cp H W Z S h w) (hc:c<C):
    bu k l (ot H W C xs) h w c=some (eZ W C xs Z S h w c):=by
  have hM:=bm
  have hv:=v
  obtain⟨z1,z3,s2,hh,ww⟩:=hv
  have:=r.h8
  have:=r.w8
  have:=r.c8
  have hcu:=r.Fg
  have hlen:=r.len
  unfold bu
  refine(cX Z 3 (fun i=>(List.range Z).flatMap fun j=>[atN W C xs (h*S+i) (w*S+j) c]) [] (fin:=some) (fun i hi=>by
      have:=gj (fun j=>[atN W C xs (h*S+i) (w*S+j) c]) 1 Z (fun _ _=>Nat.le_refl _);omega) (fun i ys next hi hy=>?_) (fun ys next=>?_) (by omega)).trans (by rw[List.nil_append];rfl)
  · simp only[bD,hz,hs]
    rw[ae,if_pos (by omega),aU hi (by omega)]
    refine cX Z 1 (fun j=>[atN W C xs (h*S+i) (w*S+j) c]) ys (fin:=fun y=>next (((i+1:Nat):Int),y)) (fun _ _=>Nat.le_refl _) (fun j zs next2 hj hz2=>?_) (fun zs next2=>?_) (by omega)
    · simp only[bC,hz,hs]
      have e1:h*S+i<H:=by omega
      have e2:w*S+j<W:=by omega
      have e:=me (k:=k) (c:=0) r e1 e2 (by omega)
      have hp:=nr e1 e2 hc
      simp only[List.length_nil]at hy
      rw[ae,if_pos (by omega)]
      simp only[ot]
      rw[vA (by omega),vN (by omega),vA (by omega),vN (by omega)]
      refine(congrArg (fun o:Option Int=>o.bind _) e).trans ?_
      rw[aa,ae,if_neg (by omega),Nat.add_zero,vN (by omega),bF,xp r e1 e2 hc,aa,j1 (by simp;omega),aU hj (by omega)]
    · simp only[bC]
      rw[ae,if_neg (by omega)]
  · simp only[bD]
    rw[ae,if_neg (by omega)]
theorem vE {k:Nat} {H W C:Nat} {xs:List Int} (r:gl H W C xs) (hk:512<k) {l:ag} {Z S h w:Nat} (hz:l.size=Z) (hs:l.step=S) (v:Cp H W Z S h w):
    bu k l (ot H W C xs) h w (-1)=some (E4 W C xs Z S h w):=by
  have hM:=bm
  have hv:=v
  obtain⟨z1,z3,s2,hh,ww⟩:=hv
  have:=r.h8
  have:=r.w8
  have:=r.c8
  have hc1:=r.c1
  have hcu:=r.Fg
  have hlen:=r.len
  unfold bu
  refine(cX Z 24 (fun i=>(List.range Z).flatMap fun j=>(List.range C).map fun c=>atN W C xs (h*S+i) (w*S+j) c) [] (fin:=some) (fun i hi=>by
      have:=gj (fun j=>(List.range C).map fun c=>atN W C xs (h*S+i) (w*S+j) c) 8 Z (fun _ _=>by simp;omega);omega) (fun i ys next hi hy=>?_) (fun ys next=>?_) (by omega)).trans (by rw[List.nil_append];rfl)
  · simp only[bD,hz,hs]
    rw[ae,if_pos (by omega),aU hi (by omega)]
    refine cX Z 8 (fun j=>(List.range C).map fun c=>atN W C xs (h*S+i) (w*S+j) c) ys (fin:=fun y=>next (((i+1:Nat):Int),y)) (fun _ _=>by simp;omega) (fun j zs next2 hj hz2=>?_) (fun zs next2=>?_) (by omega)
    · simp only[bC,hz,hs]
      have e1:h*S+i<H:=by omega
      have e2:w*S+j<W:=by omega
      have e:=me (k:=k) (c:=0) r e1 e2 (by omega)
      have hp:=nr (C:=C) (c:=C-1) e1 e2 (by omega)
      simp only[List.length_nil]at hy
      rw[ae,if_pos (by omega)]
      simp only[ot]
      rw[vA (by omega),vN (by omega),vA (by omega),vN (by omega)]
      refine(congrArg (fun o:Option Int=>o.bind _) e).trans ?_
      have e3:=Cq (ws:=xs) (a:=((h*S+i)*W+(w*S+j))*C) (q:=C) (by omega)
      have ew:IntKind.i64.wrap (((((h*S+i)*W+(w*S+j))*C:Nat):Int)+(C:Int))=((((h*S+i)*W+(w*S+j))*C+C:Nat):Int):=vN (by omega)
      rw[aa,Cn (by omega),Nat.add_zero]
      refine(Cn (by rw[ew];omega) _ _).trans ?_
      refine(Cn (by rw[ew];omega) _ _).trans ?_
      rw[ew,Int.toNat_natCast,Int.toNat_natCast,e3,j1 (by simp;omega),aU hj (by omega)]
      rfl
    · simp only[bC]
      rw[ae,if_neg (by omega)]
  · simp only[bD]
    rw[ae,if_neg (by omega)]
end Go.Proofs.Ev
set_option linter.unusedVariables false
set_option linter.unusedSimpArgs false
namespace Go.Proofs.Ev
def E5 (xs ws:List Int):Int:=(List.range xs.length).foldl (fun s i=>j3 s (qw (xs.getD i 0)*qw (ws.getD i 0))) 0
theorem FX (a b:Int):IntKind.i64.wrap (qw a*qw b)=qw a*qw b:=by
  have h1:=qx a
  have h2:=qx b
  have:=E3 (A:=128) (B:=128) (x:=qw a) (y:=qw b) (by omega) (by omega)
  exact aN (by omega) (by omega)
theorem Ae {k:Nat} {xs ws:List Int} (hk:xs.length<k) (hl:ws.length=xs.length) (hN:xs.length≤b7):tw k xs ws=some (E5 xs ws):=by
  have hM:=bm
  unfold tw E5
  exact jh xs.length (fun s i=>j3 s (qw (xs.getD i 0)*qw (ws.getD i 0))) 0 (fin:=some) (fun i a next hi=>by
    simp only[gy,vt,jS]
    rw[ae,if_pos (by omega),ae,if_pos (by omega),bF,aK hi,aa,aa,bF,aK (by omega),aa,aa,aa,FX,aU hi (by omega),cc hi,cc (by omega)]) (fun a next=>by
    simp only[gy]
    rw[ae,if_neg (by omega)]) hk
theorem Af {k:Nat} {xs ws:List Int} (hk:xs.length<k) (hl:ws.length=xs.length) (hN:xs.length≤b7):tx k xs ws=some (E5 xs ws):=by
  have hM:=bm
  unfold tx E5
  rw[if_neg (by omega)]
  exact jh xs.length (fun s i=>j3 s (qw (xs.getD i 0)*qw (ws.getD i 0))) 0 (fin:=some) (fun i a next hi=>by
    simp only[gz,vu,qy]
    rw[ae,if_pos (by omega),bF,aK hi,aa,aa,bF,aK (by omega),aa,aa,aa,FX,aU hi (by omega),cc hi,cc (by omega)]) (fun a next=>by
    simp only[gz]
    rw[ae,if_neg (by omega)]) hk
def mf (l:ag) (xs:List Int) (o:Nat):Int:=
  qC (j3 (E5 xs ((l.weights.take (o*xs.length+xs.length)).drop (o*xs.length))) (l.fX.getD o 0)) l.mult l.shift l.zero
theorem qE {k:Nat} {l:ag} {xs:List Int} {o:Nat} (hk:xs.length<k) (hN:xs.length≤b7) (hw:o*xs.length+xs.length≤l.weights.length) (hwN:l.weights.length≤b7) (hb:o<l.fX.length) (ho:o<8):
    cZ k l xs o=some (mf l xs o):=by
  have hM:=bm
  have e:(o+1)*xs.length=o*xs.length+xs.length:=by rw[Nat.add_mul,Nat.one_mul]
  have e1:IntKind.i64.wrap (IntKind.i64.wrap ((o:Int)+1)*(xs.length:Int))=((o*xs.length+xs.length:Nat):Int):=by
    rw[aU ho (by omega),vA (by omega),e]
  have e2:IntKind.i64.wrap ((o:Int)*(xs.length:Int))=((o*xs.length:Nat):Int):=vA (by omega)
  unfold cZ mf
  rw[e1,e2,ae,if_pos (by omega),ae,if_pos (by omega),Int.toNat_natCast,Int.toNat_natCast,Af hk (by simp;omega) hN,aa,bF,aK hb,aa,qy,aa,vz,aa,cc hb]
def gm:List Int→Int
  |[]=>0
  |x::xs=>xs.foldl (fun m y=>if y>m then y else m) x
theorem yX {R:Type} {xs:List Int} {x:Int} {g:Int× Int→(Int× Int→Option R)→Option R} {fin:Int→Option R} {k:Nat}
    (h:∀(i:Nat) a next (hi:i<xs.length),g (a,((i+1:Nat):Int)) next=next (if xs[i]>a then xs[i]else a,((i+1+1:Nat):Int))) (hn:∀a next,g (a,((xs.length+1:Nat):Int)) next=fin a) (hk:xs.length<k):
    iter g k (x,(1:Int))=fin (gm (x::xs)):=by
  have:=fE (g:=g) (st:=fun i=>((xs.take i).foldl (fun m y=>if y>m then y else m) x,((i+1:Nat):Int))) (n:=xs.length) (r:=fin (gm (x::xs))) (fun i hi next=>by
    rw[h i _ next hi,gM hi,List.foldl_append];rfl) (fun next=>by rw[hn,List.take_length];rfl) hk
  exact this
theorem kQ:∀(xs:List Int) (x:Int),gm (x::xs)∈x::xs
  |[],x=>by simp[gm]
  | y :: xs, x => by
    show xs.foldl _ (if y>x then y else x)∈_
    by_cases c:y>x
    · rw[if_pos c];exact List.mem_cons_of_mem _ (kQ xs y)
    · rw[if_neg c]
      rcases List.mem_cons.1 (kQ xs x)with h|h
      · have h:xs.foldl (fun m y=>if y>m then y else m) x=x:=h
        rw[h];simp
      · exact List.mem_cons_of_mem _ (List.mem_cons_of_mem _ h)
theorem qF:∀{xs:List Int},(∀x∈xs,-128≤x∧x≤127)→-128*(xs.length:Int)≤xs.sum∧xs.sum≤127*(xs.length:Int)
  |[],_=>by simp
  | x :: xs, h => by
    have h1:=qF fun y hy=>h y (List.mem_cons_of_mem _ hy)
    have h2:=h x (by simp)
    rw[List.sum_cons,List.length_cons];omega
theorem vF {R:Type} {xs:List Int} {g:Int× Int→(Int× Int→Option R)→Option R} {fin:Int→Option R} {k:Nat} (hx:∀x∈xs,-128≤x∧x≤127) (hN:xs.length≤b7)
    (h:∀(i:Nat) a next (hi:i<xs.length),g (a,(i:Int)) next=next (IntKind.i64.wrap (a+xs[i]),((i+1:Nat):Int))) (hn:∀a next,g (a,(xs.length:Int)) next=fin a) (hk:xs.length<k):
    iter g k ((0:Int),(0:Int))=fin xs.sum:=by
  have hM:=bm
  have:=fE (g:=g) (st:=fun i=>((xs.take i).sum,(i:Int))) (n:=xs.length) (r:=fin xs.sum) (fun i hi next=>by
    have hb:=qF (xs:=xs.take (i+1)) fun x hm=>hx x (List.mem_of_mem_take hm)
    have e:(xs.take (i+1)).sum=(xs.take i).sum+xs[i]:=by rw[gM hi,List.sum_append];simp
    rw[e]at hb
    simp only[List.length_take]at hb
    rw[h i _ next hi,e,aN (by omega) (by omega)]) (fun next=>by rw[hn,List.take_length]) hk
  exact this
def gR (W C:Nat) (xs:List Int) (l:ag) (Z S h w o:Nat):Int:=
  cond (l.kind==0) (mf l xs o) (cond (l.kind==1) (mf l (E4 W C xs Z S h w) o)
    (cond (l.kind==2) (gm (eZ W C xs Z S h w o)) (cond (l.kind==3) (dK (eZ W C xs Z S h w o).sum ((Z*Z:Nat):Int))
      (cond (l.kind==4) (if atN W C xs h w o<l.zero then l.zero else atN W C xs h w o) (xs.getD o 0)))))
inductive Fits (H W C:Nat) (xs:List Int) (l:ag) (Z S h w o:Nat):Prop
  |DJ (h0:l.kind=0) (hb:o<l.fX.length) (h8:o<8) (hw:o*xs.length+xs.length≤l.weights.length)
  |conv (h0:l.kind=1) (hb:o<l.fX.length) (h8:o<8) (hw:o*(Z*(Z*C))+Z*(Z*C)≤l.weights.length) (v:Cp H W Z S h w) (hi:∀x∈l.weights,-128≤x∧x≤127)
  |max (h0:l.kind=2) (v:Cp H W Z S h w) (ho:o<C)
  |avg (h0:l.kind=3) (v:Cp H W Z S h w) (ho:o<C)
  |Ga (h0:l.kind=4) (h1:h<H) (h2:w<W) (h3:o<C) (hz:-128≤l.zero∧l.zero≤127)
  |flat (h0:l.kind=5) (ho:o<xs.length)
theorem pz {H W C:Nat} {xs:List Int} (r:gl H W C xs) {Z S h w o:Nat} (v:Cp H W Z S h w) (ho:o<C):∀x∈eZ W C xs Z S h w o,-128≤x∧x≤127:=by
  intro x hx
  obtain⟨z1,z3,s2,hh,ww⟩:=v
  unfold eZ at hx
  rw[List.mem_flatMap]at hx
  obtain⟨i,hi,hx⟩:=hx
  rw[List.mem_flatMap]at hx
  obtain⟨j,hj,hx⟩:=hx
  rw[List.mem_range]at hi hj
  rw[List.mem_singleton]at hx
  rw[hx]
  exact yW r (by omega) (by omega) ho
theorem qG {H W C:Nat} {xs:List Int} {Z S h w o:Nat} (v:Cp H W Z S h w):∃x ys,eZ W C xs Z S h w o=x::ys:=by
  have hl:=vB W C xs Z S h w o
  have:=v.z1
  have hp:1≤Z*(Z*1):=by rw[Nat.mul_one];exact Nat.mul_le_mul this this
  cases hc:eZ W C xs Z S h w o with
  |nil=>rw[hc]at hl;simp only[List.length_nil]at hl;omega
  |cons x ys=>exact⟨x,ys,rfl⟩
theorem ji {H W C:Nat} {xs:List Int} {Z S h w o:Nat} (v:Cp H W Z S h w):(eZ W C xs Z S h w o).length=Z*Z∧1≤Z*Z∧Z*Z≤9:=by
  have hl:=vB W C xs Z S h w o
  rw[Nat.mul_one]at hl
  exact⟨hl,Nat.mul_le_mul v.z1 v.z1,Nat.mul_le_mul v.z3 v.z3⟩
theorem Cr {k:Nat} {H W C:Nat} {xs:List Int} (r:gl H W C xs) {l:ag} {Z S h w o:Nat} (hk:512<k) (hwN:l.weights.length≤b7) (hz:l.size=Z) (hs:l.step=S) (f:Fits H W C xs l Z S h w o):
    ig k l (ot H W C xs) h w o=some (gR W C xs l Z S h w o):=by
  have hM:=bm
  have hcu:=r.Fg
  have hlen:=r.len
  unfold ig gR
  cases f with
  | DJ h0 hb h8 hw =>
    rw[h0]
    show(cZ k l xs o).bind _=_
    rw[qE (by omega) (by omega) hw hwN hb h8];rfl
  | conv h0 hb h8 hw v hi =>
    have hl:=tG W C xs Z S h w
    have:Z*(Z*C)≤3*(3*8):=Nat.mul_le_mul v.z3 (Nat.mul_le_mul v.z3 r.c8)
    rw[h0]
    show(bu k l (ot H W C xs) h w (-1)).bind _=_
    rw[vE r hk hz hs v,aa,qE (by omega) (by omega) (by rw[hl];exact hw) hwN hb h8];rfl
  | max h0 v ho =>
    rw[h0]
    show(bu k l (ot H W C xs) h w o).bind _=_
    rw[qD r hk hz hs v ho,aa]
    have hl:=ji (xs:=xs) (C:=C) (o:=o) v
    obtain⟨x,ys,e⟩:=qG (xs:=xs) (C:=C) (o:=o) v
    rw[e]at hl
    simp only[List.length_cons]at hl
    show(cR k (eZ W C xs Z S h w o)).bind _=some (gm (eZ W C xs Z S h w o))
    rw[e]
    unfold cR
    rw[ae,if_neg (by simp only[List.length_cons];omega),yP,List.getElem?_cons_zero,aa,yX (xs:=ys) (x:=x) (fin:=some) (fun i a next hi=>by
      simp only[br]
      rw[ae,if_pos (by simp only[List.length_cons];omega),bF,List.getElem?_cons_succ,aK hi,aa,aU (show i+1<ys.length+1 by omega) (by omega)]) (fun a next=>by
      simp only[br]
      rw[ae,if_neg (by simp only[List.length_cons];omega)]) (by omega)]
    rfl
  | avg h0 v ho =>
    rw[h0]
    show(bu k l (ot H W C xs) h w o).bind _=_
    rw[qD r hk hz hs v ho,aa]
    have hl:=ji (xs:=xs) (C:=C) (o:=o) v
    have hm:=pz r v ho
    have hb:=qF hm
    show _=some (dK (eZ W C xs Z S h w o).sum ((Z*Z:Nat):Int))
    rw[vF (xs:=eZ W C xs Z S h w o) (fin:=fun y=>(jd k y (IntKind.i64.wrap (l.size*l.size))).bind fun r9=>some r9) hm (by omega) (fun i a next hi=>by
      simp only[cL]
      rw[ae,if_pos (by omega),ae,if_pos (by omega),Int.toNat_natCast,aK hi,aa,aU hi (by omega)]) (fun a next=>by
      simp only[cL]
      rw[ae,if_neg (by omega)]) (by omega)]
    rw[hz,vA (by omega),oR (by omega) (by omega),aa]
  | Ga h0 h1 h2 h3 hz =>
    simp only[h0,show((4:Int)==0)=false from rfl,show((4:Int)==1)=false from rfl,show((4:Int)==2)=false from rfl,show((4:Int)==3)=false from rfl,beq_self_eq_true,cond_true,cond_false]
    refine(congrArg (fun o:Option Int=>o.bind _) (me (k:=k) r h1 h2 h3)).trans ?_
    rw[aa]
    show(idx xs _).bind _=_
    rw[bF,xp r h1 h2 h3]
    rfl
  | flat h0 ho =>
    rw[h0]
    show(idx xs (o:Int)).bind _=_
    rw[bF,aK ho]
    show _=some (xs.getD o 0)
    rw[cc ho];rfl
theorem E6 {W C:Nat} {xs:List Int} {Z S h w i j c:Nat} (hi:i<Z) (hj:j<Z) (hc:c<C):(E4 W C xs Z S h w)[i*(Z*C)+(j*C+c)]? =some (atN W C xs (h*S+i) (w*S+j) c):=by
  have hb:j*C+c<Z*C:=by
    have:(j+1)*C≤Z*C:=Nat.mul_le_mul_right _ hj
    rw[Nat.add_mul]at this;omega
  unfold E4
  rw[tD _ (Z*C) Z (fun i hi=>dO _ C Z fun j hj=>by simp) i (j*C+c) hi hb,tD _ C Z (fun j hj=>by simp) j c hj hc,List.getElem?_map,List.getElem?_range hc]
  rfl
theorem se {o Z i j C c:Nat}:((o*Z+i)*Z+j)*C+c=o*(Z*(Z*C))+(i*(Z*C)+(j*C+c)):=by
  simp only[Nat.add_mul,Nat.mul_assoc,Nat.add_assoc]
theorem DK {H W C:Nat} {xs:List Int} (r:gl H W C xs) {ws:List Int} (hi:∀x∈ws,-128≤x∧x≤127) {Z S h w o:Nat} (v:Cp H W Z S h w) (hw:o*(Z*(Z*C))+Z*(Z*C)≤ws.length):
    E5 (E4 W C xs Z S h w) ((ws.take (o*(Z*(Z*C))+Z*(Z*C))).drop (o*(Z*(Z*C))))=
      (List.range Z).foldl (fun s i=>(List.range Z).foldl (fun s j=>(List.range C).foldl (fun s c=>j3 s (atN W C xs (h*S+i) (w*S+j) c*ws.getD (((o*Z+i)*Z+j)*C+c) 0)) s) s) 0:=by
  obtain⟨z1,z3,s2,hh,ww⟩:=v
  unfold E5
  rw[tG,tE]
  refine fold_congr Z _ fun s i hi2=>?_
  rw[tE]
  refine fold_congr Z _ fun s j hj=>?_
  refine fold_congr C _ fun s c hc=>?_
  have hb:j*C+c<Z*C:=by
    have:(j+1)*C≤Z*C:=Nat.mul_le_mul_right _ hj
    rw[Nat.add_mul]at this;omega
  have hb2:i*(Z*C)+(j*C+c)<Z*(Z*C):=by
    have:(i+1)*(Z*C)≤Z*(Z*C):=Nat.mul_le_mul_right _ hi2
    rw[Nat.add_mul]at this;omega
  have a1:=yW r (show h*S+i<H by omega) (show w*S+j<W by omega) hc
  have a2:=hi _ (py (xs:=ws) (i:=o*(Z*(Z*C))+(i*(Z*C)+(j*C+c))) (by omega))
  rw[List.getD_eq_getElem?_getD,E6 hi2 hj hc,Option.getD_some,List.getD_eq_getElem?_getD,vD hb2,←List.getD_eq_getElem?_getD,se]
  unfold qw
  rw[Eb (by omega) (by omega),Eb (by omega) (by omega)]
theorem Cs {k:Nat} {H W C:Nat} {xs:List Int} (r:gl H W C xs) {l:ag} {Z S h w o:Nat} (hk:512<k) (hwN:l.weights.length≤b7) (hz:l.size=Z) (hs:l.step=S) (f:Fits H W C xs l Z S h w o):
    mY k (ot H W C xs) l h w o=some (gR W C xs l Z S h w o):=by
  have hM:=bm
  have hcu:=r.Fg
  have hlen:=r.len
  unfold mY gR
  cases f with
  | DJ h0 hb h8 hw =>
    rw[h0]
    simp only[beq_self_eq_true,cond_true]
    rw[ed,aa,show(ot H W C xs).sh.size=((xs.length:Nat):Int)from by rw[hlen];exact r.size,vA (by omega),vN (by omega),ae,if_pos (by omega),ae,if_pos (by omega),Int.toNat_natCast,Int.toNat_natCast,
      show(ot H W C xs).data=xs from rfl,Ae (by omega) (by simp;omega) (by omega),aa,bF,aK hb,aa,jS,aa,oT,aa]
    unfold mf
    rw[cc hb]
  | conv h0 hb h8 hw v hi =>
    have hl:=tG W C xs Z S h w
    have hvv:=v
    obtain⟨z1,z3,s2,hh,ww⟩:=hvv
    have:=r.h8
    have:=r.w8
    have hc8:=r.c8
    have hq:Z*(Z*C)≤3*(3*8):=Nat.mul_le_mul v.z3 (Nat.mul_le_mul v.z3 r.c8)
    rw[h0]
    show iter _ k _=some (mf l (E4 W C xs Z S h w) o)
    refine(jh Z (fun s i=>(List.range Z).foldl (fun s j=>(List.range C).foldl (fun s c=>j3 s (atN W C xs (h*S+i) (w*S+j) c*l.weights.getD (((o*Z+i)*Z+j)*C+c) 0)) s) s) 0
      (fin:=fun y=>(idx l.fX (o:Int)).bind fun e14=>(ib k y e14).bind fun r15=>(jc k r15 l.mult l.shift l.zero).bind fun r16=>some r16) (fun i a next hi2=>?_) (fun a next=>?_) (by omega)).trans ?_
    · simp only[eB,hz,hs]
      rw[ae,if_pos (by omega),aU hi2 (by omega)]
      refine jh Z (fun s j=>(List.range C).foldl (fun s c=>j3 s (atN W C xs (h*S+i) (w*S+j) c*l.weights.getD (((o*Z+i)*Z+j)*C+c) 0)) s) a (fin:=fun y=>next (y,((i+1:Nat):Int))) (fun j a2 next2 hj=>?_) (fun a2 next2=>?_) (by omega)
      · simp only[eA,hz,hs]
        rw[ae,if_pos (by omega),aU hj (by omega)]
        refine jh C (fun s c=>j3 s (atN W C xs (h*S+i) (w*S+j) c*l.weights.getD (((o*Z+i)*Z+j)*C+c) 0)) a2 (fin:=fun y=>next2 (y,((j+1:Nat):Int))) (fun c a3 next3 hc=>?_) (fun a3 next3=>?_) (by omega)
        · have e1:h*S+i<H:=by omega
          have e2:w*S+j<W:=by omega
          have e:=md (k:=k) r hk e1 e2 hc
          have o1:o*Z≤7*3:=Nat.mul_le_mul (by omega) z3
          have o2:(o*Z+i)*Z≤23*3:=Nat.mul_le_mul (by omega) z3
          have o3:((o*Z+i)*Z+j)*C≤71*8:=Nat.mul_le_mul (by omega) hc8
          have hb:j*C+c<Z*C:=by
            have:(j+1)*C≤Z*C:=Nat.mul_le_mul_right _ hj
            rw[Nat.add_mul]at this;omega
          have hb2:i*(Z*C)+(j*C+c)<Z*(Z*C):=by
            have:(i+1)*(Z*C)≤Z*(Z*C):=Nat.mul_le_mul_right _ hi2
            rw[Nat.add_mul]at this;omega
          have hx:((o*Z+i)*Z+j)*C+c<l.weights.length:=by rw[se];omega
          have a1:=yW r e1 e2 hc
          have a2:=hi _ (py hx)
          have a3:=E3 (A:=128) (B:=128) (x:=atN W C xs (h*S+i) (w*S+j) c) (y:=l.weights.getD (((o*Z+i)*Z+j)*C+c) 0) (by omega) (by omega)
          unfold ot at e
          simp only[ez,hz,hs,ot]
          refine(Cn (by omega) _ _).trans ?_
          rw[vA (a:=h) (by omega),vN (b:=i) (by omega),vA (a:=w) (by omega),vN (b:=j) (by omega),e,aa,vA (a:=o) (by omega),vN (b:=i) (by omega),vA (by omega),vN (b:=j) (by omega),vA (by omega),vN (b:=c) (by omega),bF,aK hx,aa,←cc hx 0,aN (n:=atN W C xs (h*S+i) (w*S+j) c*l.weights.getD (((o*Z+i)*Z+j)*C+c) 0) (by omega) (by omega),jS,aa,aU hc (by omega)]
        · simp only[ez,ot]
          exact Gt (by omega) _ _
      · simp only[eA,hz]
        rw[ae,if_neg (by omega)]
    · simp only[eB,hz]
      rw[ae,if_neg (by omega)]
    · rw[bF,aK hb,aa,jS,aa,oT,aa]
      unfold mf
      rw[hl,DK r hi v hw,cc hb]
  | max h0 v ho =>
    rw[h0]
    show(gN k (ot H W C xs) l h w o).bind _=_
    rw[vC r hk hz hs v ho,aa]
    have hl:=ji (xs:=xs) (C:=C) (o:=o) v
    obtain⟨x,ys,e⟩:=qG (xs:=xs) (C:=C) (o:=o) v
    rw[e]at hl
    simp only[List.length_cons]at hl
    show _=some (gm (eZ W C xs Z S h w o))
    rw[e,ae,if_pos (by simp only[List.length_cons];omega)]
    show(some x).bind _=_
    rw[aa,yX (xs:=ys) (x:=x) (fin:=some) (fun i a next hi=>by
      simp only[eC]
      rw[ae,if_pos (by simp only[List.length_cons];omega),ae,if_pos (by simp only[List.length_cons];omega),Int.toNat_natCast,List.getElem?_cons_succ,aK hi,aa,aU (show i+1<ys.length+1 by omega) (by omega)]
      have hlt:0≤((i+1:Nat):Int)∧((i+1:Nat):Int)<(((x::ys).length:Nat):Int):=by rw[List.length_cons];omega
      rw[Cn hlt,aa,ae]
      by_cases c:ys[i]>a
      · rw[if_pos c,if_pos c]
      · rw[if_neg c,if_neg c]) (fun a next=>by
      simp only[eC]
      rw[ae,if_neg (by simp only[List.length_cons];omega)]) (by omega)]
  | avg h0 v ho =>
    rw[h0]
    show(gN k (ot H W C xs) l h w o).bind _=_
    rw[vC r hk hz hs v ho,aa]
    have hl:=ji (xs:=xs) (C:=C) (o:=o) v
    have hm:=pz r v ho
    have hb:=qF hm
    show _=some (dK (eZ W C xs Z S h w o).sum ((Z*Z:Nat):Int))
    rw[vF (xs:=eZ W C xs Z S h w o) (fin:=fun y26=>(cond (decide (y26<(0:Int))) (cond (decide ((IntKind.i64.wrap ((2:Int)*((eZ W C xs Z S h w o).length:Int)))=0)) none (some (IntKind.i64.wrap (0-(IntKind.i64.wrap ((IntKind.i64.wrap ((IntKind.i64.wrap ((-2:Int)*y26))+((eZ W C xs Z S h w o).length:Int))).tdiv (IntKind.i64.wrap ((2:Int)*((eZ W C xs Z S h w o).length:Int))))))))) (cond (decide ((IntKind.i64.wrap ((2:Int)*((eZ W C xs Z S h w o).length:Int)))=0)) none (some (IntKind.i64.wrap ((IntKind.i64.wrap ((IntKind.i64.wrap ((2:Int)*y26))+((eZ W C xs Z S h w o).length:Int))).tdiv (IntKind.i64.wrap ((2:Int)*((eZ W C xs Z S h w o).length:Int))))))))) hm (by omega) (fun i a next hi=>by
      simp only[eD]
      rw[ae,if_pos (by omega),ae,if_pos (by omega),Int.toNat_natCast,aK hi,aa,aU hi (by omega)]) (fun a next=>by
      simp only[eD]
      rw[ae,if_neg (by omega)]) (by omega)]
    rw[hl.1]at hb⊢
    generalize (eZ W C xs Z S h w o).sum=y at hb⊢
    obtain⟨n,hn⟩:∃n:Nat,n=Z*Z:=⟨_,rfl⟩
    rw[←hn]at hb hl⊢
    unfold dK
    rw[aN (n:=2*(n:Int)) (by omega) (by omega),ae]
    by_cases c:y<0
    · rw[if_pos c,if_pos c,ae,if_neg (by omega),aN (n:=-2*y) (by omega) (by omega),aN (n:=-2*y+(n:Int)) (by omega) (by omega),Int.tdiv_eq_ediv_of_nonneg (by omega),show 2*-y+(n:Int)=-2*y+(n:Int)from by omega]
      have h:=sb (a:=-2*y+(n:Int)) (b:=2*(n:Int)) (by omega) (by omega)
      generalize (-2*y+(n:Int))/(2*(n:Int))=q at h
      rw[aN (n:=q) (by omega) (by omega),aN (by omega) (by omega)]
      congr 1;omega
    · rw[if_neg c,if_neg c,ae,if_neg (by omega),aN (n:=2*y) (by omega) (by omega),aN (n:=2*y+(n:Int)) (by omega) (by omega),Int.tdiv_eq_ediv_of_nonneg (by omega)]
      have h:=sb (a:=2*y+(n:Int)) (b:=2*(n:Int)) (by omega) (by omega)
      rw[aN (by omega) (by omega)]
  | Ga h0 h1 h2 h3 hz =>
    rw[h0]
    show(jM k (ot H W C xs) h w o).bind _=_
    rw[md r hk h1 h2 h3,aa]
    show cond (decide (atN W C xs h w o<l.zero)) _ _=some (if atN W C xs h w o<l.zero then l.zero else atN W C xs h w o)
    rw[ae]
    by_cases c:atN W C xs h w o<l.zero
    · rw[if_pos c,if_pos c]
    · rw[if_neg c,if_neg c]
  | flat h0 ho =>
    rw[h0]
    show(idx xs (o:Int)).bind _=_
    rw[bF,aK ho]
    show _=some (xs.getD o 0)
    rw[cc ho];rfl
end Go.Proofs.Ev
set_option linter.unusedVariables false
set_option linter.unusedSimpArgs false
namespace Go.Proofs.Ev
theorem FY {a b:Int} (h:a≠b):(a==b)=false:=by simpa using h
theorem ou {a b:Int} {x:Int} (h:a≤x∧x≤b) (h0:0≤a):∃n:Nat,x=n:=⟨x.toNat,by omega⟩
theorem oU {H W C Z S:Nat} {l:ag} {c:Int} (hz:l.size=Z) (hs:l.step=S) (s1:1≤S) (h8:H≤8) (w8:W≤8) (hzH:Z≤H) (hzW:Z≤W):
    lq ⟨H,W,C⟩ l c=⟨((H-Z)/S+1:Nat),((W-Z)/S+1:Nat),c⟩:=by
  have key:∀n:Nat,n≤8→Z≤n→IntKind.i64.wrap ((IntKind.i64.wrap ((IntKind.i64.wrap ((n:Int)-(Z:Int))).tdiv (S:Int)))+1)=(((n-Z)/S+1:Nat):Int):=fun n h1 h2=>by
    have e1:((n:Int)-(Z:Int))=((n-Z:Nat):Int):=by omega
    have e2:(((n-Z:Nat):Int)).tdiv (S:Int)=(((n-Z)/S:Nat):Int):=rfl
    have e3:(n-Z)/S≤n-Z:=Nat.div_le_self _ _
    rw[e1,aN (n:=((n-Z:Nat):Int)) (by omega) (by omega),e2]
    generalize (n-Z)/S=q at e3
    rw[aN (n:=((q:Nat):Int)) (by omega) (by omega),aN (by omega) (by omega)]
    omega
  unfold lq
  rw[hz,hs]
  simp only[key H h8 hzH,key W w8 hzW]
theorem tH {n Z S:Nat} (h:n≤8) (h1:1≤Z) (h2:Z≤n):1≤(n-Z)/S+1∧(n-Z)/S+1≤8:=by
  have e3:(n-Z)/S≤n-Z:=Nat.div_le_self _ _
  generalize (n-Z)/S=q at e3
  omega
theorem Ct {H W Z S h w:Nat} (z1:1≤Z) (z3:Z≤3) (s1:1≤S) (s2:S≤2) (hzH:Z≤H) (hzW:Z≤W) (hh:h<(H-Z)/S+1) (hw:w<(W-Z)/S+1):Cp H W Z S h w:=by
  have a1:h*S≤H-Z:=(Nat.le_div_iff_mul_le (by omega)).1 (by omega)
  have a2:w*S≤W-Z:=(Nat.le_div_iff_mul_le (by omega)).1 (by omega)
  exact⟨z1,z3,s2,by omega,by omega⟩
theorem vG {l:ag} (h:yS l=true):(1≤l.out∧l.out≤8)∧(l.fX.length:Int)=l.out∧∀x∈l.weights,-128≤x∧x≤127:=by
  simp only[yS,Bool.and_eq_true,bE,decide_eq_true_eq]at h
  obtain⟨h1,h2,h3,h4,h5,h6,h7⟩:=h
  unfold kM at h7
  rw[List.all_eq_true]at h7
  exact⟨h1,h5,fun x hx=>bE.1 (h7 x hx)⟩
theorem ov {H W C:Nat} {xs:List Int} (r:gl H W C xs) {l:ag} (hl:cN ⟨H,W,C⟩ l=true):
    ∃Z S H' W' C':Nat,l.size=Z∧l.step=S∧shapeOf ⟨H,W,C⟩ l=⟨H',W',C'⟩∧(1≤H'∧H'≤8)∧(1≤W'∧W'≤8)∧(1≤C'∧C'≤8)∧
      ∀h w o,h<H'→w<W'→o<C'→Fits H W C xs l Z S h w o:=by
  have hr:=r
  obtain⟨h1,h8,w1,w8,c1,c8,hlen,hmem⟩:=hr
  have hsz:=r.size
  unfold cN at hl
  rw[Bool.and_eq_true]at hl
  obtain⟨-,hl⟩:=hl
  unfold shapeOf
  by_cases k0:l.kind=0
  · rw[decide_eq_true k0]at hl⊢
    simp only[cond_true,Bool.and_eq_true,decide_eq_true_eq,j6]at hl
    obtain⟨⟨z0,s0⟩,hn,hs,hw⟩:=hl
    obtain⟨ho,hb,hi⟩:=vG hn
    obtain⟨O,hO⟩:=ou ho (by omega)
    rw[hO]at ho hb
    refine⟨0,0,1,1,O,by omega,by omega,by rw[cond_true,hO];rfl,by omega,by omega,by omega,fun h w o _ _ hlt=>.DJ k0 (by omega) (by omega) ?_⟩
    rw[hO,hsz]at hw
    have:((O:Int)*((H*W*C:Nat):Int))=((O*(H*W*C):Nat):Int):=(Int.natCast_mul _ _).symm
    rw[this]at hw
    have:(o+1)*(H*W*C)≤O*(H*W*C):=Nat.mul_le_mul_right _ hlt
    rw[Nat.add_mul,Nat.one_mul]at this
    rw[hlen];omega
  rw[decide_eq_false k0]at hl⊢
  simp only[cond_false]at hl⊢
  by_cases k1:l.kind=1
  · rw[decide_eq_true k1]at hl⊢
    simp only[cond_true,Bool.and_eq_true,decide_eq_true_eq]at hl⊢
    obtain⟨hwin,hn,hw,hw6⟩:=hl
    obtain⟨z1,z3,s1,s2,zh,zw⟩:=jf hwin
    obtain⟨ho,hb,hi⟩:=vG hn
    obtain⟨O,hO⟩:=ou ho (by omega)
    obtain⟨Z,hZ⟩:=ou ⟨z1,z3⟩ (by omega)
    obtain⟨S,hS⟩:=ou ⟨s1,s2⟩ (by omega)
    rw[hO]at ho hb
    rw[hZ]at z1 z3 zh zw
    rw[hS]at s1 s2
    have zh:Z≤H:=by have:((Z:Nat):Int)≤(H:Int):=zh;omega
    have zw:Z≤W:=by have:((Z:Nat):Int)≤(W:Int):=zw;omega
    have d1:=tH (S:=S) h8 (show 1≤Z by omega) zh
    have d2:=tH (S:=S) w8 (show 1≤Z by omega) zw
    refine⟨Z,S,(H-Z)/S+1,(W-Z)/S+1,O,hZ,hS,by rw[oU hZ hS (by omega) h8 w8 zh zw,hO],d1,d2,by omega,fun h w o hh hw2 hlt=>.conv k1 (by omega) (by omega) ?_ (Ct (by omega) (by omega) (by omega) (by omega) zh zw hh hw2) hi⟩
    rw[hO,hZ]at hw
    have:((O:Int)*(Z:Int)*(Z:Int)*(C:Int))=((O*(Z*(Z*C)):Nat):Int):=by
      rw[Int.natCast_mul,Int.natCast_mul,Int.natCast_mul,Int.mul_assoc,Int.mul_assoc]
    have hw:(l.weights.length:Int)=(O:Int)*(Z:Int)*(Z:Int)*(C:Int):=hw
    rw[this]at hw
    have:(o+1)*(Z*(Z*C))≤O*(Z*(Z*C)):=Nat.mul_le_mul_right _ hlt
    rw[Nat.add_mul,Nat.one_mul]at this
    omega
  rw[decide_eq_false k1]at hl⊢
  simp only[cond_false]at hl⊢
  by_cases k2:l.kind=2∨l.kind=3
  · have hk:(decide (l.kind=2)||decide (l.kind=3))=true:=by simpa using k2
    rw[hk]at hl
    simp only[cond_true,Bool.and_eq_true,decide_eq_true_eq]at hl
    obtain⟨hwin,hn,hw⟩:=hl
    obtain⟨z1,z3,s1,s2,zh,zw⟩:=jf hwin
    obtain⟨Z,hZ⟩:=ou ⟨z1,z3⟩ (by omega)
    obtain⟨S,hS⟩:=ou ⟨s1,s2⟩ (by omega)
    rw[hZ]at z1 z3 zh zw
    rw[hS]at s1 s2
    have zh:Z≤H:=by have:((Z:Nat):Int)≤(H:Int):=zh;omega
    have zw:Z≤W:=by have:((Z:Nat):Int)≤(W:Int):=zw;omega
    have d1:=tH (S:=S) h8 (show 1≤Z by omega) zh
    have d2:=tH (S:=S) w8 (show 1≤Z by omega) zw
    rw[decide_eq_false (show¬l.kind=4 by omega),decide_eq_false (show¬l.kind=5 by omega)]
    simp only[cond_false]
    refine⟨Z,S,(H-Z)/S+1,(W-Z)/S+1,C,hZ,hS,oU hZ hS (by omega) h8 w8 zh zw,d1,d2,by omega,fun h w o hh hw2 hlt=>?_⟩
    have v:=Ct (by omega) (by omega) (by omega) (by omega) zh zw hh hw2
    rcases k2 with k2|k2
    · exact .max k2 v hlt
    · exact .avg k2 v hlt
  have hk:(decide (l.kind=2)||decide (l.kind=3))=false:=by simpa using k2
  rw[hk]at hl
  simp only[cond_false]at hl
  by_cases k4:l.kind=4
  · rw[decide_eq_true k4]at hl⊢
    simp only[cond_true,Bool.and_eq_true,decide_eq_true_eq,j6,bE]at hl⊢
    obtain⟨⟨z0,s0⟩,hn,hz⟩:=hl
    exact⟨0,0,H,W,C,by omega,by omega,rfl,by omega,by omega,by omega,fun h w o a b c=>.Ga k4 a b c hz⟩
  rw[decide_eq_false k4]at hl⊢
  simp only[cond_false]at hl⊢
  by_cases k5:l.kind=5
  · rw[decide_eq_true k5]at hl⊢
    simp only[cond_true,Bool.and_eq_true,decide_eq_true_eq,j6]at hl⊢
    obtain⟨⟨z0,s0⟩,hn,hz,hs⟩:=hl
    have p1:1≤H*W:=Nat.mul_le_mul h1 w1
    have p2:1≤H*W*C:=Nat.mul_le_mul p1 c1
    rw[hsz]at hs⊢
    exact⟨0,0,1,1,H*W*C,by omega,by omega,rfl,by omega,by omega,by omega,fun h w o a b c=>.flat k5 (by rw[hlen];exact c)⟩
  rw[decide_eq_false k5]at hl
  exact nomatch hl
theorem Ag {x d:Int} (hd:1≤d) (h1:-128*d≤x) (h2:x≤127*d):-128≤dK x d∧dK x d≤127:=by
  unfold dK
  by_cases c:x<0
  · rw[if_pos c]
    have a1:0≤(2*-x+d)/(2*d):=Int.ediv_nonneg (by omega) (by omega)
    have a2:(2*-x+d)/(2*d)<129:=Int.ediv_lt_of_lt_mul (by omega) (by omega)
    omega
  · rw[if_neg c]
    have a1:0≤(2*x+d)/(2*d):=Int.ediv_nonneg (by omega) (by omega)
    have a2:(2*x+d)/(2*d)<128:=Int.ediv_lt_of_lt_mul (by omega) (by omega)
    omega
theorem DL {H W C:Nat} {xs:List Int} (r:gl H W C xs) {l:ag} {Z S h w o:Nat} (f:Fits H W C xs l Z S h w o):-128≤gR W C xs l Z S h w o∧gR W C xs l Z S h w o≤127:=by
  unfold gR
  cases f with
  |DJ h0 hb h8 hw=>rw[h0];exact qx _
  |conv h0 hb h8 hw v hi=>rw[h0];exact qx _
  | max h0 v ho =>
    rw[h0]
    obtain⟨x,ys,e⟩:=qG (xs:=xs) (C:=C) (o:=o) v
    show -128≤gm (eZ W C xs Z S h w o)∧gm (eZ W C xs Z S h w o)≤127
    have:=pz r v ho
    rw[e]at this⊢
    exact this _ (kQ ys x)
  | avg h0 v ho =>
    rw[h0]
    have hl:=ji (xs:=xs) (C:=C) (o:=o) v
    have hb:=qF (pz r v ho)
    rw[hl.1]at hb
    show -128≤dK (eZ W C xs Z S h w o).sum ((Z*Z:Nat):Int)∧dK (eZ W C xs Z S h w o).sum ((Z*Z:Nat):Int)≤127
    exact Ag (by omega) hb.1 hb.2
  | Ga h0 h1 h2 h3 hz =>
    rw[h0]
    have:=yW r h1 h2 h3
    show -128≤(if atN W C xs h w o<l.zero then l.zero else atN W C xs h w o)∧(if atN W C xs h w o<l.zero then l.zero else atN W C xs h w o)≤127
    by_cases c:atN W C xs h w o<l.zero
    · rw[if_pos c];exact hz
    · rw[if_neg c];exact this
  |flat h0 ho=>rw[h0];exact r.mem _ (py ho)
def runN (W C:Nat) (xs:List Int) (l:ag) (Z S H' W' C':Nat):List Int:=
  (List.range H').flatMap fun h=>(List.range W').flatMap fun w=>(List.range C').flatMap fun o=>[gR W C xs l Z S h w o]
def qX (t:al) (l:ag):al× Bool:=
  cond (t.okB&&cN t.sh l) (⟨shapeOf t.sh l,runN t.sh.w.toNat t.sh.c.toNat t.data l l.size.toNat l.step.toNat (shapeOf t.sh l).h.toNat (shapeOf t.sh l).w.toNat (shapeOf t.sh l).c.toNat⟩,true) (⟨dJ,[]⟩,false)
theorem DM (W C:Nat) (xs:List Int) (l:ag) (Z S H' W' C':Nat):(runN W C xs l Z S H' W' C').length=H'*(W'*(C'*1)):=
  dO _ _ _ fun i hi=>dO _ _ _ fun j hj=>dO _ _ _ fun o ho=>rfl
theorem lu {t:al} {l:ag} (h1:t.okB=true) (h2:cN t.sh l=true):(qX t l).1.okB=true∧(qX t l).1.sh=shapeOf t.sh l∧(qX t l).2=true:=by
  obtain⟨H,W,C,r,e⟩:=tF h1
  have e2:t.sh=⟨H,W,C⟩:=by rw[e];rfl
  have h2':=h2
  rw[e2]at h2'
  obtain⟨Z,S,H',W',C',hz,hs,hsh,a1,a2,a3,hf⟩:=ov r h2'
  unfold qX
  rw[h1,h2]
  simp only[Bool.and_self,cond_true]
  refine And.intro ?_ (by simp)
  rw[e2,hsh,show l.size.toNat=Z from by omega,show l.step.toNat=S from by omega]
  simp only[Int.toNat_natCast]
  refine gl.ok (H:=H') (W:=W') (C:=C') ⟨a1.1,a1.2,a2.1,a2.2,a3.1,a3.2,by rw[DM,Nat.mul_one,Nat.mul_assoc],fun x hx=>?_⟩
  unfold runN at hx
  rw[List.mem_flatMap]at hx
  obtain⟨i,hi,hx⟩:=hx
  rw[List.mem_flatMap]at hx
  obtain⟨j,hj,hx⟩:=hx
  rw[List.mem_flatMap]at hx
  obtain⟨o,ho,hx⟩:=hx
  rw[List.mem_range]at hi hj ho
  rw[List.mem_singleton]at hx
  rw[hx]
  exact DL r (hf i j o hi hj ho)
theorem tI {k:Nat} {t:al} {l:ag} (hk:512<k) (hd:t.data.length<k) (hdN:t.data.length≤b7) (hl:l.tot<k) (hlN:l.tot≤b7):lk k t l=some (qX t l):=by
  have hM:=bm
  unfold lk qX
  rw[gf hd (by unfold pn;omega),aa]
  cases h1:t.okB
  · rfl
  simp only[Bool.not_true,cond_false,Bool.true_and]
  rw[gg hl hlN,aa]
  unfold da
  cases h2:cN t.sh l
  · rfl
  obtain⟨H,W,C,r,e⟩:=tF h1
  obtain⟨sh,xs⟩:=t
  have e2:sh=⟨H,W,C⟩:=congrArg al.sh e
  subst e2
  obtain⟨Z,S,H',W',C',hz,hs,hsh,a1,a2,a3,hf⟩:=ov r h2
  have hwN:l.weights.length≤b7:=by unfold ag.tot at hlN;omega
  simp only[cond_true,Bool.not_true,cond_false]
  rw[hsh,show l.size.toNat=Z from by omega,show l.step.toNat=S from by omega]
  simp only[Int.toNat_natCast]
  have m1:∀w:Nat,∀h:Nat,((List.range C').flatMap fun o=>[gR W C xs l Z S h w o]).length≤8:=fun w h=>by
    have:=gj (fun o=>[gR W C xs l Z S h w o]) 1 C' (fun _ _=>Nat.le_refl _);omega
  have m2:∀h:Nat,((List.range W').flatMap fun w=>(List.range C').flatMap fun o=>[gR W C xs l Z S h w o]).length≤64:=fun h=>by
    have:=gj (fun w=>(List.range C').flatMap fun o=>[gR W C xs l Z S h w o]) 8 W' (fun w _=>m1 w h);omega
  refine(cX H' 64 (fun h=>(List.range W').flatMap fun w=>(List.range C').flatMap fun o=>[gR W C xs l Z S h w o]) [] (fin:=fun y=>some ((⟨⟨H',W',C'⟩,y⟩:al),true)) (fun h _=>m2 h) (fun h ys next hi hy=>?_) (fun ys next=>?_) (by omega)).trans (by rw[List.nil_append];rfl)
  · simp only[dB]
    rw[ae,if_pos (by omega),aU hi (by omega)]
    refine cX W' 8 (fun w=>(List.range C').flatMap fun o=>[gR W C xs l Z S h w o]) ys (fin:=fun y=>next (((h+1:Nat):Int),y)) (fun w _=>m1 w h) (fun w zs next2 hj hz2=>?_) (fun zs next2=>?_) (by omega)
    · simp only[dA]
      rw[ae,if_pos (by omega),aU hj (by omega)]
      refine cX C' 1 (fun o=>[gR W C xs l Z S h w o]) zs (fin:=fun y=>next2 (((w+1:Nat):Int),y)) (fun _ _=>Nat.le_refl _) (fun o us next3 ho hz3=>?_) (fun us next3=>?_) (by omega)
      · simp only[dz]
        simp only[List.length_nil]at hy
        have eq:=Cs (k:=k) r (l:=l) hk hwN hz hs (hf h w o hi hj ho)
        rw[ae,if_pos (by omega)]
        refine(congrArg (fun o:Option Int=>o.bind _) eq).trans ?_
        rw[aa,j1 (by simp;omega),aU ho (by omega)]
      · simp only[dz]
        rw[ae,if_neg (by omega)]
    · simp only[dA]
      rw[ae,if_neg (by omega)]
  · simp only[dB]
    rw[ae,if_neg (by omega)]
theorem tJ {k:Nat} {t:al} {l:ag} (hk:512<k) (hd:t.data.length<k) (hdN:t.data.length≤b7) (hl:l.tot<k) (hlN:l.tot≤b7):ll k t l=some (qX t l):=by
  have hM:=bm
  unfold ll qX
  rw[jQ hl hlN,aa,jP hd (by unfold pn;omega)]
  unfold da
  cases h2:cN t.sh l
  · cases t.okB<;>rfl
  simp only[cond_true,Bool.not_true,cond_false,aa]
  cases h1:t.okB
  · rfl
  simp only[Bool.not_true,cond_false,Bool.and_self,cond_true]
  obtain⟨H,W,C,r,e⟩:=tF h1
  obtain⟨sh,xs⟩:=t
  have e2:sh=⟨H,W,C⟩:=congrArg al.sh e
  subst e2
  obtain⟨Z,S,H',W',C',hz,hs,hsh,a1,a2,a3,hf⟩:=ov r h2
  have hwN:l.weights.length≤b7:=by unfold ag.tot at hlN;omega
  rw[hsh,show l.size.toNat=Z from by omega,show l.step.toNat=S from by omega]
  simp only[Int.toNat_natCast]
  have m1:∀w:Nat,∀h:Nat,((List.range C').flatMap fun o=>[gR W C xs l Z S h w o]).length≤8:=fun w h=>by
    have:=gj (fun o=>[gR W C xs l Z S h w o]) 1 C' (fun _ _=>Nat.le_refl _);omega
  have m2:∀h:Nat,((List.range W').flatMap fun w=>(List.range C').flatMap fun o=>[gR W C xs l Z S h w o]).length≤64:=fun h=>by
    have:=gj (fun w=>(List.range C').flatMap fun o=>[gR W C xs l Z S h w o]) 8 W' (fun w _=>m1 w h);omega
  refine(cX H' 64 (fun h=>(List.range W').flatMap fun w=>(List.range C').flatMap fun o=>[gR W C xs l Z S h w o]) [] (fin:=fun y=>some ((⟨⟨H',W',C'⟩,y⟩:al),true)) (fun h _=>m2 h) (fun h ys next hi hy=>?_) (fun ys next=>?_) (by omega)).trans (by rw[List.nil_append];rfl)
  · simp only[dF]
    rw[ae,if_pos (by omega),aU hi (by omega)]
    refine cX W' 8 (fun w=>(List.range C').flatMap fun o=>[gR W C xs l Z S h w o]) ys (fin:=fun y=>next (((h+1:Nat):Int),y)) (fun w _=>m1 w h) (fun w zs next2 hj hz2=>?_) (fun zs next2=>?_) (by omega)
    · simp only[dE]
      rw[ae,if_pos (by omega),aU hj (by omega)]
      refine cX C' 1 (fun o=>[gR W C xs l Z S h w o]) zs (fin:=fun y=>next2 (((w+1:Nat):Int),y)) (fun _ _=>Nat.le_refl _) (fun o us next3 ho hz3=>?_) (fun us next3=>?_) (by omega)
      · simp only[dD]
        simp only[List.length_nil]at hy
        have eq:=Cr (k:=k) r (l:=l) hk hwN hz hs (hf h w o hi hj ho)
        rw[ae,if_pos (by omega)]
        refine(congrArg (fun o:Option Int=>o.bind _) eq).trans ?_
        rw[aa,j1 (by simp;omega),aU ho (by omega)]
      · simp only[dD]
        rw[ae,if_neg (by omega)]
    · simp only[dE]
      rw[ae,if_neg (by omega)]
  · simp only[dF]
    rw[ae,if_neg (by omega)]
end Go.Proofs.Ev
set_option linter.unusedVariables false
set_option linter.unusedSimpArgs false
namespace Go.Proofs.Ev
end Go.Proofs.Ev
set_option linter.unusedVariables false
set_option linter.unusedSimpArgs false
namespace Go.Proofs.Ev
def ow:ag:=⟨0,0,0,0,0,0,0,[],[]⟩
theorem sf:∀(ls:List ag) (s:Shape) (t:List Shape),bc s ls=some t→∀i,i<ls.length→cN ((s::t).getD i dJ) (ls.getD i ow)=true∧(s::t).getD (i+1) dJ=shapeOf ((s::t).getD i dJ) (ls.getD i ow)
  |[],s,t,h,i,hi=>by simp at hi
  | l :: ls, s, t, h, i, hi => by
    simp only[bc]at h
    cases hb:cN s l<;>simp only[hb,cond_true,cond_false]at h
    · exact nomatch h
    · obtain⟨t',h1,rfl⟩:=Option.map_eq_some_iff.1 h
      cases i with
      |zero=>exact⟨hb,rfl⟩
      |succ i=>exact sf ls (shapeOf s l) t' h1 i (by simpa using hi)
theorem eF {m:Model} (h:cd m=true):(1≤m.ai.length∧m.ai.length≤6)∧∀i,i<m.ai.length→cN ((bd m).getD i dJ) (m.ai.getD i ow)=true∧(bd m).getD (i+1) dJ=shapeOf ((bd m).getD i dJ) (m.ai.getD i ow):=by
  unfold bd
  rw[h,cond_true]
  unfold cd at h
  unfold bJ at h⊢
  cases h1:(m.inp.okB&&inB (m.ai.length:Int) 1 6)<;>rw[h1]at h
  · exact nomatch h
  · simp only[cond_true]at h⊢
    rw[Bool.and_eq_true,bE]at h1
    cases h2:bc m.inp m.ai with
    |none=>rw[h2]at h;exact nomatch h
    |some t=>exact⟨by omega,sf m.ai m.inp t h2⟩
theorem cO {j:Job} (h:lA j=true):cd j.model=true∧(0≤j.at_∧j.at_≤j.model.ai.length)∧j.act.okB=true∧j.act.sh=(bd j.model).getD j.at_.toNat dJ∧j.cS=Ea ((b5 j.model).take j.at_.toNat):=by
  unfold lA at h
  simp only[Bool.and_eq_true,bE,decide_eq_true_eq]at h
  exact h
theorem ns {j:Job} (h:lA j=true):j.act.data.length≤512∧j.tot≤j.model.tot+512:=by
  have h1:=(cO h).2.2.1
  unfold al.okB at h1
  simp only[Bool.and_eq_true,decide_eq_true_eq]at h1
  have:=Shape.xj j.act.sh
  unfold Job.tot al.tot;omega
def mg (j:Job):ag:=j.model.ai.getD j.at_.toNat ow
def jU (j:Job):Int:=(b5 j.model).getD j.at_.toNat 0
def fS (j:Job):Job:=⟨j.model,j.at_+1,(qX j.act (mg j)).1,IntKind.i64.wrap (j.cS+jU j)⟩
theorem nt {j:Job} (h:lA j=true) (hd:j.at_≠(j.model.ai.length:Int)):lA (fS j)=true:=by
  obtain⟨hm,hat,hok,hsh,hsp⟩:=cO h
  obtain⟨hlen,hg⟩:=eF hm
  obtain⟨hl,hs⟩:=hg j.at_.toNat (by omega)
  rw[←hsh]at hl hs
  obtain⟨r1,r2,r3⟩:=lu hok hl
  have hcl:=il hm
  have hi:j.at_.toNat<(b5 j.model).length:=by omega
  have e:(j.at_+1).toNat=j.at_.toNat+1:=by omega
  unfold lA fS
  simp only[Bool.and_eq_true,bE,decide_eq_true_eq,hm,true_and,e]
  refine⟨by omega,r1,?_,?_⟩
  · show(qX j.act (mg j)).1.sh=_
    rw[hs];exact r2
  · unfold Ea jU
    rw[gM hi,List.foldl_append,cc hi,hsp]
    rfl
theorem E7 {V R:Type} {g:V→(V→Option R)→Option R} {fin:V→Option R} {st:Nat→V} {n:Nat} {k:Nat} (h:∀i,i<n→∀next,g (st i) next=next (st (i+1))) (hn:∀next,g (st n) next=fin (st n)) (hk:n<k):iter g k (st 0)=fin (st n):=
  fE (g:=g) (st:=st) (n:=n) (r:=fin (st n)) h hn hk
theorem qH {k:Nat} {j:Job} (hk:j.tot+8<k) (hN:j.tot<b7) (h:lA j=true):mZ k j=some ((b5 j.model).drop j.at_.toNat):=by
  obtain⟨hm,hat,hok,hsh,hsp⟩:=cO h
  have hcl:=il hm
  have ht:j.tot=j.model.tot+(j.act.tot+0):=rfl
  unfold mZ
  rw[gA (by omega) hN,aa,h]
  simp only[Bool.not_true,cond_false]
  rw[kN (by omega) (by omega),aa,ae,if_pos (by omega),List.take_of_length_le (by simp)]
theorem E8 (xs:List Int) (n:Nat):(xs.drop n)[0]? =if n<xs.length then some (xs.getD n 0)else none:=by
  rw[List.getElem?_drop,Nat.add_zero]
  by_cases c:n<xs.length
  · rw[if_pos c,aK c,cc c]
  · rw[if_neg c,List.getElem?_eq_none (by omega)]
theorem Cu {xs:List Int} {n:Nat} (h:¬n<xs.length):xs.getD n 0=0:=by
  rw[List.getD_eq_getElem?_getD,List.getElem?_eq_none (by omega)];rfl
theorem jV {k:Nat} {j:Job} (hk:j.tot+8<k) (hN:j.tot<b7) (h:lA j=true):dC k j=some (jU j):=by
  unfold dC jU
  rw[qH hk hN h,aa,Au,ae,List.length_drop]
  by_cases c:j.at_.toNat<(b5 j.model).length
  · rw[if_neg (by omega),yP,E8,if_pos c,aa]
  · rw[if_pos (by omega),Cu c]
def DN (j:Job):Job× Bool:=cond (lA j&&!(j.at_==(j.model.ai.length:Int))) (fS j,true) (j,false)
theorem Cv {j:Job} (h:lA j=true) (hd:j.at_≠(j.model.ai.length:Int)):j.model.ai[j.at_.toNat]? =some (mg j)∧(mg j).tot≤j.model.tot:=by
  obtain⟨hm,hat,hok,hsh,hsp⟩:=cO h
  have hi:j.at_.toNat<j.model.ai.length:=by omega
  unfold mg
  rw[cc hi]
  have:=pk ag.tot (List.getElem_mem hi)
  exact⟨aK hi,by unfold Model.tot;omega⟩
theorem kR {k:Nat} {j:Job} (hk:j.tot+513<k) (hN:j.tot<b7) (h:lA j=true) (c:j.at_≠(j.model.ai.length:Int)):
    bZ k j=some ((fS j).at_,(fS j).act.sh.h,(fS j).act.sh.w,(fS j).act.sh.c,(fS j).act.data,(fS j).cS):=by
  have hM:=bm
  have ht:j.tot=j.model.tot+(j.act.data.length+0+0):=rfl
  obtain⟨hm,hat,hok,hsh,hsp⟩:=cO h
  obtain⟨hlen,_⟩:=eF hm
  obtain⟨hl,hlt⟩:=Cv h c
  unfold bZ
  rw[jV (by omega) hN h,aa,ae,if_pos (by omega),hl,aa,tJ (by omega) (by omega) (by omega) (by omega) (by omega),aa,aN (n:=j.at_+1) (by omega) (by omega)]
  simp only[decide_true,cond_true]
  rfl
theorem vH {k:Nat} {j:Job} (hk:j.tot+513<k) (hN:j.tot<b7):na k j=some (DN j):=by
  unfold na DN
  rw[eX (by omega) (by omega),aa,gA (by omega) hN,aa]
  cases h:lA j
  · rfl
  simp only[Bool.not_true,cond_false,Bool.true_and]
  unfold bq
  rw[aa,Au]
  by_cases c:j.at_=(j.model.ai.length:Int)
  · rw[decide_eq_true c];rfl
  rw[decide_eq_false c,kR hk hN h c]
  rfl
end Go.Proofs.Ev
set_option linter.unusedVariables false
set_option linter.unusedSimpArgs false
namespace Go.Proofs.Ev
theorem yY (t:al) (l:ag):(qX t l).1.data.length≤512:=by
  cases h1:t.okB
  · unfold qX;rw[h1];exact Nat.zero_le _
  cases h2:cN t.sh l
  · unfold qX;rw[h1,h2];exact Nat.zero_le _
  obtain⟨h3,_,_⟩:=lu h1 h2
  unfold al.okB at h3
  simp only[Bool.and_eq_true,decide_eq_true_eq]at h3
  have:=Shape.xj (qX t l).1.sh
  omega
def eG (t:al) (ls:List ag):al:=ls.foldl (fun t l=>(qX t l).1) t
theorem sg:∀(ls:List ag) (t:al),(eG t ls).data.length≤t.data.length+512
  |[],t=>Nat.le_add_right _ _
  | l :: ls, t => by
    have:∀(ls:List ag) (t:al),t.data.length≤512→(eG t ls).data.length≤512:=fun ls=>by
      induction ls with
      |nil=>exact fun t h=>h
      |cons l ls ih=>exact fun t _=>ih _ (yY t l)
    have:=this ls (qX t l).1 (yY t l)
    show(eG (qX t l).1 ls).data.length≤_
    omega
theorem xq {t:al} {ls:List ag} {i:Nat} (h:i<ls.length):eG t (ls.take (i+1))=(qX (eG t (ls.take i)) ls[i]).1:=by
  unfold eG
  rw[gM h,List.foldl_append];rfl
def lB (m:Model) (t:al):al× Bool:=cond (cd m&&(t.okB&&decide (t.sh=m.inp))) (eG t m.ai,true) (⟨dJ,[]⟩,false)
def stE (i:Nat) (t:al):Int× Int× Int× Int× List Int:=((i:Int),t.sh.h,t.sh.w,t.sh.c,t.data)
theorem qY {k:Nat} {m:Model} {t:al} (hk:m.tot+t.data.length+520<k) (hN:m.tot+t.data.length+520≤b7):jO k m t=some (lB m t):=by
  have hM:=bm
  unfold jO lB
  rw[vn (by omega) (by omega),aa]
  cases hm:cd m
  · rfl
  simp only[Bool.not_true,cond_false,Bool.true_and]
  rw[gf (by omega) (by unfold pn;omega),aa,xo]
  cases t.okB
  · rfl
  simp only[Bool.not_true,cond_false,Bool.true_and]
  cases decide (t.sh=m.inp)
  · rfl
  simp only[Bool.not_true,cond_false,cond_true]
  rw[vk (by omega) (by omega),aa]
  obtain⟨hl,_⟩:=eF hm
  exact fE (g:=fun u7 n7=>cy k (m.inp.h,m.inp.w,m.inp.c,m.ai,(0:Int),(0:Int),(0:Int)) u7 n7 (fun y6=>some ((⟨(⟨y6.1,y6.2.1,y6.2.2.1⟩:Shape),y6.2.2.2⟩:al),true)))
    (st:=fun i=>stE i (eG t (m.ai.take i))) (n:=m.ai.length) (r:=some (eG t m.ai,true)) (fun i hi next=>by
      have hlen:=sg (m.ai.take i) t
      have hlt:=nk (k:=k) (m:=m) (by omega) (by omega) (List.getElem_mem hi)
      unfold stE
      simp only[cy]
      rw[ae,if_pos (by omega),bF,aK hi,aa,show(⟨⟨(eG t (m.ai.take i)).sh.h,(eG t (m.ai.take i)).sh.w,(eG t (m.ai.take i)).sh.c⟩,(eG t (m.ai.take i)).data⟩:al)=eG t (m.ai.take i)from rfl,
        tI (by omega) (by omega) (by omega) hlt.1 hlt.2,aa,aU hi (by omega),xq hi]) (fun next=>by
      rw[List.take_length]
      unfold stE
      simp only[cy]
      rw[ae,if_neg (by omega)]) (k:=k) (by omega)
theorem Cw (m:Model) (t:al):(lB m t).1.tot≤t.tot+512:=by
  unfold lB
  cases(cd m&&(t.okB&&decide (t.sh=m.inp)))
  · exact Nat.zero_le _
  · have:=sg m.ai t
    show(eG t m.ai).data.length+0≤t.data.length+0+512
    omega
end Go.Proofs.Ev
set_option linter.unusedVariables false
set_option linter.unusedSimpArgs false
namespace Go.Proofs.Ev
def DP (s:Shape) (t:List Shape):Shape:=t.getLast?.getD s
theorem Ah (s x:Shape) (t:List Shape):DP s (x::t)=DP x t:=by
  unfold DP
  cases t with
  |nil=>rfl
  |cons y t=>rw[List.getLast?_cons_cons];simp[List.getLast?_cons]
theorem Ai {m:Model}:cd m=true↔m.inp.okB=true∧inB (m.ai.length:Int) 1 6=true∧(bc m.inp m.ai).isSome=true:=by
  unfold cd bJ
  cases m.inp.okB<;>cases inB (m.ai.length:Int) 1 6<;>cases bc m.inp m.ai<;>simp
theorem Aj {m:Model} (h:cd m=true):∃t,bc m.inp m.ai=some t∧bJ m=(m.inp::t,true)∧t.length=m.ai.length:=by
  have h':=Ai.1 h
  obtain⟨t,ht⟩:=Option.isSome_iff_exists.1 h'.2.2
  refine⟨t,ht,?_,iF _ _ _ ht⟩
  unfold bJ
  rw[h'.1,h'.2.1,ht];rfl
end Go.Proofs.Ev
set_option linter.unusedVariables false
set_option linter.unusedSimpArgs false
set_option maxRecDepth 100000
namespace Go.Proofs.Ev
theorem ao.bej {A R:Type} {B:A→Option R} {K:A} {Q:R→Prop} (h:ao (B K) Q):ao (bej B K) Q:=h
theorem ao.Gy {R α:Type} {B:(α→Option R)→Option R} {K:α→Option R} {Q:R→Prop} (P:α→Prop) (hK:∀x,P x→ao (K x) Q) (hB:∀j:α→Option R,(∀x,P x→ao (j x) Q)→ao (B j) Q):ao (Go.Proofs.Ev.bej B K) Q:=hB K hK
theorem ao.GD {R α β γ:Type} {B:(α→β→γ→Option R)→Option R} {K:α→β→γ→Option R} {Q:R→Prop} (P:α→β→γ→Prop) (hK:∀x y z,P x y z→ao (K x y z) Q) (hB:∀j:α→β→γ→Option R,(∀x y z,P x y z→ao (j x y z) Q)→ao (B j) Q):ao (Go.Proofs.Ev.bej B K) Q:=hB K hK
theorem ao.GF {R α β γ δ:Type} {B:(α→β→γ→δ→Option R)→Option R} {K:α→β→γ→δ→Option R} {Q:R→Prop} (P:α→β→γ→δ→Prop) (hK:∀x y z u,P x y z u→ao (K x y z u) Q) (hB:∀j:α→β→γ→δ→Option R,(∀x y z u,P x y z u→ao (j x y z u) Q)→ao (B j) Q):ao (Go.Proofs.Ev.bej B K) Q:=hB K hK
theorem ao.of {α β:Type} {a:α} {f:α→Option β} {Q:β→Prop} (h:ao (f a) Q):ao ((Option.some a).bind f) Q:=h
theorem Shape.oz {s:Shape}:s.okB=true↔(1≤s.h∧s.h≤8)∧(1≤s.w∧s.w≤8)∧(1≤s.c∧s.c≤8):=by
  unfold Shape.okB
  simp only[Bool.and_eq_true,bE]
theorem Shape.kS (s:Shape):0≤s.size∧s.size≤512:=by
  unfold Shape.size
  cases h:s.okB
  · simp
  · obtain⟨⟨a1,a2⟩,⟨b1,b2⟩,c1,c2⟩:=Shape.oz.1 h
    simp only[cond_true]
    have h1:0≤s.h*s.w:=Int.mul_nonneg (by omega) (by omega)
    have h2:s.h*s.w≤8*8:=Int.mul_le_mul a2 b2 (by omega) (by omega)
    refine⟨Int.mul_nonneg h1 (by omega),?_⟩
    have h3:s.h*s.w*s.c≤64*8:=Int.mul_le_mul (by omega) c2 (by omega) (by omega)
    omega
theorem Shape.size_pos {s:Shape} (h:s.okB=true):1≤s.size:=by
  unfold Shape.size
  rw[h]
  obtain⟨⟨a1,a2⟩,⟨b1,b2⟩,c1,c2⟩:=Shape.oz.1 h
  simp only[cond_true]
  have h1:0<s.h*s.w:=Int.mul_pos (by omega) (by omega)
  have h2:0<s.h*s.w*s.c:=Int.mul_pos h1 (by omega)
  omega
section
variable {b:List Int} {k:Nat}
theorem kU (hb:b.length≤1048576) {i h m:Int} (hc:Cur b i) (h0:1≤m) (h1:m≤8):ao (cV k b i h m) fun r=>r.1.okB=true∧Cur b r.2.1:=by
  unfold cV
  refine(aO hb hc).bind fun r1 ⟨⟨p1,p2,_⟩,hc1⟩=>(aO hb hc1).bind fun r2 ⟨⟨q1,q2,_⟩,hc2⟩=>(aO hb hc2).bind fun r3 ⟨⟨u1,u2,_⟩,hc3⟩=>ao.must rfl (ao.some ⟨?_,hc3⟩)
  have p2:=p2 (by omega)
  have q2:=q2 (by omega)
  have u2:=u2 (by omega)
  refine Shape.oz.2 ?_
  simp only
  rw[aN (n:=1+r1.1) (by omega) (by omega),aN (n:=1+r2.1) (by omega) (by omega),aN (n:=1+r3.1) (by omega) (by omega)]
  omega
theorem lJ (hb:b.length≤1048576) {i h:Int} (hc:Cur b i):ao (dn k b i h) fun r=>(-128≤r.1∧r.1≤127)∧Cur b r.2.1:=by
  unfold dn
  refine(aO hb hc).bind fun r1 ⟨⟨p1,p2,_⟩,hc1⟩=>(aO hb hc1).bind fun r2 ⟨⟨q1,q2,_⟩,hc2⟩=>(fA hb hc2 (by simp)).bind fun r3 ⟨h3,hc3⟩=>ao.must rfl (ao.some ⟨?_,hc3⟩)
  have p2:=p2 (by omega)
  have q2:=q2 (by omega)
  rw[aN (n:=r1.1-128) (by omega) (by omega),aN (n:=r2.1-128) (by omega) (by omega)]at h3
  simp only[List.mem_cons,List.not_mem_nil,or_false]at h3
  omega
theorem fW (hb:b.length≤1048576) (hk:1000<k) {i h:Int} {s:Shape} (hc:Cur b i):ao (b6 k b i h s) fun r=>(r.1.sh=s∧(r.1.data.length:Int)=s.size)∧Cur b r.2.1:=by
  have hM:=bm
  have hs:=s.kS
  unfold b6
  refine ao.iter (Inv:=fun v:Int× Int× Int× List Int=>Cur b v.2.1∧0≤v.1∧v.1≤s.size∧(v.2.2.2.length:Int)=v.1) (m:=fun v=>(s.size-v.1).toNat) (fun v next hv hn=>?_) k _ ⟨hc,by simp;omega⟩ (by simp only;omega)
  obtain⟨v1,v2,v3,v4⟩:=hv
  unfold bX
  rw[ed]
  refine ao.of (ao.cond (fun h1=>?_) fun h1=>ao.must rfl (ao.some ⟨⟨rfl,?_⟩,v1⟩))
  · have h1:v.1<s.size:=of_decide_eq_true h1
    refine(lJ hb v1).bind fun r2 ⟨_,hc2⟩=>ao.ble (by simp;omega) (hn _ ⟨hc2,?_⟩ ?_)
    · simp only[List.length_append,List.length_cons,List.length_nil]
      rw[aN (n:=v.1+1) (by omega) (by omega)]
      omega
    · simp only
      rw[aN (n:=v.1+1) (by omega) (by omega)]
      omega
  · have h1:¬v.1<s.size:=of_decide_eq_false h1
    simp only;omega
theorem o6 (hb:b.length≤1048576) (hk:1000<k) {i h:Int} (hc:Cur b i):ao (dT k b i h) fun r=>r.1.data.length≤513∧Cur b r.2.1:=by
  have hM:=bm
  unfold dT
  refine(kU hb hc (by omega) (by omega)).bind fun r1 ⟨ok1,hc1⟩=>(fW hb hk hc1).bind fun r2 ⟨⟨e2,l2⟩,hc2⟩=>(oc hb hc2).bind fun r3 hc3=>?_
  have hs:=r1.1.kS
  have hp:=Shape.size_pos ok1
  refine ao.cond (fun _=>(aO hb hc3).bind fun r4 ⟨_,hc4⟩=>?_) fun _=>ao.must rfl (ao.some ⟨by simp only;omega,hc3⟩)
  refine ao.cond (fun _=>?_) fun _=>ao.cond (fun _=>?_) fun _=>ao.cond (fun _=>?_) fun _=>ao.cond (fun _=>?_) fun _=>?_
  · exact(fA hb hc4 (by simp)).bind fun r5 ⟨_,hc5⟩=>ao.must rfl (ao.some ⟨by simp only;omega,hc5⟩)
  · exact ao.ble (by simp;omega) (ao.must rfl (ao.some ⟨by simp;omega,hc4⟩))
  · refine(aO hb hc4).bind fun r6 ⟨⟨a1,a2,_⟩,hc6⟩=>(fA hb hc6 (by simp)).bind fun r7 ⟨_,hc7⟩=>ao.must ⟨a1,a2 (by omega)⟩ (ao.must rfl (ao.some ⟨by simp;omega,hc7⟩))
  · exact(fW hb hk hc4).bind fun r8 ⟨⟨e8,l8⟩,hc8⟩=>ao.must rfl (ao.some ⟨by have:=(⟨8,8,8⟩:Shape).kS;simp only;omega,hc8⟩)
  · exact ao.must rfl (ao.some ⟨by simp only;omega,hc4⟩)
end
end Go.Proofs.Ev
