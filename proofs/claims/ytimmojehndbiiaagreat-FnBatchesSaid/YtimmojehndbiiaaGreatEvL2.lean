/- Typed functions and what holds of them: part 2. -/
import Derived.Test.YtimmojehndbiiaaGreatEvL1
set_option linter.unusedVariables false
set_option linter.unusedSimpArgs false
set_option linter.unusedSectionVars false
namespace Go.Proofs.Ev
open IntKind(i64 u8 u64)
section
theorem DW {α:Type} (t:α->Nat) (xs:List α) (i:Nat):jo t (xs.take i)<=jo t xs:=by
 have:=mU t (xs.take i) (xs.drop i);rw[K0]at this;omega
theorem ry {α β R:Type} (xs:List α) (p:α->Bool) (f:α->List β) {g:Int× List β->(Int× List β->Option R)->Option R} {fin:List β->Option R} {bad:Option R}
  (h:∀(i:Nat) (ys:List β) (hi:i<xs.length) (next:Int× List β->Option R),ys=(xs.take i).flatMap f->g ((i:Int),ys) next=cond (p xs[i]) (next (((i+1:Nat):Int),ys++f xs[i])) bad)
  (hn:∀ys next,g ((xs.length:Int),ys) next=fin ys) {k:Nat} (hk:xs.length<k):iter g k (0,[])=cond (xs.all p) (fin (xs.flatMap f)) bad:=by
 have:=kb (g:=g) (st:=λi=>((i:Int),(xs.take i).flatMap f)) (n:=xs.length) (P:=λi=>cond ((xs.drop i).all p) (fin (xs.flatMap f)) bad) (λi hi next e=>by
  rw[h i _ hi next rfl,fJ hi,List.all_cons];cases hp:p xs[i]
  ·rfl
  ·simp only[cond_true,Km];rw[dC hi,Lq]at e
   simpa using e) (λnext=>by simp only[Lr,KZ];exact hn _ _) k 0 (Kw _) (by omega)
 simpa using this
theorem wR {α β R:Type} (xs:List α) (f:α->β) (acc:List β) {g:Int× List β->(Int× List β->Option R)->Option R} {fin:List β->Option R}
  (h:∀(i:Nat) (ys:List β) (hi:i<xs.length) (next:Int× List β->Option R),ys.length=acc.length+i->g ((i:Int),ys) next=next (((i+1:Nat):Int),ys++[f xs[i]]))
  (hn:∀ys next,g ((xs.length:Int),ys) next=fin ys) {k:Nat} (hk:xs.length<k):iter g k (0,acc)=fin (acc++xs.map f):=by
 have:=eJ (g:=g) (st:=λi=>((i:Int),acc++(xs.take i).map f)) (n:=xs.length) (r:=fin (acc++xs.map f)) (λi hi next=>by
  rw[h i _ hi next (by simp;omega),dC hi,LB,Ko];rfl) (λnext=>by rw[KZ];exact hn _ _) hk
 simpa using this
def mu (c:Int) (t:ab):Bool:=t.okB&&(decide (t.sh.h=1)&&(decide (t.sh.w=1)&&decide (t.sh.c=c)))
def oh:ab:=⟨⟨0,0,0⟩,[]⟩
def cH (xs:List ab):ab× Bool:=
 match xs with
 |[]=>(oh,false)
 |x::l=>cond (inB (xs.length:Int) 1 8&&xs.all (mu x.sh.c)) (⟨⟨xs.length,1,x.sh.c⟩,xs.flatMap (·.data)⟩,true) (oh,false)
theorem Fz (xs:List ab):(xs.flatMap (·.data)).length+xs.length=jo ab.tot xs:=by
 induction xs with
 |nil=>rfl
 |cons x xs ih=>rw[fK];simp only[List.flatMap_cons,Kt,Kl,ab.tot]at*;omega
theorem DX {xs:List ab} {i:Nat} (hi:i<xs.length):((xs.take i).flatMap (·.data)).length+xs[i].data.length+1<=jo ab.tot xs:=by
 have h1:=Fz (xs.take (i+1));have h2:=DW ab.tot xs (i+1)
 have e:(xs.take (i+1)).flatMap (·.data)=(xs.take i).flatMap (·.data)++xs[i].data:=by rw[dC hi,Lq];simp
 rw[e]at h1;simp only[Kt,KC]at h1;omega
theorem sm {k:Nat} {xs:List ab} (hk:jo ab.tot xs<k) (hN:jo ab.tot xs<=bJ):kf k xs=some (cH xs):=by
  have hM:=aL;have hl:=lU ab.tot xs;unfold kf cH;rw[iV,aa,cond_not]
  cases xs with
  |nil=>rfl
  | cons x0 l =>
    simp only;generalize hxs:x0::l=xs at*
    have h0:xs[0]? =some x0:=by rw[<-hxs];rfl
    rw[nQ,h0,aa]
    have := ry xs (mu x0.sh.c) (·.data) (g := λ u next => dF k (xs, (xs.length : Int), (0 : Int), (0 : Int), (0 : Int), (xs.length : Int), (1 : Int), x0.sh.c) u next (λ y5 => some ((⟨(⟨(xs.length : Int), (1 : Int), x0.sh.c⟩ : Shape), y5⟩ : ab), true)) (λ y6 => some ((⟨(⟨y6.2.1, y6.2.2.1, y6.2.2.2⟩ : Shape), ([] : List Int)⟩ : ab), y6.1)))
      (fin:=λy5=>some ((⟨(⟨(xs.length:Int),(1:Int),x0.sh.c⟩:Shape),y5⟩:ab),true)) (bad:=some (oh,false)) (λi ys hi next hys=>by
        have hb:=DX hi;rw[<-hys]at hb;simp only[dF];rw[ag,if_pos (by omega),aR,aA hi,aa,eQ (by omega) (by unfold oA;omega),aa,cond_not,aC hi (by omega),gY (by omega)];unfold mu;cases xs[i].okB
        · rfl
        · simp only[cond_true,Km,uR,cond_not]
          by_cases h1:xs[i].sh.h=1<;>by_cases h2:xs[i].sh.w=1<;>by_cases h3:xs[i].sh.c=x0.sh.c<;>simp[h1,h2,h3,oh])
      (λys next=>by simp only[dF];rw[ag,if_neg (by omega)]) (k:=k) (by omega)
    rw[this];cases inB (xs.length:Int) 1 8<;>cases xs.all (mu x0.sh.c)<;>rfl
theorem sn {k:Nat} {xs:List ab} (hk:jo ab.tot xs<k) (hN:jo ab.tot xs<=bJ):ke k xs=some (cH xs):=by
  have hM:=aL;have hl:=lU ab.tot xs;unfold ke cH;rw[bY,aa,cond_not]
  cases xs with
  |nil=>rfl
  | cons x0 l =>
    simp only;generalize hxs:x0::l=xs at*
    have h0:xs[0]? =some x0:=by rw[<-hxs];rfl
    rw[nQ,h0]
    have := ry xs (mu x0.sh.c) (·.data) (g := λ u next => dE k (xs, (0 : Int), (0 : Int), (0 : Int), (0 : Int), (0 : Int), (0 : Int)) u next (λ y8 => (some x0).bind λ e9 => some ((⟨(⟨(xs.length : Int), (1 : Int), e9.sh.c⟩ : Shape), y8⟩ : ab), true)) (λ y10 => some ((⟨(⟨y10.2.1, y10.2.2.1, y10.2.2.2⟩ : Shape), ([] : List Int)⟩ : ab), y10.1)))
      (fin := λ y5 => some ((⟨(⟨(xs.length : Int), (1 : Int), x0.sh.c⟩ : Shape), y5⟩ : ab), true)) (bad := some (oh, false)) (λ i ys hi next hys => by
        have hb:=DX hi;rw[<-hys]at hb;simp only[dE];rw[ag,if_pos (by omega),aR,aA hi,aa,gq (by omega) (by unfold oA;omega),aa,cond_not];unfold mu;cases xs[i].okB
        · rfl
        · simp only[cond_true,Km,lT,nQ,h0,aa]
          by_cases h1:xs[i].sh.h=1<;>by_cases h2:xs[i].sh.w=1<;>by_cases h3:xs[i].sh.c=x0.sh.c<;>simp only[h1,h2,h3,if_true,if_false,decide_true,decide_false,Km,LI,cond_true,cond_false]<;>try rfl
          exact(wR xs[i].data (λx=>x) ys (fin:=λy=>next (i64.wrap ((i:Int)+1),y)) (λj zs hj nx hz=>by
            simp only[fv]
            rw[ag,if_pos (by omega),aR,aA hj,aa,gY (by rw[hz];simp;omega),aC hj (by omega)]) (λzs nx=>by
            simp only[fv];rw[ag,if_neg (by omega)]) (by omega)).trans (by rw[List.map_id',aC hi (by omega)]))
      (λys next=>by simp only[dE];rw[ag,if_neg (by omega)];rfl) (k:=k) (by omega)
    rw[this];cases inB (xs.length:Int) 1 8<;>cases xs.all (mu x0.sh.c)<;>rfl
end
section
theorem DY {β R:Type} (n:Nat) (f:Nat->β) {g:Int× List β->(Int× List β->Option R)->Option R} {fin:List β->Option R}
  (h:∀(i:Nat) (ys:List β) (hi:i<n) (next:Int× List β->Option R),ys.length=i->g ((i:Int),ys) next=next (((i+1:Nat):Int),ys++[f i]))
  (hn:∀ys next,g ((n:Int),ys) next=fin ys) {k:Nat} (hk:n<k):iter g k (0,[])=fin ((List.range n).map f):=by
 have:=eJ (g:=g) (st:=λi=>((i:Int),(List.range i).map f)) (n:=n) (r:=fin ((List.range n).map f)) (λi hi next=>by
  rw[h i _ hi next (by simp),Lg,LB];rfl) (λnext=>hn _ _) hk
 simpa using this
def takes (x:Step):Int:=cond (inB x.kind 4 5&&inB x.a 0 200) x.a 0
end
section
theorem rz {b c:Bool}:cond b (some c) (some false)=some (b&&c):=by cases b<;>rfl
theorem di {α:Type} {b:Bool} {x y:α}:cond (!b) x y=cond b y x:=by cases b<;>rfl
theorem wS {α:Type} (a b:Int) (x y:α):cond (a !=b) x y=cond (decide (a=b)) y x:=by rw[DQ];by_cases h:a=b<;>simp[h]
theorem F5 (a b:Int):(a==b)=decide (a=b):=G6 a b
def Ax (l:al):Bool:=inB l.out 1 8&&(inB l.mult 0 2147483647&&(inB l.shift 0 31&&(inB l.zero (-128) 127&&(decide ((l.gI.length:Int)=l.out)&&(l.gI.all (λx=>inB x (-1000000) 1000000)&&kD l.weights)))))
def mW (l:al):Bool:=decide (l.out=0)&&(decide (l.mult=0)&&(decide (l.shift=0)&&(decide ((l.weights.length:Int)=0)&&decide ((l.gI.length:Int)=0))))
def kJ (l:al):Bool:=decide (l.size=0)&&decide (l.step=0)
def DZ (s:Shape) (l:al):Bool:=inB l.size 1 3&&(inB l.step 1 2&&(decide (l.size<=s.h)&&decide (l.size<=s.w)))
def cf (s:Shape) (l:al):Bool:=s.okB&&
 (cond (decide (l.kind=0)) (kJ l&&(Ax l&&(decide (s.size<=64)&&decide ((l.weights.length:Int)=l.out*s.size))))
 (cond (decide (l.kind=1)) (DZ s l&&(Ax l&&(decide ((l.weights.length:Int)=l.out*l.size*l.size*s.c)&&decide ((l.weights.length:Int)<=600))))
 (cond (decide (l.kind=2)||decide (l.kind=3)) (DZ s l&&(mW l&&decide (l.zero=0)))
 (cond (decide (l.kind=4)) (kJ l&&(mW l&&inB l.zero (-128) 127))
 (cond (decide (l.kind=5)) (kJ l&&(mW l&&(decide (l.zero=0)&&decide (s.size<=8)))) false)))))
def l6 (s:Shape) (l:al) (c:Int):Shape:=
 ⟨i64.wrap ((i64.wrap ((i64.wrap (s.h-l.size)).tdiv l.step))+1),i64.wrap ((i64.wrap ((i64.wrap (s.w-l.size)).tdiv l.step))+1),c⟩
def shapeOf (s:Shape) (l:al):Shape:=
 cond (decide (l.kind=0)) ⟨1,1,l.out⟩ (cond (decide (l.kind=1)) (l6 s l l.out) (cond (decide (l.kind=4)) s (cond (decide (l.kind=5)) ⟨1,1,s.size⟩ (l6 s l s.c))))
def eR:Shape:=⟨0,0,0⟩
def dP (s:Shape) (l:al):Shape× Bool:=cond (cf s l) (shapeOf s l,true) (eR,false)
theorem pK (k:Nat) (x:Int):dD k x=some (inB x (-128) 127):=by unfold dD;rw[bY,aa]
theorem zq {k:Nat} {l:al} (hk:l.tot<k) (hN:l.tot<=bJ) (fin:Option Bool):
    (iter (λu16 n16=>dv k (l.kind,l.out,l.size,l.step,l.mult,l.shift,l.zero,l.weights,l.gI) u16 n16 (λy9=>iter (λu14 n14=>dw k (l.kind,l.out,l.size,l.step,l.mult,l.shift,l.zero,l.weights,l.gI) u14 n14 (λy12=>fin) (λy13=>some y13)) k (0:Int)) (λy15=>some y15)) k (0:Int))
      =cond (l.gI.all (λx=>inB x (-1000000) 1000000)) (cond (kD l.weights) fin (some false)) (some false):=by
  have hM:=aL;unfold al.tot at hk hN
  rw [qc l.gI (λ x => inB x (-1000000) 1000000) (yes := cond (kD l.weights) fin (some false)) (no := some false) (λ i hi next => by
    simp only[dv]
    rw[ag,if_pos (by omega),aR,aA hi,aa,bY,aa,cond_not,aC hi (by omega)]) (λnext=>by
    simp only[dv];rw[ag,if_neg (by omega)]
    exact qc l.weights (λx=>inB x (-128) 127) (λi hi next=>by
      simp only[dw]
      rw[ag,if_pos (by omega),aR,aA hi,aa,pK,aa,cond_not,aC hi (by omega)]) (λnext=>by
      simp only[dw];rw[ag,if_neg (by omega)]) (by omega)) (by omega)]
def rA (l:al) (window weighs:Bool):Bool:=
 cond window (inB l.size 1 3&&inB l.step 1 2) (kJ l)&&cond weighs (Ax l) (mW l&&cond (decide (l.kind=4)) (inB l.zero (-128) 127) (decide (l.zero=0)))
theorem Hc (n:Nat):decide ((n:Int)>0)=!decide ((n:Int)=0):=by
 grind
theorem uW {k:Nat} {l:al} (hk:l.tot<k) (hN:l.tot<=bJ) (a b:Bool):lV k l a b=some (rA l a b):=by
 unfold lV rA Ax mW kJ;simp only[bY,pK,aa,di,wS,zq hk hN,Hc,F5];grind
theorem bC {x a b:Int}:inB x a b=true↔a<=x/\x<=b:=by unfold inB;simp
theorem jC {s:Shape} {l:al} (h:DZ s l=true):1<=l.size/\l.size<=3/\1<=l.step/\l.step<=2/\l.size<=s.h/\l.size<=s.w:=by
 simp only[DZ,J8,bC,decide_eq_true_eq]at h;omega
theorem qg {l:al} (h:Ax l=true):1<=l.out/\l.out<=8:=by
 simp only[Ax,J8,bC]at h;omega
theorem wT {o z c:Int} (h1:1<=o) (h2:o<=8) (h3:1<=z) (h4:z<=3) (h5:1<=c) (h6:c<=8):
  i64.wrap (i64.wrap (i64.wrap (o*z)*z)*c)=o*z*z*c/\i64.wrap (o*i64.wrap (i64.wrap (z*z)*c))=o*z*z*c:=by
 have a1:=lr (show 0<=o by omega) h2 (show 0<=z by omega) h4;have a2:=lr a1.1 a1.2 (show 0<=z by omega) h4;have a3:=lr a2.1 a2.2 (show 0<=c by omega) h6;have b1:=lr (show 0<=z by omega) h4 (show 0<=z by omega) h4;have b2:=lr b1.1 b1.2 (show 0<=c by omega) h6;have b3:=lr (show 0<=o by omega) h2 b2.1 b2.2;refine⟨?_,?_⟩
 ·rw[aH (n:=o*z) (by omega) (by omega),aH (n:=o*z*z) (by omega) (by omega),aH (by omega) (by omega)]
 ·rw[aH (n:=z*z) (by omega) (by omega),aH (n:=z*z*c) (by omega) (by omega),aH (by omega) (by omega),<-LW,<-LW]
theorem tx {o:Int} {s:Shape} (h1:1<=o) (h2:o<=8):i64.wrap (o*s.size)=o*s.size:=by
 have h:=Shape.zp s;have a1:=lr (show 0<=o by omega) h2 h.1 h.2;exact aH (by omega) (by omega)
theorem gu {k:Nat} {s:Shape} {l:al} (hk:l.tot<k) (hN:l.tot<=bJ):fl k s l=some (dP s l):=by
  unfold fl dP cf;simp only[fS,bY,dZ,uW hk hN,aa,di,wS,F5];cases hs:s.okB
  · rfl
  obtain⟨c1,c2,c3,c4,c5,c6⟩:=Shape.l5 hs;simp only[cond_true,Km];by_cases k0:l.kind=0
  · have e1:inB l.kind 0 5=true:=by rw[bC];omega
    have e2:inB l.kind 1 3=false:=by rw[<-Bool.not_eq_true,bC];omega
    simp only[k0,e1,e2,cond_true,cond_false,rA,shapeOf,decide_true];simp only[k0]at e1 e2;simp only[e1,e2,cond_true,cond_false,show decide ((0:Int)<=1)=true from rfl];cases kJ l
    · rfl
    cases Hd:Ax l
    · rfl
    obtain⟨o1,o2⟩:=qg Hd;simp only[tx o1 o2,Km,cond_true];by_cases z:s.size<=64
    · rw[decide_eq_true z,decide_eq_false (by omega)];cases decide ((l.weights.length:Int)=l.out*s.size)<;>rfl
    · rw[decide_eq_false z,decide_eq_true (by omega)];rfl
  by_cases k1:l.kind=1
  · simp only[k1,rA,shapeOf,show inB 1 0 5=true from rfl,show inB 1 1 3=true from rfl,decide_true,cond_true,cond_false,show decide ((1:Int)=0)=false from rfl,show decide ((1:Int)<=1)=true from rfl];unfold DZ;cases hz:inB l.size 1 3
    · rfl
    cases ht:inB l.step 1 2
    · rfl
    rw[bC]at hz ht;simp only[Km,cond_true];cases Hd:Ax l
    · simp only[cond_false,LI,Bool.and_false];rfl
    obtain⟨o1,o2⟩:=qg Hd;simp only[cond_true,Km,(wT o1 o2 hz.1 hz.2 c5 c6).1];rw[decide_eq_false (show¬l.step=0 by omega)];simp only[cond_false];by_cases w1:l.size<=s.h
    · rw [decide_eq_true w1, decide_eq_false (show ¬ l.size > s.h by omega)];by_cases w2:l.size<=s.w
      · rw[decide_eq_true w2,decide_eq_false (show¬l.size>s.w by omega)];simp only[cond_false,Km];cases decide ((l.weights.length:Int)=l.out*l.size*l.size*s.c)
        · rfl
        · by_cases w3:(l.weights.length:Int)<=600
          · rw[decide_eq_true w3,decide_eq_false (by omega)];rfl
          · rw[decide_eq_false w3,decide_eq_true (by omega)];rfl
      · rw[decide_eq_false w2,decide_eq_true (show l.size>s.w by omega)];rfl
    · rw[decide_eq_false w1,decide_eq_true (show l.size>s.h by omega)];rfl
  have win:l.kind=2\/l.kind=3->_:=λh23=>by
    have e1:inB l.kind 0 5=true:=by rw[bC];omega
    have e2:inB l.kind 1 3=true:=by rw[bC];omega
    have e3:decide (l.kind<=1)=false:=decide_eq_false (by omega)
    have e4:(decide (l.kind=2)||decide (l.kind=3))=true:=by simpa using h23
    have e5:decide (l.kind=4)=false:=decide_eq_false (by omega);have e6:decide (l.kind=5)=false:=decide_eq_false (by omega);exact And.intro e1 (And.intro e2 (And.intro e3 (And.intro e4 (And.intro e5 e6))))
  by_cases h23:l.kind=2\/l.kind=3
  · obtain⟨e1,e2,e3,e4,e5,e6⟩:=win h23;simp only[e1,e2,e3,e4,e5,e6,decide_eq_false k0,decide_eq_false k1,rA,shapeOf,cond_true,cond_false];unfold DZ;cases hz:inB l.size 1 3
    · rfl
    cases ht:inB l.step 1 2
    · rfl
    rw[bC]at hz ht;simp only[Km,cond_true];rw[decide_eq_false (show¬l.step=0 by omega)];cases mW l
    · simp only[LI,Bool.and_false,cond_false];rfl
    cases decide (l.zero=0)
    · simp only[LI,Bool.and_false,cond_false];rfl
    simp only[cond_false,cond_true,Bool.and_true,Km];by_cases w1:l.size<=s.h
    · rw[decide_eq_true w1,decide_eq_false (show¬l.size>s.h by omega)];by_cases w2:l.size<=s.w
      · rw[decide_eq_true w2,decide_eq_false (show¬l.size>s.w by omega)];rfl
      · rw[decide_eq_false w2,decide_eq_true (show l.size>s.w by omega)];rfl
    · rw[decide_eq_false w1,decide_eq_true (show l.size>s.h by omega)];rfl
  have e4:(decide (l.kind=2)||decide (l.kind=3))=false:=by simpa using h23
  by_cases k4:l.kind=4
  · simp only[k4,e4,rA,shapeOf,show inB 4 0 5=true from rfl,show inB 4 1 3=false from rfl,decide_true,cond_true,cond_false,show decide ((4:Int)=0)=false from rfl,show decide ((4:Int)=1)=false from rfl,show decide ((4:Int)<=1)=false from rfl,
      show(decide ((4:Int)=2)||decide ((4:Int)=3))=false from rfl,show decide ((4:Int)=5)=false from rfl]
    cases kJ l<;>cases mW l<;>cases inB l.zero (-128) 127<;>rfl
  by_cases k5:l.kind=5
  · simp only[k5,rA,shapeOf,show inB 5 0 5=true from rfl,show inB 5 1 3=false from rfl,decide_true,cond_true,cond_false,show decide ((5:Int)=0)=false from rfl,show decide ((5:Int)=1)=false from rfl,show decide ((5:Int)<=1)=false from rfl,
      show(decide ((5:Int)=2)||decide ((5:Int)=3))=false from rfl,show decide ((5:Int)=4)=false from rfl]
    by_cases z:s.size<=8
    · rw[decide_eq_true z,decide_eq_false (show¬s.size>8 by omega)];cases kJ l<;>cases mW l<;>cases decide (l.zero=0)<;>rfl
    · rw[decide_eq_false z,decide_eq_true (show s.size>8 by omega)];cases kJ l<;>cases mW l<;>cases decide (l.zero=0)<;>rfl
  · have e1:inB l.kind 0 5=false:=by rw[<-Bool.not_eq_true,bC];omega
    simp only[e1,e4,decide_eq_false k0,decide_eq_false k1,decide_eq_false k4,decide_eq_false k5,cond_false];rfl
theorem om (k:Nat) (l:al):cr k l=some (kJ l):=by
 unfold cr kJ;grind
theorem pg (k:Nat) (l:al):cc k l=some (mW l):=by
 unfold cc mW;grind
theorem mX (k:Nat) (s:Shape) (l:al):bX k l s=some (DZ s l):=by
 unfold bX DZ;simp only[iV,aa,rz]
 congr 1
 rw[Bool.eq_iff_iff];simp only[J8,bC,decide_eq_true_eq];grind
theorem zr {k:Nat} {xs:List Int} (hk:xs.length<k) (hx:xs.length<=oA):aE k xs=some (!xs.all (λx=>inB x (-1000000) 1000000)):=by
 unfold oA at hx;unfold aE aN
 rw[wM xs (λx=>!inB x (-1000000) 1000000) (λi hi next=>by
  simp only[aD,ag,dU,iV,aa]
  rw[if_pos (by omega),aR,aA hi,aa,aC hi (by omega)]) (λnext=>by
  simp only[aD,ag];rw[if_neg (by omega)]) hk]
 rw[pJ];simp only[aa,tw];rw[List.any_eq_not_all_not];simp
theorem mY {k:Nat} {l:al} {n:Int} (hk:l.tot<k) (hN:l.tot<=bJ):cE k l n=some (Ax l&&decide ((l.weights.length:Int)=i64.wrap (l.out*n))):=by
 have hM:=aL;unfold al.tot at hk hN;unfold cE Ax;simp only[iV,aa,oe (xs:=l.weights) (k:=k) (by omega) (by unfold oA;omega),zr (xs:=l.gI) (k:=k) (by omega) (by unfold oA;omega),F5,Bool.not_not,rz];grind
theorem eS (k:Nat) {s:Shape} {l:al} (c:Int) (h:1<=l.step):ct k l s c=some (l6 s l c):=by
 unfold ct l6;grind
theorem kq {k:Nat} {s:Shape} {l:al} (hk:l.tot<k) (hN:l.tot<=bJ):gF k s l=some (dP s l):=by
 unfold gF dP cf;simp only[lz,iV,mV,om,pg,mX,mY hk hN,aa,di,F5];cases hs:s.okB
 ·rfl
 obtain⟨c1,c2,c3,c4,c5,c6⟩:=Shape.l5 hs;simp only[cond_true,Km];by_cases k0:l.kind=0
 ·simp only[k0,shapeOf,decide_true,cond_true];cases Hd:Ax l
  ·cases decide (s.size<=64)<;>cases kJ l<;>rfl
  obtain⟨o1,o2⟩:=qg Hd;simp only[tx o1 o2];cases decide (s.size<=64)<;>cases kJ l<;>cases decide ((l.weights.length:Int)=l.out*s.size)<;>rfl
 by_cases k1:l.kind=1
 ·simp only[k1,shapeOf,show decide ((1:Int)=0)=false from rfl,decide_true,cond_true,cond_false];cases hw:DZ s l
  ·rfl
  have hw:=jC hw;cases Hd:Ax l
  ·cases decide ((l.weights.length:Int)<=600)<;>rfl
  obtain⟨o1,o2⟩:=qg Hd;simp only[(wT o1 o2 hw.1 hw.2.1 c5 c6).2,eS k _ hw.2.2.1,aa];cases decide ((l.weights.length:Int)<=600)<;>cases decide ((l.weights.length:Int)=l.out*l.size*l.size*s.c)<;>rfl
 simp only[decide_eq_false k0,decide_eq_false k1,cond_false];by_cases k2:l.kind=2
 ·simp only[k2,shapeOf,decide_true,Bool.true_or,cond_true,cond_false,show decide ((2:Int)=0)=false from rfl,show decide ((2:Int)=1)=false from rfl,show decide ((2:Int)=4)=false from rfl,show decide ((2:Int)=5)=false from rfl];cases hw:DZ s l
  ·rfl
  have hw:=jC hw;simp only[eS k _ hw.2.2.1,aa];cases mW l<;>cases decide (l.zero=0)<;>rfl
 by_cases k3:l.kind=3
 ·simp only[k3,shapeOf,decide_true,Lb,cond_true,cond_false,show decide ((3:Int)=0)=false from rfl,show decide ((3:Int)=1)=false from rfl,show decide ((3:Int)=2)=false from rfl,show decide ((3:Int)=4)=false from rfl,show decide ((3:Int)=5)=false from rfl];cases hw:DZ s l
  ·rfl
  have hw:=jC hw;simp only[eS k _ hw.2.2.1,aa];cases mW l<;>cases decide (l.zero=0)<;>rfl
 simp only[decide_eq_false k2,decide_eq_false k3,Bool.or_self,cond_false];by_cases k4:l.kind=4
 ·simp only[k4,shapeOf,decide_true,cond_true,cond_false,show decide ((4:Int)=0)=false from rfl,show decide ((4:Int)=1)=false from rfl];cases kJ l<;>cases mW l<;>cases inB l.zero (-128) 127<;>rfl
 by_cases k5:l.kind=5
 ·simp only[k5,shapeOf,decide_true,cond_true,cond_false,show decide ((5:Int)=0)=false from rfl,show decide ((5:Int)=1)=false from rfl,show decide ((5:Int)=4)=false from rfl];cases kJ l<;>cases mW l<;>cases decide (l.zero=0)<;>cases decide (s.size<=8)<;>rfl
 simp only[decide_eq_false k4,decide_eq_false k5,cond_false];rfl
def aV:Shape->List al->Option (List Shape)
 |_,[]=>some []
 |s,l::ls=>cond (cf s l) ((aV (shapeOf s l) ls).map (shapeOf s l::·)) none
theorem mv:∀(ls:List al) (s:Shape) (t:List Shape),aV s ls=some t->t.length=ls.length
 |[],s,t,h=>by cases h;rfl
 |l::ls,s,t,h=>by
  simp only[aV]at h;cases hb:cf s l<;>simp only[hb,cond_true,cond_false]at h
  ·grind
  ·obtain⟨t',h1,rfl⟩:=J9.1 h;simp[mv ls _ _ h1]
theorem mZ {R:Type} {ai:List al} {V:Type} {st:Nat->List Shape->Shape->V} {g:V->(V->Option R)->Option R} {fin:List Shape->Option R} {bad:Option R}
    (h:∀(i:Nat) (ys:List Shape) (s:Shape) (hi:i<ai.length) (next:V->Option R),ys.length=i+1->ys[i]? =some s->g (st i ys s) next=cond (cf s ai[i]) (next (st (i+1) (ys++[shapeOf s ai[i]]) (shapeOf s ai[i]))) bad)
    (hn:∀ys s next,g (st ai.length ys s) next=fin ys):∀(rest:List al) (i:Nat) (ys:List Shape) (s:Shape) (k:Nat),i<=ai.length->ai.drop i=rest->ys.length=i+1->ys[i]? =some s->rest.length<k->
      iter g k (st i ys s)=(aV s rest).elim bad λt=>fin (ys++t)
  |[],i,ys,s,0,hle,hd,hl,hs,hk=>by omega
  |_::_,i,ys,s,0,hle,hd,hl,hs,hk=>by omega
  | [], i, ys, s, k + 1, hle, hd, hl, hs, hk => by
    have h1:=congrArg List.length hd;simp only[K9,KF]at h1;rw[jn]
    have c:i=ai.length:=by omega
    subst c;rw[hn];simp[aV]
  | l :: ls, i, ys, s, k + 1, hle, hd, hl, hs, hk => by
    have hi:i<ai.length:=by
      grind
    rw[fJ hi]at hd
    injection hd with h1 h2
    rw[jn,h i ys s hi _ hl hs,h1];simp only[aV];cases hb:cf s l
    · rfl
    · simp only[cond_true];rw[mZ h hn ls (i+1) (ys++[shapeOf s l]) (shapeOf s l) k (by omega) h2 (by simp[hl]) (by rw[Kb (by omega),hl];simp) (by simpa using hk)]
      cases aV (shapeOf s l) ls with
      |none=>rfl
      |some t=>simp
def bV (m:Model):List Shape× Bool:=cond (m.inp.okB&&inB (m.ai.length:Int) 1 6) ((aV m.inp m.ai).elim ([],false) λt=>(m.inp::t,true)) ([],false)
theorem kr {m:Model} {k:Nat} (hk:m.tot<k) (hN:m.tot<=bJ) {l:al} (h:l∈m.ai):l.tot<k/\l.tot<=bJ:=by
 have:=qd al.tot h;unfold Model.tot at hk hN;omega
theorem gG {m:Model} {k:Nat} (hk:m.tot<k) (hN:m.tot<=bJ):m.ai.length<k/\m.ai.length<=bJ:=by
 have:=lU al.tot m.ai;unfold Model.tot at hk hN;omega
theorem mx {k:Nat} {m:Model} (hk:m.tot<k) (hN:m.tot<=bJ):gU k m=some (bV m):=by
  have hM:=aL;obtain⟨hlk,hlN⟩:=gG hk hN;unfold gU bV;simp only[fS,bY,aa,di];cases m.inp.okB
  · rfl
  cases hlen:inB (m.ai.length:Int) 1 6
  · rfl
  rw[bC]at hlen;simp only[cond_true,Km]
  have:=mZ (ai:=m.ai) (V:=Int× List Shape) (st:=λi ys s=>((i:Int),ys)) (fin:=λy=>some (y,true)) (bad:=some (([]:List Shape),false))
    (g:=λu next=>dG k (m.inp.h,m.inp.w,m.inp.c,m.ai) u next (λy6=>some (y6,true)) (λy7=>some (([]:List Shape),y7))) (λi ys s hi next hl hs=>by
      obtain⟨a1,a2⟩:=kr hk hN (KI hi);simp only[dG];rw[ag,if_pos (by omega),ag,if_pos (by omega),Ky,hs,aa,aR,aA hi,aa,gu a1 a2,aa,aC hi (by omega),gY (by simp;omega)];unfold dP
      cases cf s m.ai[i]<;>rfl) (λys s next=>by
      simp only[dG];rw[ag,if_neg (by omega)]) m.ai 0 [m.inp] m.inp k (by omega) rfl rfl rfl hlk
  refine this.trans ?_;cases aV m.inp m.ai<;>rfl
def oo (m:Model):List Shape× Bool:=(aV m.inp m.ai).elim ([],false) λt=>(m.inp::t,true)
theorem jD {k:Nat} {m:Model} (hk:m.tot<k) (hN:m.tot<bJ):dI k m=some (oo m):=by
  have hM:=aL;obtain⟨hlk,hlN⟩:=gG hk (Nat.le_of_lt hN)
  have hb:m.ai.length+1<=bJ:=by have:=lU al.tot m.ai;unfold Model.tot at hN;omega
  unfold dI oo
  have := mZ (ai := m.ai) (V := Int × List Shape × Int × Int × Int) (st := λ i ys s => ((i : Int), ys, s.h, s.w, s.c)) (fin := λ y => some (y, true)) (bad := some (([] : List Shape), false))
      (g:=λu next=>cu k (m.ai,(m.ai.length:Int)) u next (λy3=>some (y3,true)) (λy4=>some (([]:List Shape),y4))) (λi ys s hi next hl hs=>by
        obtain⟨a1,a2⟩:=kr hk (Nat.le_of_lt hN) (KI hi);simp only[cu];rw[ag,if_pos (by omega),aR,aA hi,aa,kq a1 a2,aa,aC hi (by omega),gY (by simp;omega)];unfold dP
        cases cf s m.ai[i]<;>rfl) (λys s next=>by
        simp only[cu];rw[ag,if_neg (by omega)]) m.ai 0 [m.inp] m.inp k (by omega) rfl rfl rfl hlk
  refine this.trans ?_;cases aV m.inp m.ai<;>rfl
theorem BK {s:Shape} {ls:List al} (hs:s.okB=false) (hl:ls≠[]):aV s ls=none:=by
 cases ls with
 |nil=>grind
 |cons l ls=>simp[aV,cf,hs]
def cI (m:Model):Bool:=(bV m).2
theorem pL {m:Model} (h:inB (m.ai.length:Int) 1 6=true):oo m=bV m:=by
 unfold oo bV;rw[h,Bool.and_true];cases hs:m.inp.okB
 ·rw[BK hs (λe=>by rw[e]at h;exact nomatch h)];rfl
 ·rfl
theorem tz {m:Model} (h:inB (m.ai.length:Int) 1 6=false):cI m=false:=by
 unfold cI bV;rw[h,Bool.and_false];rfl
theorem pM {k:Nat} {m:Model} (hk:m.tot<k) (hN:m.tot<=bJ):lu k m=some (cI m):=by
 unfold lu;rw[mx hk hN];rfl
theorem lA {k:Nat} {m:Model} (hk:m.tot<k) (hN:m.tot<bJ):jt k m=some (cI m):=by
 unfold jt;rw[iV,aa,di,jD hk hN];cases h:inB (m.ai.length:Int) 1 6
 ·rw[tz h];rfl
 ·rw[pL h];rfl
def bD (m:Model):List Shape:=cond (cI m) (bV m).1 []
theorem uX {k:Nat} {m:Model} (hk:m.tot<k) (hN:m.tot<bJ):lW k m=some (bD m):=by
 unfold lW bD;rw[lA hk hN,aa,di,jD hk hN];cases h:cI m
 ·rfl
 ·have:inB (m.ai.length:Int) 1 6=true:=by
   cases h2:inB (m.ai.length:Int) 1 6
   ·rw[tz h2]at h;exact nomatch h
   ·rfl
  rw[pL this];rfl
theorem pN {m:Model} (h:cI m=true):(bD m).length=m.ai.length+1:=by
 unfold bD;rw[h,cond_true];unfold cI at h;unfold bV at h⊢;cases h1:(m.inp.okB&&inB (m.ai.length:Int) 1 6)<;>rw[h1]at h
 ·grind
 ·simp only[cond_true]at h⊢
  cases h2:aV m.inp m.ai with
  |none=>grind
  |some t=>simp[mv _ _ _ h2]
def tA (s t:Shape) (l:al):Int:=
  cond (decide (l.kind=0)) (i64.wrap (1+(i64.wrap ((i64.wrap (t.size*s.size)).tdiv 16))))
  (cond (decide (l.kind=1)) (i64.wrap (1+(i64.wrap ((i64.wrap ((i64.wrap ((i64.wrap (t.size*l.size))*l.size))*s.c)).tdiv 16))))
  (cond (decide (l.kind=2)) (i64.wrap (1+(i64.wrap ((i64.wrap ((i64.wrap (t.size*l.size))*l.size)).tdiv 16))))
  (cond (decide (l.kind=3)) (i64.wrap (1+(i64.wrap ((i64.wrap ((i64.wrap (t.size*l.size))*l.size)).tdiv 16))))
   (i64.wrap (1+(i64.wrap (s.size.tdiv 16)))))))
def my (s:Shape) (l:al):Int:=cond (dP s l).2 (tA s (dP s l).1 l) 0
theorem zt {k:Nat} {s:Shape} {l:al} (hk:l.tot<k) (hN:l.tot<=bJ):qe k s l=some (my s l):=by
 unfold qe my tA;simp only[gu hk hN,dZ,aa,di,F5];grind
theorem zv {k:Nat} {s:Shape} {l:al} (hk:l.tot<k) (hN:l.tot<=bJ):qf k s l=some (my s l):=by
 unfold qf my tA;simp only[kq hk hN,mV,aa,di,F5];grind
def cL (m:Model):List Int:=cond (cI m) ((List.range m.ai.length).map λi=>my ((bD m).getD i eR) (m.ai.getD i ⟨0,0,0,0,0,0,0,[],[]⟩)) []
theorem cM {α:Type} {xs:List α} {i:Nat} (h:i<xs.length) (d:α):xs.getD i d=xs[i]:=by rw[KL,aA h];rfl
theorem wU {k:Nat} {m:Model} (hk:m.tot<k) (hN:m.tot<=bJ):nT k m=some (cL m):=by
 have hM:=aL;obtain⟨hlk,hlN⟩:=gG hk hN;unfold nT cL;rw[mx hk hN,aa,di];show cond (cI m) _ _=_;cases h:cI m
 ·rfl
 have hsl:=pN h
 have e:(bV m).1=bD m:=by unfold bD;rw[h];rfl
 simp only[cond_true,e]
 exact DY m.ai.length _ (g:=λu next=>fN k (m.inp.h,m.inp.w,m.inp.c,m.ai,bD m) u next (λy5=>some y5)) (fin:=some) (λi ys hi next hl=>by
  obtain⟨a1,a2⟩:=kr hk hN (KI hi);simp only[fN]
  rw[ag,if_pos (by omega),ag,if_pos (by omega),Ky,aA (show i<(bD m).length by omega),aa,aR,aA hi,aa,zt a1 a2,aa,gY (by simp;omega),aC hi (by omega),cM (show i<(bD m).length by omega),cM hi]) (λys next=>by
  simp only[fN];rw[ag,if_neg (by omega)]) hlk
theorem wV {k:Nat} {m:Model} (hk:m.tot+1<k) (hN:m.tot<bJ):nU k m=some (cL m):=by
  have hM:=aL;obtain⟨hlk,hlN⟩:=gG (show m.tot<k-1 by omega) (Nat.le_of_lt hN);unfold nU cL;rw[uX (by omega) hN,aa];cases h:cI m
  · have:bD m=[]:=by unfold bD;rw[h];rfl
    rw[this]
    cases k with
    |zero=>omega
    |succ k=>rfl
  have hsl:=pN h;simp only[cond_true];rw[hsl]
  have := eJ (R := List Int) (g := λ u next => fO k (((m.ai.length + 1 : Nat) : Int), m.inp.h, m.inp.w, m.inp.c, m.ai, bD m) u next (λ y5 => some y5)) (n := m.ai.length + 1)
    (st:=λi=>((i:Int),(List.range (min i m.ai.length)).map λi=>my ((bD m).getD i eR) (m.ai.getD i ⟨0,0,0,0,0,0,0,[],[]⟩)))
    (r := some ((List.range m.ai.length).map λ i => my ((bD m).getD i eR) (m.ai.getD i ⟨0, 0, 0, 0, 0, 0, 0, [], []⟩))) (λ i hi next => by
      simp only[fO];rw[ag,if_pos (by omega),ag,if_pos (by omega),Ky,aA (show i<(bD m).length by omega),aa,aC hi (by omega),ag];by_cases c:i<m.ai.length
      · obtain⟨a1,a2⟩:=kr (show m.tot<k by omega) (Nat.le_of_lt hN) (KI c);rw[if_pos (by omega),aR,aA c,aa,zv a1 a2,aa,gY (by simp;omega),Nat.min_eq_left (by omega),Nat.min_eq_left (by omega),Lg,LB,List.map_singleton,cM (show i<(bD m).length by omega),cM c]
      · rw[if_neg (by omega),Nat.min_eq_right (by omega),Nat.min_eq_right (by omega)]) (λnext=>by
      simp only[fO]
      rw[ag,if_neg (by omega),Nat.min_eq_right (by omega)]) (k:=k) (by omega)
  simpa using this
def bP (m:Model):Int:=(cL m).foldl (λs x=>i64.wrap (s+x)) 0
theorem kt (m:Model):(cL m).length<=m.ai.length:=by
 unfold cL;grind
theorem mz {k:Nat} {m:Model} (hk:m.tot<k) (hN:m.tot<=bJ):fm k m=some (bP m):=by
 have hM:=aL;obtain⟨hlk,hlN⟩:=gG hk hN;have hc:=kt m;unfold fm;rw[wU hk hN,aa]
 exact wN (cL m) (λs x=>i64.wrap (s+x)) (g:=λu next=>dH k (cL m) u next (λy3=>some y3)) (fin:=some) 0 (λi s hi next _=>by
  simp only[dH]
  rw[ag,if_pos (by omega),ag,if_pos (by omega),Ky,aA hi,aa,aC hi (by omega)]) (λnext=>by
  simp only[dH];rw[ag,if_neg (by omega)]) (by omega)
theorem FA {k:Nat} {xs:List Int} (hk:xs.length<k) (hN:xs.length<=bJ):G7 k xs=some (xs.foldl (λs x=>i64.wrap (s+x)) 0):=by
 have hM:=aL
 exact wN xs (λs x=>i64.wrap (s+x)) (g:=λu next=>nV k (xs,(xs.length:Int)) u next (λy2=>some y2)) (fin:=some) 0 (λi s hi next _=>by
  simp only[nV]
  rw[ag,if_pos (by omega),aR,aA hi,aa,aC hi (by omega)]) (λnext=>by
  simp only[nV];rw[ag,if_neg (by omega)]) hk
theorem iW {k:Nat} {m:Model} (hk:m.tot+1<k) (hN:m.tot<bJ):au k m=some (bP m):=by
 obtain⟨hlk,hlN⟩:=gG (show m.tot<k by omega) (Nat.le_of_lt hN);have hc:=kt m;unfold au;rw[wV hk hN,aa,FA (by omega) (by omega)];rfl
def bf (m:Model) (n:Int):Int:=cond (cI m&&inB n 0 8) (cond (decide (n=0)) 0 (i64.wrap (bP m+(i64.wrap ((i64.wrap (n-1))*(i64.wrap ((bP m).tdiv 2))))))) (-1)
theorem mA {k:Nat} {m:Model} {n:Int} (hk:m.tot<k) (hN:m.tot<=bJ):bL k m n=some (bf m n):=by
 unfold bL bf;simp only[pM hk hN,bY,mz hk hN,aa,di,F5];grind
theorem mB {k:Nat} {m:Model} {n:Int} (hk:m.tot+1<k) (hN:m.tot<bJ):bM k m n=some (bf m n):=by
 unfold bM bf;simp only[lA (show m.tot<k by omega) hN,iV,iW hk hN,aa,di,F5];grind
end
section
end
section
end
section
def FB (t:Task):Bool:=inB t.id 1 1000000&&(inB (t.ni.length:Int) 1 6&&(inB t.at_ 0 ((t.ni.length:Int)-1)&&(inB t.due 0 1000000&&(inB t.born 0 1000000&&t.ni.all λx=>inB x 1 1000))))
theorem tB {t:Task} (h:FB t=true):(1<=t.id/\t.id<=1000000)/\(1<=t.ni.length/\t.ni.length<=6)/\(0<=t.at_/\t.at_<t.ni.length)/\(0<=t.due/\t.due<=1000000)/\(0<=t.born/\t.born<=1000000)/\∀x∈t.ni,1<=x/\x<=1000:=by
 unfold FB inB at h;simp only[J8,decide_eq_true_eq,KP]at h;obtain⟨h1,h2,h3,h4,h5,h6⟩:=h;exact⟨h1,by omega,by omega,h4,h5,h6⟩
end
section
def Ib (t:Task):Int:=(idx t.ni t.at_).getD 0
def block (s:AM) (d:Int):Int:=(s.tasks.findIdx? λt=>t.id==s.run).elim 0 λi=>(s.tasks[i]?).elim 0 λt=>cond (decide (t.due>d)) s.left 0
end
section
def Jw (ts:List Task) (id:Int):List Task:=ts.filter λt=>!(t.id==id)
end
section
end
section
end
section
def aj {α:Type} (o:Option α) (Q:α->Prop):Prop:=∃r,o=some r/\Q r
theorem aj.bind {α β:Type} {o:Option α} {P:α->Prop} {f:α->Option β} {Q:β->Prop} (h:aj o P) (hf:∀a,P a->aj (f a) Q):aj (o.bind f) Q:=by
 obtain⟨r,e,hp⟩:=h;rw[e];exact hf r hp
theorem aj.some {α:Type} {a:α} {Q:α->Prop} (h:Q a):aj (some a) Q:=⟨a,rfl,h⟩
theorem aj.cond {α:Type} {b:Bool} {x y:Option α} {Q:α->Prop} (h1:b=true->aj x Q) (h2:b=false->aj y Q):aj (cond b x y) Q:=by
 cases b
 ·exact h2 rfl
 ·exact h1 rfl
theorem aj.mono {α:Type} {o:Option α} {P Q:α->Prop} (h:aj o P) (hq:∀a,P a->Q a):aj o Q:=by
 obtain⟨r,e,hp⟩:=h;exact⟨r,e,hq r hp⟩
theorem aj.iter {V R:Type} {g:V->(V->Option R)->Option R} {Inv:V->Prop} {m:V->Nat} {Q:R->Prop}
  (h:∀(v:V) (next:V->Option R),Inv v->(∀u,Inv u->m u<m v->aj (next u) Q)->aj (g v next) Q):∀(k:Nat) (v:V),Inv v->m v<k->aj (iter g k v) Q
 |0,v,_,hk=>by omega
 |k+1,v,hv,hk=>by
  rw[jn];exact h v _ hv λu hu hm=>aj.iter h k u hu (by omega)
def Cur (b:List Int) (i:Int):Prop:=0<=i/\i<=b.length
theorem F6 (x:BitVec i64.bits):0<=i64.wrap (((x&&& BitVec.ofInt i64.bits (255:Int)).toNat:Int))/\i64.wrap (((x&&& BitVec.ofInt i64.bits (255:Int)).toNat:Int))<=255:=by
 have h1:(x&&& BitVec.ofInt i64.bits (255:Int)).toNat<=255:=by
  rw[BitVec.toNat_and]
  have:(BitVec.ofInt i64.bits (255:Int)).toNat=255:=by decide
  rw[this];exact Nat.and_le_right
 rw[aH (by omega) (by omega)];omega
theorem l7 {k:Nat} {b:List Int} {i h:Int} (hb:b.length<=1048576) (hc:Cur b i):aj (dX k b i h) λr=>(0<=r.1/\r.1<=255)/\Cur b r.2.1:=by
 unfold Cur at hc;unfold dX;refine aj.cond (λh1=>?_) λh1=>?_
 ·have h1:=of_decide_eq_true h1
  have hi:i.toNat<b.length:=by omega
  rw[uQ _ hc.1,aA hi,aa,decide_eq_true rfl];refine aj.some ⟨F6 _,?_⟩;show Cur b (i64.wrap (i+1));rw[aH (by omega) (by omega)];unfold Cur;omega
 ·rw[decide_eq_true rfl];exact aj.some ⟨F6 _,hc⟩
theorem D0 {x n:Int} (h0:0<=x) (hn:0<n):0<=x.tmod n/\x.tmod n<n:=⟨Int.tmod_nonneg n h0,Int.tmod_lt_of_pos x hn⟩
theorem az {k:Nat} {b:List Int} {i h n:Int} (hb:b.length<=1048576) (hc:Cur b i):aj (ae k b i h n) λr=>(0<=r.1/\(0<n->r.1<n)/\(n<=0->r.1=0))/\Cur b r.2.1:=by
 unfold ae;refine aj.cond (λh1=>?_) λh1=>aj.cond (λh2=>?_) λh2=>?_
 ·have h1:=of_decide_eq_true h1;rw[decide_eq_true rfl];exact aj.some ⟨⟨Int.le_refl _,λh=>by omega,λ_=>rfl⟩,hc⟩
 ·have h1:=of_decide_eq_false h1;refine(l7 hb hc).bind λr ⟨hr,hc1⟩=>?_;rw[decide_eq_false (show¬n=0 by omega),decide_eq_true rfl];have:=D0 (x:=r.1) (n:=n) hr.1 (by omega);exact aj.some ⟨⟨this.1,λ_=>this.2,λh=>by omega⟩,hc1⟩
 ·have h1:=of_decide_eq_false h1;refine(l7 hb hc).bind λr ⟨hr,hc1⟩=>(l7 hb hc1).bind λr2 ⟨hr2,hc2⟩=>(l7 hb hc2).bind λr3 ⟨hr3,hc3⟩=>?_;rw[decide_eq_false (show¬n=0 by omega),decide_eq_true rfl];rw[aH (n:=r.1*65536) (by omega) (by omega),aH (n:=r2.1*256) (by omega) (by omega),aH (n:=r.1*65536+r2.1*256) (by omega) (by omega),aH (n:=r.1*65536+r2.1*256+r3.1) (by omega) (by omega)];have:=D0 (x:=r.1*65536+r2.1*256+r3.1) (n:=n) (by omega) (by omega);exact aj.some ⟨⟨this.1,λ_=>this.2,λh=>by omega⟩,hc3⟩
theorem fo {k:Nat} {b:List Int} {i h:Int} {xs:List Int} (hb:b.length<=1048576) (hc:Cur b i) (hx:0<xs.length):aj (aJ k b i h xs) λr=>r.1∈xs/\Cur b r.2.1:=by
 unfold aJ;refine(az hb hc).bind λr ⟨⟨h0,h1,_⟩,hc1⟩=>?_;have:=h1 (by omega)
 have hi:r.1.toNat<xs.length:=by omega
 rw[uQ _ h0,aA hi,aa,decide_eq_true rfl];exact aj.some ⟨KI hi,hc1⟩
theorem gH {k:Nat} {b:List Int} {i h n:Int} (hb:b.length<=1048576) (hc:Cur b i):aj (cz k b i h n) λr=>Cur b r.2.1:=by
 unfold cz;refine(az hb hc).bind λr ⟨_,hc1⟩=>?_;rw[decide_eq_true rfl];exact aj.some hc1
theorem wW {k:Nat} {b:List Int} (hb:b.length<=1048576) (hk:b.length<k):aj (jz k b) λr=>Cur b r.1:=by
 unfold jz;refine aj.iter (Inv:=λv:Int× Int=>0<=v.2/\v.2<=b.length) (m:=λv=>b.length-v.2.toNat) (λv next hv hn=>?_) k _ (by constructor<;>simp) (by simp;omega);unfold kn
 have fin:aj (cond (decide (b=b)) (some ((0:Int),v.1)) none) λr=>Cur b r.1:=by
  rw[decide_eq_true rfl];exact aj.some ⟨Int.le_refl _,by show(0:Int)<=b.length;omega⟩
 refine aj.cond (λh1=>aj.cond (λh2=>?_) λh2=>fin) λh1=>fin;have h1:=of_decide_eq_true h1
 have hi:v.2.toNat<b.length:=by omega
 rw[uQ _ hv.1,aA hi,aa];have e:i64.wrap (v.2+1)=v.2+1:=aH (by omega) (by omega);rw[e];exact hn _ (by simp only;omega) (by simp only;omega)
end
section
theorem aj.must {α:Type} {p:Prop} {i:Decidable p} {x y:Option α} {Q:α->Prop} (h:p) (hx:aj x Q):aj (bif (@decide p i)then x else y) Q:=by
 rw[decide_eq_true h];exact hx
theorem aj.ble {α:Type} {a b:Nat} {x y:Option α} {Q:α->Prop} (h:a<=b) (hx:aj x Q):aj (bif (Nat.ble a b)then x else y) Q:=by
 rw[K2 h];exact hx
end
section
theorem F7 (n:Int):∃q:Int,i64.wrap n=n+18446744073709551616*q:=by
 have h:i64.wrap n=if n %18446744073709551616>=9223372036854775808 then n %18446744073709551616-18446744073709551616 else n %18446744073709551616:=by
  unfold IntKind.wrap;simp[IntKind.bits,IntKind.signed]
 rw[h];by_cases c:n %18446744073709551616>=9223372036854775808
 ·rw[if_pos c];exact⟨-(n/18446744073709551616)-1,by omega⟩
 ·rw[if_neg c];exact⟨-(n/18446744073709551616),by omega⟩
theorem BL {a b:Int} (q:Int) (h:a=b+18446744073709551616*q):i64.wrap a=i64.wrap b:=by
 subst h;unfold IntKind.wrap;simp[IntKind.bits,IntKind.signed]
theorem BM (v w r:Int):i64.wrap (i64.wrap (v+w)-r)=i64.wrap (v+i64.wrap (w-r)):=by
 obtain⟨q1,h1⟩:=F7 (v+w);obtain⟨q2,h2⟩:=F7 (w-r);rw[h1,h2];exact BL (q1-q2) (by omega)
def jE (m:Model):List Int->Int->Int
 |[],s=>s
 |n::l,s=>cond (decide (bf m n<0)) (-1) (jE m l (i64.wrap (s+i64.wrap (i64.wrap (bP m*n)-bf m n))))
def ku (m:Model) (xs:List Int):Int:=cond (decide ((xs.length:Int)>300)) (-1) (jE m xs 0)
theorem ph {m:Model} {xs:List Int} {g:Int× Int->(Int× Int->Option Int)->Option Int}
  (h:∀(i:Nat) (s:Int) (hi:i<xs.length) next,g (s,(i:Int)) next=cond (decide (bf m xs[i]<0)) (some (-1)) (next (i64.wrap (s+i64.wrap (i64.wrap (bP m*xs[i])-bf m xs[i])),((i+1:Nat):Int))))
  (hn:∀s next,g (s,(xs.length:Int)) next=some s):∀(rest:List Int) (i:Nat) (s:Int) (k:Nat),i<=xs.length->xs.drop i=rest->rest.length<k->iter g k (s,(i:Int))=some (jE m rest s)
 |[],i,s,0,_,_,hk=>by omega
 |_::_,i,s,0,_,_,hk=>by omega
 |[],i,s,k+1,hle,hd,hk=>by
  have h1:=congrArg List.length hd;simp only[K9,KF]at h1
  have:i=xs.length:=by omega
  subst this
  rw[jn,hn];rfl
 |x::l,i,s,k+1,hle,hd,hk=>by
  have hi:i<xs.length:=by
   have h1:=congrArg List.length hd;simp only[K9,Kl]at h1;omega
  rw[fJ hi]at hd
  injection hd with h1 h2
  rw[jn,h i s hi,h1];simp only[jE];cases decide (bf m x<0)
  ·simp only[cond_false];exact ph h hn l (i+1) _ k (by omega) h2 (by simpa using hk)
  ·rfl
theorem wX {k:Nat} {m:Model} {xs:List Int} (hk:m.tot<k) (hN:m.tot<=bJ) (hx:xs.length<k) (hxN:xs.length<=bJ):dd k m xs=some (ku m xs):=by
 have hM:=aL;unfold dd ku;cases decide ((xs.length:Int)>300)
 ·simp only[cond_false]
  exact ph (m:=m) (xs:=xs) (g:=λu next=>fP k (xs,m.inp.h,m.inp.w,m.inp.c,m.ai) u next (λy5=>some y5) (λy6=>some y6)) (λi s hi next=>by
   simp only[fP]
   rw[ag,if_pos (by omega),aR,aA hi,aa,show(⟨⟨m.inp.h,m.inp.w,m.inp.c⟩,m.ai⟩:Model)=m from rfl,mA hk hN,aa,mz hk hN,aa,aa,aC hi (by omega),BM]) (λs next=>by
   simp only[fP];rw[ag,if_neg (by omega)]) xs 0 0 k (Kw _) rfl hx
 ·rfl
theorem wY {k:Nat} {m:Model} {xs:List Int} (hk:m.tot+1<k) (hN:m.tot<bJ) (hx:xs.length<k) (hxN:xs.length<=bJ):de k m xs=some (ku m xs):=by
 have hM:=aL;unfold de ku;cases decide ((xs.length:Int)>300)
 ·simp only[cond_false]
  exact ph (m:=m) (xs:=xs) (g:=λu next=>fQ k (xs,(xs.length:Int),m.inp.h,m.inp.w,m.inp.c,m.ai) u next (λy5=>some y5) (λy6=>some y6)) (λi s hi next=>by
   simp only[fQ]
   rw[ag,if_pos (by omega),aR,aA hi,aa,show(⟨⟨m.inp.h,m.inp.w,m.inp.c⟩,m.ai⟩:Model)=m from rfl,mB hk hN,aa,iW hk hN,aa,aC hi (by omega)]) (λs next=>by
   simp only[fQ];rw[ag,if_neg (by omega)]) xs 0 0 k (Kw _) rfl hx
 ·rfl
end
section
end
section
def Jf (xs:List Int):Int:=xs.foldl (λs x=>i64.wrap (s+x)) 0
theorem D1 (a b:Shape):(cond (a.h==b.h) (cond (a.w==b.w) (cond (a.c==b.c) (true) false) false) false)=decide (a=b):=by
 obtain⟨a1,a2,a3⟩:=a;obtain⟨b1,b2,b3⟩:=b;by_cases h1:a1=b1<;>by_cases h2:a2=b2<;>by_cases h3:a3=b3<;>simp[h1,h2,h3]
def FC (j:Job):Bool:=cI j.model&&(inB j.at_ 0 j.model.ai.length&&(j.act.okB&&(decide (j.act.sh=(bD j.model).getD j.at_.toNat eR)&&decide (j.AL=Jf ((cL j.model).take j.at_.toNat)))))
theorem wZ {m:Model} (h:cI m=true):(cL m).length=m.ai.length:=by
 unfold cL;rw[h];simp
end
section
def sat (a b x:Int):Int:=if x<a then a else if x>b then b else x
theorem w5 {a b:Int} (h:a<=b) (x:Int):a<=sat a b x/\sat a b x<=b:=by
 unfold sat;by_cases h1:x<a
 ·rw[if_pos h1];omega
 ·rw[if_neg h1];by_cases h2:x>b
  ·rw[if_pos h2];omega
  ·rw[if_neg h2];omega
theorem F8 {a b x:Int} (h1:a<=x) (h2:x<=b):sat a b x=x:=by
 unfold sat;rw[if_neg (by omega),if_neg (by omega)]
theorem lB {k:Nat} {x a b:Int} (h:a<=b):ju k x a b=some (sat a b x):=by
 unfold ju sat;rw[ag,ag,ag];by_cases h1:x<a
 ·rw[if_pos h1,if_pos h1]
 ·rw[if_neg h1,if_neg h1,if_neg (by omega)];by_cases h2:x>b
  ·rw[if_pos h2,if_pos h2]
  ·rw[if_neg h2,if_neg h2]
theorem uY {k:Nat} {x a b:Int} (h:a<=b):BI k x a b=some (sat a b x):=by
 unfold BI sat
 congr 1
 repeat' split
 all_goals omega
def rB (x:Int):Int:=sat (-128) 127 x
def ed (x:Int):Int:=sat (-2147483648) 2147483647 x
theorem rC (x:Int):-128<=rB x/\rB x<=127:=w5 (by omega) x
theorem gv (x:Int):-2147483648<=ed x/\ed x<=2147483647:=w5 (by omega) x
theorem w6 (k:Nat) (x:Int):rq k x=some (rB x):=by unfold rq rB;rw[lB (by omega),aa]
theorem pj (k:Nat) (x:Int):iT k x=some (ed x):=by unfold iT ed;rw[lB (by omega),aa]
theorem w7 (k:Nat) (x:Int):ru k x=some (rB x):=by unfold ru rB;rw[uY (by omega),aa]
theorem pk (k:Nat) (x:Int):iU k x=some (ed x):=by unfold iU ed;rw[uY (by omega),aa]
def kE (a b:Int):Int:=ed (ed a+ed b)
theorem kv (k:Nat) (a b:Int):ix k a b=some (kE a b):=by
 have h1:=gv a;have h2:=gv b;unfold ix kE;simp only[pj,aa];rw[aH (by omega) (by omega)]
theorem rD (k:Nat) (a b:Int):nZ k a b=some (kE a b):=by
 have h1:=gv a;have h2:=gv b;unfold nZ kE;simp only[pk,aa];rw[aH (by omega) (by omega)]
theorem He {x y A B:Int} (hx:-A<=x/\x<=A) (hy:-B<=y/\y<=B):-(A*B)<=x*y/\x*y<=A*B:=by
 have h1:=KM (show 0<=A-x by omega) (show 0<=B+y by omega);have h2:=KM (show 0<=A+x by omega) (show 0<=B-y by omega);have h3:=KM (show 0<=A-x by omega) (show 0<=B-y by omega);have h4:=KM (show 0<=A+x by omega) (show 0<=B+y by omega);simp only[Int.sub_mul,Int.add_mul,Int.mul_add,Int.mul_sub]at h1 h2 h3 h4;omega
def ky (a b:Int):Int:=ed ((ed a*ed b+1073741824)/2147483648)
theorem w9 {k:Nat} {a:Int} (h1:-4611686018427387904<=a/\a<=9223372036854775807):nW k a 2147483648=some (a/2147483648):=by
 have e:=Int.mul_tdiv_add_tmod a 2147483648;have h2:=Int.tmod_lt_of_pos a (show(0:Int)<2147483648 by omega);unfold nW;rw[ag,if_neg (by omega),ag,if_neg (by omega),ag];by_cases c:0<=a
 ·have h3:=Int.tmod_nonneg 2147483648 c;rw[if_neg (by omega),aH (by omega) (by omega)]
  congr 1;omega
 ·have h3:=Int.tmod_nonneg 2147483648 (show 0<=-a by omega);have h4:=Int.tmod_lt_of_pos (-a) (show(0:Int)<2147483648 by omega);rw[Int.neg_tmod]at h3 h4;by_cases c2:a.tmod 2147483648<0
  ·rw[if_pos c2,aH (n:=a.tdiv 2147483648) (by omega) (by omega),aH (by omega) (by omega)]
   congr 1;omega
  ·rw[if_neg c2,aH (by omega) (by omega)]
   congr 1;omega
theorem F9 (a b:Int):-4611686018427387904<=ed a*ed b/\ed a*ed b<=4611686018427387904:=
 He (A:=2147483648) (B:=2147483648) (by have:=gv a;omega) (by have:=gv b;omega)
theorem xa (k:Nat) (a b:Int):nX k a b=some (ky a b):=by
 have h:=F9 a b;unfold nX ky;simp only[pj,aa];rw[aH (n:=ed a*ed b) (by omega) (by omega),aH (by omega) (by omega),w9 (by omega),aa]
theorem xb (k:Nat) (a b:Int):oa k a b=some (ky a b):=by
 have h:=F9 a b;unfold oa ky;simp only[pk,aa];rw[aH (n:=ed a*ed b) (by omega) (by omega),aH (by omega) (by omega)]
 have e:((2:Int)^(min (31:Int).toNat i64.bits))=2147483648:=by decide
 rw[e,Int.fdiv_eq_ediv_of_nonneg _ (by omega)]
def dA (x by_:Int):Int:=if x<0 then -((2*-x+by_)/(2*by_))else(2*x+by_)/(2*by_)
theorem tC {a b:Int} (ha:0<=a) (hb:1<=b):0<=a/b/\a/b<=a:=
 ⟨Int.ediv_nonneg ha (by omega),Int.ediv_le_self _ ha⟩
theorem pO {k:Nat} {x d:Int} (hx:-2147483648<=x/\x<=2147483648) (hd:1<=d/\d<=2147483648):jx k x d=some (dA x d):=by
 unfold jx kh dA;rw[aH (n:=2*d) (by omega) (by omega),ag];by_cases c:x<0
 ·rw[if_pos c,if_pos c,aH (n:=0-x) (by omega) (by omega),ag,if_neg (by omega),ag,if_neg (by omega),aa,aH (n:=2*(0-x)) (by omega) (by omega),aH (n:=2*(0-x)+d) (by omega) (by omega),KS (by omega)];have h:=tC (a:=2*(0-x)+d) (b:=2*d) (by omega) (by omega);rw[show 2*-x+d=2*(0-x)+d from by omega];generalize (2*(0-x)+d)/(2*d)=q at h;rw[aH (n:=q) (by omega) (by omega),aH (by omega) (by omega)]
  congr 1;omega
 ·rw[if_neg c,if_neg c,ag,if_neg (by omega),aH (n:=2*x) (by omega) (by omega),aH (n:=2*x+d) (by omega) (by omega),KS (by omega)];have h:=tC (a:=2*x+d) (b:=2*d) (by omega) (by omega);rw[aH (by omega) (by omega)]
def ep (x n:Int):Int:=dA (ed x) (2^(sat 0 31 n).toNat)
theorem rE {r:Int} (h:0<=r/\r<=31):i64.wrap ((1:Int)*2^(min r.toNat i64.bits))=2^r.toNat/\(1:Int)<=2^r.toNat/\(2:Int)^r.toNat<=2147483648:=by
 have hb:i64.bits=64:=rfl;have h1:(2:Nat)^r.toNat<=2^31:=Nat.pow_le_pow_right (by omega) (by omega);have h2:1<=(2:Nat)^r.toNat:=Nat.one_le_two_pow
 have e:((2^r.toNat:Nat):Int)=2^r.toNat:=by simp
 rw[hb,Nat.min_eq_left (by omega),Int.one_mul];rw[<-e];refine⟨aH (by omega) (by omega),by omega,by omega⟩
theorem Ay {v:Int} {s:Nat}:(v+(2^s:Int)/2)/2^s=(2*v+2^s)/(2*2^s):=by
 cases s with
 |zero=>omega
 |succ s=>
  have e:(2:Int)^(s+1)=2*2^s:=by rw[Int.pow_succ,Int.mul_comm]
  rw[e]
  have e2:2*v+2*(2:Int)^s=2*(v+2^s):=by rw[Int.mul_add]
  rw[e2,Int.mul_ediv_mul_of_pos _ _ (by omega:(0:Int)<2),Int.mul_ediv_cancel_left _ (by omega:(2:Int)≠0)]
theorem rF (k:Nat) (x n:Int):iG k x n=some (ep x n):=by
 have h1:=gv x;have h2:=w5 (a:=0) (b:=31) (by omega) n;obtain⟨e,h3,h4⟩:=rE h2;unfold iG ep;rw[pk,aa,uY (by omega),aa,ag,if_neg (by omega),e,pO (by omega) ⟨h3,h4⟩,aa]
theorem D2 {r:Int} (h:0<=r/\r<=31):u64.wrap r=r:=Go.IntWalk.u64_in r ⟨by omega,by omega⟩
theorem rG (k:Nat) (x n:Int):iy k x n=some (ep x n):=by
 have h1:=gv x;have h2:=w5 (a:=0) (b:=31) (by omega) n;obtain⟨e,h3,h4⟩:=rE h2;unfold iy ep dA;rw[pj,aa,lB (by omega),aa,D2 h2,ag,if_neg (by omega),e,ag];have hh:((2:Int)^(sat 0 31 n).toNat).tdiv 2=2^(sat 0 31 n).toNat/2:=KS (by omega);rw[hh,aH (n:=2^(sat 0 31 n).toNat/2) (by omega) (by omega)];by_cases c:ed x<0
 ·rw[if_pos c,if_pos c,ag,if_neg (by omega),aH (n:=0-ed x) (by omega) (by omega),aH (n:=0-ed x+2^(sat 0 31 n).toNat/2) (by omega) (by omega),KS (by omega),Ay,show 2*-ed x+2^(sat 0 31 n).toNat=2*(0-ed x)+2^(sat 0 31 n).toNat from by omega];have h:=tC (a:=2*(0-ed x)+2^(sat 0 31 n).toNat) (b:=2*2^(sat 0 31 n).toNat) (by omega) (by omega);generalize (2*(0-ed x)+2^(sat 0 31 n).toNat)/(2*2^(sat 0 31 n).toNat)=q at h;rw[aH (n:=q) (by omega) (by omega),aH (by omega) (by omega)]
  congr 1;omega
 ·rw[if_neg c,if_neg c,ag,if_neg (by omega),aH (n:=ed x+2^(sat 0 31 n).toNat/2) (by omega) (by omega),KS (by omega),Ay];have h:=tC (a:=2*ed x+2^(sat 0 31 n).toNat) (b:=2*2^(sat 0 31 n).toNat) (by omega) (by omega);rw[aH (by omega) (by omega)]
def rH (acc mult shift zero:Int):Int:=rB (ep (ky acc mult) shift+rB zero)
theorem BN {x d B:Int} (hx:-B<=x/\x<=B) (hd:1<=d):-B<=dA x d/\dA x d<=B:=by
 have key:∀y:Int,0<=y->y<=B->0<=(2*y+d)/(2*d)/\(2*y+d)/(2*d)<=B:=λy h0 h1=>by
  refine⟨Int.ediv_nonneg (by omega) (by omega),?_⟩
  have hlt:(2*y+d)/(2*d)<B+1:=by
   apply Int.ediv_lt_of_lt_mul (by omega);have:=KM (show 0<=B by omega) (show 0<=d-1 by omega);rw[Int.mul_sub,Int.mul_one]at this;rw[Int.add_mul,Int.one_mul,Int.mul_comm B,LW,Int.mul_comm d B];omega
  omega
 unfold dA;by_cases c:x<0
 ·rw[if_pos c];have:=key (-x) (by omega) (by omega);omega
 ·rw[if_neg c];have:=key x (by omega) (by omega);omega
theorem pP (acc mult shift zero:Int):i64.wrap (ep (ky acc mult) shift+rB zero)=ep (ky acc mult) shift+rB zero:=by
 have h1:=rC zero;have h2:=w5 (a:=0) (b:=31) (by omega) shift;have h3:=gv (ky acc mult);have h4:=BN (x:=ed (ky acc mult)) (d:=2^(sat 0 31 shift).toNat) (B:=2147483648) (by omega) (rE h2).2.1;unfold ep;exact aH (by omega) (by omega)
theorem pQ (k:Nat) (a b c d:Int):jv k a b c d=some (rH a b c d):=by
 unfold jv rH;simp only[xa,rG,w6,aa,pP]
theorem xc (k:Nat) (a b c d:Int):oc k a b c d=some (rH a b c d):=by
 unfold oc rH;simp only[xb,rF,w7,aa,pP]
end
section
theorem gw {α:Type} (f:Nat->List α) (m:Nat):∀n,(∀i,i<n->(f i).length<=m)->((List.range n).flatMap f).length<=n*m
 |0,_=>by simp
 |n+1,h=>by
  have:=gw f m n λi hi=>h i (by omega);have:=h n (by omega);rw[Lg,Lq,Kt,Kp,show([n]:List Nat).flatMap f=f n from by simp];omega
theorem dL {α:Type} (f:Nat->List α) (m:Nat):∀n,(∀i,i<n->(f i).length=m)->((List.range n).flatMap f).length=n*m
 |0,_=>by simp
 |n+1,h=>by
  have:=dL f m n λi hi=>h i (by omega);have:=h n (by omega);rw[Lg,Lq,Kt,Kp,show([n]:List Nat).flatMap f=f n from by simp];omega
theorem uZ {α:Type} (f:Nat->List α) (q:Nat):∀n,(∀i,i<n->(f i).length=q)->∀a b,a<n->b<q->((List.range n).flatMap f)[a*q+b]? =(f a)[b]?
 |0,_,a,b,h,_=>by omega
 |n+1,h,a,b,ha,hb=>by
  have hl:=dL f q n λi hi=>h i (by omega);rw[Lg,Lq]
  have hs:([n]:List Nat).flatMap f=f n:=by simp
  rw[hs];by_cases c:a<n
  ·have:(a+1)*q<=n*q:=Kh _ (by omega);rw[Kp]at this;rw[Ke (by omega)];exact uZ f q n (λi hi=>h i (by omega)) a b c hb
  ·have:a=n:=by omega
   subst this;rw[Kb (by omega),hl,Ku]
theorem cJ {α R:Type} (n m:Nat) (f:Nat->List α) (xs0:List α) {g:Int× List α->(Int× List α->Option R)->Option R} {fin:List α->Option R} {k:Nat}
  (hf:∀i,i<n->(f i).length<=m)
  (h:∀(i:Nat) ys next,i<n->ys.length<=xs0.length+i*m->g ((i:Int),ys) next=next (((i+1:Nat):Int),ys++f i))
  (hn:∀ys next,g ((n:Int),ys) next=fin ys) (hk:n<k):iter g k ((0:Int),xs0)=fin (xs0++(List.range n).flatMap f):=by
 have:=eJ (g:=g) (st:=λi=>((i:Int),xs0++(List.range i).flatMap f)) (n:=n) (r:=fin (xs0++(List.range n).flatMap f)) (λi hi next=>by
  have hl:=gw f m i λj hj=>hf j (by omega);rw[h i _ next hi (by rw[Kt];omega),Lg,Lq]
  simp) (λnext=>hn _ _) hk
 simpa using this
theorem jF {β R:Type} (n:Nat) (f:β->Nat->β) (a0:β) {g:β× Int->(β× Int->Option R)->Option R} {fin:β->Option R} {k:Nat}
  (h:∀(i:Nat) a next,i<n->g (a,(i:Int)) next=next (f a i,((i+1:Nat):Int))) (hn:∀a next,g (a,(n:Int)) next=fin a) (hk:n<k):
  iter g k (a0,(0:Int))=fin ((List.range n).foldl f a0):=
 eJ (g:=g) (st:=λi=>((List.range i).foldl f a0,(i:Int))) (n:=n) (r:=fin ((List.range n).foldl f a0)) (λi hi next=>by
  rw[h i _ next hi,Lg,K6];rfl) (λnext=>hn _ _) hk
theorem fold_congr {β:Type} {f g:β->Nat->β}:∀(n:Nat) (a:β),(∀a i,i<n->f a i=g a i)->(List.range n).foldl f a=(List.range n).foldl g a
 |0,_,_=>rfl
 |n+1,a,h=>by
  rw[Lg,K6,K6,fold_congr n a λa i hi=>h a i (by omega)];exact h _ n (by omega)
theorem va {β:Type} (f:β->Nat->β) (q:Nat):∀(m:Nat) (a:β),(List.range (m*q)).foldl f a=(List.range m).foldl (λa i=>(List.range q).foldl (λa j=>f a (i*q+j)) a) a
 |0,a=>by simp
 |m+1,a=>by
  rw[Kp,Nat.one_mul,List.range_add,K6,va f q m a,Lg,K6,List.foldl_map];rfl
theorem xd {a b:Nat} (h:a*b<=9223372036854775807):i64.wrap ((a:Int)*(b:Int))=((a*b:Nat):Int):=by
 rw[KW];have e:((a:Int)*(b:Int))=((a*b:Nat):Int):=(KW a b).symm;exact aH (by omega) (by omega)
theorem xu {a b:Nat} (h:a+b<=9223372036854775807):i64.wrap ((a:Int)+(b:Int))=((a+b:Nat):Int):=by
 rw[aH (by omega) (by omega)];omega
theorem D3 {α:Type} {p:Prop} {i:Decidable p} (h:p) (x y:α):cond (@decide p i) x y=x:=by rw[decide_eq_true h];rfl
theorem Jg {α:Type} {p:Prop} {i:Decidable p} (h:¬p) (x y:α):cond (@decide p i) x y=y:=by rw[decide_eq_false h];rfl
theorem oq {H W C h w c:Nat} (h1:h<H) (h2:w<W) (h3:c<C):(h*W+w)*C+c<H*W*C:=by
 have a1:(h+1)*W<=H*W:=Kh _ h1;rw[Kp]at a1;have a2:(h*W+w+1)*C<=H*W*C:=Kh _ (by omega);rw[Kp]at a2;omega
structure gx (H W C:Nat) (xs:List Int):Prop where
 h1:1<=H
 h8:H<=8
 w1:1<=W
 w8:W<=8
 c1:1<=C
 c8:C<=8
 len:xs.length=H*W*C
 mem:∀x∈xs,-128<=x/\x<=127
def pn (H W C:Nat) (xs:List Int):ab:=⟨⟨H,W,C⟩,xs⟩
theorem gx.Hs {H W C:Nat} {xs:List Int} (r:gx H W C xs):H*W*C<=512:=by
 have a:=KE r.h8 r.w8;have b:=KE a r.c8;omega
theorem gx.sh {H W C:Nat} {xs:List Int} (r:gx H W C xs):(⟨H,W,C⟩:Shape).okB=true:=by
 obtain⟨a,b,c,d,e,f,_,_⟩:=r;simp only[Shape.okB,inB,J8,decide_eq_true_eq];omega
theorem gx.size {H W C:Nat} {xs:List Int} (r:gx H W C xs):(⟨H,W,C⟩:Shape).size=((H*W*C:Nat):Int):=by
 unfold Shape.size;rw[r.sh,cond_true,KW,KW]
theorem gx.ok {H W C:Nat} {xs:List Int} (r:gx H W C xs):(pn H W C xs).okB=true:=by
 unfold ab.okB pn;simp only[r.sh,r.size,r.len,decide_true,Km];unfold kD;rw[KP];intro x hx;have:=r.mem x hx;rw[bC];omega
theorem vb {t:ab} (h:t.okB=true):∃H W C:Nat,gx H W C t.data/\t=pn H W C t.data:=by
 unfold ab.okB at h;simp only[J8,decide_eq_true_eq]at h;obtain⟨h1,h2,h3⟩:=h;have hs:=Shape.l5 h1;unfold kD at h3;rw[KP]at h3;unfold Shape.size at h2;rw[h1,cond_true]at h2;obtain⟨⟨a,b,c⟩,xs⟩:=t;simp only at hs h2 h3;refine⟨a.toNat,b.toNat,c.toNat,⟨by omega,by omega,by omega,by omega,by omega,by omega,?_,λx hx=>bC.1 (h3 x hx)⟩,?_⟩
 ·have ea:((a.toNat:Nat):Int)=a:=by omega
  have eb:((b.toNat:Nat):Int)=b:=by omega
  have ec:((c.toNat:Nat):Int)=c:=by omega
  have e:((a.toNat*b.toNat*c.toNat:Nat):Int)=a*b*c:=by rw[KW,KW,ea,eb,ec]
  show xs.length=_;omega
 ·unfold pn
  congr 2<;>omega
def atN (W C:Nat) (xs:List Int) (h w c:Nat):Int:=xs.getD ((h*W+w)*C+c) 0
theorem zx {H W C:Nat} {xs:List Int} (r:gx H W C xs) {h w c:Nat} (h1:h<H) (h2:w<W) (h3:c<C):xs[(h*W+w)*C+c]? =some (atN W C xs h w c):=by
 have:=oq h1 h2 h3;have hl:=r.len;unfold atN;rw[cM (by omega),aA (by omega)]
theorem qh {xs:List Int} {i:Nat} (h:i<xs.length):xs.getD i 0∈xs:=by rw[cM h];exact KI h
theorem Az {H W C:Nat} {xs:List Int} (r:gx H W C xs) {h w c:Nat} (h1:h<H) (h2:w<W) (h3:c<C):-128<=atN W C xs h w c/\atN W C xs h w c<=127:=by
 have:=oq h1 h2 h3;have hl:=r.len;exact r.mem _ (qh (by omega))
theorem tD {H W C:Nat} {xs:List Int} (r:gx H W C xs) {h w c:Nat} (h1:h<H) (h2:w<W) (h3:c<C):
  i64.wrap (i64.wrap (i64.wrap (i64.wrap ((h:Int)*(W:Int))+(w:Int))*(C:Int))+(c:Int))=(((h*W+w)*C+c:Nat):Int):=by
 have a:=oq h1 h2 h3;have b:=r.Hs;have d:h*W<=H*W:=Kh _ (by omega);have e:=KE r.h8 r.w8;rw[xd (by omega),xu (by have:=r.w8;omega),xd (by omega),xu (by omega)]
theorem m7 {k:Nat} {H W C:Nat} {xs:List Int} (r:gx H W C xs) (hk:512<k) {h w c:Nat} (h1:h<H) (h2:w<W) (h3:c<C):kg k (pn H W C xs) h w c=some (atN W C xs h w c,true):=by
 have hl:=r.len;have hc:=r.Hs
 have hi:∀{a n:Nat},a<n->n<=8->inB (a:Int) 0 (i64.wrap ((n:Int)-1))=true:=λ{a n} h h8=>by
  rw[aH (by omega) (by omega),bC];omega
 unfold kg rr;simp only[fS,bY,aa];rw[gq (t:=pn H W C xs) (by show xs.length<k;omega) (by unfold oA;show xs.length<=_;omega),r.ok];simp only[pn,r.sh,hi h1 r.h8,hi h2 r.w8,hi h3 r.c8,KJ,cond_false,aa,tD r h1 h2 h3];rw[ag,if_neg (by omega),aR,zx r h1 h2 h3,aa]
theorem m8 {k:Nat} {H W C:Nat} {xs:List Int} (r:gx H W C xs) {h w c:Nat} (h1:h<H) (h2:w<W) (h3:c<C):eK k ⟨H,W,C⟩ h w c=some ((((h*W+w)*C+c:Nat)):Int):=by
 unfold eK;rw[tD r h1 h2 h3]
structure D4 (H W Z S h w:Nat):Prop where
 z1:1<=Z
 z3:Z<=3
 s2:S<=2
 hh:h*S+Z<=H
 ww:w*S+Z<=W
def eV (W C:Nat) (xs:List Int) (Z S h w c:Nat):List Int:=
 (List.range Z).flatMap λi=>(List.range Z).flatMap λj=>[atN W C xs (h*S+i) (w*S+j) c]
def Hf (W C:Nat) (xs:List Int) (Z S h w:Nat):List Int:=
 (List.range Z).flatMap λi=>(List.range Z).flatMap λj=>(List.range C).map λc=>atN W C xs (h*S+i) (w*S+j) c
theorem xe (W C:Nat) (xs:List Int) (Z S h w c:Nat):(eV W C xs Z S h w c).length=Z*(Z*1):=
 dL _ _ _ λi hi=>dL _ _ _ λj hj=>rfl
theorem vc (W C:Nat) (xs:List Int) (Z S h w:Nat):(Hf W C xs Z S h w).length=Z*(Z*C):=
 dL _ _ _ λi hi=>dL _ _ _ λj hj=>by simp
theorem xf {k:Nat} {H W C:Nat} {xs:List Int} (r:gx H W C xs) (hk:512<k) {l:al} {Z S h w c:Nat} (hz:l.size=Z) (hs:l.step=S) (v:D4 H W Z S h w) (hc:c<C):
  gV k (pn H W C xs) l h w c=some (eV W C xs Z S h w c):=by
 have hM:=aL;have hv:=v;obtain⟨z1,z3,s2,hh,ww⟩:=hv;have:=r.h8;have:=r.w8;unfold gV
 refine(cJ Z 3 (λi=>(List.range Z).flatMap λj=>[atN W C xs (h*S+i) (w*S+j) c]) [] (fin:=some) (λi hi=>by
   have:=gw (λj=>[atN W C xs (h*S+i) (w*S+j) c]) 1 Z (λ_ _=>Kr _);omega) (λi ys next hi hy=>?_) (λys next=>?_) (by omega)).trans (by rw[Lf];rfl)
 ·simp only[iA,hz,hs];rw[ag,if_pos (by omega),aC hi (by omega)];refine cJ Z 1 (λj=>[atN W C xs (h*S+i) (w*S+j) c]) ys (fin:=λy=>next (((i+1:Nat):Int),y)) (λ_ _=>Kr _) (λj zs ot hj hz2=>?_) (λzs ot=>?_) (by omega)
  ·simp only[iz,hz,hs]
   have e1:h*S+i<H:=by omega
   have e2:w*S+j<W:=by omega
   have e:=m7 (k:=k) r hk e1 e2 hc;unfold pn at e;simp only[KF]at hy;rw[ag,if_pos (by omega)];simp only[pn];rw[xd (by omega),xu (by omega),xd (by omega),xu (by omega),e,aa,gY (by simp;omega),aC hj (by omega)]
  ·simp only[iz];rw[ag,if_neg (by omega)]
 ·simp only[iA];rw[ag,if_neg (by omega)]
theorem xg {α:Type} {ws:List α} {a q i:Nat} (hi:i<q):((ws.take (a+q)).drop a)[i]? =ws[a+i]? :=by
 rw[Kn,Kv,if_pos (by omega)]
theorem D5 {ws:List Int} {a q:Nat} (h:a+q<=ws.length):(ws.take (a+q)).drop a=(List.range q).map λc=>ws.getD (a+c) 0:=by
 apply List.ext_getElem?;intro i;by_cases c:i<q
 ·rw[xg c,KB,List.getElem?_range c,Lm,aA (by omega),cM (by omega)]
 ·rw[KN (by simp;omega),KN (by simp;omega)]
theorem rI {k:Nat} {H W C:Nat} {xs:List Int} (r:gx H W C xs) (hk:512<k) {l:al} {Z S h w c:Nat} (hz:l.size=Z) (hs:l.step=S) (v:D4 H W Z S h w) (hc:c<C):
  bh k l (pn H W C xs) h w c=some (eV W C xs Z S h w c):=by
 have hM:=aL;have hv:=v;obtain⟨z1,z3,s2,hh,ww⟩:=hv;have:=r.h8;have:=r.w8;have:=r.c8;have hcu:=r.Hs;have hlen:=r.len;unfold bh
 refine(cJ Z 3 (λi=>(List.range Z).flatMap λj=>[atN W C xs (h*S+i) (w*S+j) c]) [] (fin:=some) (λi hi=>by
   have:=gw (λj=>[atN W C xs (h*S+i) (w*S+j) c]) 1 Z (λ_ _=>Kr _);omega) (λi ys next hi hy=>?_) (λys next=>?_) (by omega)).trans (by rw[Lf];rfl)
 ·simp only[bS,hz,hs];rw[ag,if_pos (by omega),aC hi (by omega)];refine cJ Z 1 (λj=>[atN W C xs (h*S+i) (w*S+j) c]) ys (fin:=λy=>next (((i+1:Nat):Int),y)) (λ_ _=>Kr _) (λj zs ot hj hz2=>?_) (λzs ot=>?_) (by omega)
  ·simp only[bR,hz,hs]
   have e1:h*S+i<H:=by omega
   have e2:w*S+j<W:=by omega
   have e:=m8 (k:=k) (c:=0) r e1 e2 (by omega);have hp:=oq e1 e2 hc;simp only[KF]at hy;rw[ag,if_pos (by omega)];simp only[pn];rw[xd (by omega),xu (by omega),xd (by omega),xu (by omega)];refine(congrArg (λo:Option Int=>o.bind _) e).trans ?_;rw[aa,ag,if_neg (by omega),Kz,xu (by omega),aR,zx r e1 e2 hc,aa,gY (by simp;omega),aC hj (by omega)]
  ·simp only[bR];rw[ag,if_neg (by omega)]
 ·simp only[bS];rw[ag,if_neg (by omega)]
theorem xh {k:Nat} {H W C:Nat} {xs:List Int} (r:gx H W C xs) (hk:512<k) {l:al} {Z S h w:Nat} (hz:l.size=Z) (hs:l.step=S) (v:D4 H W Z S h w):
  bh k l (pn H W C xs) h w (-1)=some (Hf W C xs Z S h w):=by
 have hM:=aL;have hv:=v;obtain⟨z1,z3,s2,hh,ww⟩:=hv;have:=r.h8;have:=r.w8;have:=r.c8;have hc1:=r.c1;have hcu:=r.Hs;have hlen:=r.len;unfold bh
 refine(cJ Z 24 (λi=>(List.range Z).flatMap λj=>(List.range C).map λc=>atN W C xs (h*S+i) (w*S+j) c) [] (fin:=some) (λi hi=>by
   have:=gw (λj=>(List.range C).map λc=>atN W C xs (h*S+i) (w*S+j) c) 8 Z (λ_ _=>by simp;omega);omega) (λi ys next hi hy=>?_) (λys next=>?_) (by omega)).trans (by rw[Lf];rfl)
 ·simp only[bS,hz,hs];rw[ag,if_pos (by omega),aC hi (by omega)];refine cJ Z 8 (λj=>(List.range C).map λc=>atN W C xs (h*S+i) (w*S+j) c) ys (fin:=λy=>next (((i+1:Nat):Int),y)) (λ_ _=>by simp;omega) (λj zs ot hj hz2=>?_) (λzs ot=>?_) (by omega)
  ·simp only[bR,hz,hs]
   have e1:h*S+i<H:=by omega
   have e2:w*S+j<W:=by omega
   have e:=m8 (k:=k) (c:=0) r e1 e2 (by omega);have hp:=oq (C:=C) (c:=C-1) e1 e2 (by omega);simp only[KF]at hy;rw[ag,if_pos (by omega)];simp only[pn];rw[xd (by omega),xu (by omega),xd (by omega),xu (by omega)];refine(congrArg (λo:Option Int=>o.bind _) e).trans ?_;have e3:=D5 (ws:=xs) (a:=((h*S+i)*W+(w*S+j))*C) (q:=C) (by omega);have ew:i64.wrap (((((h*S+i)*W+(w*S+j))*C:Nat):Int)+(C:Int))=((((h*S+i)*W+(w*S+j))*C+C:Nat):Int):=xu (by omega);rw[aa,D3 (by omega),Kz];refine(D3 (by rw[ew];omega) _ _).trans ?_;refine(D3 (by rw[ew];omega) _ _).trans ?_;rw[ew,Ky,Ky,e3,gY (by simp;omega),aC hj (by omega)];rfl
  ·simp only[bR];rw[ag,if_neg (by omega)]
 ·simp only[bS];rw[ag,if_neg (by omega)]
end
section
def Hg (xs ws:List Int):Int:=(List.range xs.length).foldl (λs i=>kE s (rB (xs.getD i 0)*rB (ws.getD i 0))) 0
theorem Ic (a b:Int):i64.wrap (rB a*rB b)=rB a*rB b:=by
 have h1:=rC a;have h2:=rC b;have:=He (A:=128) (B:=128) (x:=rB a) (y:=rB b) (by omega) (by omega);exact aH (by omega) (by omega)
theorem BO {k:Nat} {xs ws:List Int} (hk:xs.length<k) (hl:ws.length=xs.length) (hN:xs.length<=bJ):uT k xs ws=some (Hg xs ws):=by
 have hM:=aL;unfold uT Hg
 exact jF xs.length (λs i=>kE s (rB (xs.getD i 0)*rB (ws.getD i 0))) 0 (fin:=some) (λi a next hi=>by
  simp only[lX,w6,kv]
  rw[ag,if_pos (by omega),ag,if_pos (by omega),aR,aA hi,aa,aa,aR,aA (by omega),aa,aa,aa,Ic,aC hi (by omega),cM hi,cM (by omega)]) (λa next=>by
  simp only[lX]
  rw[ag,if_neg (by omega)]) hk
theorem BP {k:Nat} {xs ws:List Int} (hk:xs.length<k) (hl:ws.length=xs.length) (hN:xs.length<=bJ):uU k xs ws=some (Hg xs ws):=by
 have hM:=aL;unfold uU Hg;rw[if_neg (by omega)]
 exact jF xs.length (λs i=>kE s (rB (xs.getD i 0)*rB (ws.getD i 0))) 0 (fin:=some) (λi a next hi=>by
  simp only[lZ,w7,rD]
  rw[ag,if_pos (by omega),aR,aA hi,aa,aa,aR,aA (by omega),aa,aa,aa,Ic,aC hi (by omega),cM hi,cM (by omega)]) (λa next=>by
  simp only[lZ]
  rw[ag,if_neg (by omega)]) hk
def m9 (l:al) (xs:List Int) (o:Nat):Int:=
 rH (kE (Hg xs ((l.weights.take (o*xs.length+xs.length)).drop (o*xs.length))) (l.gI.getD o 0)) l.mult l.shift l.zero
theorem rJ {k:Nat} {l:al} {xs:List Int} {o:Nat} (hk:xs.length<k) (hN:xs.length<=bJ) (hw:o*xs.length+xs.length<=l.weights.length) (hwN:l.weights.length<=bJ) (hb:o<l.gI.length) (ho:o<8):
  cK k l xs o=some (m9 l xs o):=by
 have hM:=aL
 have e:(o+1)*xs.length=o*xs.length+xs.length:=by rw[Kp,Nat.one_mul]
 have e1:i64.wrap (i64.wrap ((o:Int)+1)*(xs.length:Int))=((o*xs.length+xs.length:Nat):Int):=by
  rw[aC ho (by omega),xd (by omega),e]
 have e2:i64.wrap ((o:Int)*(xs.length:Int))=((o*xs.length:Nat):Int):=xd (by omega);unfold cK m9;rw[e1,e2,ag,if_pos (by omega),ag,if_pos (by omega),Ky,Ky,BP hk (by simp;omega) hN,aa,aR,aA hb,aa,rD,aa,xc,aa,cM hb]
def gy:List Int->Int
 |[]=>0
 |x::xs=>xs.foldl (λm y=>if y>m then y else m) x
theorem AA {R:Type} {xs:List Int} {x:Int} {g:Int× Int->(Int× Int->Option R)->Option R} {fin:Int->Option R} {k:Nat}
  (h:∀(i:Nat) a next (hi:i<xs.length),g (a,((i+1:Nat):Int)) next=next (if xs[i]>a then xs[i]else a,((i+1+1:Nat):Int))) (hn:∀a next,g (a,((xs.length+1:Nat):Int)) next=fin a) (hk:xs.length<k):
  iter g k (x,(1:Int))=fin (gy (x::xs)):=by
 have:=eJ (g:=g) (st:=λi=>((xs.take i).foldl (λm y=>if y>m then y else m) x,((i+1:Nat):Int))) (n:=xs.length) (r:=fin (gy (x::xs))) (λi hi next=>by
  rw[h i _ next hi,dC hi,K6];rfl) (λnext=>by rw[hn,KZ];rfl) hk
 exact this
theorem lC:∀(xs:List Int) (x:Int),gy (x::xs)∈x::xs
 |[],x=>by simp[gy]
 |y::xs,x=>by
  show xs.foldl _ (if y>x then y else x)∈_;by_cases c:y>x
  ·rw[if_pos c];exact Ks _ (lC xs y)
  ·rw[if_neg c]
   rcases Kq.1 (lC xs x)with h|h
   ·have h:xs.foldl (λm y=>if y>m then y else m) x=x:=h;rw[h];simp
   ·exact Ks _ (Ks _ h)
theorem rK:∀{xs:List Int},(∀x∈xs,-128<=x/\x<=127)->-128*(xs.length:Int)<=xs.sum/\xs.sum<=127*(xs.length:Int)
 |[],_=>by simp
 |x::xs,h=>by
  have h1:=rK λy hy=>h y (Ks _ hy);have h2:=h x (by simp);rw[List.sum_cons,Kl];omega
theorem xi {R:Type} {xs:List Int} {g:Int× Int->(Int× Int->Option R)->Option R} {fin:Int->Option R} {k:Nat} (hx:∀x∈xs,-128<=x/\x<=127) (hN:xs.length<=bJ)
  (h:∀(i:Nat) a next (hi:i<xs.length),g (a,(i:Int)) next=next (i64.wrap (a+xs[i]),((i+1:Nat):Int))) (hn:∀a next,g (a,(xs.length:Int)) next=fin a) (hk:xs.length<k):
  iter g k ((0:Int),(0:Int))=fin xs.sum:=by
 have hM:=aL
 have:=eJ (g:=g) (st:=λi=>((xs.take i).sum,(i:Int))) (n:=xs.length) (r:=fin xs.sum) (λi hi next=>by
  have hb:=rK (xs:=xs.take (i+1)) λx hm=>hx x (List.mem_of_mem_take hm)
  have e:(xs.take (i+1)).sum=(xs.take i).sum+xs[i]:=by rw[dC hi,List.sum_append];simp
  rw[e]at hb;simp only[KC]at hb
  rw[h i _ next hi,e,aH (by omega) (by omega)]) (λnext=>by rw[hn,KZ]) hk
 exact this
def ia (W C:Nat) (xs:List Int) (l:al) (Z S h w o:Nat):Int:=
  cond (l.kind==0) (m9 l xs o) (cond (l.kind==1) (m9 l (Hf W C xs Z S h w) o)
    (cond (l.kind==2) (gy (eV W C xs Z S h w o)) (cond (l.kind==3) (dA (eV W C xs Z S h w o).sum ((Z*Z:Nat):Int))
      (cond (l.kind==4) (if atN W C xs h w o<l.zero then l.zero else atN W C xs h w o) (xs.getD o 0)))))
inductive Fits (H W C:Nat) (xs:List Int) (l:al) (Z S h w o:Nat):Prop
 |FD (h0:l.kind=0) (hb:o<l.gI.length) (h8:o<8) (hw:o*xs.length+xs.length<=l.weights.length)
 |conv (h0:l.kind=1) (hb:o<l.gI.length) (h8:o<8) (hw:o*(Z*(Z*C))+Z*(Z*C)<=l.weights.length) (v:D4 H W Z S h w) (hi:∀x∈l.weights,-128<=x/\x<=127)
 |max (h0:l.kind=2) (v:D4 H W Z S h w) (ho:o<C)
 |avg (h0:l.kind=3) (v:D4 H W Z S h w) (ho:o<C)
 |IC (h0:l.kind=4) (h1:h<H) (h2:w<W) (h3:o<C) (hz:-128<=l.zero/\l.zero<=127)
 |flat (h0:l.kind=5) (ho:o<xs.length)
theorem qi {H W C:Nat} {xs:List Int} (r:gx H W C xs) {Z S h w o:Nat} (v:D4 H W Z S h w) (ho:o<C):∀x∈eV W C xs Z S h w o,-128<=x/\x<=127:=by
 intro x hx;obtain⟨z1,z3,s2,hh,ww⟩:=v;unfold eV at hx;rw[Lw]at hx;obtain⟨i,hi,hx⟩:=hx;rw[Lw]at hx;obtain⟨j,hj,hx⟩:=hx;rw[List.mem_range]at hi hj;rw[List.mem_singleton]at hx;rw[hx];exact Az r (by omega) (by omega) ho
theorem rL {H W C:Nat} {xs:List Int} {Z S h w o:Nat} (v:D4 H W Z S h w):∃x ys,eV W C xs Z S h w o=x::ys:=by
 have hl:=xe W C xs Z S h w o;have:=v.z1
 have hp:1<=Z*(Z*1):=by rw[Nat.mul_one];exact KE this this
 cases hc:eV W C xs Z S h w o with
 |nil=>rw[hc]at hl;simp only[KF]at hl;omega
 |cons x ys=>exact⟨x,ys,rfl⟩
theorem jG {H W C:Nat} {xs:List Int} {Z S h w o:Nat} (v:D4 H W Z S h w):(eV W C xs Z S h w o).length=Z*Z/\1<=Z*Z/\Z*Z<=9:=by
 have hl:=xe W C xs Z S h w o;rw[Nat.mul_one]at hl;exact⟨hl,KE v.z1 v.z1,KE v.z3 v.z3⟩
theorem D6 {k:Nat} {H W C:Nat} {xs:List Int} (r:gx H W C xs) {l:al} {Z S h w o:Nat} (hk:512<k) (hwN:l.weights.length<=bJ) (hz:l.size=Z) (hs:l.step=S) (f:Fits H W C xs l Z S h w o):
  iH k l (pn H W C xs) h w o=some (ia W C xs l Z S h w o):=by
 have hM:=aL;have hcu:=r.Hs;have hlen:=r.len;unfold iH ia
 cases f with
 |FD h0 hb h8 hw=>
  rw[h0];show(cK k l xs o).bind _=_
  rw[rJ (by omega) (by omega) hw hwN hb h8];rfl
 |conv h0 hb h8 hw v hi=>
  have hl:=vc W C xs Z S h w;have:Z*(Z*C)<=3*(3*8):=KE v.z3 (KE v.z3 r.c8);rw[h0];show(bh k l (pn H W C xs) h w (-1)).bind _=_
  rw[xh r hk hz hs v,aa,rJ (by omega) (by omega) (by rw[hl];exact hw) hwN hb h8];rfl
 |max h0 v ho=>
  rw[h0];show(bh k l (pn H W C xs) h w o).bind _=_;rw[rI r hk hz hs v ho,aa];have hl:=jG (xs:=xs) (C:=C) (o:=o) v;obtain⟨x,ys,e⟩:=rL (xs:=xs) (C:=C) (o:=o) v;rw[e]at hl;simp only[Kl]at hl;show(cy k (eV W C xs Z S h w o)).bind _=some (gy (eV W C xs Z S h w o));rw[e];unfold cy
  rw[ag,if_neg (by simp only[Kl];omega),nQ,List.getElem?_cons_zero,aa,AA (xs:=ys) (x:=x) (fin:=some) (λi a next hi=>by
   simp only[bW]
   rw[ag,if_pos (by simp only[Kl];omega),aR,List.getElem?_cons_succ,aA hi,aa,aC (show i+1<ys.length+1 by omega) (by omega)]) (λa next=>by
   simp only[bW]
   rw[ag,if_neg (by simp only[Kl];omega)]) (by omega)]
  rfl
 |avg h0 v ho=>
  rw[h0];show(bh k l (pn H W C xs) h w o).bind _=_;rw[rI r hk hz hs v ho,aa];have hl:=jG (xs:=xs) (C:=C) (o:=o) v;have hm:=qi r v ho;have hb:=rK hm;show _=some (dA (eV W C xs Z S h w o).sum ((Z*Z:Nat):Int))
  rw[xi (xs:=eV W C xs Z S h w o) (fin:=λy=>(jx k y (i64.wrap (l.size*l.size))).bind λr9=>some r9) hm (by omega) (λi a next hi=>by
   simp only[eL]
   rw[ag,if_pos (by omega),ag,if_pos (by omega),Ky,aA hi,aa,aC hi (by omega)]) (λa next=>by
   simp only[eL]
   rw[ag,if_neg (by omega)]) (by omega)]
  rw[hz,xd (by omega),pO (by omega) (by omega),aa]
 |IC h0 h1 h2 h3 hz=>
  simp only[h0,show((4:Int)==0)=false from rfl,show((4:Int)==1)=false from rfl,show((4:Int)==2)=false from rfl,show((4:Int)==3)=false from rfl,beq_self_eq_true,cond_true,cond_false];refine(congrArg (λo:Option Int=>o.bind _) (m8 (k:=k) r h1 h2 h3)).trans ?_;rw[aa];show(idx xs _).bind _=_;rw[aR,zx r h1 h2 h3]
  rfl
 |flat h0 ho=>
  rw[h0];show(idx xs (o:Int)).bind _=_;rw[aR,aA ho];show _=some (xs.getD o 0);rw[cM ho];rfl
theorem Hh {W C:Nat} {xs:List Int} {Z S h w i j c:Nat} (hi:i<Z) (hj:j<Z) (hc:c<C):(Hf W C xs Z S h w)[i*(Z*C)+(j*C+c)]? =some (atN W C xs (h*S+i) (w*S+j) c):=by
 have hb:j*C+c<Z*C:=by
  have:(j+1)*C<=Z*C:=Kh _ hj;rw[Kp]at this;omega
 unfold Hf;rw[uZ _ (Z*C) Z (λi hi=>dL _ C Z λj hj=>by simp) i (j*C+c) hi hb,uZ _ C Z (λj hj=>by simp) j c hj hc,KB,List.getElem?_range hc];rfl
theorem tE {o Z i j C c:Nat}:((o*Z+i)*Z+j)*C+c=o*(Z*(Z*C))+(i*(Z*C)+(j*C+c)):=by
 simp only[Kp,Nat.mul_assoc,KY]
theorem FE {H W C:Nat} {xs:List Int} (r:gx H W C xs) {ws:List Int} (hi:∀x∈ws,-128<=x/\x<=127) {Z S h w o:Nat} (v:D4 H W Z S h w) (hw:o*(Z*(Z*C))+Z*(Z*C)<=ws.length):
  Hg (Hf W C xs Z S h w) ((ws.take (o*(Z*(Z*C))+Z*(Z*C))).drop (o*(Z*(Z*C))))=
   (List.range Z).foldl (λs i=>(List.range Z).foldl (λs j=>(List.range C).foldl (λs c=>kE s (atN W C xs (h*S+i) (w*S+j) c*ws.getD (((o*Z+i)*Z+j)*C+c) 0)) s) s) 0:=by
 obtain⟨z1,z3,s2,hh,ww⟩:=v;unfold Hg;rw[vc,va];refine fold_congr Z _ λs i hi2=>?_;rw[va];refine fold_congr Z _ λs j hj=>?_;refine fold_congr C _ λs c hc=>?_
 have hb:j*C+c<Z*C:=by
  have:(j+1)*C<=Z*C:=Kh _ hj;rw[Kp]at this;omega
 have hb2:i*(Z*C)+(j*C+c)<Z*(Z*C):=by
  have:(i+1)*(Z*C)<=Z*(Z*C):=Kh _ hi2;rw[Kp]at this;omega
 have a1:=Az r (show h*S+i<H by omega) (show w*S+j<W by omega) hc;have a2:=hi _ (qh (xs:=ws) (i:=o*(Z*(Z*C))+(i*(Z*C)+(j*C+c))) (by omega));rw[KL,Hh hi2 hj hc,Lj,KL,xg hb2,<-KL,tE];unfold rB;rw[F8 (by omega) (by omega),F8 (by omega) (by omega)]
theorem D7 {k:Nat} {H W C:Nat} {xs:List Int} (r:gx H W C xs) {l:al} {Z S h w o:Nat} (hk:512<k) (hwN:l.weights.length<=bJ) (hz:l.size=Z) (hs:l.step=S) (f:Fits H W C xs l Z S h w o):
  nY k (pn H W C xs) l h w o=some (ia W C xs l Z S h w o):=by
 have hM:=aL;have hcu:=r.Hs;have hlen:=r.len;unfold nY ia
 cases f with
 |FD h0 hb h8 hw=>
  rw[h0];simp only[beq_self_eq_true,cond_true]
  rw[dZ,aa,show(pn H W C xs).sh.size=((xs.length:Nat):Int)from by rw[hlen];exact r.size,xd (by omega),xu (by omega),ag,if_pos (by omega),ag,if_pos (by omega),Ky,Ky,
   show(pn H W C xs).data=xs from rfl,BO (by omega) (by simp;omega) (by omega),aa,aR,aA hb,aa,kv,aa,pQ,aa]
  unfold m9
  rw[cM hb]
 |conv h0 hb h8 hw v hi=>
  have hl:=vc W C xs Z S h w;have hvv:=v;obtain⟨z1,z3,s2,hh,ww⟩:=hvv;have:=r.h8;have:=r.w8;have hc8:=r.c8;have hq:Z*(Z*C)<=3*(3*8):=KE v.z3 (KE v.z3 r.c8);rw[h0];show iter _ k _=some (m9 l (Hf W C xs Z S h w) o)
  refine(jF Z (λs i=>(List.range Z).foldl (λs j=>(List.range C).foldl (λs c=>kE s (atN W C xs (h*S+i) (w*S+j) c*l.weights.getD (((o*Z+i)*Z+j)*C+c) 0)) s) s) 0
   (fin:=λy=>(idx l.gI (o:Int)).bind λe14=>(ix k y e14).bind λr15=>(jv k r15 l.mult l.shift l.zero).bind λr16=>some r16) (λi a next hi2=>?_) (λa next=>?_) (by omega)).trans ?_
  ·simp only[iD,hz,hs];rw[ag,if_pos (by omega),aC hi2 (by omega)];refine jF Z (λs j=>(List.range C).foldl (λs c=>kE s (atN W C xs (h*S+i) (w*S+j) c*l.weights.getD (((o*Z+i)*Z+j)*C+c) 0)) s) a (fin:=λy=>next (y,((i+1:Nat):Int))) (λj a2 ot hj=>?_) (λa2 ot=>?_) (by omega)
   ·simp only[iC,hz,hs];rw[ag,if_pos (by omega),aC hj (by omega)];refine jF C (λs c=>kE s (atN W C xs (h*S+i) (w*S+j) c*l.weights.getD (((o*Z+i)*Z+j)*C+c) 0)) a2 (fin:=λy=>ot (y,((j+1:Nat):Int))) (λc a3 next3 hc=>?_) (λa3 next3=>?_) (by omega)
    ·have e1:h*S+i<H:=by omega
     have e2:w*S+j<W:=by omega
     have e:=m7 (k:=k) r hk e1 e2 hc;have o1:o*Z<=7*3:=KE (by omega) z3;have o2:(o*Z+i)*Z<=23*3:=KE (by omega) z3;have o3:((o*Z+i)*Z+j)*C<=71*8:=KE (by omega) hc8
     have hb:j*C+c<Z*C:=by
      have:(j+1)*C<=Z*C:=Kh _ hj;rw[Kp]at this;omega
     have hb2:i*(Z*C)+(j*C+c)<Z*(Z*C):=by
      have:(i+1)*(Z*C)<=Z*(Z*C):=Kh _ hi2;rw[Kp]at this;omega
     have hx:((o*Z+i)*Z+j)*C+c<l.weights.length:=by rw[tE];omega
     have a1:=Az r e1 e2 hc;have a2:=hi _ (qh hx);have a3:=He (A:=128) (B:=128) (x:=atN W C xs (h*S+i) (w*S+j) c) (y:=l.weights.getD (((o*Z+i)*Z+j)*C+c) 0) (by omega) (by omega);unfold pn at e;simp only[iB,hz,hs,pn];refine(D3 (by omega) _ _).trans ?_;rw[xd (a:=h) (by omega),xu (b:=i) (by omega),xd (a:=w) (by omega),xu (b:=j) (by omega),e,aa,xd (a:=o) (by omega),xu (b:=i) (by omega),xd (by omega),xu (b:=j) (by omega),xd (by omega),xu (b:=c) (by omega),aR,aA hx,aa,<-cM hx 0,aH (n:=atN W C xs (h*S+i) (w*S+j) c*l.weights.getD (((o*Z+i)*Z+j)*C+c) 0) (by omega) (by omega),kv,aa,aC hc (by omega)]
    ·simp only[iB,pn];exact Jg (by omega) _ _
   ·simp only[iC,hz];rw[ag,if_neg (by omega)]
  ·simp only[iD,hz];rw[ag,if_neg (by omega)]
  ·rw[aR,aA hb,aa,kv,aa,pQ,aa];unfold m9
   rw[hl,FE r hi v hw,cM hb]
 |max h0 v ho=>
  rw[h0];show(gV k (pn H W C xs) l h w o).bind _=_;rw[xf r hk hz hs v ho,aa];have hl:=jG (xs:=xs) (C:=C) (o:=o) v;obtain⟨x,ys,e⟩:=rL (xs:=xs) (C:=C) (o:=o) v;rw[e]at hl;simp only[Kl]at hl;show _=some (gy (eV W C xs Z S h w o));rw[e,ag,if_pos (by simp only[Kl];omega)];show(some x).bind _=_
  rw[aa,AA (xs:=ys) (x:=x) (fin:=some) (λi a next hi=>by
   simp only[iE];rw[ag,if_pos (by simp only[Kl];omega),ag,if_pos (by simp only[Kl];omega),Ky,List.getElem?_cons_succ,aA hi,aa,aC (show i+1<ys.length+1 by omega) (by omega)]
   have hlt:0<=((i+1:Nat):Int)/\((i+1:Nat):Int)<(((x::ys).length:Nat):Int):=by rw[Kl];omega
   rw[D3 hlt,aa,ag];by_cases c:ys[i]>a
   ·rw[if_pos c,if_pos c]
   ·rw[if_neg c,if_neg c]) (λa next=>by
   simp only[iE]
   rw[ag,if_neg (by simp only[Kl];omega)]) (by omega)]
 |avg h0 v ho=>
  rw[h0];show(gV k (pn H W C xs) l h w o).bind _=_;rw[xf r hk hz hs v ho,aa];have hl:=jG (xs:=xs) (C:=C) (o:=o) v;have hm:=qi r v ho;have hb:=rK hm;show _=some (dA (eV W C xs Z S h w o).sum ((Z*Z:Nat):Int))
  rw[xi (xs:=eV W C xs Z S h w o) (fin:=λy26=>(cond (decide (y26<(0:Int))) (cond (decide ((i64.wrap ((2:Int)*((eV W C xs Z S h w o).length:Int)))=0)) none (some (i64.wrap (0-(i64.wrap ((i64.wrap ((i64.wrap ((-2:Int)*y26))+((eV W C xs Z S h w o).length:Int))).tdiv (i64.wrap ((2:Int)*((eV W C xs Z S h w o).length:Int))))))))) (cond (decide ((i64.wrap ((2:Int)*((eV W C xs Z S h w o).length:Int)))=0)) none (some (i64.wrap ((i64.wrap ((i64.wrap ((2:Int)*y26))+((eV W C xs Z S h w o).length:Int))).tdiv (i64.wrap ((2:Int)*((eV W C xs Z S h w o).length:Int))))))))) hm (by omega) (λi a next hi=>by
   simp only[iF]
   rw[ag,if_pos (by omega),ag,if_pos (by omega),Ky,aA hi,aa,aC hi (by omega)]) (λa next=>by
   simp only[iF]
   rw[ag,if_neg (by omega)]) (by omega)]
  rw[hl.1]at hb⊢;generalize (eV W C xs Z S h w o).sum=y at hb⊢;obtain⟨n,hn⟩:∃n:Nat,n=Z*Z:=⟨_,rfl⟩;rw[<-hn]at hb hl⊢;unfold dA;rw[aH (n:=2*(n:Int)) (by omega) (by omega),ag];by_cases c:y<0
  ·rw[if_pos c,if_pos c,ag,if_neg (by omega),aH (n:=-2*y) (by omega) (by omega),aH (n:=-2*y+(n:Int)) (by omega) (by omega),KS (by omega),show 2*-y+(n:Int)=-2*y+(n:Int)from by omega];have h:=tC (a:=-2*y+(n:Int)) (b:=2*(n:Int)) (by omega) (by omega);generalize (-2*y+(n:Int))/(2*(n:Int))=q at h;rw[aH (n:=q) (by omega) (by omega),aH (by omega) (by omega)]
   congr 1;omega
  ·rw[if_neg c,if_neg c,ag,if_neg (by omega),aH (n:=2*y) (by omega) (by omega),aH (n:=2*y+(n:Int)) (by omega) (by omega),KS (by omega)];have h:=tC (a:=2*y+(n:Int)) (b:=2*(n:Int)) (by omega) (by omega)
   rw[aH (by omega) (by omega)]
 |IC h0 h1 h2 h3 hz=>
  rw[h0];show(kg k (pn H W C xs) h w o).bind _=_;rw[m7 r hk h1 h2 h3,aa];show cond (decide (atN W C xs h w o<l.zero)) _ _=some (if atN W C xs h w o<l.zero then l.zero else atN W C xs h w o);rw[ag];by_cases c:atN W C xs h w o<l.zero
  ·rw[if_pos c,if_pos c]
  ·rw[if_neg c,if_neg c]
 |flat h0 ho=>
  rw[h0];show(idx xs (o:Int)).bind _=_;rw[aR,aA ho];show _=some (xs.getD o 0);rw[cM ho];rfl
end
section
theorem pq {a b:Int} {x:Int} (h:a<=x/\x<=b) (h0:0<=a):∃n:Nat,x=n:=⟨x.toNat,by omega⟩
theorem pR {H W C Z S:Nat} {l:al} {c:Int} (hz:l.size=Z) (hs:l.step=S) (s1:1<=S) (h8:H<=8) (w8:W<=8) (hzH:Z<=H) (hzW:Z<=W):
  l6 ⟨H,W,C⟩ l c=⟨((H-Z)/S+1:Nat),((W-Z)/S+1:Nat),c⟩:=by
 have key:∀n:Nat,n<=8->Z<=n->i64.wrap ((i64.wrap ((i64.wrap ((n:Int)-(Z:Int))).tdiv (S:Int)))+1)=(((n-Z)/S+1:Nat):Int):=λn h1 h2=>by
  have e1:((n:Int)-(Z:Int))=((n-Z:Nat):Int):=by omega
  have e2:(((n-Z:Nat):Int)).tdiv (S:Int)=(((n-Z)/S:Nat):Int):=rfl;have e3:(n-Z)/S<=n-Z:=Nat.div_le_self _ _;rw[e1,aH (n:=((n-Z:Nat):Int)) (by omega) (by omega),e2];generalize (n-Z)/S=q at e3;rw[aH (n:=((q:Nat):Int)) (by omega) (by omega),aH (by omega) (by omega)];omega
 unfold l6;rw[hz,hs];simp only[key H h8 hzH,key W w8 hzW]
theorem vd {n Z S:Nat} (h:n<=8) (h1:1<=Z) (h2:Z<=n):1<=(n-Z)/S+1/\(n-Z)/S+1<=8:=by
 have e3:(n-Z)/S<=n-Z:=Nat.div_le_self _ _;generalize (n-Z)/S=q at e3;omega
theorem D8 {H W Z S h w:Nat} (z1:1<=Z) (z3:Z<=3) (s1:1<=S) (s2:S<=2) (hzH:Z<=H) (hzW:Z<=W) (hh:h<(H-Z)/S+1) (hw:w<(W-Z)/S+1):D4 H W Z S h w:=by
 have a1:h*S<=H-Z:=(Nat.le_div_iff_mul_le (by omega)).1 (by omega);have a2:w*S<=W-Z:=(Nat.le_div_iff_mul_le (by omega)).1 (by omega);exact⟨z1,z3,s2,by omega,by omega⟩
theorem xj {l:al} (h:Ax l=true):(1<=l.out/\l.out<=8)/\(l.gI.length:Int)=l.out/\∀x∈l.weights,-128<=x/\x<=127:=by
 simp only[Ax,J8,bC,decide_eq_true_eq]at h;obtain⟨h1,h2,h3,h4,h5,h6,h7⟩:=h;unfold kD at h7;rw[KP]at h7;exact⟨h1,h5,λx hx=>bC.1 (h7 x hx)⟩
theorem pt {H W C:Nat} {xs:List Int} (r:gx H W C xs) {l:al} (hl:cf ⟨H,W,C⟩ l=true):
  ∃Z S H' W' C':Nat,l.size=Z/\l.step=S/\shapeOf ⟨H,W,C⟩ l=⟨H',W',C'⟩/\(1<=H'/\H'<=8)/\(1<=W'/\W'<=8)/\(1<=C'/\C'<=8)/\
   ∀h w o,h<H'->w<W'->o<C'->Fits H W C xs l Z S h w o:=by
 have hr:=r;obtain⟨h1,h8,w1,w8,c1,c8,hlen,Jt⟩:=hr;have hsz:=r.size;unfold cf at hl;rw[J8]at hl;obtain⟨-,hl⟩:=hl;unfold shapeOf;by_cases k0:l.kind=0
 ·rw[decide_eq_true k0]at hl⊢;simp only[cond_true,J8,decide_eq_true_eq,kJ]at hl;obtain⟨⟨z0,s0⟩,hn,hs,hw⟩:=hl;obtain⟨ho,hb,hi⟩:=xj hn;obtain⟨O,hO⟩:=pq ho (by omega);rw[hO]at ho hb;refine⟨0,0,1,1,O,by omega,by omega,by rw[cond_true,hO];rfl,by omega,by omega,by omega,λh w o _ _ hlt=>.FD k0 (by omega) (by omega) ?_⟩;rw[hO,hsz]at hw;have:((O:Int)*((H*W*C:Nat):Int))=((O*(H*W*C):Nat):Int):=(KW _ _).symm;rw[this]at hw;have:(o+1)*(H*W*C)<=O*(H*W*C):=Kh _ hlt;rw[Kp,Nat.one_mul]at this;rw[hlen];omega
 rw[decide_eq_false k0]at hl⊢;simp only[cond_false]at hl⊢;by_cases k1:l.kind=1
 ·rw[decide_eq_true k1]at hl⊢;simp only[cond_true,J8,decide_eq_true_eq]at hl⊢;obtain⟨Jh,hn,hw,hw6⟩:=hl;obtain⟨z1,z3,s1,s2,zh,zw⟩:=jC Jh;obtain⟨ho,hb,hi⟩:=xj hn;obtain⟨O,hO⟩:=pq ho (by omega);obtain⟨Z,hZ⟩:=pq ⟨z1,z3⟩ (by omega);obtain⟨S,hS⟩:=pq ⟨s1,s2⟩ (by omega);rw[hO]at ho hb;rw[hZ]at z1 z3 zh zw;rw[hS]at s1 s2
  have zh:Z<=H:=by have:((Z:Nat):Int)<=(H:Int):=zh;omega
  have zw:Z<=W:=by have:((Z:Nat):Int)<=(W:Int):=zw;omega
  have d1:=vd (S:=S) h8 (show 1<=Z by omega) zh;have d2:=vd (S:=S) w8 (show 1<=Z by omega) zw;refine⟨Z,S,(H-Z)/S+1,(W-Z)/S+1,O,hZ,hS,by rw[pR hZ hS (by omega) h8 w8 zh zw,hO],d1,d2,by omega,λh w o hh hw2 hlt=>.conv k1 (by omega) (by omega) ?_ (D8 (by omega) (by omega) (by omega) (by omega) zh zw hh hw2) hi⟩;rw[hO,hZ]at hw
  have:((O:Int)*(Z:Int)*(Z:Int)*(C:Int))=((O*(Z*(Z*C)):Nat):Int):=by
   rw[KW,KW,KW,LW,LW]
  have hw:(l.weights.length:Int)=(O:Int)*(Z:Int)*(Z:Int)*(C:Int):=hw;rw[this]at hw;have:(o+1)*(Z*(Z*C))<=O*(Z*(Z*C)):=Kh _ hlt;rw[Kp,Nat.one_mul]at this;omega
 rw[decide_eq_false k1]at hl⊢;simp only[cond_false]at hl⊢;by_cases k2:l.kind=2\/l.kind=3
 ·have hk:(decide (l.kind=2)||decide (l.kind=3))=true:=by simpa using k2
  rw[hk]at hl;simp only[cond_true,J8,decide_eq_true_eq]at hl;obtain⟨Jh,hn,hw⟩:=hl;obtain⟨z1,z3,s1,s2,zh,zw⟩:=jC Jh;obtain⟨Z,hZ⟩:=pq ⟨z1,z3⟩ (by omega);obtain⟨S,hS⟩:=pq ⟨s1,s2⟩ (by omega);rw[hZ]at z1 z3 zh zw;rw[hS]at s1 s2
  have zh:Z<=H:=by have:((Z:Nat):Int)<=(H:Int):=zh;omega
  have zw:Z<=W:=by have:((Z:Nat):Int)<=(W:Int):=zw;omega
  have d1:=vd (S:=S) h8 (show 1<=Z by omega) zh;have d2:=vd (S:=S) w8 (show 1<=Z by omega) zw;rw[decide_eq_false (show¬l.kind=4 by omega),decide_eq_false (show¬l.kind=5 by omega)];simp only[cond_false];refine⟨Z,S,(H-Z)/S+1,(W-Z)/S+1,C,hZ,hS,pR hZ hS (by omega) h8 w8 zh zw,d1,d2,by omega,λh w o hh hw2 hlt=>?_⟩;have v:=D8 (by omega) (by omega) (by omega) (by omega) zh zw hh hw2
  rcases k2 with k2|k2
  ·exact .max k2 v hlt
  ·exact .avg k2 v hlt
 have hk:(decide (l.kind=2)||decide (l.kind=3))=false:=by simpa using k2
 rw[hk]at hl;simp only[cond_false]at hl;by_cases k4:l.kind=4
 ·rw[decide_eq_true k4]at hl⊢;simp only[cond_true,J8,decide_eq_true_eq,kJ,bC]at hl⊢;obtain⟨⟨z0,s0⟩,hn,hz⟩:=hl;exact⟨0,0,H,W,C,by omega,by omega,rfl,by omega,by omega,by omega,λh w o a b c=>.IC k4 a b c hz⟩
 rw[decide_eq_false k4]at hl⊢;simp only[cond_false]at hl⊢;by_cases k5:l.kind=5
 ·rw[decide_eq_true k5]at hl⊢;simp only[cond_true,J8,decide_eq_true_eq,kJ]at hl⊢;obtain⟨⟨z0,s0⟩,hn,hz,hs⟩:=hl;have p1:1<=H*W:=KE h1 w1;have p2:1<=H*W*C:=KE p1 c1;rw[hsz]at hs⊢;exact⟨0,0,1,1,H*W*C,by omega,by omega,rfl,by omega,by omega,by omega,λh w o a b c=>.flat k5 (by rw[hlen];exact c)⟩
 rw[decide_eq_false k5]at hl;exact nomatch hl
theorem BQ {x d:Int} (hd:1<=d) (h1:-128*d<=x) (h2:x<=127*d):-128<=dA x d/\dA x d<=127:=by
 unfold dA;by_cases c:x<0
 ·rw[if_pos c];have a1:0<=(2*-x+d)/(2*d):=Int.ediv_nonneg (by omega) (by omega);have a2:(2*-x+d)/(2*d)<129:=Int.ediv_lt_of_lt_mul (by omega) (by omega);omega
 ·rw[if_neg c];have a1:0<=(2*x+d)/(2*d):=Int.ediv_nonneg (by omega) (by omega);have a2:(2*x+d)/(2*d)<128:=Int.ediv_lt_of_lt_mul (by omega) (by omega);omega
theorem FF {H W C:Nat} {xs:List Int} (r:gx H W C xs) {l:al} {Z S h w o:Nat} (f:Fits H W C xs l Z S h w o):-128<=ia W C xs l Z S h w o/\ia W C xs l Z S h w o<=127:=by
 unfold ia
 cases f with
 |FD h0 hb h8 hw=>rw[h0];exact rC _
 |conv h0 hb h8 hw v hi=>rw[h0];exact rC _
 |max h0 v ho=>
  rw[h0];obtain⟨x,ys,e⟩:=rL (xs:=xs) (C:=C) (o:=o) v;show -128<=gy (eV W C xs Z S h w o)/\gy (eV W C xs Z S h w o)<=127;have:=qi r v ho;rw[e]at this⊢
  exact this _ (lC ys x)
 |avg h0 v ho=>
  rw[h0];have hl:=jG (xs:=xs) (C:=C) (o:=o) v;have hb:=rK (qi r v ho);rw[hl.1]at hb;show -128<=dA (eV W C xs Z S h w o).sum ((Z*Z:Nat):Int)/\dA (eV W C xs Z S h w o).sum ((Z*Z:Nat):Int)<=127
  exact BQ (by omega) hb.1 hb.2
 |IC h0 h1 h2 h3 hz=>
  rw[h0];have:=Az r h1 h2 h3;show -128<=(if atN W C xs h w o<l.zero then l.zero else atN W C xs h w o)/\(if atN W C xs h w o<l.zero then l.zero else atN W C xs h w o)<=127;by_cases c:atN W C xs h w o<l.zero
  ·rw[if_pos c];exact hz
  ·rw[if_neg c];exact this
 |flat h0 ho=>rw[h0];exact r.mem _ (qh ho)
def runN (W C:Nat) (xs:List Int) (l:al) (Z S H' W' C':Nat):List Int:=
 (List.range H').flatMap λh=>(List.range W').flatMap λw=>(List.range C').flatMap λo=>[ia W C xs l Z S h w o]
def qj (t:ab) (l:al):ab× Bool:=
 cond (t.okB&&cf t.sh l) (⟨shapeOf t.sh l,runN t.sh.w.toNat t.sh.c.toNat t.data l l.size.toNat l.step.toNat (shapeOf t.sh l).h.toNat (shapeOf t.sh l).w.toNat (shapeOf t.sh l).c.toNat⟩,true) (⟨eR,[]⟩,false)
theorem FG (W C:Nat) (xs:List Int) (l:al) (Z S H' W' C':Nat):(runN W C xs l Z S H' W' C').length=H'*(W'*(C'*1)):=
 dL _ _ _ λi hi=>dL _ _ _ λj hj=>dL _ _ _ λo ho=>rfl
theorem l9 {t:ab} {l:al} (h1:t.okB=true) (h2:cf t.sh l=true):(qj t l).1.okB=true/\(qj t l).1.sh=shapeOf t.sh l/\(qj t l).2=true:=by
 obtain⟨H,W,C,r,e⟩:=vb h1
 have e2:t.sh=⟨H,W,C⟩:=by rw[e];rfl
 have h2':=h2;rw[e2]at h2';obtain⟨Z,S,H',W',C',hz,hs,hsh,a1,a2,a3,hf⟩:=pt r h2';unfold qj;rw[h1,h2];simp only[LY,cond_true];refine And.intro ?_ (by simp);rw[e2,hsh,show l.size.toNat=Z from by omega,show l.step.toNat=S from by omega];simp only[Ky];refine gx.ok (H:=H') (W:=W') (C:=C') ⟨a1.1,a1.2,a2.1,a2.2,a3.1,a3.2,by rw[FG,Nat.mul_one,Nat.mul_assoc],λx hx=>?_⟩;unfold runN at hx;rw[Lw]at hx;obtain⟨i,hi,hx⟩:=hx;rw[Lw]at hx;obtain⟨j,hj,hx⟩:=hx;rw[Lw]at hx;obtain⟨o,ho,hx⟩:=hx;rw[List.mem_range]at hi hj ho;rw[List.mem_singleton]at hx;rw[hx];exact FF r (hf i j o hi hj ho)
theorem ve {k:Nat} {t:ab} {l:al} (hk:512<k) (hd:t.data.length<k) (hdN:t.data.length<=bJ) (hl:l.tot<k) (hlN:l.tot<=bJ):lY k t l=some (qj t l):=by
 have hM:=aL;unfold lY qj;rw[gq hd (by unfold oA;omega),aa];cases h1:t.okB
 ·rfl
 simp only[KJ,cond_false,Km];rw[gu hl hlN,aa];unfold dP;cases h2:cf t.sh l
 ·rfl
 obtain⟨H,W,C,r,e⟩:=vb h1;obtain⟨sh,xs⟩:=t;have e2:sh=⟨H,W,C⟩:=congrArg ab.sh e;subst e2;obtain⟨Z,S,H',W',C',hz,hs,hsh,a1,a2,a3,hf⟩:=pt r h2
 have hwN:l.weights.length<=bJ:=by unfold al.tot at hlN;omega
 simp only[cond_true,KJ,cond_false];rw[hsh,show l.size.toNat=Z from by omega,show l.step.toNat=S from by omega];simp only[Ky]
 have m1:∀w:Nat,∀h:Nat,((List.range C').flatMap λo=>[ia W C xs l Z S h w o]).length<=8:=λw h=>by
  have:=gw (λo=>[ia W C xs l Z S h w o]) 1 C' (λ_ _=>Kr _);omega
 have m2:∀h:Nat,((List.range W').flatMap λw=>(List.range C').flatMap λo=>[ia W C xs l Z S h w o]).length<=64:=λh=>by
  have:=gw (λw=>(List.range C').flatMap λo=>[ia W C xs l Z S h w o]) 8 W' (λw _=>m1 w h);omega
 refine(cJ H' 64 (λh=>(List.range W').flatMap λw=>(List.range C').flatMap λo=>[ia W C xs l Z S h w o]) [] (fin:=λy=>some ((⟨⟨H',W',C'⟩,y⟩:ab),true)) (λh _=>m2 h) (λh ys next hi hy=>?_) (λys next=>?_) (by omega)).trans (by rw[Lf];rfl)
 ·simp only[gl];rw[ag,if_pos (by omega),aC hi (by omega)];refine cJ W' 8 (λw=>(List.range C').flatMap λo=>[ia W C xs l Z S h w o]) ys (fin:=λy=>next (((h+1:Nat):Int),y)) (λw _=>m1 w h) (λw zs ot hj hz2=>?_) (λzs ot=>?_) (by omega)
  ·simp only[gj];rw[ag,if_pos (by omega),aC hj (by omega)];refine cJ C' 1 (λo=>[ia W C xs l Z S h w o]) zs (fin:=λy=>ot (((w+1:Nat):Int),y)) (λ_ _=>Kr _) (λo us next3 ho hz3=>?_) (λus next3=>?_) (by omega)
   ·simp only[gi];simp only[KF]at hy;have eq:=D7 (k:=k) r (l:=l) hk hwN hz hs (hf h w o hi hj ho);rw[ag,if_pos (by omega)];refine(congrArg (λo:Option Int=>o.bind _) eq).trans ?_;rw[aa,gY (by simp;omega),aC ho (by omega)]
   ·simp only[gi];rw[ag,if_neg (by omega)]
  ·simp only[gj];rw[ag,if_neg (by omega)]
 ·simp only[gl];rw[ag,if_neg (by omega)]
theorem ou {k:Nat} {t:ab} {l:al} (hk:512<k) (hd:t.data.length<k) (hdN:t.data.length<=bJ) (hl:l.tot<k) (hlN:l.tot<=bJ):jy k t l=some (qj t l):=by
 have hM:=aL;unfold jy qj;rw[kq hl hlN,aa,eQ hd (by unfold oA;omega)];unfold dP;cases h2:cf t.sh l
 ·cases t.okB<;>rfl
 simp only[cond_true,KJ,cond_false,aa];cases h1:t.okB
 ·rfl
 simp only[KJ,cond_false,LY,cond_true];obtain⟨H,W,C,r,e⟩:=vb h1;obtain⟨sh,xs⟩:=t;have e2:sh=⟨H,W,C⟩:=congrArg ab.sh e;subst e2;obtain⟨Z,S,H',W',C',hz,hs,hsh,a1,a2,a3,hf⟩:=pt r h2
 have hwN:l.weights.length<=bJ:=by unfold al.tot at hlN;omega
 rw[hsh,show l.size.toNat=Z from by omega,show l.step.toNat=S from by omega];simp only[Ky]
 have m1:∀w:Nat,∀h:Nat,((List.range C').flatMap λo=>[ia W C xs l Z S h w o]).length<=8:=λw h=>by
  have:=gw (λo=>[ia W C xs l Z S h w o]) 1 C' (λ_ _=>Kr _);omega
 have m2:∀h:Nat,((List.range W').flatMap λw=>(List.range C').flatMap λo=>[ia W C xs l Z S h w o]).length<=64:=λh=>by
  have:=gw (λw=>(List.range C').flatMap λo=>[ia W C xs l Z S h w o]) 8 W' (λw _=>m1 w h);omega
 refine(cJ H' 64 (λh=>(List.range W').flatMap λw=>(List.range C').flatMap λo=>[ia W C xs l Z S h w o]) [] (fin:=λy=>some ((⟨⟨H',W',C'⟩,y⟩:ab),true)) (λh _=>m2 h) (λh ys next hi hy=>?_) (λys next=>?_) (by omega)).trans (by rw[Lf];rfl)
 ·simp only[gp];rw[ag,if_pos (by omega),aC hi (by omega)];refine cJ W' 8 (λw=>(List.range C').flatMap λo=>[ia W C xs l Z S h w o]) ys (fin:=λy=>next (((h+1:Nat):Int),y)) (λw _=>m1 w h) (λw zs ot hj hz2=>?_) (λzs ot=>?_) (by omega)
  ·simp only[gn];rw[ag,if_pos (by omega),aC hj (by omega)];refine cJ C' 1 (λo=>[ia W C xs l Z S h w o]) zs (fin:=λy=>ot (((w+1:Nat):Int),y)) (λ_ _=>Kr _) (λo us next3 ho hz3=>?_) (λus next3=>?_) (by omega)
   ·simp only[gm];simp only[KF]at hy;have eq:=D6 (k:=k) r (l:=l) hk hwN hz hs (hf h w o hi hj ho);rw[ag,if_pos (by omega)];refine(congrArg (λo:Option Int=>o.bind _) eq).trans ?_;rw[aa,gY (by simp;omega),aC ho (by omega)]
   ·simp only[gm];rw[ag,if_neg (by omega)]
  ·simp only[gn];rw[ag,if_neg (by omega)]
 ·simp only[gp];rw[ag,if_neg (by omega)]
end
section
end
section
def rM:al:=⟨0,0,0,0,0,0,0,[],[]⟩
theorem tF:∀(ls:List al) (s:Shape) (t:List Shape),aV s ls=some t->∀i,i<ls.length->cf ((s::t).getD i eR) (ls.getD i rM)=true/\(s::t).getD (i+1) eR=shapeOf ((s::t).getD i eR) (ls.getD i rM)
 |[],s,t,h,i,hi=>by simp at hi
 |l::ls,s,t,h,i,hi=>by
  simp only[aV]at h;cases hb:cf s l<;>simp only[hb,cond_true,cond_false]at h
  ·exact nomatch h
  ·obtain⟨t',h1,rfl⟩:=J9.1 h
   cases i with
   |zero=>exact⟨hb,rfl⟩
   |succ i=>exact tF ls (shapeOf s l) t' h1 i (by simpa using hi)
theorem pw {m:Model} (h:cI m=true):(1<=m.ai.length/\m.ai.length<=6)/\∀i,i<m.ai.length->cf ((bD m).getD i eR) (m.ai.getD i rM)=true/\(bD m).getD (i+1) eR=shapeOf ((bD m).getD i eR) (m.ai.getD i rM):=by
 unfold bD;rw[h,cond_true];unfold cI at h;unfold bV at h⊢;cases h1:(m.inp.okB&&inB (m.ai.length:Int) 1 6)<;>rw[h1]at h
 ·exact nomatch h
 ·simp only[cond_true]at h⊢;rw[J8,bC]at h1
  cases h2:aV m.inp m.ai with
  |none=>rw[h2]at h;exact nomatch h
  |some t=>exact⟨by omega,tF m.ai m.inp t h2⟩
theorem rN {j:Job} (h:FC j=true):cI j.model=true/\(0<=j.at_/\j.at_<=j.model.ai.length)/\j.act.okB=true/\j.act.sh=(bD j.model).getD j.at_.toNat eR/\j.AL=Jf ((cL j.model).take j.at_.toNat):=by
 unfold FC at h;simp only[J8,bC,decide_eq_true_eq]at h;exact h
def D9 (j:Job):al:=j.model.ai.getD j.at_.toNat rM
def Ie (j:Job):Int:=(cL j.model).getD j.at_.toNat 0
def Ea (j:Job):Job:=⟨j.model,j.at_+1,(qj j.act (D9 j)).1,i64.wrap (j.AL+Ie j)⟩
theorem Eb {j:Job} (h:FC j=true) (hd:j.at_≠(j.model.ai.length:Int)):FC (Ea j)=true:=by
 obtain⟨hm,hat,hok,hsh,hsp⟩:=rN h;obtain⟨hlen,hg⟩:=pw hm;obtain⟨hl,hs⟩:=hg j.at_.toNat (by omega);rw[<-hsh]at hl hs;obtain⟨r1,r2,r3⟩:=l9 hok hl;have hcl:=wZ hm
 have hi:j.at_.toNat<(cL j.model).length:=by omega
 have e:(j.at_+1).toNat=j.at_.toNat+1:=by omega
 unfold FC Ea;simp only[J8,bC,decide_eq_true_eq,hm,true_and,e];refine⟨by omega,r1,?_,?_⟩
 ·show(qj j.act (D9 j)).1.sh=_;rw[hs];exact r2
 ·unfold Jf Ie;rw[dC hi,K6,cM hi,hsp];rfl
end
section
theorem AB (t:ab) (l:al):(qj t l).1.data.length<=512:=by
 cases h1:t.okB
 ·unfold qj;rw[h1];exact Kw _
 cases h2:cf t.sh l
 ·unfold qj;rw[h1,h2];exact Kw _
 obtain⟨h3,_,_⟩:=l9 h1 h2;unfold ab.okB at h3;simp only[J8,decide_eq_true_eq]at h3;have:=Shape.zp (qj t l).1.sh;omega
def dj (t:ab) (ls:List al):ab:=ls.foldl (λt l=>(qj t l).1) t
theorem tG:∀(ls:List al) (t:ab),(dj t ls).data.length<=t.data.length+512
 |[],t=>Nat.le_add_right _ _
 |l::ls,t=>by
  have:∀(ls:List al) (t:ab),t.data.length<=512->(dj t ls).data.length<=512:=λls=>by
   induction ls with
   |nil=>exactλt h=>h
   |cons l ls ih=>exactλt _=>ih _ (AB t l)
  have:=this ls (qj t l).1 (AB t l);show(dj (qj t l).1 ls).data.length<=_;omega
theorem na {t:ab} {ls:List al} {i:Nat} (h:i<ls.length):dj t (ls.take (i+1))=(qj (dj t (ls.take i)) ls[i]).1:=by
 unfold dj;rw[dC h,K6];rfl
def lD (m:Model) (t:ab):ab× Bool:=cond (cI m&&(t.okB&&decide (t.sh=m.inp))) (dj t m.ai,true) (⟨eR,[]⟩,false)
def stE (i:Nat) (t:ab):Int× Int× Int× Int× List Int:=((i:Int),t.sh.h,t.sh.w,t.sh.c,t.data)
theorem sq {k:Nat} {m:Model} {t:ab} (hk:m.tot+t.data.length+520<k) (hN:m.tot+t.data.length+520<=bJ):ki k m t=some (lD m t):=by
  have hM:=aL;unfold ki lD;rw[pM (by omega) (by omega),aa];cases hm:cI m
  · rfl
  simp only[KJ,cond_false,Km];rw[gq (by omega) (by unfold oA;omega),aa,D1];cases t.okB
  · rfl
  simp only[KJ,cond_false,Km];cases decide (t.sh=m.inp)
  · rfl
  simp only[KJ,cond_false,cond_true];rw[wQ (by omega) (by omega),aa];obtain⟨hl,_⟩:=pw hm
  exact eJ (g:=λu7 n7=>dJ k (m.inp.h,m.inp.w,m.inp.c,m.ai,(0:Int),(0:Int),(0:Int)) u7 n7 (λy6=>some ((⟨(⟨y6.1,y6.2.1,y6.2.2.1⟩:Shape),y6.2.2.2⟩:ab),true)))
    (st:=λi=>stE i (dj t (m.ai.take i))) (n:=m.ai.length) (r:=some (dj t m.ai,true)) (λi hi next=>by
      have hlen:=tG (m.ai.take i) t;have hlt:=kr (k:=k) (m:=m) (by omega) (by omega) (KI hi);unfold stE;simp only[dJ]
      rw[ag,if_pos (by omega),aR,aA hi,aa,show(⟨⟨(dj t (m.ai.take i)).sh.h,(dj t (m.ai.take i)).sh.w,(dj t (m.ai.take i)).sh.c⟩,(dj t (m.ai.take i)).data⟩:ab)=dj t (m.ai.take i)from rfl,
        ve (by omega) (by omega) (by omega) hlt.1 hlt.2,aa,aC hi (by omega),na hi]) (λnext=>by
      rw[KZ];unfold stE;simp only[dJ]
      rw[ag,if_neg (by omega)]) (k:=k) (by omega)
theorem sr {k:Nat} {m:Model} {t:ab} (hk:m.tot+t.data.length+520<k) (hN:m.tot+t.data.length+520<=bJ):kj k m t=some (lD m t):=by
  have hM:=aL;unfold kj lD;rw[lA (by omega) (by omega),aa];cases hm:cI m
  · rfl
  simp only[KJ,cond_false,Km];rw[eQ (by omega) (by unfold oA;omega),aa,D1];cases t.okB
  · rfl
  simp only[KJ,cond_false,Km];cases decide (t.sh=m.inp)
  · rfl
  simp only[KJ,cond_false,cond_true];obtain⟨hl,_⟩:=pw hm
  have h0:0<m.ai.length:=by omega
  have hlt0:=kr (k:=k) (m:=m) (by omega) (by omega) (KI h0);rw[ag,if_pos (by omega),nQ,aA h0,aa,ou (by omega) (by omega) (by omega) hlt0.1 hlt0.2,aa]
  have e0:((1:Int),(qj t m.ai[0]).1.sh.h,(qj t m.ai[0]).1.sh.w,(qj t m.ai[0]).1.sh.c,(qj t m.ai[0]).1.data)=stE (0+1) (dj t (m.ai.take (0+1))):=by
    rw[na h0];rfl
  rw[e0]
  exact eJ (g:=λu8 n8=>dK k (m.ai,(m.ai.length:Int),(0:Int),(0:Int),(0:Int)) u8 n8 (λy7=>some ((⟨(⟨y7.1,y7.2.1,y7.2.2.1⟩:Shape),y7.2.2.2⟩:ab),true)))
    (st:=λi=>stE (i+1) (dj t (m.ai.take (i+1)))) (n:=m.ai.length-1) (r:=some (dj t m.ai,true)) (λi hi next=>by
      have hi:i+1<m.ai.length:=by omega
      have hlen:=tG (m.ai.take (i+1)) t;have hlt:=kr (k:=k) (m:=m) (by omega) (by omega) (KI hi);unfold stE;simp only[dK]
      rw[ag,if_pos (by omega),aR,aA hi,aa,show(⟨⟨(dj t (m.ai.take (i+1))).sh.h,(dj t (m.ai.take (i+1))).sh.w,(dj t (m.ai.take (i+1))).sh.c⟩,(dj t (m.ai.take (i+1))).data⟩:ab)=dj t (m.ai.take (i+1))from rfl,
        ou (by omega) (by omega) (by omega) hlt.1 hlt.2,aa,aC hi (by omega),na hi]) (λnext=>by
      rw[show m.ai.length-1+1=m.ai.length from by omega,KZ];unfold stE;simp only[dK]
      rw[ag,if_neg (by omega)]) (k:=k) (by omega)
theorem AD {α β R:Type} (xs:List α) (ok:α->Bool) (f:α->β) {g:Int× List β->(Int× List β->Option R)->Option R} {fin:List β->Option R} {bad:Option R} {k:Nat}
  (h:∀(i:Nat) ys next (hi:i<xs.length),ys.length=i->g ((i:Int),ys) next=cond (ok xs[i]) (next (((i+1:Nat):Int),ys++[f xs[i]])) bad)
  (hn:∀ys next,g ((xs.length:Int),ys) next=fin ys) (hk:xs.length<k):iter g k ((0:Int),[])=cond (xs.all ok) (fin (xs.map f)) bad:=by
 have:=kb (g:=g) (st:=λi=>((i:Int),(xs.take i).map f)) (n:=xs.length) (P:=λi=>cond ((xs.drop i).all ok) (fin (xs.map f)) bad) (λi hi next e=>by
  rw[h i _ next hi (by simp;omega),fJ hi,List.all_cons];cases ho:ok xs[i]
  ·rfl
  ·simp only[cond_true,Km]
   rw[<-e,dC hi,LB];rfl) (λnext=>by
  rw[hn,KZ,Lr];rfl) k 0 (Kw _) (by omega)
 exact this
def jH (m:Model) (ts:List ab):List ab× Bool:=cond (inB (ts.length:Int) 1 8&&ts.all λt=>(lD m t).2) (ts.map λt=>(lD m t).1,true) ([],false)
theorem su {k:Nat} {m:Model} {ts:List ab} (hk:m.tot+jo ab.tot ts+520<k) (hN:m.tot+jo ab.tot ts+520<=bJ):dV k m ts=some (jH m ts):=by
 have hM:=aL;have hlen:=lU ab.tot ts;unfold dV jH;rw[bY,aa];cases inB (ts.length:Int) 1 8
 ·rfl
 simp only[KJ,cond_false,Km]
 rw[AD ts (λt=>(lD m t).2) (λt=>(lD m t).1) (fin:=λy4=>some (y4,true)) (bad:=some (([]:List ab),false)) (λi ys next hi hl=>by
  have ht:=qd ab.tot (KI hi);have htt:ts[i].tot=ts[i].data.length+0:=rfl;simp only[fw]
  rw[ag,if_pos (by omega),aR,aA hi,aa,show(⟨⟨m.inp.h,m.inp.w,m.inp.c⟩,m.ai⟩:Model)=m from rfl,sq (by omega) (by omega),aa,cond_not,gY (by omega),aC hi (by omega)]) (λys next=>by
  simp only[fw];rw[ag,if_neg (by omega)]) (by omega)]
 cases ts.all λt=>(lD m t).2<;>rfl
theorem sw {k:Nat} {m:Model} {ts:List ab} (hk:m.tot+jo ab.tot ts+520<k) (hN:m.tot+jo ab.tot ts+520<=bJ):dW k m ts=some (jH m ts):=by
 have hM:=aL;have hlen:=lU ab.tot ts;unfold dW jH;rw[iV,aa];cases inB (ts.length:Int) 1 8
 ·rfl
 simp only[KJ,cond_false,Km]
 rw[AD ts (λt=>(lD m t).2) (λt=>(lD m t).1) (fin:=λy4=>some (y4,true)) (bad:=some (([]:List ab),false)) (λi ys next hi hl=>by
  have ht:=qd ab.tot (KI hi);have htt:ts[i].tot=ts[i].data.length+0:=rfl;simp only[fx]
  rw[ag,if_pos (by omega),aR,aA hi,aa,show(⟨⟨m.inp.h,m.inp.w,m.inp.c⟩,m.ai⟩:Model)=m from rfl,sr (by omega) (by omega),aa,cond_not,gY (by omega),aC hi (by omega)]) (λys next=>by
  simp only[fx];rw[ag,if_neg (by omega)]) (by omega)]
 cases ts.all λt=>(lD m t).2<;>rfl
end
section
end
end Go.Proofs.Ev
