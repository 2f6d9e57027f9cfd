/- Typed functions and what holds of them: part 3. -/
import Derived.Test.YtpiopmjbcadfbaaGreatEvL2
import Derived.Test.YtpiopmjbcadfbaaGreatEvK8
import Derived.KernelRfl
set_option linter.unusedVariables false
set_option linter.unusedSimpArgs false
set_option linter.unusedSectionVars false
namespace Go.Proofs.Ev
open IntKind(i64 u8 u64)
section
def marked (m:Int) (n:Nat):List Int:=(List.range n).map λ(i:Nat)=>m+(i:Int)
@[simp] theorem Qm (m:Int) (n:Nat):(marked m n).length=n:=by simp[marked]
def inB (x a b:Int):Bool:=decide (a<=x/\x<=b)
theorem cp (k:Nat) (x a b:Int):bA k x a b=some (inB x a b):=by
 unfold bA inB;rw[ab];by_cases h:a<=x<;>simp[h]
theorem fV (k:Nat) (x a b:Int):sJ k x a b=some (inB x a b):=by
 unfold sJ inB;rw[ab];by_cases h:a<=x<;>simp[h]
def Shape.okB (s:Shape):Bool:=inB s.h 1 8&&(inB s.w 1 8&&inB s.c 1 8)
theorem lG (k:Nat) (s:Shape):lj k s=some s.okB:=by
 unfold lj Shape.okB;simp only[cp,aa];cases inB s.h 1 8<;>cases inB s.w 1 8<;>rfl
theorem rQ (k:Nat) (s:Shape):pf k s=some s.okB:=by
 unfold pf Shape.okB;simp only[fV,aa];cases inB s.h 1 8<;>cases inB s.w 1 8<;>rfl
theorem Shape.ta {s:Shape} (h:s.okB=true):1<=s.h/\s.h<=8/\1<=s.w/\s.w<=8/\1<=s.c/\s.c<=8:=by
 simp only[Shape.okB,inB,VP,decide_eq_true_eq]at h;omega
def Shape.size (s:Shape):Int:=cond s.okB (s.h*s.w*s.c) 0
theorem Shape.EU (s:Shape):0<=s.size/\s.size<=512:=by
 unfold Shape.size;cases h:s.okB
 ·simp
 ·obtain⟨h1,h2,h3,h4,h5,h6⟩:=Shape.ta h;have:=rM (show 0<=s.h by omega) h2 (show 0<=s.w by omega) h4;have:=rM this.1 this.2 (show 0<=s.c by omega) h6;simpa using this
theorem GS {s:Shape} (h:s.okB=true):i64.wrap (i64.wrap (s.h*s.w)*s.c)=s.h*s.w*s.c:=by
 obtain⟨h1,h2,h3,h4,h5,h6⟩:=Shape.ta h;have a:=rM (show 0<=s.h by omega) h2 (show 0<=s.w by omega) h4;have b:=rM a.1 a.2 (show 0<=s.c by omega) h6;rw[aE (n:=s.h*s.w) (by omega) (by omega),aE (by omega) (by omega)]
theorem jd (k:Nat) (s:Shape):cu k s=some s.size:=by
 unfold cu Shape.size;simp only[lG,aa,cond_not];cases h:s.okB
 ·rfl
 ·simp only[cond_true,GS h]
theorem uE (k:Nat) (s:Shape):kP k s=some s.size:=by
 unfold kP Shape.size;simp only[rQ,aa,cond_not];cases h:s.okB
 ·rfl
 ·simp only[cond_true,GS h]
def qN (xs:List Int):Bool:=xs.all λx=>inB x (-128) 127
def aF.okB (t:aF):Bool:=t.sh.okB&&(decide ((t.data.length:Int)=t.sh.size)&&qN t.data)
theorem qx {k:Nat} {t:aF} (hk:t.data.length<k) (hx:t.data.length<=HF):mK k t=some t.okB:=by
 unfold HF at hx;unfold mK aF.okB;simp only[lG,jd,aa,cond_not,EM];cases t.sh.okB
 ·rfl
 simp only[cond_true,VZ];by_cases h:(t.data.length:Int)=t.sh.size
 ·rw[if_pos h,decide_eq_true h,VZ]
  rw[kN t.data (λx=>inB x (-128) 127) (λi hi next=>by
   simp only[l0,ab,ix,cp,aa,cond_not]
   rw[if_pos (by omega),aL,aj hi,aa,aq hi (by omega)]) (λnext=>by
   simp only[l0,ab];rw[if_neg (by omega)]) hk]
  show _=some (t.data.all _);cases t.data.all λx=>inB x (-128) 127<;>rfl
 ·rw[if_neg h,decide_eq_false h];rfl
theorem dg {α:Type} {p:α->Bool} (xs:List α):((xs.findIdx? p).elim (some (-1:Int)) λi=>some (i:Int))=some ((xs.findIdx? p).elim (-1) λi=>(i:Int)):=by
 cases xs.findIdx? p<;>rfl
theorem pA {α:Type} {p:α->Bool} (xs:List α):decide (((xs.findIdx? p).elim (-1:Int) λi=>(i:Int))>=0)=xs.any p:=by
 cases h:xs.findIdx? p with
 |none=>
  rw[Xb]at h
  have:xs.any p=false:=by simpa using h
  rw[this];rfl
 |some i=>
  have:xs.any p=true:=by
   have:=W1.1 h;obtain⟨hi,hp,_⟩:=this;exact List.any_eq_true.2 ⟨_,VV hi,hp⟩
  rw[this];simp
theorem vW {k:Nat} {xs:List Int} (hk:xs.length<k) (hx:xs.length<=HF):pg k xs=some (qN xs):=by
 unfold HF at hx;unfold pg bY cz
 rw[fA xs (λx=>!inB x (-128) 127) (λi hi next=>by
  simp only[bh,ab,qd,fV,aa]
  rw[if_pos (by omega),aL,aj hi,aa,aq hi (by omega)]) (λnext=>by
  simp only[bh,ab];rw[if_neg (by omega)]) hk]
 rw[dg];simp only[aa,pA];unfold qN;rw[Xw];simp
theorem vX {k:Nat} {t:aF} (hk:t.data.length<k) (hx:t.data.length<=HF):ph k t=some t.okB:=by
 unfold ph aF.okB;simp only[rQ,uE,aa,bM,vW hk hx];cases t.sh.okB
 ·rfl
 simp only[cond_true,VZ];by_cases h:(t.data.length:Int)=t.sh.size
 ·rw[if_pos h,decide_eq_true h,VZ]
 ·rw[if_neg h,decide_eq_false h];rfl
theorem bJ {a b:Nat} {α:Type} {x y:α} (h:a<=b):cond (Nat.ble a b) x y=x:=by rw[Xd h];rfl
theorem lH {k:Nat} {xs:List Int} (hk:xs.length<k) (hx:xs.length<=aU):lh k xs=some xs:=by
 rw[al]at hx;unfold lh
 have:=qb xs (λx=>x) (g:=λu next=>lg k xs u next (λy=>some y)) (fin:=some) (λi ys hi next hl=>by
  simp only[lg,ab]
  rw[if_pos (by omega),aL,aj hi,aa,bJ (by rw[al,hl];simp;omega),aq hi (by omega)]) (λys next=>by
  simp only[lg,ab];rw[if_neg (by omega)]) hk
 simpa using this
theorem A8 {ρ:Type} (x:Option ρ):both x x=x:=by unfold both;simp
theorem dh {k:Nat} {xs:List Int} (hx:xs.length<=aU):bW k xs=some xs:=by
 unfold bW;rw[bJ (by simpa using hx)]
 cases xs with
 |nil=>simp only[isNil,cond_true,Ww];exact A8 _
 |cons x l=>rfl
theorem ou {k:Nat} {t:aF} (hx:t.data.length<=aU):gE k t=some t:=by
 unfold gE;rw[dh hx];rfl
theorem rR {k:Nat} {t:aF} (hk:t.data.length<k) (hx:t.data.length<=aU):pe k t=some t:=by
 unfold pe;rw[lH hk hx];rfl
end
section
def aF.tot (x:aF):Nat:=x.data.length+(0)
def av.tot (x:av):Nat:=x.weights.length+(x.ny.length+(0))
def Model.tot (x:Model):Nat:=jj av.tot x.aC+(0)
def Job.tot (x:Job):Nat:=x.model.tot+(x.act.tot+(0))
def Task.tot (x:Task):Nat:=x.ay.length+(0)
def ak.tot (x:ak):Nat:=jj Task.tot x.tasks+(0)
end
section
theorem GU {α β R:Type} (xs:List α) (f:α->β) (acc:List β) {g:Int× List β->(Int× List β->Option R)->Option R} {fin:List β->Option R}
  (h:∀(i:Nat) (ys:List β) (hi:i<xs.length) (next:Int× List β->Option R),ys.length=acc.length+i->g ((i:Int),ys) next=next (((i+1:Nat):Int),ys++[f xs[i]]))
  (hn:∀ys next,g ((xs.length:Int),ys) next=fin ys) {k:Nat} (hk:xs.length<k):iter g k (0,acc)=fin (acc++xs.map f):=by
 have:=eW (g:=g) (st:=λi=>((i:Int),acc++(xs.take i).map f)) (n:=xs.length) (r:=fin (acc++xs.map f)) (λi hi next=>by
  rw[h i _ hi next (by simp;omega),dy hi,WL,Wd];rfl) (λnext=>by rw[WH];exact hn _ _) hk
 simpa using this
end
section
theorem N9 {β R:Type} (n:Nat) (f:Nat->β) {g:Int× List β->(Int× List β->Option R)->Option R} {fin:List β->Option R}
  (h:∀(i:Nat) (ys:List β) (hi:i<n) (next:Int× List β->Option R),ys.length=i->g ((i:Int),ys) next=next (((i+1:Nat):Int),ys++[f i]))
  (hn:∀ys next,g ((n:Int),ys) next=fin ys) {k:Nat} (hk:n<k):iter g k (0,[])=fin ((List.range n).map f):=by
 have:=eW (g:=g) (st:=λi=>((i:Int),(List.range i).map f)) (n:=n) (r:=fin ((List.range n).map f)) (λi hi next=>by
  rw[h i _ hi next (by simp),Xm,WL];rfl) (λnext=>hn _ _) hk
 simpa using this
def takes (x:Step):Int:=cond (inB x.kind 4 5&&inB x.a 0 200) x.a 0
theorem vY (x:Step):0<=takes x/\takes x<=200:=by
 unfold takes;cases h:(inB x.kind 4 5&&inB x.a 0 200)
 ·simp
 ·simp only[inB,VP,decide_eq_true_eq]at h;simp only[cond_true];omega
theorem vZ (k:Nat) (x:Step):sK k x=some (takes x):=by
 unfold sK takes;simp only[cp,aa];cases inB x.kind 4 5<;>cases inB x.a 0 200<;>rfl
theorem zb (k:Nat) (x:Step):l5 k x=some (inB x.kind 4 5&&inB x.a 0 200):=by
 unfold l5;simp only[fV,aa,bM];by_cases h4:x.kind=4
 ·rw[if_pos h4,h4];rfl
 ·rw[if_neg h4];by_cases h5:x.kind=5
  ·rw[if_pos h5,h5];rfl
  ·rw[if_neg h5,show inB x.kind 4 5=false from by unfold inB;rw[decide_eq_false_iff_not];omega];rfl
end
section
theorem A9 {b c:Bool}:cond b (some c) (some false)=some (b&&c):=by cases b<;>rfl
theorem dN {α:Type} {b:Bool} {x y:α}:cond (!b) x y=cond b y x:=by cases b<;>rfl
theorem pB {α:Type} (a b:Int) (x y:α):cond (a !=b) x y=cond (decide (a=b)) y x:=by rw[Si];by_cases h:a=b<;>simp[h]
theorem I5 (a b:Int):(a==b)=decide (a=b):=Sg a b
def HG (l:av):Bool:=inB l.out 1 8&&(inB l.mult 0 2147483647&&(inB l.shift 0 31&&(inB l.zero (-128) 127&&(decide ((l.ny.length:Int)=l.out)&&(l.ny.all (λx=>inB x (-1000000) 1000000)&&qN l.weights)))))
def qV (l:av):Bool:=decide (l.out=0)&&(decide (l.mult=0)&&(decide (l.shift=0)&&(decide ((l.weights.length:Int)=0)&&decide ((l.ny.length:Int)=0))))
def oT (l:av):Bool:=decide (l.size=0)&&decide (l.step=0)
def LH (s:Shape) (l:av):Bool:=inB l.size 1 3&&(inB l.step 1 2&&(decide (l.size<=s.h)&&decide (l.size<=s.w)))
def fN (s:Shape) (l:av):Bool:=s.okB&&
 (cond (decide (l.kind=0)) (oT l&&(HG l&&(decide (s.size<=64)&&decide ((l.weights.length:Int)=l.out*s.size))))
 (cond (decide (l.kind=1)) (LH s l&&(HG l&&(decide ((l.weights.length:Int)=l.out*l.size*l.size*s.c)&&decide ((l.weights.length:Int)<=600))))
 (cond (decide (l.kind=2)||decide (l.kind=3)) (LH s l&&(qV l&&decide (l.zero=0)))
 (cond (decide (l.kind=4)) (oT l&&(qV l&&inB l.zero (-128) 127))
 (cond (decide (l.kind=5)) (oT l&&(qV l&&(decide (l.zero=0)&&decide (s.size<=8)))) false)))))
def tb (s:Shape) (l:av) (c:Int):Shape:=
 ⟨i64.wrap ((i64.wrap ((i64.wrap (s.h-l.size)).tdiv l.step))+1),i64.wrap ((i64.wrap ((i64.wrap (s.w-l.size)).tdiv l.step))+1),c⟩
def shapeOf (s:Shape) (l:av):Shape:=
 cond (decide (l.kind=0)) ⟨1,1,l.out⟩ (cond (decide (l.kind=1)) (tb s l l.out) (cond (decide (l.kind=4)) s (cond (decide (l.kind=5)) ⟨1,1,s.size⟩ (tb s l s.c))))
def kG:Shape:=⟨0,0,0⟩
def jY (s:Shape) (l:av):Shape× Bool:=cond (fN s l) (shapeOf s l,true) (kG,false)
theorem yD (k:Nat) (x:Int):ix k x=some (inB x (-128) 127):=by unfold ix;rw[cp,aa]
theorem I6 {k:Nat} {l:av} (hk:l.tot<k) (hN:l.tot<=aU) (fin:Option Bool):
    (iter (λu16 n16=>gW k (l.kind,l.out,l.size,l.step,l.mult,l.shift,l.zero,l.weights,l.ny) u16 n16 (λy9=>iter (λu14 n14=>gX k (l.kind,l.out,l.size,l.step,l.mult,l.shift,l.zero,l.weights,l.ny) u14 n14 (λy12=>fin) (λy13=>some y13)) k (0:Int)) (λy15=>some y15)) k (0:Int))
      =cond (l.ny.all (λx=>inB x (-1000000) 1000000)) (cond (qN l.weights) fin (some false)) (some false):=by
  have hM:=al;unfold av.tot at hk hN
  rw [kN l.ny (λ x => inB x (-1000000) 1000000) (yes := cond (qN l.weights) fin (some false)) (no := some false) (λ i hi next => by
    simp only[gW]
    rw[ab,if_pos (by omega),aL,aj hi,aa,cp,aa,cond_not,aq hi (by omega)]) (λnext=>by
    simp only[gW];rw[ab,if_neg (by omega)]
    exact kN l.weights (λx=>inB x (-128) 127) (λi hi next=>by
      simp only[gX]
      rw[ab,if_pos (by omega),aL,aj hi,aa,yD,aa,cond_not,aq hi (by omega)]) (λnext=>by
      simp only[gX];rw[ab,if_neg (by omega)]) (by omega)) (by omega)]
def Ba (l:av) (window weighs:Bool):Bool:=
 cond window (inB l.size 1 3&&inB l.step 1 2) (oT l)&&cond weighs (HG l) (qV l&&cond (decide (l.kind=4)) (inB l.zero (-128) 127) (decide (l.zero=0)))
theorem Sl (n:Nat):decide ((n:Int)>0)=!decide ((n:Int)=0):=by
 grind
theorem EV {k:Nat} {l:av} (hk:l.tot<k) (hN:l.tot<=aU) (a b:Bool):sL k l a b=some (Ba l a b):=by
 unfold sL Ba HG qV oT;simp only[cp,yD,aa,dN,pB,I6 hk hN,Sl,I5];grind
theorem cd {x a b:Int}:inB x a b=true↔a<=x/\x<=b:=by unfold inB;simp
theorem rS {s:Shape} {l:av} (h:LH s l=true):1<=l.size/\l.size<=3/\1<=l.step/\l.step<=2/\l.size<=s.h/\l.size<=s.w:=by
 simp only[LH,VP,cd,decide_eq_true_eq]at h;omega
theorem zF {l:av} (h:HG l=true):1<=l.out/\l.out<=8:=by
 simp only[HG,VP,cd]at h;omega
theorem GV {o z c:Int} (h1:1<=o) (h2:o<=8) (h3:1<=z) (h4:z<=3) (h5:1<=c) (h6:c<=8):
  i64.wrap (i64.wrap (i64.wrap (o*z)*z)*c)=o*z*z*c/\i64.wrap (o*i64.wrap (i64.wrap (z*z)*c))=o*z*z*c:=by
 have a1:=rM (show 0<=o by omega) h2 (show 0<=z by omega) h4;have a2:=rM a1.1 a1.2 (show 0<=z by omega) h4;have a3:=rM a2.1 a2.2 (show 0<=c by omega) h6;have b1:=rM (show 0<=z by omega) h4 (show 0<=z by omega) h4;have b2:=rM b1.1 b1.2 (show 0<=c by omega) h6;have b3:=rM (show 0<=o by omega) h2 b2.1 b2.2;refine⟨?_,?_⟩
 ·rw[aE (n:=o*z) (by omega) (by omega),aE (n:=o*z*z) (by omega) (by omega),aE (by omega) (by omega)]
 ·rw[aE (n:=z*z) (by omega) (by omega),aE (n:=z*z*c) (by omega) (by omega),aE (by omega) (by omega),<-Yl,<-Yl]
theorem Dr {o:Int} {s:Shape} (h1:1<=o) (h2:o<=8):i64.wrap (o*s.size)=o*s.size:=by
 have h:=Shape.EU s;have a1:=rM (show 0<=o by omega) h2 h.1 h.2;exact aE (by omega) (by omega)
theorem my {k:Nat} {s:Shape} {l:av} (hk:l.tot<k) (hN:l.tot<=aU):kz k s l=some (jY s l):=by
  unfold kz jY fN;simp only[lG,cp,jd,EV hk hN,aa,dN,pB,I5];cases hs:s.okB
  · rfl
  obtain⟨c1,c2,c3,c4,c5,c6⟩:=Shape.ta hs;simp only[cond_true,VZ];by_cases k0:l.kind=0
  · have e1:inB l.kind 0 5=true:=by rw[cd];omega
    have e2:inB l.kind 1 3=false:=by rw[<-Bool.not_eq_true,cd];omega
    simp only[k0,e1,e2,cond_true,cond_false,Ba,shapeOf,decide_true];simp only[k0]at e1 e2;simp only[e1,e2,cond_true,cond_false,show decide ((0:Int)<=1)=true from rfl];cases oT l
    · rfl
    cases Sm:HG l
    · rfl
    obtain⟨o1,o2⟩:=zF Sm;simp only[Dr o1 o2,VZ,cond_true];by_cases z:s.size<=64
    · rw[decide_eq_true z,decide_eq_false (by omega)];cases decide ((l.weights.length:Int)=l.out*s.size)<;>rfl
    · rw[decide_eq_false z,decide_eq_true (by omega)];rfl
  by_cases k1:l.kind=1
  · simp only[k1,Ba,shapeOf,show inB 1 0 5=true from rfl,show inB 1 1 3=true from rfl,decide_true,cond_true,cond_false,show decide ((1:Int)=0)=false from rfl,show decide ((1:Int)<=1)=true from rfl];unfold LH;cases hz:inB l.size 1 3
    · rfl
    cases ht:inB l.step 1 2
    · rfl
    rw[cd]at hz ht;simp only[VZ,cond_true];cases Sm:HG l
    · simp only[cond_false,WZ,XU];rfl
    obtain⟨o1,o2⟩:=zF Sm;simp only[cond_true,VZ,(GV o1 o2 hz.1 hz.2 c5 c6).1];rw[decide_eq_false (show¬l.step=0 by omega)];simp only[cond_false];by_cases w1:l.size<=s.h
    · rw [decide_eq_true w1, decide_eq_false (show ¬ l.size > s.h by omega)];by_cases w2:l.size<=s.w
      · rw[decide_eq_true w2,decide_eq_false (show¬l.size>s.w by omega)];simp only[cond_false,VZ];cases decide ((l.weights.length:Int)=l.out*l.size*l.size*s.c)
        · rfl
        · by_cases w3:(l.weights.length:Int)<=600
          · rw[decide_eq_true w3,decide_eq_false (by omega)];rfl
          · rw[decide_eq_false w3,decide_eq_true (by omega)];rfl
      · rw[decide_eq_false w2,decide_eq_true (show l.size>s.w by omega)];rfl
    · rw[decide_eq_false w1,decide_eq_true (show l.size>s.h by omega)];rfl
  have win:l.kind=2\/l.kind=3->_:=λh23=>by
    have e1:inB l.kind 0 5=true:=by rw[cd];omega
    have e2:inB l.kind 1 3=true:=by rw[cd];omega
    have e3:decide (l.kind<=1)=false:=decide_eq_false (by omega)
    have e4:(decide (l.kind=2)||decide (l.kind=3))=true:=by simpa using h23
    have e5:decide (l.kind=4)=false:=decide_eq_false (by omega);have e6:decide (l.kind=5)=false:=decide_eq_false (by omega);exact And.intro e1 (And.intro e2 (And.intro e3 (And.intro e4 (And.intro e5 e6))))
  by_cases h23:l.kind=2\/l.kind=3
  · obtain⟨e1,e2,e3,e4,e5,e6⟩:=win h23;simp only[e1,e2,e3,e4,e5,e6,decide_eq_false k0,decide_eq_false k1,Ba,shapeOf,cond_true,cond_false];unfold LH;cases hz:inB l.size 1 3
    · rfl
    cases ht:inB l.step 1 2
    · rfl
    rw[cd]at hz ht;simp only[VZ,cond_true];rw[decide_eq_false (show¬l.step=0 by omega)];cases qV l
    · simp only[WZ,XU,cond_false];rfl
    cases decide (l.zero=0)
    · simp only[WZ,XU,cond_false];rfl
    simp only[cond_false,cond_true,Ym,VZ];by_cases w1:l.size<=s.h
    · rw[decide_eq_true w1,decide_eq_false (show¬l.size>s.h by omega)];by_cases w2:l.size<=s.w
      · rw[decide_eq_true w2,decide_eq_false (show¬l.size>s.w by omega)];rfl
      · rw[decide_eq_false w2,decide_eq_true (show l.size>s.w by omega)];rfl
    · rw[decide_eq_false w1,decide_eq_true (show l.size>s.h by omega)];rfl
  have e4:(decide (l.kind=2)||decide (l.kind=3))=false:=by simpa using h23
  by_cases k4:l.kind=4
  · simp only[k4,e4,Ba,shapeOf,show inB 4 0 5=true from rfl,show inB 4 1 3=false from rfl,decide_true,cond_true,cond_false,show decide ((4:Int)=0)=false from rfl,show decide ((4:Int)=1)=false from rfl,show decide ((4:Int)<=1)=false from rfl,
      show(decide ((4:Int)=2)||decide ((4:Int)=3))=false from rfl,show decide ((4:Int)=5)=false from rfl]
    cases oT l<;>cases qV l<;>cases inB l.zero (-128) 127<;>rfl
  by_cases k5:l.kind=5
  · simp only[k5,Ba,shapeOf,show inB 5 0 5=true from rfl,show inB 5 1 3=false from rfl,decide_true,cond_true,cond_false,show decide ((5:Int)=0)=false from rfl,show decide ((5:Int)=1)=false from rfl,show decide ((5:Int)<=1)=false from rfl,
      show(decide ((5:Int)=2)||decide ((5:Int)=3))=false from rfl,show decide ((5:Int)=4)=false from rfl]
    by_cases z:s.size<=8
    · rw[decide_eq_true z,decide_eq_false (show¬s.size>8 by omega)];cases oT l<;>cases qV l<;>cases decide (l.zero=0)<;>rfl
    · rw[decide_eq_false z,decide_eq_true (show s.size>8 by omega)];cases oT l<;>cases qV l<;>cases decide (l.zero=0)<;>rfl
  · have e1:inB l.kind 0 5=false:=by rw[<-Bool.not_eq_true,cd];omega
    simp only[e1,e4,decide_eq_false k0,decide_eq_false k1,decide_eq_false k4,decide_eq_false k5,cond_false];rfl
theorem v7 (k:Nat) (l:av):fB k l=some (oT l):=by
 unfold fB oT;grind
theorem xx (k:Nat) (l:av):fh k l=some (qV l):=by
 unfold fh qV;grind
theorem uF (k:Nat) (s:Shape) (l:av):eN k l s=some (LH s l):=by
 unfold eN LH;simp only[fV,aa,A9]
 congr 1
 rw[X3];simp only[VP,cd,decide_eq_true_eq];grind
theorem I7 {k:Nat} {xs:List Int} (hk:xs.length<k) (hx:xs.length<=HF):aW k xs=some (!xs.all (λx=>inB x (-1000000) 1000000)):=by
 unfold HF at hx;unfold aW bK
 rw[fA xs (λx=>!inB x (-1000000) 1000000) (λi hi next=>by
  simp only[aV,ab,iS,fV,aa]
  rw[if_pos (by omega),aL,aj hi,aa,aq hi (by omega)]) (λnext=>by
  simp only[aV,ab];rw[if_neg (by omega)]) hk]
 rw[dg];simp only[aa,pA];rw[Xw];simp
theorem uG {k:Nat} {l:av} {n:Int} (hk:l.tot<k) (hN:l.tot<=aU):gd k l n=some (HG l&&decide ((l.weights.length:Int)=i64.wrap (l.out*n))):=by
 have hM:=al;unfold av.tot at hk hN;unfold gd HG;simp only[fV,aa,vW (xs:=l.weights) (k:=k) (by omega) (by unfold HF;omega),I7 (xs:=l.ny) (k:=k) (by omega) (by unfold HF;omega),I5,Yb,A9];grind
theorem jZ (k:Nat) {s:Shape} {l:av} (c:Int) (h:1<=l.step):fC k l s c=some (tb s l c):=by
 unfold fC tb;grind
theorem qy {k:Nat} {s:Shape} {l:av} (hk:l.tot<k) (hN:l.tot<=aU):mL k s l=some (jY s l):=by
 unfold mL jY fN;simp only[rQ,fV,uE,v7,xx,uF,uG hk hN,aa,dN,I5];cases hs:s.okB
 ·rfl
 obtain⟨c1,c2,c3,c4,c5,c6⟩:=Shape.ta hs;simp only[cond_true,VZ];by_cases k0:l.kind=0
 ·simp only[k0,shapeOf,decide_true,cond_true];cases Sm:HG l
  ·cases decide (s.size<=64)<;>cases oT l<;>rfl
  obtain⟨o1,o2⟩:=zF Sm;simp only[Dr o1 o2];cases decide (s.size<=64)<;>cases oT l<;>cases decide ((l.weights.length:Int)=l.out*s.size)<;>rfl
 by_cases k1:l.kind=1
 ·simp only[k1,shapeOf,show decide ((1:Int)=0)=false from rfl,decide_true,cond_true,cond_false];cases hw:LH s l
  ·rfl
  have hw:=rS hw;cases Sm:HG l
  ·cases decide ((l.weights.length:Int)<=600)<;>rfl
  obtain⟨o1,o2⟩:=zF Sm;simp only[(GV o1 o2 hw.1 hw.2.1 c5 c6).2,jZ k _ hw.2.2.1,aa];cases decide ((l.weights.length:Int)<=600)<;>cases decide ((l.weights.length:Int)=l.out*l.size*l.size*s.c)<;>rfl
 simp only[decide_eq_false k0,decide_eq_false k1,cond_false];by_cases k2:l.kind=2
 ·simp only[k2,shapeOf,decide_true,Bool.true_or,cond_true,cond_false,show decide ((2:Int)=0)=false from rfl,show decide ((2:Int)=1)=false from rfl,show decide ((2:Int)=4)=false from rfl,show decide ((2:Int)=5)=false from rfl];cases hw:LH s l
  ·rfl
  have hw:=rS hw;simp only[jZ k _ hw.2.2.1,aa];cases qV l<;>cases decide (l.zero=0)<;>rfl
 by_cases k3:l.kind=3
 ·simp only[k3,shapeOf,decide_true,Xr,cond_true,cond_false,show decide ((3:Int)=0)=false from rfl,show decide ((3:Int)=1)=false from rfl,show decide ((3:Int)=2)=false from rfl,show decide ((3:Int)=4)=false from rfl,show decide ((3:Int)=5)=false from rfl];cases hw:LH s l
  ·rfl
  have hw:=rS hw;simp only[jZ k _ hw.2.2.1,aa];cases qV l<;>cases decide (l.zero=0)<;>rfl
 simp only[decide_eq_false k2,decide_eq_false k3,Bool.or_self,cond_false];by_cases k4:l.kind=4
 ·simp only[k4,shapeOf,decide_true,cond_true,cond_false,show decide ((4:Int)=0)=false from rfl,show decide ((4:Int)=1)=false from rfl];cases oT l<;>cases qV l<;>cases inB l.zero (-128) 127<;>rfl
 by_cases k5:l.kind=5
 ·simp only[k5,shapeOf,decide_true,cond_true,cond_false,show decide ((5:Int)=0)=false from rfl,show decide ((5:Int)=1)=false from rfl,show decide ((5:Int)=4)=false from rfl];cases oT l<;>cases qV l<;>cases decide (l.zero=0)<;>cases decide (s.size<=8)<;>rfl
 simp only[decide_eq_false k4,decide_eq_false k5,cond_false];rfl
def cq:Shape->List av->Option (List Shape)
 |_,[]=>some []
 |s,l::ls=>cond (fN s l) ((cq (shapeOf s l) ls).map (shapeOf s l::·)) none
theorem tR:∀(ls:List av) (s:Shape) (t:List Shape),cq s ls=some t->t.length=ls.length
 |[],s,t,h=>by cases h;rfl
 |l::ls,s,t,h=>by
  simp only[cq]at h;cases hb:fN s l<;>simp only[hb,cond_true,cond_false]at h
  ·grind
  ·obtain⟨t',h1,rfl⟩:=VW.1 h;simp[tR ls _ _ h1]
theorem uH {R:Type} {aC:List av} {V:Type} {st:Nat->List Shape->Shape->V} {g:V->(V->Option R)->Option R} {fin:List Shape->Option R} {bad:Option R}
    (h:∀(i:Nat) (ys:List Shape) (s:Shape) (hi:i<aC.length) (next:V->Option R),ys.length=i+1->ys[i]? =some s->g (st i ys s) next=cond (fN s aC[i]) (next (st (i+1) (ys++[shapeOf s aC[i]]) (shapeOf s aC[i]))) bad)
    (hn:∀ys s next,g (st aC.length ys s) next=fin ys):∀(rest:List av) (i:Nat) (ys:List Shape) (s:Shape) (k:Nat),i<=aC.length->aC.drop i=rest->ys.length=i+1->ys[i]? =some s->rest.length<k->
      iter g k (st i ys s)=(cq s rest).elim bad λt=>fin (ys++t)
  |[],i,ys,s,0,hle,hd,hl,hs,hk=>by omega
  |_::_,i,ys,s,0,hle,hd,hl,hs,hk=>by omega
  | [], i, ys, s, k + 1, hle, hd, hl, hs, hk => by
    have h1:=congrArg List.length hd;simp only[W9,V5]at h1;rw[aI]
    have c:i=aC.length:=by omega
    subst c;rw[hn];simp[cq]
  | l :: ls, i, ys, s, k + 1, hle, hd, hl, hs, hk => by
    have hi:i<aC.length:=by
      grind
    rw[iw hi]at hd
    injection hd with h1 h2
    rw[aI,h i ys s hi _ hl hs,h1];simp only[cq];cases hb:fN s l
    · rfl
    · simp only[cond_true];rw[uH h hn ls (i+1) (ys++[shapeOf s l]) (shapeOf s l) k (by omega) h2 (by simp[hl]) (by rw[VU (by omega),hl];simp) (by simpa using hk)]
      cases cq (shapeOf s l) ls with
      |none=>rfl
      |some t=>simp
def dT (m:Model):List Shape× Bool:=cond (m.inp.okB&&inB (m.aC.length:Int) 1 6) ((cq m.inp m.aC).elim ([],false) λt=>(m.inp::t,true)) ([],false)
theorem v8 {m:Model} {k:Nat} (hk:m.tot<k) (hN:m.tot<=aU) {l:av} (h:l∈m.aC):l.tot<k/\l.tot<=aU:=by
 have:=kO av.tot h;unfold Model.tot at hk hN;omega
theorem hY {m:Model} {k:Nat} (hk:m.tot<k) (hN:m.tot<=aU):m.aC.length<k/\m.aC.length<=aU:=by
 have:=bU av.tot m.aC;unfold Model.tot at hk hN;omega
theorem oU {k:Nat} {m:Model} (hk:m.tot<k) (hN:m.tot<=aU):kA k m=some (dT m):=by
  have hM:=al;obtain⟨hlk,hlN⟩:=hY hk hN;unfold kA dT;simp only[lG,cp,aa,dN];cases m.inp.okB
  · rfl
  cases hlen:inB (m.aC.length:Int) 1 6
  · rfl
  rw[cd]at hlen;simp only[cond_true,VZ]
  have:=uH (aC:=m.aC) (V:=Int× List Shape) (st:=λi ys s=>((i:Int),ys)) (fin:=λy=>some (y,true)) (bad:=some (([]:List Shape),false))
    (g:=λu next=>iy k (m.inp.h,m.inp.w,m.inp.c,m.aC) u next (λy6=>some (y6,true)) (λy7=>some (([]:List Shape),y7))) (λi ys s hi next hl hs=>by
      obtain⟨a1,a2⟩:=v8 hk hN (VV hi);simp only[iy];rw[ab,if_pos (by omega),ab,if_pos (by omega),VQ,hs,aa,aL,aj hi,aa,my a1 a2,aa,aq hi (by omega),bJ (by simp;omega)];unfold jY
      cases fN s m.aC[i]<;>rfl) (λys s next=>by
      simp only[iy];rw[ab,if_neg (by omega)]) m.aC 0 [m.inp] m.inp k (by omega) rfl rfl rfl hlk
  refine this.trans ?_;cases cq m.inp m.aC<;>rfl
def v9 (m:Model):List Shape× Bool:=(cq m.inp m.aC).elim ([],false) λt=>(m.inp::t,true)
theorem pC {k:Nat} {m:Model} (hk:m.tot<k) (hN:m.tot<aU):iA k m=some (v9 m):=by
  have hM:=al;obtain⟨hlk,hlN⟩:=hY hk (Yc hN)
  have hb:m.aC.length+1<=aU:=by have:=bU av.tot m.aC;unfold Model.tot at hN;omega
  unfold iA v9
  have := uH (aC := m.aC) (V := Int × List Shape × Int × Int × Int) (st := λ i ys s => ((i : Int), ys, s.h, s.w, s.c)) (fin := λ y => some (y, true)) (bad := some (([] : List Shape), false))
      (g:=λu next=>fD k (m.aC,(m.aC.length:Int)) u next (λy3=>some (y3,true)) (λy4=>some (([]:List Shape),y4))) (λi ys s hi next hl hs=>by
        obtain⟨a1,a2⟩:=v8 hk (Yc hN) (VV hi);simp only[fD];rw[ab,if_pos (by omega),aL,aj hi,aa,qy a1 a2,aa,aq hi (by omega),bJ (by simp;omega)];unfold jY
        cases fN s m.aC[i]<;>rfl) (λys s next=>by
        simp only[fD];rw[ab,if_neg (by omega)]) m.aC 0 [m.inp] m.inp k (by omega) rfl rfl rfl hlk
  refine this.trans ?_;cases cq m.inp m.aC<;>rfl
theorem LI {s:Shape} {ls:List av} (hs:s.okB=false) (hl:ls≠[]):cq s ls=none:=by
 cases ls with
 |nil=>grind
 |cons l ls=>simp[cq,fN,hs]
def eH (m:Model):Bool:=(dT m).2
theorem yE {m:Model} (h:inB (m.aC.length:Int) 1 6=true):v9 m=dT m:=by
 unfold v9 dT;rw[h,Ym];cases hs:m.inp.okB
 ·rw[LI hs (λe=>by rw[e]at h;exact nomatch h)];rfl
 ·rfl
theorem Ds {m:Model} (h:inB (m.aC.length:Int) 1 6=false):eH m=false:=by
 unfold eH dT;rw[h,XU];rfl
theorem rT {k:Nat} {m:Model} (hk:m.tot<k) (hN:m.tot<=aU):pj k m=some (eH m):=by
 unfold pj;rw[oU hk hN];rfl
theorem rU {k:Nat} {m:Model} (hk:m.tot<k) (hN:m.tot<aU):nd k m=some (eH m):=by
 unfold nd;rw[fV,aa,dN,pC hk hN];cases h:inB (m.aC.length:Int) 1 6
 ·rw[Ds h];rfl
 ·rw[yE h];rfl
def cw (m:Model):List Shape:=cond (eH m) (dT m).1 []
theorem wc {k:Nat} {m:Model} (hk:m.tot<k) (hN:m.tot<aU):pk k m=some (cw m):=by
 unfold pk cw;rw[rU hk hN,aa,dN,pC hk hN];cases h:eH m
 ·rfl
 ·have:inB (m.aC.length:Int) 1 6=true:=by
   cases h2:inB (m.aC.length:Int) 1 6
   ·rw[Ds h2]at h;exact nomatch h
   ·rfl
  rw[yE this];rfl
theorem ov {m:Model} (h:eH m=true):(cw m).length=m.aC.length+1:=by
 unfold cw;rw[h,cond_true];unfold eH at h;unfold dT at h⊢;cases h1:(m.inp.okB&&inB (m.aC.length:Int) 1 6)<;>rw[h1]at h
 ·grind
 ·simp only[cond_true]at h⊢
  cases h2:cq m.inp m.aC with
  |none=>grind
  |some t=>simp[tR _ _ _ h2]
def Oa (s t:Shape) (l:av):Int:=
  cond (decide (l.kind=0)) (i64.wrap (1+(i64.wrap ((i64.wrap (t.size*s.size)).tdiv 16))))
  (cond (decide (l.kind=1)) (i64.wrap (1+(i64.wrap ((i64.wrap ((i64.wrap ((i64.wrap (t.size*l.size))*l.size))*s.c)).tdiv 16))))
  (cond (decide (l.kind=2)) (i64.wrap (1+(i64.wrap ((i64.wrap ((i64.wrap (t.size*l.size))*l.size)).tdiv 16))))
  (cond (decide (l.kind=3)) (i64.wrap (1+(i64.wrap ((i64.wrap ((i64.wrap (t.size*l.size))*l.size)).tdiv 16))))
   (i64.wrap (1+(i64.wrap (s.size.tdiv 16)))))))
def Bb (s:Shape) (l:av):Int:=cond (jY s l).2 (Oa s (jY s l).1 l) 0
theorem I8 {k:Nat} {s:Shape} {l:av} (hk:l.tot<k) (hN:l.tot<=aU):zx k s l=some (Bb s l):=by
 unfold zx Bb Oa;simp only[my hk hN,jd,aa,dN,I5];grind
theorem I9 {k:Nat} {s:Shape} {l:av} (hk:l.tot<k) (hN:l.tot<=aU):zy k s l=some (Bb s l):=by
 unfold zy Bb Oa;simp only[qy hk hN,uE,aa,dN,I5];grind
def bB (m:Model):List Int:=cond (eH m) ((List.range m.aC.length).map λi=>Bb ((cw m).getD i kG) (m.aC.getD i ⟨0,0,0,0,0,0,0,[],[]⟩)) []
theorem bT {α:Type} {xs:List α} {i:Nat} (h:i<xs.length) (d:α):xs.getD i d=xs[i]:=by rw[Wp,aj h];rfl
theorem lI {k:Nat} {m:Model} (hk:m.tot<k) (hN:m.tot<=aU):ln k m=some (bB m):=by
 have hM:=al;obtain⟨hlk,hlN⟩:=hY hk hN;unfold ln bB;rw[oU hk hN,aa,dN];show cond (eH m) _ _=_;cases h:eH m
 ·rfl
 have hsl:=ov h
 have e:(dT m).1=cw m:=by unfold cw;rw[h];rfl
 simp only[cond_true,e]
 exact N9 m.aC.length _ (g:=λu next=>lk k (m.inp.h,m.inp.w,m.inp.c,m.aC,cw m) u next (λy5=>some y5)) (fin:=some) (λi ys hi next hl=>by
  obtain⟨a1,a2⟩:=v8 hk hN (VV hi);simp only[lk]
  rw[ab,if_pos (by omega),ab,if_pos (by omega),VQ,aj (show i<(cw m).length by omega),aa,aL,aj hi,aa,I8 a1 a2,aa,bJ (by simp;omega),aq hi (by omega),bT (show i<(cw m).length by omega),bT hi]) (λys next=>by
  simp only[lk];rw[ab,if_neg (by omega)]) hlk
theorem lJ {k:Nat} {m:Model} (hk:m.tot+1<k) (hN:m.tot<aU):lr k m=some (bB m):=by
  have hM:=al;obtain⟨hlk,hlN⟩:=hY (show m.tot<k-1 by omega) (Yc hN);unfold lr bB;rw[wc (by omega) hN,aa];cases h:eH m
  · have:cw m=[]:=by unfold cw;rw[h];rfl
    rw[this]
    cases k with
    |zero=>omega
    |succ k=>rfl
  have hsl:=ov h;simp only[cond_true];rw[hsl]
  have := eW (R := List Int) (g := λ u next => lq k (((m.aC.length + 1 : Nat) : Int), m.inp.h, m.inp.w, m.inp.c, m.aC, cw m) u next (λ y5 => some y5)) (n := m.aC.length + 1)
    (st:=λi=>((i:Int),(List.range (min i m.aC.length)).map λi=>Bb ((cw m).getD i kG) (m.aC.getD i ⟨0,0,0,0,0,0,0,[],[]⟩)))
    (r := some ((List.range m.aC.length).map λ i => Bb ((cw m).getD i kG) (m.aC.getD i ⟨0, 0, 0, 0, 0, 0, 0, [], []⟩))) (λ i hi next => by
      simp only[lq];rw[ab,if_pos (by omega),ab,if_pos (by omega),VQ,aj (show i<(cw m).length by omega),aa,aq hi (by omega),ab];by_cases c:i<m.aC.length
      · obtain⟨a1,a2⟩:=v8 (show m.tot<k by omega) (Yc hN) (VV c);rw[if_pos (by omega),aL,aj c,aa,I9 a1 a2,aa,bJ (by simp;omega),XE (by omega),XE (by omega),Xm,WL,List.map_singleton,bT (show i<(cw m).length by omega),bT c]
      · rw[if_neg (by omega),Nat.min_eq_right (by omega),Nat.min_eq_right (by omega)]) (λnext=>by
      simp only[lq]
      rw[ab,if_neg (by omega),Nat.min_eq_right (by omega)]) (k:=k) (by omega)
  simpa using this
def Bc (m:Model):Int:=(bB m).foldl (λs x=>i64.wrap (s+x)) 0
theorem kH (m:Model):(bB m).length<=m.aC.length:=by
 unfold bB;grind
theorem Cu {k:Nat} {m:Model} (hk:m.tot<k) (hN:m.tot<=aU):qf k m=some (Bc m):=by
 have hM:=al;obtain⟨hlk,hlN⟩:=hY hk hN;have hc:=kH m;unfold qf;rw[lI hk hN,aa]
 exact rL (bB m) (λs x=>i64.wrap (s+x)) (g:=λu next=>iz k (bB m) u next (λy3=>some y3)) (fin:=some) 0 (λi s hi next _=>by
  simp only[iz]
  rw[ab,if_pos (by omega),ab,if_pos (by omega),VQ,aj hi,aa,aq hi (by omega)]) (λnext=>by
  simp only[iz];rw[ab,if_neg (by omega)]) (by omega)
theorem EW {k:Nat} {xs:List Int} (hk:xs.length<k) (hN:xs.length<=aU):N8 k xs=some (xs.foldl (λs x=>i64.wrap (s+x)) 0):=by
 have hM:=al
 exact rL xs (λs x=>i64.wrap (s+x)) (g:=λu next=>vC k (xs,(xs.length:Int)) u next (λy2=>some y2)) (fin:=some) 0 (λi s hi next _=>by
  simp only[vC]
  rw[ab,if_pos (by omega),aL,aj hi,aa,aq hi (by omega)]) (λnext=>by
  simp only[vC];rw[ab,if_neg (by omega)]) hk
theorem Cv {k:Nat} {m:Model} (hk:m.tot+1<k) (hN:m.tot<aU):qg k m=some (Bc m):=by
 obtain⟨hlk,hlN⟩:=hY (show m.tot<k by omega) (Yc hN);have hc:=kH m;unfold qg;rw[lJ hk hN,aa,EW (by omega) (by omega)];rfl
end
section
end
section
end
section
theorem GW {k:Nat} {l:av} (hk:l.tot<k) (hN:l.tot<=aU):vI k l=some l:=by
 unfold av.tot at hk hN;unfold vI;rw[lH (by omega) (by omega),aa,lH (by omega) (by omega)];rfl
theorem xy {k:Nat} {l:av} (hN:l.tot<=aU):kS k l=some l:=by
 unfold av.tot at hN;unfold kS;rw[dh (by omega),aa,dh (by omega)];rfl
theorem xz {k:Nat} {xs:List av} (hk:jj av.tot xs<k) (hN:jj av.tot xs<=aU):oO k xs=some xs:=by
 have hM:=al;have hl:=bU av.tot xs
 have:=qb xs (λx=>x) (g:=λu next=>fJ k (xs,(xs.length:Int)) u next (λy3=>some y3)) (fin:=some) (λi ys hi next hys=>by
  have hm:=kO av.tot (VV hi);simp only[fJ]
  rw[ab,if_pos (by omega),aL,aj hi,aa,xy (by omega),aa,bJ (by omega),aq hi (by omega)]) (λys next=>by
  simp only[fJ];rw[ab,if_neg (by omega)]) (k:=k) (by omega)
 rw[Yd]at this;exact this
theorem pD {k:Nat} {m:Model} (hk:m.tot<k) (hN:m.tot<=aU):iC k m=some m:=by
 unfold Model.tot at hk hN;unfold iC;rw[xz (by omega) (by omega)];rfl
theorem rV {k:Nat} {m:Model} (hk:m.tot<k) (hN:m.tot<=aU):rN k m=some m:=by
 have hM:=al;obtain⟨hlk,hlN⟩:=hY hk hN
 have:=qb m.aC (λx=>x) (g:=λu next=>lA k (m.inp.h,m.inp.w,m.inp.c,m.aC,(0:Int),(0:Int),(0:Int),m.inp.h,m.inp.w,m.inp.c) u next (λy3=>some (⟨m.inp,y3⟩:Model))) (fin:=λy3=>some (⟨m.inp,y3⟩:Model)) (λi ys hi next hys=>by
  obtain⟨a1,a2⟩:=v8 hk hN (VV hi);simp only[lA]
  rw[ab,if_pos (by omega),aL,aj hi,aa,GW a1 a2,aa,bJ (by omega),aq hi (by omega)]) (λys next=>by
  simp only[lA];rw[ab,if_neg (by omega)]) (k:=k) hlk
 rw[Yd]at this;exact this
theorem Bd {k:Nat} {j:Job} (hk:j.tot<k) (hN:j.tot<=aU):nV k j=some j:=by
 unfold Job.tot aF.tot at hk hN;unfold nV;rw[pD (by omega) (by omega),aa,ou (by omega)];rfl
def dt:Model:=⟨⟨0,0,0⟩,[]⟩
end
section
def UN (xs:List Int):Int:=xs.foldl (λs x=>i64.wrap (s+x)) 0
theorem Ob (a b:Shape):(cond (a.h==b.h) (cond (a.w==b.w) (cond (a.c==b.c) (true) false) false) false)=decide (a=b):=by
 obtain⟨a1,a2,a3⟩:=a;obtain⟨b1,b2,b3⟩:=b;by_cases h1:a1=b1<;>by_cases h2:a2=b2<;>by_cases h3:a3=b3<;>simp[h1,h2,h3]
def wF (j:Job):Bool:=eH j.model&&(inB j.at_ 0 j.model.aC.length&&(j.act.okB&&(decide (j.act.sh=(cw j.model).getD j.at_.toNat kG)&&decide (j.ke=UN ((bB j.model).take j.at_.toNat)))))
theorem jo {m:Model} (h:eH m=true):(bB m).length=m.aC.length:=by
 unfold bB;rw[h];simp
theorem Dt {k:Nat} {j:Job} (hk:j.tot+1<k) (hN:j.tot<aU):AW k j=some (wF j):=by
 have hM:=al;unfold Job.tot aF.tot at hk hN
 have hmk:j.model.tot+1<k:=by omega
 have hmN:j.model.tot<aU:=by omega
 obtain⟨hlk,hlN⟩:=hY (show j.model.tot<k by omega) (Yc hmN);unfold AW wF;rw[rU (by omega) hmN,aa];cases hm:eH j.model
 ·rfl
 have hsl:=ov hm;have hcl:=jo hm;simp only[cond_true,VZ,fV,aa];cases hin:inB j.at_ 0 j.model.aC.length
 ·rfl
 rw[cd]at hin;simp only[cond_true,VZ];rw[vX (by omega) (by unfold HF;omega),aa];cases j.act.okB
 ·rfl
 have hi:j.at_.toNat<(cw j.model).length:=by omega
 simp only[cond_true,VZ];rw[wc (by omega) hmN,aa,ab,if_pos (by omega),aj hi,aa,Ob,bT hi];cases decide (j.act.sh=(cw j.model)[j.at_.toNat])
 ·rfl
 simp only[cond_true,VZ]
 have htl:(((bB j.model).drop 0).take (j.at_.toNat-0)).length<=(bB j.model).length:=by simp;omega
 rw[lJ hmk hmN,aa,ab,if_pos (by omega),EW (by omega) (by omega),aa,I5,List.drop_zero,WI];rfl
theorem tc {k:Nat} {j:Job} (hk:j.tot<k) (hN:j.tot<=aU):uB k j=some (wF j):=by
  have hM:=al;unfold Job.tot aF.tot at hk hN
  have hmk:j.model.tot<k:=by omega
  have hmN:j.model.tot<=aU:=by omega
  obtain⟨hlk,hlN⟩:=hY hmk hmN;unfold uB wF;rw[oU hmk hmN,aa,dN];show cond (eH j.model) _ _=_;cases hm:eH j.model
  · rfl
  have hsl:=ov hm;have hcl:=jo hm
  have e:(dT j.model).1=cw j.model:=by unfold cw;rw[hm];rfl
  simp only[cond_true,VZ,cp,aa,dN,e];cases hin:inB j.at_ 0 j.model.aC.length
  · rfl
  rw[cd]at hin;simp only[cond_true,VZ];rw[qx (by omega) (by unfold HF;omega),aa];cases j.act.okB
  · rfl
  have hi:j.at_.toNat<(cw j.model).length:=by omega
  simp only[cond_true,VZ];rw[ab,if_pos (by omega),aj hi,aa,Ob,bT hi];cases decide (j.act.sh=(cw j.model)[j.at_.toNat])
  · rfl
  simp only[cond_true,VZ];rw[lI hmk hmN,aa]
  have htl:((bB j.model).take j.at_.toNat).length=j.at_.toNat:=by simp;omega
  have:=rL ((bB j.model).take j.at_.toNat) (λs x=>i64.wrap (s+x)) (R:=Bool)
    (g:=λu next=>pq k (j.model.inp.h,j.model.inp.w,j.model.inp.c,j.model.aC,j.at_,j.act.sh.h,j.act.sh.w,j.act.sh.c,j.act.data,j.ke,bB j.model) u next (λy7=>some (j.ke==y7))) (fin:=λy7=>some (j.ke==y7)) 0 (λi s hi next _=>by
      rw[htl]at hi
      have hi2:i<(bB j.model).length:=by omega
      simp only[pq]
      rw[ab,if_pos (by omega),ab,if_pos (by omega),VQ,aj hi2,aa,aq hi2 (by omega),List.getElem_take]) (λnext=>by
      simp only[pq];rw[ab,if_neg (by omega)]) (k:=k) (by omega)
  rw[this,I5];rfl
def UO:Job:=⟨⟨⟨0,0,0⟩,[]⟩,0,⟨⟨0,0,0⟩,[]⟩,0⟩
def dH (m:Model) (t:aF):Job× Bool:=cond (wF ⟨m,0,t,0⟩) (⟨m,0,t,0⟩,true) (UO,false)
theorem EX {k:Nat} {m:Model} {t:aF} (hk:m.tot+t.tot<k) (hN:m.tot+t.tot<=aU):sT k m t=some (dH m t):=by
 have ht:t.tot=t.data.length:=rfl;unfold sT dH;rw[rV (by omega) (by omega),aa,rR (by omega) (by omega),aa,tc (by simp only[Job.tot];omega) (by simp only[Job.tot];omega),aa,dN];cases wF ⟨m,0,t,0⟩<;>rfl
theorem EY {k:Nat} {m:Model} {t:aF} (hk:m.tot+t.tot+1<k) (hN:m.tot+t.tot<aU):sU k m t=some (dH m t):=by
 unfold sU dH;rw[Dt (by simp only[Job.tot];omega) (by simp only[Job.tot];omega),aa,dN];cases wF ⟨m,0,t,0⟩
 ·rfl
 ·simp only[cond_true];rw[Bd (by simp only[Job.tot];omega) (by simp only[Job.tot];omega)];rfl
theorem yF (m:Model) (t:aF):(dH m t).1.tot<=m.tot+t.tot:=by
 unfold dH;cases wF ⟨m,0,t,0⟩
 ·exact Wy _
 ·simp only[cond_true,Job.tot];omega
end
section
theorem Be (w a:Nat):(BitVec.ofInt w (a:Int)).toNat=a %2^w:=by
 simp
theorem TI {a b n:Nat} (ha:a<2^n) (hb:b*2^n+a<9223372036854775808):
  i64.wrap (((BitVec.ofInt i64.bits (a:Int)||| BitVec.ofInt i64.bits ((b*2^n:Nat):Int)).toNat:Nat):Int)=((a+b*2^n:Nat):Int):=by
 have h1:a %2^64=a:=WC (by omega);have h2:(b*2^n) %2^64=b*2^n:=WC (by omega)
 have h3:a||| b*2^n=a+b*2^n:=by
  have:=Nat.two_pow_add_eq_or_of_lt ha b;rw[Nat.or_comm,Ws b,<-this,Nat.add_comm]
 have e:(BitVec.ofInt i64.bits (a:Int)||| BitVec.ofInt i64.bits ((b*2^n:Nat):Int)).toNat=a+b*2^n:=by
  rw[BitVec.toNat_or,Be,Be];show a %2^64||| (b*2^n) %2^64=_;rw[h1,h2,h3]
 rw[e,aE (by omega) (by omega)]
theorem Sn {c:Nat} (h:c<256):i64.wrap (u8.wrap (((BitVec.ofInt u8.bits (c:Int)&&& BitVec.ofInt u8.bits (127:Int)).toNat:Nat):Int))=((c %128:Nat):Int):=by
 have e:(BitVec.ofInt u8.bits (c:Int)&&& BitVec.ofInt u8.bits (127:Int)).toNat=c %128:=by
  rw[BitVec.toNat_and,Be];show c %2^8&&& 127=_;rw[WC (by omega)];exact Nat.and_two_pow_sub_one_eq_mod c 7
 rw[e,N4 (by omega) (by omega),aE (by omega) (by omega)]
def rW (b:List Int) (at_:Nat):Nat->Nat->Nat->Int× Int
  |0,_,_=>(0,-1)
  | f + 1, i, u =>
    match b[at_+i]? with
    |none=>(0,-1)
    | some c =>
      cond (decide (128<=c.toNat)) (rW b at_ f (i+1) (u+c.toNat %128*2^(7*i)))
        (cond ((decide (0<i)&&decide (c.toNat=0))||decide (2199023255551<u+c.toNat %128*2^(7*i))) (0,-1)
          (cond (decide ((u+c.toNat %128*2^(7*i)) %2=1)) (-(((u+c.toNat %128*2^(7*i)+1)/2:Nat):Int)) (((u+c.toNat %128*2^(7*i))/2:Nat):Int),((at_+i+1:Nat):Int)))
def ft (b:List Int) (at_:Int):Int× Int:=cond (decide (0<=at_)) (rW b at_.toNat 6 0 0) (0,-1)
theorem Du {i:Nat} (hi:i<6):(2:Int)^(min (u64.wrap (i64.wrap ((7:Int)*(i:Int)))).toNat i64.bits)=((2^(7*i):Nat):Int)/\
  (2:Int)^(min (i64.wrap ((7:Int)*(i:Int))).toNat i64.bits)=((2^(7*i):Nat):Int):=by
 have:i=0\/i=1\/i=2\/i=3\/i=4\/i=5:=by omega
 rcases this with rfl|rfl|rfl|rfl|rfl|rfl<;>exact⟨by kernel_rfl,by kernel_rfl⟩
theorem EZ {i u c:Nat} (hi:i<6) (hu:u<2^(7*i)):u+c %128*2^(7*i)<2^(7*(i+1))/\2^(7*(i+1))<=4398046511104:=by
 have h1:2^(7*(i+1))=128*2^(7*i):=by rw[show 7*(i+1)=7*i+7 from by omega,Nat.pow_add];omega
 have h2:c %128*2^(7*i)<=127*2^(7*i):=V9 _ (by omega);refine⟨by omega,?_⟩
 have:i=0\/i=1\/i=2\/i=3\/i=4\/i=5:=by omega
 rcases this with rfl|rfl|rfl|rfl|rfl|rfl<;>decide
theorem Qn {i u n:Nat} (hi:i<6) (hu:u<2^(7*i)) (hn:n<256):
  i64.wrap ((u:Int)+(i64.wrap (((i64.wrap (n:Int)).tmod (128:Int))*2^(min (u64.wrap (i64.wrap ((7:Int)*(i:Int)))).toNat i64.bits))))=((u+n %128*2^(7*i):Nat):Int):=by
 have h:=EZ (c:=n) hi hu;have e:((n:Int).tmod 128)=((n %128:Nat):Int):=rfl;rw[aE (n:=(n:Int)) (by omega) (by omega),(Du hi).1,e,<-W0,aE (n:=((n %128*2^(7*i):Nat):Int)) (by omega) (by omega),<-Int.natCast_add,aE (by omega) (by omega)]
theorem Qo {U:Nat} (h:U<4398046511104):i64.wrap ((i64.wrap (0-(i64.wrap ((U:Int)+(1:Int))))).tdiv (2:Int))=-(((U+1)/2:Nat):Int):=by
 have e:(-(((U+1:Nat):Int))).tdiv 2=-(((U+1)/2:Nat):Int):=by rw[Int.neg_tdiv];rfl
 rw[aE (n:=(U:Int)+1) (by omega) (by omega),aE (n:=0-((U:Int)+1)) (by omega) (by omega),show(0:Int)-((U:Int)+1)=-((U+1:Nat):Int)from by omega,e,aE (by omega) (by omega)]
theorem Bf {U:Nat} (h:U<4398046511104):i64.wrap ((U:Int).tdiv (2:Int))=((U/2:Nat):Int):=by
 have e:(U:Int).tdiv 2=((U/2:Nat):Int):=rfl;rw[e,aE (by omega) (by omega)]
theorem Kl (U:Nat):((U:Int).tmod 2==(1:Int))=decide (U %2=1):=by
 have e:(U:Int).tmod 2=((U %2:Nat):Int):=rfl;rw[I5,e]
 congr 1
 rw[eq_iff_iff];omega
theorem Bg {b:List Int} {a kk:Nat} (hb:∀x∈b,okB x) (hl:b.length<=aU):∀(f i u k:Nat),i+f=6->u<2^(7*i)->f<k->
  iter (λu4 n4=>gY kk (b,(a:Int)) u4 n4 (λy2=>some ((0:Int),(-1:Int))) (λy3=>some (y3.1,y3.2))) k ((u:Int),(i:Int))=some (rW b a f i u)
 |f,i,u,0,_,_,hk=>by omega
 |0,i,u,k+1,hi,_,_=>by
  rw[aI];simp only[gY]
  rw[ab,if_neg (by omega)];rfl
 |f+1,i,u,k+1,hi,hu,hk=>by
  have hM:=al
  have hi6:i<6:=by omega
  rw[aI];simp only[gY,rW];rw[ab,if_pos (by omega),ab,if_neg (by omega),aE (n:=(b.length:Int)-(i:Int)) (by omega) (by omega),ab];by_cases hin:a+i<b.length
  ·rw[if_neg (by omega),aE (n:=(a:Int)+(i:Int)) (by omega) (by omega),show(a:Int)+(i:Int)=((a+i:Nat):Int)from by omega,aL,aj hin,aa];have hc:=hb b[a+i] (VV hin);unfold okB at hc;obtain⟨n,hn⟩:∃n:Nat,b[a+i]=(n:Int):=⟨b[a+i].toNat,by omega⟩;rw[hn]at hc⊢
   have hn256:n<256:=by omega
   obtain⟨w1,w2⟩:=EZ (c:=n) hi6 hu
   have hU:u+n %128*2^(7*i)<4398046511104:=by omega
   simp only[Qn hi6 hu hn256,Qo hU,Bf hU,Kl,VQ]
   have hsh:u64.wrap (i64.wrap ((7:Int)*(i:Int)))=((7*i:Nat):Int):=by
    have:i=0\/i=1\/i=2\/i=3\/i=4\/i=5:=by omega
    rcases this with rfl|rfl|rfl|rfl|rfl|rfl<;>decide
   rw[hsh,ab,if_neg (by omega),aE (n:=(n:Int)) (by omega) (by omega),aE (n:=((a+i:Nat):Int)+1) (by omega) (by omega),aE (n:=(i:Int)+1) (by omega) (by omega),ab];by_cases h128:128<=n
   ·rw[if_neg (by omega),decide_eq_true h128,cond_true];exact Bg (kk:=kk) hb hl f (i+1) _ k (by omega) w1 (by omega)
   ·rw[if_pos (by omega),decide_eq_false h128,cond_false,I5]
    have e1:decide ((n:Int)=0)=decide (n=0):=by congr 1;rw[eq_iff_iff];omega
    have e2:decide ((i:Int)>0)=decide (0<i):=by congr 1;rw[eq_iff_iff];omega
    have e3:((a+i:Nat):Int)+1=((a+i+1:Nat):Int):=by omega
    have e4:decide ((((u+n %128*2^(7*i)):Nat):Int)>2199023255551)=decide (2199023255551<(u+n %128*2^(7*i))):=by congr 1;rw[eq_iff_iff];omega
    rw[e1,e2,e3,e4];cases decide (2199023255551<(u+n %128*2^(7*i)))<;>cases decide (n=0)<;>cases decide (0<i)<;>cases decide ((u+n %128*2^(7*i)) %2=1)<;>rfl
  ·rw[if_pos (by omega),Wl (by omega)]
theorem E0 {k:Nat} {b:List Int} {a:Int} (hk:7<=k) (hb:∀x∈b,okB x) (hl:b.length<=aU):s6 k b a=some (ft b a):=by
 unfold s6 ft;by_cases h:0<=a
 ·rw[decide_eq_true h,cond_true];have:=Bg (kk:=k) (a:=a.toNat) hb hl 6 0 0 k rfl (by decide) (by omega);rw[Int.toNat_of_nonneg h]at this;exact this
 ·rw[decide_eq_false h,cond_false];obtain⟨k,rfl⟩:∃k',k=k'+1:=⟨k-1,by omega⟩;rw[aI];simp only[gY];rw[ab,if_pos (by omega),ab,if_pos (by omega)]
theorem Sp {i u n:Nat} (hi:i<6) (hu:u<2^(7*i)) (hn:n<256):
  i64.wrap (((BitVec.ofInt i64.bits (u:Int)||| BitVec.ofInt i64.bits (i64.wrap ((i64.wrap (u8.wrap (((BitVec.ofInt u8.bits (n:Int)&&& BitVec.ofInt u8.bits (127:Int)).toNat:Int))))*2^(min (i64.wrap ((7:Int)*(i:Int))).toNat i64.bits)))).toNat:Int))=((u+n %128*2^(7*i):Nat):Int):=by
 have h:=EZ (c:=n) hi hu;rw[Sn hn,(Du hi).2,<-W0,aE (n:=((n %128*2^(7*i):Nat):Int)) (by omega) (by omega),TI hu (by omega)]
theorem Oc {U:Nat} (h:U<4398046511104) (ho:U %2=1):i64.wrap ((i64.wrap (0-(i64.wrap ((U:Int).tdiv (2:Int)))))-(1:Int))=-(((U+1)/2:Nat):Int):=by
 rw[Bf h,aE (n:=0-((U/2:Nat):Int)) (by omega) (by omega),aE (by omega) (by omega)];omega
theorem Ja (k:Nat) (x:Int):qn k x=some (inB x (-1099511627776) 1099511627775):=by unfold qn;rw[fV];rfl
theorem Bh {b l:List Int} {a kk:Nat} (hb:∀x∈b,okB x) (hlN:b.length<=aU) (hl:l=(b.take (min (a+6) b.length)).drop a) (ha:a<=b.length):∀(f i u k:Nat),i+f=6->u<2^(7*i)->f<k->
    iter (λu9 n9=>jS kk ((a:Int),l,(l.length:Int)) u9 n9 (λy7=>some ((0:Int),(-1:Int))) (λy8=>some (y8.1,y8.2))) k ((u:Int),(i:Int))=some (rW b a f i u)
  |f,i,u,0,_,_,hk=>by omega
  | 0, i, u, k + 1, hi, _, _ => by
    have hll:l.length<=6:=by rw[hl];simp;omega
    rw[aI];simp only[jS]
    rw[ab,if_neg (by omega)];rfl
  | f + 1, i, u, k + 1, hi, hu, hk => by
    have hM:=al
    have hi6:i<6:=by omega
    have hll:l.length=min 6 (b.length-a):=by rw[hl];simp;omega
    rw[aI];generalize hnx:iter _ k=nx;simp only[jS,rW];by_cases hin:a+i<b.length
    · have hli:i<l.length:=by omega
      have Ad:l[i]=b[a+i]:=by subst hl;simp
      rw[ab,if_pos (by omega),aL,aj hli,aa,aj hin,Ad];have hc:=hb b[a+i] (VV hin);unfold okB at hc;obtain⟨n,hn⟩:∃n:Nat,b[a+i]=(n:Int):=⟨b[a+i].toNat,by omega⟩;rw[hn]at hc⊢
      have hn256:n<256:=by omega
      obtain⟨w1,w2⟩:=EZ (c:=n) hi6 hu
      have hU:u+n %128*2^(7*i)<4398046511104:=by omega
      have hsh:i64.wrap ((7:Int)*(i:Int))=((7*i:Nat):Int):=by
        rw[aE (by omega) (by omega)];omega
      have hnn:¬(i64.wrap ((7:Int)*(i:Int))<0):=by rw[hsh];omega
      rw[decide_eq_false hnn,cond_false];simp only[Sp hi6 hu hn256,Kl,VQ,Ja,aa,dN];rw[aE (n:=(a:Int)+(i:Int)) (by omega) (by omega),show(a:Int)+(i:Int)=((a+i:Nat):Int)from by omega,aE (n:=((a+i:Nat):Int)+1) (by omega) (by omega),aE (n:=(i:Int)+1) (by omega) (by omega),ab];by_cases h128:128<=n
      · rw[if_pos (by omega),decide_eq_true h128,cond_true];rw[<-hnx];exact Bh (kk:=kk) hb hlN hl ha f (i+1) _ k (by omega) w1 (by omega)
      · rw [if_neg (by omega), decide_eq_false h128, cond_false, I5]
        have e1:decide ((n:Int)=0)=decide (n=0):=by congr 1;rw[eq_iff_iff];omega
        have e2:decide ((i:Int)>0)=decide (0<i):=by congr 1;rw[eq_iff_iff];omega
        have e3:((a+i:Nat):Int)+1=((a+i+1:Nat):Int):=by omega
        rw[e1,e2,e3];by_cases ho:(u+n %128*2^(7*i)) %2=1
        · rw[decide_eq_true ho,Oc hU ho]
          have e4:inB (-(((u+n %128*2^(7*i)+1)/2:Nat):Int)) (-1099511627776) 1099511627775=!decide (2199023255551<(u+n %128*2^(7*i))):=by
            rw[X3,cd,XQ,decide_eq_false_iff_not];constructor<;>intro h<;>omega
          rw[e4];cases decide (2199023255551<(u+n %128*2^(7*i)))<;>cases decide (n=0)<;>cases decide (0<i)<;>rfl
        · rw[decide_eq_false ho,Bf hU]
          have e4:inB (((u+n %128*2^(7*i))/2:Nat):Int) (-1099511627776) 1099511627775=!decide (2199023255551<(u+n %128*2^(7*i))):=by
            rw[X3,cd,XQ,decide_eq_false_iff_not];constructor<;>intro h<;>omega
          rw[e4];cases decide (2199023255551<(u+n %128*2^(7*i)))<;>cases decide (n=0)<;>cases decide (0<i)<;>rfl
    · rw[ab,if_neg (by omega),Wl (by omega)]
theorem E3 {k:Nat} {b:List Int} {a:Int} (hk:7<=k) (hb:∀x∈b,okB x) (hl:b.length<=aU):s7 k b a=some (ft b a):=by
  have hM:=al;unfold s7 ft;rw[fV,aa,dN,aE (n:=(b.length:Int)-1) (by omega) (by omega)];by_cases h:0<=a
  · rw [decide_eq_true h, cond_true];by_cases h2:a<b.length
    · have e:inB a 0 ((b.length:Int)-1)=true:=cd.2 (by omega)
      have e6:(if i64.wrap (a+6)<(b.length:Int)then i64.wrap (a+6)else(b.length:Int))=((min (a.toNat+6) b.length:Nat):Int):=by
        rw[aE (by omega) (by omega)];split<;>omega
      rw[e,cond_true,e6,ab,if_pos (by omega),ab,if_pos (by omega),VQ];have:=Bh (kk:=k) (l:=(b.take (min (a.toNat+6) b.length)).drop a.toNat) (a:=a.toNat) hb hl rfl (by omega) 6 0 0 k rfl (by decide) (by omega);rw[Int.toNat_of_nonneg h]at this;exact this
    · have e:inB a 0 ((b.length:Int)-1)=false:=by rw[<-Bool.not_eq_true,cd];omega
      rw[e,cond_false];simp only[rW];rw[Wl (by omega)]
  · have e:inB a 0 ((b.length:Int)-1)=false:=by rw[<-Bool.not_eq_true,cd];omega
    rw[decide_eq_false h,cond_false,e];rfl
end
section
def aY (b:List Int) (at_:Int) (bad:Bool):Int× Int× Bool:=
 cond bad (0,at_,true) (cond (decide ((ft b at_).2<0)) (0,at_,true) ((ft b at_).1,(ft b at_).2,false))
theorem ow {k:Nat} {b:List Int} {a:Int} {bad:Bool} (hk:7<=k) (hb:∀x∈b,okB x) (hl:b.length<=aU):cO k b a bad=some (aY b a bad):=by
 unfold cO aY;simp only[E0 hk hb hl,aa,decide_true,cond_true];cases bad<;>cases decide ((ft b a).2<0)<;>rfl
theorem ns {k:Nat} {b:List Int} {a:Int} {bad:Bool} (hk:7<=k) (hb:∀x∈b,okB x) (hl:b.length<=aU):aJ k ⟨b,a,bad⟩=some (aY b a bad):=by
 unfold aJ aY;simp only[E3 hk hb hl,aa,decide_true,cond_true];cases bad<;>cases decide ((ft b a).2<0)<;>rfl
end
section
theorem Dv {b:List Int} {a:Nat}:∀(f i u:Nat),(rW b a f i u).2=-1\/((a:Int)<(rW b a f i u).2/\(rW b a f i u).2<=b.length)
 |0,i,u=>.inl rfl
 |f+1,i,u=>by
  simp only[rW]
  cases hc:b[a+i]? with
  |none=>exact .inl rfl
  |some c=>
   have hlt:=(Of.1 hc).1;simp only;cases decide (128<=c.toNat)
   ·simp only[cond_false];cases((decide (0<i)&&decide (c.toNat=0))||decide (2199023255551<u+c.toNat %128*2^(7*i)))
    ·simp only[cond_false];right;omega
    ·exact .inl rfl
   ·exact Dv f (i+1) _
theorem GX (b:List Int) (a:Int):(ft b a).2=-1\/(0<=a/\a<(ft b a).2/\(ft b a).2<=b.length):=by
 unfold ft;by_cases h:0<=a
 ·rw[decide_eq_true h,cond_true]
  rcases Dv (b:=b) (a:=a.toNat) 6 0 0 with h1|h1
  ·exact .inl h1
  ·right;omega
 ·rw[decide_eq_false h];exact .inl rfl
def TJ (b:List Int) (a:Int):Option (Int× Int):=cond (decide ((ft b a).2<0)) none (some (ft b a))
theorem Qp {b:List Int} {a x p:Int} (h:TJ b a=some (x,p)):0<=a/\a<p/\p<=b.length:=by
 unfold TJ at h
 rcases GX b a with h1|h1
 ·rw[h1]at h;exact nomatch h
 ·rw[decide_eq_false (by omega),cond_false,It]at h;rw[h]at h1;exact h1
theorem E4 (b:List Int) (a:Int):aY b a false=(TJ b a).elim (0,a,true) λq=>(q.1,q.2,false):=by
 unfold aY TJ;cases decide ((ft b a).2<0)<;>rfl
def ch (b:List Int) (a:Int) (bad:Bool) (most:Int):Int× Int× Bool:=cond (inB (aY b a bad).1 0 most) (aY b a bad) (0,(aY b a bad).2.1,true)
theorem Dw {k:Nat} {b:List Int} {a most:Int} {bad:Bool} (hk:7<=k) (hb:∀x∈b,okB x) (hl:b.length<=aU):dM k ⟨b,a,bad⟩ most=some (ch b a bad most):=by
 unfold dM ch;simp only[ns hk hb hl,fV,aa,decide_true,cond_true,dN];cases inB (aY b a bad).1 0 most<;>rfl
theorem LJ {k:Nat} {b:List Int} {a:Int} {bad:Bool} (hk:7<=k) (hb:∀x∈b,okB x) (hl:b.length<=aU):eY k ⟨b,a,bad⟩=
  some (let r1:=aY b a bad;let r2:=aY b r1.2.1 r1.2.2;let r3:=aY b r2.2.1 r2.2.2;(⟨r1.1,r2.1,r3.1⟩,r3.2.1,r3.2.2)):=by
 unfold eY;simp only[ns hk hb hl,aa,decide_true,cond_true]
end
section
section
variable {R:Type} {k:Nat} {b:List Int} {m:Int} {q1 q2 q3 q4 q5 q6 q7 q8 q9 q10 q11 q12:Int} {d:List Int} {fin:Int× Bool× List Int->Option R}
end
end
section
section
variable {R:Type} {k:Nat} {b:List Int} {m:Int} {q1 q2 q3 q4 q5 q6 q7 q8 q9 q10 q11 q12:Int} {d:List Int} {fin:Int× Bool× List Int->Option R}
end
end
section
def rX (s x:Int):Int:=(i64.wrap ((i64.wrap ((i64.wrap ((257:Int)*s))+(i64.wrap x)))+(1:Int))).tmod (1000003:Int)
def zc (b:List Int):Int:=b.foldl rX 1
theorem Dx {k:Nat} {b:List Int} (hk:b.length<k) (hl:b.length<=aU):xv k b=some (zc b):=by
 have hM:=al;unfold xv
 exact rL b rX (g:=λu next=>py k b u next (λy2=>some y2)) (fin:=some) 1 (λi s hi next _=>by
  simp only[py]
  rw[ab,if_pos (by omega),aL,aj hi,aa,aq hi (by omega)];rfl) (λnext=>by
  simp only[py];rw[ab,if_neg (by omega)]) hk
theorem LK {k:Nat} {b:List Int} (hk:b.length<k) (hl:b.length<=aU):A7 k b=some (zc b):=by
 have hM:=al;unfold A7
 exact rL b rX (g:=λu next=>pz k (b,(b.length:Int)) u next (λy2=>some y2)) (fin:=some) 1 (λi s hi next _=>by
  simp only[pz]
  rw[ab,if_pos (by omega),aL,aj hi,aa,aq hi (by omega),Int.mul_comm s 257];rfl) (λnext=>by
  simp only[pz];rw[ab,if_neg (by omega)]) hk
section
variable {R:Type} {k:Nat} {b:List Int} {m:Int}
end
end
set_option maxRecDepth 100000
set_option maxHeartbeats 4000000
section
def yG (b:List Int):Nat->Int->Bool->List Int->List Int× Int× Bool
 |0,a,bad,ys=>(ys,a,bad)
 |n+1,a,bad,ys=>cond bad (ys,a,bad) (yG b n (aY b a bad).2.1 (aY b a bad).2.2 (ys++[(aY b a bad).1]))
def tf (b:List Int) (a:Int) (bad:Bool):List Int× Int× Bool:=yG b (ch b a bad 2000).1.toNat (ch b a bad 2000).2.1 (ch b a bad 2000).2.2 []
section
variable {k:Nat} {b:List Int} (hk:7<=k) (hb:∀x∈b,okB x) (hl:b.length<=aU)
include hk hb hl
theorem Dy {a:Int} {bad:Bool}:lB k b a bad=some (ch b a bad 2000):=by
 unfold lB ch;simp only[ow hk hb hl,cp,aa,decide_true,cond_true,dN];cases inB (aY b a bad).1 0 2000<;>rfl
theorem Bi {R:Type} {fin:List Int× Int× Bool->Option R} {m:Int}:∀(n:Nat) (i a:Int) (bad:Bool) (ys:List Int) (kf:Nat),n<kf->m=i+n->0<=i->m<=100000->ys.length+n<=100000->
  iter (λu4 n4=>fi k (m,b) u4 n4 fin) kf (i,a,bad,ys)=fin (yG b n a bad ys)
 |_,_,_,_,_,0,h,_,_,_,_=>by omega
 |0,i,a,bad,ys,kf+1,_,hm,_,_,_=>by
  rw[aI];show fi k (m,b) _ _ fin=_;unfold fi;simp only
  rw[decide_eq_false (by omega)];rfl
 |n+1,i,a,bad,ys,kf+1,hkf,hm,hi,hm2,hy=>by
  have hM:=al;rw[aI];show fi k (m,b) _ _ fin=_;unfold fi yG;simp only;rw[decide_eq_true (by omega),cond_true];cases bad
  ·simp only[Wj,cond_true,cond_false];rw[ow hk hb hl,aa,bJ (by simp;omega),aE (by omega) (by omega)];exact Bi n (i+1) _ _ _ kf (by omega) (by omega) (by omega) hm2 (by simp;omega)
  ·rfl
theorem Bj {R:Type} {fin:List Int× Int× Bool->Option R}:∀(n:Nat) (a:Int) (bad:Bool) (ys:List Int) (kf:Nat),n<kf->ys.length+n<=100000->
  iter (λu4 n4=>ca k b u4 n4 fin) kf ((n:Int),a,bad,ys)=fin (yG b n a bad ys)
 |_,_,_,_,0,h,_=>by omega
 |0,a,bad,ys,kf+1,_,_=>by
  rw[aI];show ca k b _ _ fin=_;unfold ca;simp only
  rw[decide_eq_false (by omega)];rfl
 |n+1,a,bad,ys,kf+1,hkf,hy=>by
  have hM:=al;rw[aI];show ca k b _ _ fin=_;unfold ca yG;simp only;rw[decide_eq_true (by omega),cond_true];cases bad
  ·simp only[Wj,cond_true,cond_false];rw[ns hk hb hl,aa,bJ (by simp;omega),aE (by omega) (by omega),show((n+1:Nat):Int)-1=(n:Int)from by omega];exact Bj n _ _ _ kf (by omega) (by simp;omega)
  ·rfl
omit hk hb hl in
theorem tj (b:List Int) (a:Int) (bad:Bool):0<=(ch b a bad 2000).1/\(ch b a bad 2000).1<=2000:=by
 unfold ch;cases h:inB (aY b a bad).1 0 2000
 ·simp only[cond_false];omega
 ·exact of_decide_eq_true h
theorem Od (h3:2001<k) {a:Int} {bad:Bool}:np k b a bad=some (tf b a bad):=by
 have hc:=tj b a bad;unfold np;rw[Dy hk hb hl,aa];exact(Bi hk hb hl (m:=(ch b a bad 2000).1) (fin:=λy3=>cond (decide (b=b)) (some (y3.1,y3.2.1,y3.2.2)) none) (ch b a bad 2000).1.toNat 0 _ _ [] k (by omega) (by omega) (by omega) (by omega) (by simp;omega)).trans (by rw[decide_eq_true rfl];rfl)
theorem LM (h3:2001<k) {a:Int} {bad:Bool}:dX k ⟨b,a,bad⟩ 2000=some (tf b a bad):=by
 have hc:=tj b a bad;unfold dX;rw[Dw hk hb hl,aa];have:=Bj hk hb hl (fin:=λy3=>cond (decide (b=b)) (some (y3.1,y3.2.1,y3.2.2)) none) (ch b a bad 2000).1.toNat (ch b a bad 2000).2.1 (ch b a bad 2000).2.2 [] k (by omega) (by simp;omega);rw[show(((ch b a bad 2000).1.toNat:Nat):Int)=(ch b a bad 2000).1 from by omega]at this;exact this.trans (by rw[decide_eq_true rfl];rfl)
omit hk hb hl in
theorem Dz (b:List Int):∀(n:Nat) (a:Int) (bad:Bool) (ys:List Int),(yG b n a bad ys).1.length<=ys.length+n
 |0,_,_,_=>Wc _
 |n+1,a,bad,ys=>by
  unfold yG;cases bad
  ·have:=Dz b n (aY b a false).2.1 (aY b a false).2.2 (ys++[(aY b a false).1]);simp only[cond_false];simp only[VR,VS,V5]at this;omega
  ·simp only[cond_true];omega
omit hk hb hl in
theorem yH (b:List Int) (a:Int) (bad:Bool):(tf b a bad).1.length<=2000:=by
 have hc:=tj b a bad;have:=Dz b (ch b a bad 2000).1.toNat (ch b a bad 2000).2.1 (ch b a bad 2000).2.2 [];unfold tf;simp only[V5]at this;omega
end
def di (b:List Int) (a:Int) (bad:Bool):av× Int× Bool:=
 let r1:=aY b a bad;let r2:=aY b r1.2.1 r1.2.2;let r3:=aY b r2.2.1 r2.2.2;let r4:=aY b r3.2.1 r3.2.2;let r5:=aY b r4.2.1 r4.2.2;let r6:=aY b r5.2.1 r5.2.2;let r7:=aY b r6.2.1 r6.2.2
 let r8:=tf b r7.2.1 r7.2.2;let r9:=tf b r8.2.1 r8.2.2
 (⟨r1.1,r2.1,r3.1,r4.1,r5.1,r6.1,r7.1,r8.1,r9.1⟩,r9.2.1,r9.2.2)
def rY (b:List Int):Nat->Int->Bool->List av->Int× Bool× List av
 |0,a,bad,ys=>(a,bad,ys)
 |n+1,a,bad,ys=>cond bad (a,bad,ys) (rY b n (di b a bad).2.1 (di b a bad).2.2 (ys++[(di b a bad).1]))
def eI (b:List Int):Model× Int:=
 cond (decide ((b.length:Int)>6000)) (dt,5) (cond (!decide (b.take 3=[80,77,49])) (dt,1)
  (let r2:=aY b 3 false;let r3:=aY b r2.2.1 r2.2.2;let r4:=aY b r3.2.1 r3.2.2;let r5:=ch b r4.2.1 r4.2.2 2000;let y:=rY b r5.1.toNat r5.2.1 r5.2.2 [];let r6:=aY b y.1 y.2.1
  cond r6.2.2 (dt,2) (cond (r6.1 !=zc ((b.take y.1.toNat).drop 0)) (dt,3) (cond (r6.2.1 !=(b.length:Int)) (dt,3)
   (cond (!eH ⟨⟨r2.1,r3.1,r4.1⟩,y.2.2⟩) (dt,4) (⟨⟨r2.1,r3.1,r4.1⟩,y.2.2⟩,0))))))
theorem E5 (b:List Int) (a:Int) (bad:Bool):(di b a bad).1.tot<=2000+(2000+0):=Nat.add_le_add (yH b _ _) (Nat.add_le_add (yH b _ _) (Wc 0))
theorem tl (b:List Int):∀(n:Nat) (a:Int) (bad:Bool) (ys:List av),jj av.tot (rY b n a bad ys).2.2<=jj av.tot ys+4001*n
 |0,_,_,_=>Wc _
 |n+1,a,bad,ys=>by
  unfold rY;cases bad
  ·have:=tl b n (di b a false).2.1 (di b a false).2.2 (ys++[(di b a false).1]);have hL:=E5 b a false;rw[qc]at this
   have h1:jj av.tot [(di b a false).1]=(di b a false).1.tot+1:=by simp[jj];omega
   simp only[cond_false];omega
  ·simp only[cond_true];omega
section
variable {k:Nat} {b:List Int} (hk:9000000<=k) (hb:∀x∈b,okB x) (hl:b.length<=aU)
include hk hb hl
theorem LN {a:Int} {bad:Bool}:eZ k ⟨b,a,bad⟩=some (di b a bad):=by
 unfold eZ di;simp only[ns (show 7<=k by omega) hb hl,LM (show 7<=k by omega) hb hl (show 2001<k by omega),aa,decide_true,cond_true]
theorem we {R:Type} {fin:Int× Bool× List av->Option R} {m q1 q2 q3 q4 q5 q6 q7 q8 q9:Int}:∀(n:Nat) (i a:Int) (bad:Bool) (ys:List av) (kf:Nat),n<kf->m=i+n->0<=i->m<=100000->ys.length+n<=100000->
  iter (λu19 n19=>cY k (b,m,q1,q2,q3,q4,q5,q6,b,q7,q8,q9) u19 n19 fin) kf (i,a,bad,ys)=fin (rY b n a bad ys)
 |_,_,_,_,_,0,h,_,_,_,_=>by omega
 |0,i,a,bad,ys,kf+1,_,hm,_,_,_=>by
  rw[aI];show cY k _ _ _ fin=_;unfold cY;simp only
  rw[decide_eq_false (by omega)];rfl
 |n+1,i,a,bad,ys,kf+1,hkf,hm,hi,hm2,hy=>by
  have hM:=al;rw[aI];cases bad
  ·have st:∀next,cY k (b,m,q1,q2,q3,q4,q5,q6,b,q7,q8,q9) (i,a,false,ys) next fin=next (i+1,(di b a false).2.1,(di b a false).2.2,ys++[(di b a false).1]):=λnext=>by
    unfold cY;simp only;rw[decide_eq_true (by omega),cond_true];simp only[Wj,cond_true,ow (show 7<=k by omega) hb hl,Od (show 7<=k by omega) hb hl (show 2001<k by omega),aa];rw[bJ (by omega),aE (by omega) (by omega)];rfl
   exact(st _).trans (we n (i+1) (di b a false).2.1 (di b a false).2.2 (ys++[(di b a false).1]) kf (by omega) (by omega) (by omega) hm2 (by rw[VR];simp only[VS,V5];omega))
  ·show cY k _ _ _ fin=_;unfold cY;simp only;rw[decide_eq_true (by omega),cond_true];rfl
theorem wg {R:Type} {fin:Int× Bool× List av->Option R} {q1 q2 q3 q7 q8 q9:Int}:∀(n:Nat) (a:Int) (bad:Bool) (ys:List av) (kf:Nat),n<kf->ys.length+n<=100000->
  iter (λu9 n9=>dQ k (b,q1,q2,q3,b,q7,q8,q9) u9 n9 fin) kf ((n:Int),a,bad,ys)=fin (rY b n a bad ys)
 |_,_,_,_,0,h,_=>by omega
 |0,a,bad,ys,kf+1,_,_=>by
  rw[aI];show dQ k _ _ _ fin=_;unfold dQ;simp only
  rw[decide_eq_false (by omega)];rfl
 |n+1,a,bad,ys,kf+1,hkf,hy=>by
  have hM:=al;rw[aI];show dQ k _ _ _ fin=_;unfold dQ rY;simp only;rw[decide_eq_true (by omega),cond_true];cases bad
  ·simp only[Wj,cond_true,cond_false];rw[LN hk hb hl,aa,bJ (by omega),aE (by omega) (by omega),show((n+1:Nat):Int)-1=(n:Int)from by omega];exact wg (fin:=fin) (q1:=q1) (q2:=q2) (q3:=q3) (q7:=q7) (q8:=q8) (q9:=q9) n (di b a false).2.1 (di b a false).2.2 (ys++[(di b a false).1]) kf (by omega) (by rw[VR];simp only[VS,V5];omega)
  ·rfl
end
theorem Bl {b:List Int} {a:Int} {bad:Bool} (h:(aY b a bad).2.2=false):0<=a/\a<=b.length:=by
 cases bad
 ·rw[E4]at h
  cases hn:TJ b a with
  |none=>rw[hn]at h;exact nomatch h
  |some q=>have:=Qp (x:=q.1) (p:=q.2) hn;omega
 ·exact nomatch h
theorem TK {b:List Int}:(decide ((b.length:Int)>=3)=false/\decide (b.take 3=[80,77,49])=false)\/∃x y z l,b=x::y::z::l:=by
 match b with
 |[]=>exact .inl ⟨rfl,rfl⟩
 |[x]=>exact .inl ⟨rfl,by simp⟩
 |[x,y]=>exact .inl ⟨rfl,by simp⟩
 |x::y::z::l=>exact .inr ⟨x,y,z,l,rfl⟩
theorem GY (k:Nat) (b:List Int):vS k b=some (decide (b.take 3=[80,77,49])):=by
 unfold vS
 rcases TK (b:=b)with⟨h1,h2⟩|⟨x,y,z,l,rfl⟩
 ·rw[h1,h2];rfl
 ·rw[decide_eq_true (by simp;omega),cond_true];have e0:idx (x::y::z::l) 0=some x:=rfl;have e1:idx (x::y::z::l) 1=some y:=rfl;have e2:idx (x::y::z::l) 2=some z:=rfl;rw[e0,e1,e2];simp only[aa,List.take_succ_cons,List.take_zero,WS,and_true,Bool.decide_and,I5];cases decide (x=80)<;>cases decide (y=77)<;>rfl
theorem E6 {k:Nat} {b:List Int} (hb:∀x∈b,okB x) (hl:b.length<=aU):jT k b [80,77,49]=some (decide (b.take 3=[80,77,49])):=by
 have hM:=al;unfold jT;rw[ab];by_cases h:(b.length:Int)>=(([80,77,49]:List Int).length:Int)
 ·have h':3<=b.length:=by simp at h;omega
  rw[if_pos h,decide_eq_true (show 0<=((([80,77,49]:List Int).length:Nat):Int)/\((([80,77,49]:List Int).length:Nat):Int)<=(b.length:Int) by simp;omega),cond_true,List.drop_zero];rw[show((([80,77,49]:List Int).length:Nat):Int).toNat=3 from rfl];rw[Ct (λx hx=>hb x (XH hx)) (λx hx=>by simp at hx;rcases hx with rfl|rfl|rfl<;>exact⟨by omega,by omega⟩),aa]
 ·rw[if_neg h]
  rcases TK (b:=b)with⟨_,h2⟩|⟨x,y,z,l,rfl⟩
  ·rw[h2]
  ·simp at h;omega
section
variable {k:Nat} {b:List Int} (hk:9000000<=k) (hb:∀x∈b,okB x) (hl:b.length<=aU)
include hk hb hl
theorem zd:mn k b=some (eI b):=by
 have hM:=al;unfold mn eI;by_cases c:(b.length:Int)>6000
 ·rw[decide_eq_true c];rfl
 rw[decide_eq_false c,cond_false,cond_false,GY,aa];cases decide (b.take 3=[80,77,49])
 ·rfl
 simp only[VT,cond_false,ow (show 7<=k by omega) hb hl,Dy (show 7<=k by omega) hb hl,aa];generalize aY b 3 false=r2;generalize aY b r2.2.1 r2.2.2=r3;generalize aY b r3.2.1 r3.2.2=r4;have hc:=tj b r4.2.1 r4.2.2;generalize ch b r4.2.1 r4.2.2 2000=r5 at hc;refine(we hk hb hl r5.1.toNat 0 _ _ [] k (by omega) (by omega) (by omega) (by omega) (by simp;omega)).trans ?_;have ht:=tl b r5.1.toNat r5.2.1 r5.2.2 [];rw[show jj av.tot []=0 from rfl]at ht;generalize rY b r5.1.toNat r5.2.1 r5.2.2 []=y at ht;cases h6:(aY b y.1 y.2.1).2.2
 ·simp only[cond_false];obtain⟨g1,g2⟩:=Bl h6;rw[decide_eq_true ⟨g1,g2⟩,cond_true,Dx (by simp;omega) (by simp;omega),aa];cases((aY b y.1 y.2.1).1 !=zc (List.drop 0 (b.take y.1.toNat)))
  ·simp only[cond_false];cases((aY b y.1 y.2.1).2.1 !=(b.length:Int))
   ·simp only[cond_false];rw[rT (by show jj av.tot y.2.2+0<k;omega) (by show jj av.tot y.2.2+0<=aU;omega),aa];generalize eH _=q;cases q<;>rfl
   ·rfl
  ·rfl
 ·rfl
theorem ze:mu k b=some (eI b):=by
 have hM:=al;unfold mu eI;by_cases c:(b.length:Int)>6000
 ·rw[decide_eq_true c];rfl
 rw[decide_eq_false c,cond_false,cond_false,E6 hb hl,aa];cases decide (b.take 3=[80,77,49])
 ·rfl
 simp only[VT,cond_false,LJ (show 7<=k by omega) hb hl,Dw (show 7<=k by omega) hb hl,aa];generalize aY b 3 false=r2;generalize aY b r2.2.1 r2.2.2=r3;generalize aY b r3.2.1 r3.2.2=r4;have hc:=tj b r4.2.1 r4.2.2;generalize ch b r4.2.1 r4.2.2 2000=r5 at hc;have:=wg hk hb hl (q1:=0) (q2:=0) (q3:=0) (q7:=r2.1) (q8:=r3.1) (q9:=r4.1) (fin:=λy5=>(aJ k (⟨b,y5.1,y5.2.1⟩:Reader)).bind λr6=>cond (r6.2.2) (some ((⟨(⟨(0:Int),(0:Int),(0:Int)⟩:Shape),([]:List av)⟩:Model),(2:Int))) (cond (decide (0<=y5.1/\y5.1<=(b.length:Int))) ((A7 k ((b.take y5.1.toNat).drop 0)).bind λr7=>cond (r6.1 !=r7) (some ((⟨(⟨(0:Int),(0:Int),(0:Int)⟩:Shape),([]:List av)⟩:Model),(3:Int))) (cond (r6.2.1 !=(b.length:Int)) (some ((⟨(⟨(0:Int),(0:Int),(0:Int)⟩:Shape),([]:List av)⟩:Model),(3:Int))) ((nd k (⟨⟨r2.1,r3.1,r4.1⟩,y5.2.2⟩:Model)).bind λr8=>cond (!r8) (some ((⟨(⟨(0:Int),(0:Int),(0:Int)⟩:Shape),([]:List av)⟩:Model),(4:Int))) (some ((⟨⟨r2.1,r3.1,r4.1⟩,y5.2.2⟩:Model),(0:Int)))))) none)) r5.1.toNat r5.2.1 r5.2.2 [] k (by omega) (by simp;omega);rw[show((r5.1.toNat:Nat):Int)=r5.1 from by omega]at this;refine Eq.trans this ?_;have ht:=tl b r5.1.toNat r5.2.1 r5.2.2 [];rw[show jj av.tot []=0 from rfl]at ht;generalize rY b r5.1.toNat r5.2.1 r5.2.2 []=y at ht;rw[ns (show 7<=k by omega) hb hl,aa];cases h6:(aY b y.1 y.2.1).2.2
 ·simp only[cond_false];obtain⟨g1,g2⟩:=Bl h6;rw[decide_eq_true ⟨g1,g2⟩,cond_true,LK (by simp;omega) (by simp;omega),aa];cases((aY b y.1 y.2.1).1 !=zc (List.drop 0 (b.take y.1.toNat)))
  ·simp only[cond_false];cases((aY b y.1 y.2.1).2.1 !=(b.length:Int))
   ·simp only[cond_false];rw[rU (by show jj av.tot y.2.2+0<k;omega) (by show jj av.tot y.2.2+0<aU;omega),aa];generalize eH _=q;cases q<;>rfl
   ·rfl
  ·rfl
 ·rfl
end
end
section
def sat (a b x:Int):Int:=if x<a then a else if x>b then b else x
theorem GZ {a b:Int} (h:a<=b) (x:Int):a<=sat a b x/\sat a b x<=b:=by
 unfold sat;by_cases h1:x<a
 ·rw[if_pos h1];omega
 ·rw[if_neg h1];by_cases h2:x>b
  ·rw[if_pos h2];omega
  ·rw[if_neg h2];omega
theorem Q8 {a b x:Int} (h1:a<=x) (h2:x<=b):sat a b x=x:=by
 unfold sat;rw[if_neg (by omega),if_neg (by omega)]
theorem rZ {k:Nat} {x a b:Int} (h:a<=b):pt k x a b=some (sat a b x):=by
 unfold pt sat;rw[ab,ab,ab];by_cases h1:x<a
 ·rw[if_pos h1,if_pos h1]
 ·rw[if_neg h1,if_neg h1,if_neg (by omega)];by_cases h2:x>b
  ·rw[if_pos h2,if_pos h2]
  ·rw[if_neg h2,if_neg h2]
theorem E7 {k:Nat} {x a b:Int} (h:a<=b):LG k x a b=some (sat a b x):=by
 unfold LG sat
 congr 1
 repeat' split
 all_goals omega
def Bm (x:Int):Int:=sat (-128) 127 x
def je (x:Int):Int:=sat (-2147483648) 2147483647 x
theorem Bn (x:Int):-128<=Bm x/\Bm x<=127:=GZ (by omega) x
theorem mz (x:Int):-2147483648<=je x/\je x<=2147483647:=GZ (by omega) x
theorem G1 (k:Nat) (x:Int):AX k x=some (Bm x):=by unfold AX Bm;rw[rZ (by omega),aa]
theorem xA (k:Nat) (x:Int):oQ k x=some (je x):=by unfold oQ je;rw[rZ (by omega),aa]
theorem G2 (k:Nat) (x:Int):AZ k x=some (Bm x):=by unfold AZ Bm;rw[E7 (by omega),aa]
theorem xB (k:Nat) (x:Int):oR k x=some (je x):=by unfold oR je;rw[E7 (by omega),aa]
def qO (a b:Int):Int:=je (je a+je b)
theorem qz (k:Nat) (a b:Int):nW k a b=some (qO a b):=by
 have h1:=mz a;have h2:=mz b;unfold nW qO;simp only[xA,aa];rw[aE (by omega) (by omega)]
theorem Bo (k:Nat) (a b:Int):vP k a b=some (qO a b):=by
 have h1:=mz a;have h2:=mz b;unfold vP qO;simp only[xB,aa];rw[aE (by omega) (by omega)]
theorem Sq {x y A B:Int} (hx:-A<=x/\x<=A) (hy:-B<=y/\y<=B):-(A*B)<=x*y/\x*y<=A*B:=by
 have h1:=WY (show 0<=A-x by omega) (show 0<=B+y by omega);have h2:=WY (show 0<=A+x by omega) (show 0<=B-y by omega);have h3:=WY (show 0<=A-x by omega) (show 0<=B-y by omega);have h4:=WY (show 0<=A+x by omega) (show 0<=B+y by omega);simp only[Int.sub_mul,Int.add_mul,Int.mul_add,Int.mul_sub]at h1 h2 h3 h4;omega
def qA (a b:Int):Int:=je ((je a*je b+1073741824)/2147483648)
theorem G3 {k:Nat} {a:Int} (h1:-4611686018427387904<=a/\a<=9223372036854775807):vL k a 2147483648=some (a/2147483648):=by
 have e:=Int.mul_tdiv_add_tmod a 2147483648;have h2:=Int.tmod_lt_of_pos a (show(0:Int)<2147483648 by omega);unfold vL;rw[ab,if_neg (by omega),ab,if_neg (by omega),ab];by_cases c:0<=a
 ·have h3:=Int.tmod_nonneg 2147483648 c;rw[if_neg (by omega),aE (by omega) (by omega)]
  congr 1;omega
 ·have h3:=Int.tmod_nonneg 2147483648 (show 0<=-a by omega);have h4:=Int.tmod_lt_of_pos (-a) (show(0:Int)<2147483648 by omega);rw[Int.neg_tmod]at h3 h4;by_cases c2:a.tmod 2147483648<0
  ·rw[if_pos c2,aE (n:=a.tdiv 2147483648) (by omega) (by omega),aE (by omega) (by omega)]
   congr 1;omega
  ·rw[if_neg c2,aE (by omega) (by omega)]
   congr 1;omega
theorem Q9 (a b:Int):-4611686018427387904<=je a*je b/\je a*je b<=4611686018427387904:=
 Sq (A:=2147483648) (B:=2147483648) (by have:=mz a;omega) (by have:=mz b;omega)
theorem G4 (k:Nat) (a b:Int):vM k a b=some (qA a b):=by
 have h:=Q9 a b;unfold vM qA;simp only[xA,aa];rw[aE (n:=je a*je b) (by omega) (by omega),aE (by omega) (by omega),G3 (by omega),aa]
theorem G5 (k:Nat) (a b:Int):vQ k a b=some (qA a b):=by
 have h:=Q9 a b;unfold vQ qA;simp only[xB,aa];rw[aE (n:=je a*je b) (by omega) (by omega),aE (by omega) (by omega)]
 have e:((2:Int)^(min (31:Int).toNat i64.bits))=2147483648:=by decide
 rw[e,Int.fdiv_eq_ediv_of_nonneg _ (by omega)]
def ir (x by_:Int):Int:=if x<0 then -((2*-x+by_)/(2*by_))else(2*x+by_)/(2*by_)
theorem DA {a b:Int} (ha:0<=a) (hb:1<=b):0<=a/b/\a/b<=a:=
 ⟨Int.ediv_nonneg ha (by omega),Int.ediv_le_self _ ha⟩
theorem yI {k:Nat} {x d:Int} (hx:-2147483648<=x/\x<=2147483648) (hd:1<=d/\d<=2147483648):px k x d=some (ir x d):=by
 unfold px qm ir;rw[aE (n:=2*d) (by omega) (by omega),ab];by_cases c:x<0
 ·rw[if_pos c,if_pos c,aE (n:=0-x) (by omega) (by omega),ab,if_neg (by omega),ab,if_neg (by omega),aa,aE (n:=2*(0-x)) (by omega) (by omega),aE (n:=2*(0-x)+d) (by omega) (by omega),WG (by omega)];have h:=DA (a:=2*(0-x)+d) (b:=2*d) (by omega) (by omega);rw[show 2*-x+d=2*(0-x)+d from by omega];generalize (2*(0-x)+d)/(2*d)=q at h;rw[aE (n:=q) (by omega) (by omega),aE (by omega) (by omega)]
  congr 1;omega
 ·rw[if_neg c,if_neg c,ab,if_neg (by omega),aE (n:=2*x) (by omega) (by omega),aE (n:=2*x+d) (by omega) (by omega),WG (by omega)];have h:=DA (a:=2*x+d) (b:=2*d) (by omega) (by omega);rw[aE (by omega) (by omega)]
def jq (x n:Int):Int:=ir (je x) (2^(sat 0 31 n).toNat)
theorem Bp {r:Int} (h:0<=r/\r<=31):i64.wrap ((1:Int)*2^(min r.toNat i64.bits))=2^r.toNat/\(1:Int)<=2^r.toNat/\(2:Int)^r.toNat<=2147483648:=by
 have hb:i64.bits=64:=rfl;have h1:(2:Nat)^r.toNat<=2^31:=Nat.pow_le_pow_right (by omega) (by omega);have h2:1<=(2:Nat)^r.toNat:=Nat.one_le_two_pow
 have e:((2^r.toNat:Nat):Int)=2^r.toNat:=by simp
 rw[hb,XE (by omega),Int.one_mul];rw[<-e];refine⟨aE (by omega) (by omega),by omega,by omega⟩
theorem Km {v:Int} {s:Nat}:(v+(2^s:Int)/2)/2^s=(2*v+2^s)/(2*2^s):=by
 cases s with
 |zero=>omega
 |succ s=>
  have e:(2:Int)^(s+1)=2*2^s:=by rw[Int.pow_succ,Int.mul_comm]
  rw[e]
  have e2:2*v+2*(2:Int)^s=2*(v+2^s):=by rw[Int.mul_add]
  rw[e2,Int.mul_ediv_mul_of_pos _ _ (by omega:(0:Int)<2),Int.mul_ediv_cancel_left _ (by omega:(2:Int)≠0)]
theorem Bq (k:Nat) (x n:Int):om k x n=some (jq x n):=by
 have h1:=mz x;have h2:=GZ (a:=0) (b:=31) (by omega) n;obtain⟨e,h3,h4⟩:=Bp h2;unfold om jq;rw[xB,aa,E7 (by omega),aa,ab,if_neg (by omega),e,yI (by omega) ⟨h3,h4⟩,aa]
theorem Oe {r:Int} (h:0<=r/\r<=31):u64.wrap r=r:=Go.IntWalk.u64_in r ⟨by omega,by omega⟩
theorem Br (k:Nat) (x n:Int):nX k x n=some (jq x n):=by
 have h1:=mz x;have h2:=GZ (a:=0) (b:=31) (by omega) n;obtain⟨e,h3,h4⟩:=Bp h2;unfold nX jq ir;rw[xA,aa,rZ (by omega),aa,Oe h2,ab,if_neg (by omega),e,ab];have hh:((2:Int)^(sat 0 31 n).toNat).tdiv 2=2^(sat 0 31 n).toNat/2:=WG (by omega);rw[hh,aE (n:=2^(sat 0 31 n).toNat/2) (by omega) (by omega)];by_cases c:je x<0
 ·rw[if_pos c,if_pos c,ab,if_neg (by omega),aE (n:=0-je x) (by omega) (by omega),aE (n:=0-je x+2^(sat 0 31 n).toNat/2) (by omega) (by omega),WG (by omega),Km,show 2*-je x+2^(sat 0 31 n).toNat=2*(0-je x)+2^(sat 0 31 n).toNat from by omega];have h:=DA (a:=2*(0-je x)+2^(sat 0 31 n).toNat) (b:=2*2^(sat 0 31 n).toNat) (by omega) (by omega);generalize (2*(0-je x)+2^(sat 0 31 n).toNat)/(2*2^(sat 0 31 n).toNat)=q at h;rw[aE (n:=q) (by omega) (by omega),aE (by omega) (by omega)]
  congr 1;omega
 ·rw[if_neg c,if_neg c,ab,if_neg (by omega),aE (n:=je x+2^(sat 0 31 n).toNat/2) (by omega) (by omega),WG (by omega),Km];have h:=DA (a:=2*je x+2^(sat 0 31 n).toNat) (b:=2*2^(sat 0 31 n).toNat) (by omega) (by omega);rw[aE (by omega) (by omega)]
def Bs (acc mult shift zero:Int):Int:=Bm (jq (qA acc mult) shift+Bm zero)
theorem LO {x d B:Int} (hx:-B<=x/\x<=B) (hd:1<=d):-B<=ir x d/\ir x d<=B:=by
 have key:∀y:Int,0<=y->y<=B->0<=(2*y+d)/(2*d)/\(2*y+d)/(2*d)<=B:=λy h0 h1=>by
  refine⟨Int.ediv_nonneg (by omega) (by omega),?_⟩
  have hlt:(2*y+d)/(2*d)<B+1:=by
   apply Int.ediv_lt_of_lt_mul (by omega);have:=WY (show 0<=B by omega) (show 0<=d-1 by omega);rw[Int.mul_sub,Int.mul_one]at this;rw[Int.add_mul,Int.one_mul,Int.mul_comm B,Yl,Int.mul_comm d B];omega
  omega
 unfold ir;by_cases c:x<0
 ·rw[if_pos c];have:=key (-x) (by omega) (by omega);omega
 ·rw[if_neg c];have:=key x (by omega) (by omega);omega
theorem yJ (acc mult shift zero:Int):i64.wrap (jq (qA acc mult) shift+Bm zero)=jq (qA acc mult) shift+Bm zero:=by
 have h1:=Bn zero;have h2:=GZ (a:=0) (b:=31) (by omega) shift;have h3:=mz (qA acc mult);have h4:=LO (x:=je (qA acc mult)) (d:=2^(sat 0 31 shift).toNat) (B:=2147483648) (by omega) (Bp h2).2.1;unfold jq;exact aE (by omega) (by omega)
theorem yK (k:Nat) (a b c d:Int):pw k a b c d=some (Bs a b c d):=by
 unfold pw Bs;simp only[G4,Br,G1,aa,yJ]
theorem G6 (k:Nat) (a b c d:Int):vR k a b c d=some (Bs a b c d):=by
 unfold vR Bs;simp only[G5,Bq,G2,aa,yJ]
end
section
theorem mA {α:Type} (f:Nat->List α) (m:Nat):∀n,(∀i,i<n->(f i).length<=m)->((List.range n).flatMap f).length<=n*m
 |0,_=>by simp
 |n+1,h=>by
  have:=mA f m n λi hi=>h i (by omega);have:=h n (by omega);rw[Xm,XJ,VR,Wk,show([n]:List Nat).flatMap f=f n from by simp];omega
theorem iH {α:Type} (f:Nat->List α) (m:Nat):∀n,(∀i,i<n->(f i).length=m)->((List.range n).flatMap f).length=n*m
 |0,_=>by simp
 |n+1,h=>by
  have:=iH f m n λi hi=>h i (by omega);have:=h n (by omega);rw[Xm,XJ,VR,Wk,show([n]:List Nat).flatMap f=f n from by simp];omega
theorem E8 {α:Type} (f:Nat->List α) (q:Nat):∀n,(∀i,i<n->(f i).length=q)->∀a b,a<n->b<q->((List.range n).flatMap f)[a*q+b]? =(f a)[b]?
 |0,_,a,b,h,_=>by omega
 |n+1,h,a,b,ha,hb=>by
  have hl:=iH f q n λi hi=>h i (by omega);rw[Xm,XJ]
  have hs:([n]:List Nat).flatMap f=f n:=by simp
  rw[hs];by_cases c:a<n
  ·have:(a+1)*q<=n*q:=V9 _ (by omega);rw[Wk]at this;rw[V1 (by omega)];exact E8 f q n (λi hi=>h i (by omega)) a b c hb
  ·have:a=n:=by omega
   subst this;rw[VU (by omega),hl,Wv]
theorem gq {α R:Type} (n m:Nat) (f:Nat->List α) (xs0:List α) {g:Int× List α->(Int× List α->Option R)->Option R} {fin:List α->Option R} {k:Nat}
  (hf:∀i,i<n->(f i).length<=m)
  (h:∀(i:Nat) ys next,i<n->ys.length<=xs0.length+i*m->g ((i:Int),ys) next=next (((i+1:Nat):Int),ys++f i))
  (hn:∀ys next,g ((n:Int),ys) next=fin ys) (hk:n<k):iter g k ((0:Int),xs0)=fin (xs0++(List.range n).flatMap f):=by
 have:=eW (g:=g) (st:=λi=>((i:Int),xs0++(List.range i).flatMap f)) (n:=n) (r:=fin (xs0++(List.range n).flatMap f)) (λi hi next=>by
  have hl:=mA f m i λj hj=>hf j (by omega);rw[h i _ next hi (by rw[VR];omega),Xm,XJ]
  simp) (λnext=>hn _ _) hk
 simpa using this
theorem pE {β R:Type} (n:Nat) (f:β->Nat->β) (a0:β) {g:β× Int->(β× Int->Option R)->Option R} {fin:β->Option R} {k:Nat}
  (h:∀(i:Nat) a next,i<n->g (a,(i:Int)) next=next (f a i,((i+1:Nat):Int))) (hn:∀a next,g (a,(n:Int)) next=fin a) (hk:n<k):
  iter g k (a0,(0:Int))=fin ((List.range n).foldl f a0):=
 eW (g:=g) (st:=λi=>((List.range i).foldl f a0,(i:Int))) (n:=n) (r:=fin ((List.range n).foldl f a0)) (λi hi next=>by
  rw[h i _ next hi,Xm,WM];rfl) (λnext=>hn _ _) hk
theorem fold_congr {β:Type} {f g:β->Nat->β}:∀(n:Nat) (a:β),(∀a i,i<n->f a i=g a i)->(List.range n).foldl f a=(List.range n).foldl g a
 |0,_,_=>rfl
 |n+1,a,h=>by
  rw[Xm,WM,WM,fold_congr n a λa i hi=>h a i (by omega)];exact h _ n (by omega)
theorem E9 {β:Type} (f:β->Nat->β) (q:Nat):∀(m:Nat) (a:β),(List.range (m*q)).foldl f a=(List.range m).foldl (λa i=>(List.range q).foldl (λa j=>f a (i*q+j)) a) a
 |0,a=>by simp
 |m+1,a=>by
  rw[Wk,Nat.one_mul,List.range_add,WM,E9 f q m a,Xm,WM,List.foldl_map];rfl
theorem G7 {a b:Nat} (h:a*b<=9223372036854775807):i64.wrap ((a:Int)*(b:Int))=((a*b:Nat):Int):=by
 rw[W0];have e:((a:Int)*(b:Int))=((a*b:Nat):Int):=(W0 a b).symm;exact aE (by omega) (by omega)
theorem HH {a b:Nat} (h:a+b<=9223372036854775807):i64.wrap ((a:Int)+(b:Int))=((a+b:Nat):Int):=by
 rw[aE (by omega) (by omega)];omega
theorem Og {α:Type} {p:Prop} {i:Decidable p} (h:p) (x y:α):cond (@decide p i) x y=x:=by rw[decide_eq_true h];rfl
theorem UP {α:Type} {p:Prop} {i:Decidable p} (h:¬p) (x y:α):cond (@decide p i) x y=y:=by rw[decide_eq_false h];rfl
theorem wi {H W C h w c:Nat} (h1:h<H) (h2:w<W) (h3:c<C):(h*W+w)*C+c<H*W*C:=by
 have a1:(h+1)*W<=H*W:=V9 _ h1;rw[Wk]at a1;have a2:(h*W+w+1)*C<=H*W*C:=V9 _ (by omega);rw[Wk]at a2;omega
structure mB (H W C:Nat) (xs:List Int):Prop where
 h1:1<=H
 h8:H<=8
 w1:1<=W
 w8:W<=8
 c1:1<=C
 c8:C<=8
 len:xs.length=H*W*C
 mem:∀x∈xs,-128<=x/\x<=127
def xC (H W C:Nat) (xs:List Int):aF:=⟨⟨H,W,C⟩,xs⟩
theorem mB.SR {H W C:Nat} {xs:List Int} (r:mB H W C xs):H*W*C<=512:=by
 have a:=WK r.h8 r.w8;have b:=WK a r.c8;omega
theorem mB.sh {H W C:Nat} {xs:List Int} (r:mB H W C xs):(⟨H,W,C⟩:Shape).okB=true:=by
 obtain⟨a,b,c,d,e,f,_,_⟩:=r;simp only[Shape.okB,inB,VP,decide_eq_true_eq];omega
theorem mB.size {H W C:Nat} {xs:List Int} (r:mB H W C xs):(⟨H,W,C⟩:Shape).size=((H*W*C:Nat):Int):=by
 unfold Shape.size;rw[r.sh,cond_true,W0,W0]
theorem mB.ok {H W C:Nat} {xs:List Int} (r:mB H W C xs):(xC H W C xs).okB=true:=by
 unfold aF.okB xC;simp only[r.sh,r.size,r.len,decide_true,VZ];unfold qN;rw[Wo];intro x hx;have:=r.mem x hx;rw[cd];omega
theorem Fa {t:aF} (h:t.okB=true):∃H W C:Nat,mB H W C t.data/\t=xC H W C t.data:=by
 unfold aF.okB at h;simp only[VP,decide_eq_true_eq]at h;obtain⟨h1,h2,h3⟩:=h;have hs:=Shape.ta h1;unfold qN at h3;rw[Wo]at h3;unfold Shape.size at h2;rw[h1,cond_true]at h2;obtain⟨⟨a,b,c⟩,xs⟩:=t;simp only at hs h2 h3;refine⟨a.toNat,b.toNat,c.toNat,⟨by omega,by omega,by omega,by omega,by omega,by omega,?_,λx hx=>cd.1 (h3 x hx)⟩,?_⟩
 ·have ea:((a.toNat:Nat):Int)=a:=by omega
  have eb:((b.toNat:Nat):Int)=b:=by omega
  have ec:((c.toNat:Nat):Int)=c:=by omega
  have e:((a.toNat*b.toNat*c.toNat:Nat):Int)=a*b*c:=by rw[W0,W0,ea,eb,ec]
  show xs.length=_;omega
 ·unfold xC
  congr 2<;>omega
def atN (W C:Nat) (xs:List Int) (h w c:Nat):Int:=xs.getD ((h*W+w)*C+c) 0
theorem Jb {H W C:Nat} {xs:List Int} (r:mB H W C xs) {h w c:Nat} (h1:h<H) (h2:w<W) (h3:c<C):xs[(h*W+w)*C+c]? =some (atN W C xs h w c):=by
 have:=wi h1 h2 h3;have hl:=r.len;unfold atN;rw[bT (by omega),aj (by omega)]
theorem zG {xs:List Int} {i:Nat} (h:i<xs.length):xs.getD i 0∈xs:=by rw[bT h];exact VV h
theorem Kn {H W C:Nat} {xs:List Int} (r:mB H W C xs) {h w c:Nat} (h1:h<H) (h2:w<W) (h3:c<C):-128<=atN W C xs h w c/\atN W C xs h w c<=127:=by
 have:=wi h1 h2 h3;have hl:=r.len;exact r.mem _ (zG (by omega))
theorem DB {H W C:Nat} {xs:List Int} (r:mB H W C xs) {h w c:Nat} (h1:h<H) (h2:w<W) (h3:c<C):
  i64.wrap (i64.wrap (i64.wrap (i64.wrap ((h:Int)*(W:Int))+(w:Int))*(C:Int))+(c:Int))=(((h*W+w)*C+c:Nat):Int):=by
 have a:=wi h1 h2 h3;have b:=r.SR;have d:h*W<=H*W:=V9 _ (by omega);have e:=WK r.h8 r.w8;rw[G7 (by omega),HH (by have:=r.w8;omega),G7 (by omega),HH (by omega)]
theorem uI {k:Nat} {H W C:Nat} {xs:List Int} (r:mB H W C xs) (hk:512<k) {h w c:Nat} (h1:h<H) (h2:w<W) (h3:c<C):ql k (xC H W C xs) h w c=some (atN W C xs h w c,true):=by
 have hl:=r.len;have hc:=r.SR
 have hi:∀{a n:Nat},a<n->n<=8->inB (a:Int) 0 (i64.wrap ((n:Int)-1))=true:=λ{a n} h h8=>by
  rw[aE (by omega) (by omega),cd];omega
 unfold ql AY;simp only[lG,cp,aa];rw[qx (t:=xC H W C xs) (by show xs.length<k;omega) (by unfold HF;show xs.length<=_;omega),r.ok];simp only[xC,r.sh,hi h1 r.h8,hi h2 r.w8,hi h3 r.c8,VT,cond_false,aa,DB r h1 h2 h3];rw[ab,if_neg (by omega),aL,Jb r h1 h2 h3,aa]
theorem uJ {k:Nat} {H W C:Nat} {xs:List Int} (r:mB H W C xs) {h w c:Nat} (h1:h<H) (h2:w<W) (h3:c<C):jQ k ⟨H,W,C⟩ h w c=some ((((h*W+w)*C+c:Nat)):Int):=by
 unfold jQ;rw[DB r h1 h2 h3]
structure Oh (H W Z S h w:Nat):Prop where
 z1:1<=Z
 z3:Z<=3
 s2:S<=2
 hh:h*S+Z<=H
 ww:w*S+Z<=W
def j7 (W C:Nat) (xs:List Int) (Z S h w c:Nat):List Int:=
 (List.range Z).flatMap λi=>(List.range Z).flatMap λj=>[atN W C xs (h*S+i) (w*S+j) c]
def Sr (W C:Nat) (xs:List Int) (Z S h w:Nat):List Int:=
 (List.range Z).flatMap λi=>(List.range Z).flatMap λj=>(List.range C).map λc=>atN W C xs (h*S+i) (w*S+j) c
theorem G8 (W C:Nat) (xs:List Int) (Z S h w c:Nat):(j7 W C xs Z S h w c).length=Z*(Z*1):=
 iH _ _ _ λi hi=>iH _ _ _ λj hj=>rfl
theorem Fb (W C:Nat) (xs:List Int) (Z S h w:Nat):(Sr W C xs Z S h w).length=Z*(Z*C):=
 iH _ _ _ λi hi=>iH _ _ _ λj hj=>by simp
theorem G9 {k:Nat} {H W C:Nat} {xs:List Int} (r:mB H W C xs) (hk:512<k) {l:av} {Z S h w c:Nat} (hz:l.size=Z) (hs:l.step=S) (v:Oh H W Z S h w) (hc:c<C):
  nj k (xC H W C xs) l h w c=some (j7 W C xs Z S h w c):=by
 have hM:=al;have hv:=v;obtain⟨z1,z3,s2,hh,ww⟩:=hv;have:=r.h8;have:=r.w8;unfold nj
 refine(gq Z 3 (λi=>(List.range Z).flatMap λj=>[atN W C xs (h*S+i) (w*S+j) c]) [] (fin:=some) (λi hi=>by
   have:=mA (λj=>[atN W C xs (h*S+i) (w*S+j) c]) 1 Z (λ_ _=>Wc _);omega) (λi ys next hi hy=>?_) (λys next=>?_) (by omega)).trans (by rw[Xe];rfl)
 ·simp only[nZ,hz,hs];rw[ab,if_pos (by omega),aq hi (by omega)];refine gq Z 1 (λj=>[atN W C xs (h*S+i) (w*S+j) c]) ys (fin:=λy=>next (((i+1:Nat):Int),y)) (λ_ _=>Wc _) (λj zs wj hj hz2=>?_) (λzs wj=>?_) (by omega)
  ·simp only[nY,hz,hs]
   have e1:h*S+i<H:=by omega
   have e2:w*S+j<W:=by omega
   have e:=uI (k:=k) r hk e1 e2 hc;unfold xC at e;simp only[V5]at hy;rw[ab,if_pos (by omega)];simp only[xC];rw[G7 (by omega),HH (by omega),G7 (by omega),HH (by omega),e,aa,bJ (by simp;omega),aq hj (by omega)]
  ·simp only[nY];rw[ab,if_neg (by omega)]
 ·simp only[nZ];rw[ab,if_neg (by omega)]
theorem Ha {α:Type} {ws:List α} {a q i:Nat} (hi:i<q):((ws.take (a+q)).drop a)[i]? =ws[a+i]? :=by
 rw[V7,Wt,if_pos (by omega)]
theorem Oi {ws:List Int} {a q:Nat} (h:a+q<=ws.length):(ws.take (a+q)).drop a=(List.range q).map λc=>ws.getD (a+c) 0:=by
 apply List.ext_getElem?;intro i;by_cases c:i<q
 ·rw[Ha c,WB,List.getElem?_range c,Xx,aj (by omega),bT (by omega)]
 ·rw[Wl (by simp;omega),Wl (by simp;omega)]
theorem Bt {k:Nat} {H W C:Nat} {xs:List Int} (r:mB H W C xs) (hk:512<k) {l:av} {Z S h w c:Nat} (hz:l.size=Z) (hs:l.step=S) (v:Oh H W Z S h w) (hc:c<C):
  cW k l (xC H W C xs) h w c=some (j7 W C xs Z S h w c):=by
 have hM:=al;have hv:=v;obtain⟨z1,z3,s2,hh,ww⟩:=hv;have:=r.h8;have:=r.w8;have:=r.c8;have hcu:=r.SR;have hlen:=r.len;unfold cW
 refine(gq Z 3 (λi=>(List.range Z).flatMap λj=>[atN W C xs (h*S+i) (w*S+j) c]) [] (fin:=some) (λi hi=>by
   have:=mA (λj=>[atN W C xs (h*S+i) (w*S+j) c]) 1 Z (λ_ _=>Wc _);omega) (λi ys next hi hy=>?_) (λys next=>?_) (by omega)).trans (by rw[Xe];rfl)
 ·simp only[et,hz,hs];rw[ab,if_pos (by omega),aq hi (by omega)];refine gq Z 1 (λj=>[atN W C xs (h*S+i) (w*S+j) c]) ys (fin:=λy=>next (((i+1:Nat):Int),y)) (λ_ _=>Wc _) (λj zs wj hj hz2=>?_) (λzs wj=>?_) (by omega)
  ·simp only[er,hz,hs]
   have e1:h*S+i<H:=by omega
   have e2:w*S+j<W:=by omega
   have e:=uJ (k:=k) (c:=0) r e1 e2 (by omega);have hp:=wi e1 e2 hc;simp only[V5]at hy;rw[ab,if_pos (by omega)];simp only[xC];rw[G7 (by omega),HH (by omega),G7 (by omega),HH (by omega)];refine(congrArg (λo:Option Int=>o.bind _) e).trans ?_;rw[aa,ab,if_neg (by omega),Wq,HH (by omega),aL,Jb r e1 e2 hc,aa,bJ (by simp;omega),aq hj (by omega)]
  ·simp only[er];rw[ab,if_neg (by omega)]
 ·simp only[et];rw[ab,if_neg (by omega)]
theorem Hb {k:Nat} {H W C:Nat} {xs:List Int} (r:mB H W C xs) (hk:512<k) {l:av} {Z S h w:Nat} (hz:l.size=Z) (hs:l.step=S) (v:Oh H W Z S h w):
  cW k l (xC H W C xs) h w (-1)=some (Sr W C xs Z S h w):=by
 have hM:=al;have hv:=v;obtain⟨z1,z3,s2,hh,ww⟩:=hv;have:=r.h8;have:=r.w8;have:=r.c8;have hc1:=r.c1;have hcu:=r.SR;have hlen:=r.len;unfold cW
 refine(gq Z 24 (λi=>(List.range Z).flatMap λj=>(List.range C).map λc=>atN W C xs (h*S+i) (w*S+j) c) [] (fin:=some) (λi hi=>by
   have:=mA (λj=>(List.range C).map λc=>atN W C xs (h*S+i) (w*S+j) c) 8 Z (λ_ _=>by simp;omega);omega) (λi ys next hi hy=>?_) (λys next=>?_) (by omega)).trans (by rw[Xe];rfl)
 ·simp only[et,hz,hs];rw[ab,if_pos (by omega),aq hi (by omega)];refine gq Z 8 (λj=>(List.range C).map λc=>atN W C xs (h*S+i) (w*S+j) c) ys (fin:=λy=>next (((i+1:Nat):Int),y)) (λ_ _=>by simp;omega) (λj zs wj hj hz2=>?_) (λzs wj=>?_) (by omega)
  ·simp only[er,hz,hs]
   have e1:h*S+i<H:=by omega
   have e2:w*S+j<W:=by omega
   have e:=uJ (k:=k) (c:=0) r e1 e2 (by omega);have hp:=wi (C:=C) (c:=C-1) e1 e2 (by omega);simp only[V5]at hy;rw[ab,if_pos (by omega)];simp only[xC];rw[G7 (by omega),HH (by omega),G7 (by omega),HH (by omega)];refine(congrArg (λo:Option Int=>o.bind _) e).trans ?_;have e3:=Oi (ws:=xs) (a:=((h*S+i)*W+(w*S+j))*C) (q:=C) (by omega);have ew:i64.wrap (((((h*S+i)*W+(w*S+j))*C:Nat):Int)+(C:Int))=((((h*S+i)*W+(w*S+j))*C+C:Nat):Int):=HH (by omega);rw[aa,Og (by omega),Wq];refine(Og (by rw[ew];omega) _ _).trans ?_;refine(Og (by rw[ew];omega) _ _).trans ?_;rw[ew,VQ,VQ,e3,bJ (by simp;omega),aq hj (by omega)];rfl
  ·simp only[er];rw[ab,if_neg (by omega)]
 ·simp only[et];rw[ab,if_neg (by omega)]
end
end Go.Proofs.Ev
