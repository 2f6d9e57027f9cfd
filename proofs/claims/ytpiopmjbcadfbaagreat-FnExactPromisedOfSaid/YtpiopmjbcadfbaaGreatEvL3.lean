/- Typed functions and what holds of them: part 3. -/
import Derived.Test.YtpiopmjbcadfbaaGreatEvL2
import Derived.KernelRfl
set_option linter.unusedVariables false
set_option linter.unusedSimpArgs false
set_option linter.unusedSectionVars false
namespace Go.Proofs.Ev
section
def av.tot (x:av):Nat:=x.data.length+(0)
def ax.tot (x:ax):Nat:=x.weights.length+(x.m9.length+(0))
def Model.tot (x:Model):Nat:=eE ax.tot x.aB+(0)
def Job.tot (x:Job):Nat:=x.model.tot+(x.act.tot+(0))
def Task.tot (x:Task):Nat:=x.ar.length+(0)
def aj.tot (x:aj):Nat:=eE Task.tot x.tasks+(0)
def Request.tot (x:Request):Nat:=x.job.tot+(0)
def Runtime.tot (x:Runtime):Nat:=x.sched.tot+(eE Model.tot x.ak+(x.ao.length+(eE Request.tot x.ae+(0))))
def Step.tot (x:Step):Nat:=x.data.length+(x.input.tot+(0))
def Event.tot (x:Event):Nat:=x.out.tot+(0)
def Entry.tot (x:Entry):Nat:=x.model.tot+(x.input.tot+(0))
theorem Jp {k:Nat} {xs:List Int} {n:Int} (hx:xs.length<=ue) (h1:0<=n) (h2:n<=1048576):Sz (tf k xs n) n xs.length:=Gv k xs n ⟨h1,h2⟩ hx
theorem Jq {k:Nat} {xs:List Int} (hk:xs.length<k) (hN:xs.length<=aT):tj k xs=some xs:=Gw hk hN
theorem Bc {k:Nat} {xs ys:List Int} (hk:xs.length<k) (hN:xs.length<=aT):oA k xs ys=some (decide (xs=ys)):=Gx hk (by unfold ue;rw[al]at hN;omega)
theorem p8 {k:Nat} {xs:List Int} {m:Int} (hk:xs.length<k) (hN:xs.length<=aT) (h0:0<=m) (hB:m+16*xs.length<=Dg):
    ∃r ys,kF k xs m=some (r,ys)/\m<=r/\r<=m+16*xs.length/\ys.length=xs.length/\nw k ys m=some r:=by
  have ht:eE (λ_=>0) xs=xs.length:=Ep xs;rw[al]at hN;unfold Dg at hB
  obtain⟨r,out,a1,a2,a3,a4,a5⟩:=tb (t:=λ_:Int=>0) (N:=xs.length) (g:=λu next=>fC k () u next (λy=>some (y.1,y.2))) (fin:=λy=>some (y.1,y.2)) (hd:=λys u next=>iE k ys u next (λy=>some y) (λy=>some y))
    (λm ys next hl=>by simp only[fC,ab];rw[if_neg (by omega)]) (λys m next hl=>by simp only[iE,ab];rw[if_neg (by omega)]) xs [] m k (by simp) hk h0 (by rw[ht];unfold Dg;omega)
    (λx hm m h0 hB=>by
      unfold Dg at hB;refine⟨m+1,m,by omega,by omega,λi ys next hl hi hx=>?_,λi ys next hl hi hy=>?_⟩
      · simp(disch:=omega)only[fC,ab,if_pos,Rg,aH]
      · simp(disch:=omega)only[iE,ab,if_pos,aE,hy,aa,mg,aH,if_true])
  rw[ht]at a4;exact⟨r,out,a2,a3,a4,a1,a5 k hk⟩
theorem Gz {k:Nat} {xs:List Int} {n:Int} (hx:xs.length<=ue) (h1:0<=n) (h2:n<=1048576):Sz (pV k xs n) n xs.length:=Es k xs n ⟨h1,h2⟩ hx
theorem GA {k:Nat} {xs:List Int} (hk:xs.length<k) (hN:xs.length<=aT):pW k xs=some xs:=Et hk hN
theorem GC {k:Nat} {xs ys:List Int} (hk:xs.length<k) (hN:xs.length<=aT):tn k xs ys=some (decide (xs=ys)):=Ew hk (by unfold ue;rw[al]at hN;omega)
theorem wg {k:Nat} {xs:List Int} {m:Int} (hk:xs.length<k) (hN:xs.length<=aT) (h0:0<=m) (hB:m+16*xs.length<=Dg):
    ∃r ys,mV k xs m=some (r,ys)/\m<=r/\r<=m+16*xs.length/\ys.length=xs.length/\yC k ys m=some r:=by
  have ht:eE (λ_=>0) xs=xs.length:=Ep xs;rw[al]at hN;unfold Dg at hB
  obtain⟨r,out,a1,a2,a3,a4,a5⟩:=tb (t:=λ_:Int=>0) (N:=xs.length) (g:=λu next=>eU k () u next (λy=>some (y.1,y.2))) (fin:=λy=>some (y.1,y.2)) (hd:=λys u next=>jC k ys u next (λy=>some y) (λy=>some y))
    (λm ys next hl=>by simp only[eU,ab];rw[if_neg (by omega)]) (λys m next hl=>by simp only[jC,ab];rw[if_neg (by omega)]) xs [] m k (by simp) hk h0 (by rw[ht];unfold Dg;omega)
    (λx hm m h0 hB=>by
      unfold Dg at hB;refine⟨m+1,IntKind.u8.wrap m,by omega,by omega,λi ys next hl hi hx=>?_,λi ys next hl hi hy=>?_⟩
      · simp(disch:=omega)only[eU,ab,if_pos,Rg,aH]
      · simp(disch:=omega)only[jC,ab,if_pos,aE,hy,aa,mg,aH,if_true])
  rw[ht]at a4;exact⟨r,out,a2,a3,a4,a1,a5 k hk⟩
theorem GD {k:Nat} {x:Shape}:xX k x=some x:=rfl
theorem GF {k:Nat} {x y:Shape}:xY k x y=some (decide (x=y)):=by
 refine(PH (PH (PH (Lw)))).trans ?_
 congr 1
 rw[decide_eq_decide];cases x;cases y;simp only[Shape.mk.injEq,and_true]
theorem Ez {k:Nat} {x:av} {n:Int} (hx:x.Ok) (hk:x.tot<k) (h1:0<=n) (h2:n<=1048576):Sz (vb k x n) n x.tot:=by
 unfold av.tot at hk;exact Lu h1 (Jp hx.2.1 h1 h2) λc0=>N8 (by omega)
theorem EA {k:Nat} {x:av} (hk:x.tot<k) (hN:x.tot<=aT):qH k x=some x:=by
 unfold av.tot at hk hN;have e0:=GD (k:=k) (x:=x.sh);have e1:=Jq (k:=k) (xs:=x.data) (by omega) (by omega);unfold qH;simp only[e0,e1,aa]
theorem EB {k:Nat} {x y:av} (hk:x.tot<k) (hN:x.tot<=aT):vc k x y=some (decide (x=y)):=by
 unfold av.tot at hk hN;refine(QE GF (QE (Bc (by omega) (by omega)) (Lw))).trans ?_
 congr 1
 rw[decide_eq_decide];cases x;cases y;simp only[av.mk.injEq,and_true]
theorem Jr {k:Nat} {x:Step} {n:Int} (hx:x.Ok) (hk:x.tot<k) (h1:0<=n) (h2:n<=1048576):Sz (wI k x n) n x.tot:=by
 unfold Step.tot at hk;exact Lu h1 (Gz hx.2.2.2.1.1 h1 h2) λc0=>Lu (by omega) (Ez hx.2.2.2.2 (by omega) (by omega) (by omega)) λc1=>N8 (by omega)
theorem Js {k:Nat} {x:Step} (hk:x.tot<k) (hN:x.tot<=aT):tl k x=some x:=by
 unfold Step.tot at hk hN;have e0:=GA (k:=k) (xs:=x.data) (by omega) (by omega);have e1:=EA (k:=k) (x:=x.input) (by omega) (by omega);unfold tl;simp only[e0,e1,aa]
theorem Jt {k:Nat} {x y:Step} (hk:x.tot<k) (hN:x.tot<=aT):wJ k x y=some (decide (x=y)):=by
 unfold Step.tot at hk hN;refine(PH (PH (PH (QE (GC (by omega) (by omega)) (QE (EB (by omega) (by omega)) (Lw)))))).trans ?_
 congr 1
 rw[decide_eq_decide];cases x;cases y;simp only[Step.mk.injEq,and_true]
theorem GG {k:Nat} {xs:List Step} {n:Int} (hx:okS Step.Ok xs) (hk:eE Step.tot xs<k) (h1:0<=n) (h2:n<=1048576):Sz (yA k xs n) n (eE Step.tot xs):=
 O8 (f:=λx n=>wI k x n) (g:=λu next=>jT k xs u next (λy=>some y) (λy=>some y)) hx.1 (λx hm n a b=>Jr (hx.2 x hm) (by have:=eL Step.tot hm;omega) a b)
  (λi left hi next=>by simp only[jT];rw[ab,if_pos (by omega),aE,ai hi,aa]) (λleft next=>by simp only[jT];rw[ab,if_neg (by omega)]) (by have:=bm Step.tot xs;omega) h1 h2
theorem GH {k:Nat} {xs:List Step} (hk:eE Step.tot xs<k) (hN:eE Step.tot xs<=aT):ny k xs=some xs:=by
 have hl:xs.length<=eE Step.tot xs:=bm _ _
 exact O9 xs _ (f:=λx=>tl k x) (g:=λu next=>jU k xs u next (λy=>some y)) (by omega) (λx hm=>Js (by have:=eL Step.tot hm;omega) (by have:=eL Step.tot hm;omega))
  (λi ys hi next=>by simp only[jU];rw[ab,if_pos (by omega),aE,ai hi,aa]) (λys next=>by simp only[jU];rw[ab,if_neg (by omega)]) (by omega)
theorem GI {k:Nat} {xs ys:List Step} (hk:eE Step.tot xs<k) (hN:eE Step.tot xs<=aT):yB k xs ys=some (decide (xs=ys)):=by
 have hl:xs.length<=eE Step.tot xs:=bm _ _;have h2:=al
 exact Pa (f:=λx y=>wJ k x y) (g:=λu next=>jV k (xs,ys) u next (λy=>some true) (λy=>some y)) (by omega) (λx hm y=>Jt (by have:=eL Step.tot hm;omega) (by have:=eL Step.tot hm;omega))
  (λi hi hi' next=>by simp only[jV];rw[ab,if_pos (by omega),aE,aE,ai hi,ai hi',aa,aa]) (λnext=>by simp only[jV];rw[ab,if_neg (by omega)]) (by omega)
theorem wi {k:Nat} {xs:List Step} {m:Int} (hk:eE Step.tot xs<k) (hN:eE Step.tot xs<=aT) (h0:0<=m) (hB:m+16*eE Step.tot xs<=Dg):
    ∃r ys,mW k xs m=some (r,ys)/\m<=r/\r<=m+16*eE Step.tot xs/\ys.length=xs.length/\Gu k ys m=some r:=by
  have ht:eE Step.tot xs=eE Step.tot xs:=rfl;have hN2:=al;have hlen:=bm Step.tot xs;unfold Dg at hB
  obtain⟨r,out,a1,a2,a3,a4,a5⟩:=tb (t:=Step.tot) (N:=xs.length) (g:=λu next=>eV k () u next (λy=>some (y.1,y.2))) (fin:=λy=>some (y.1,y.2)) (hd:=λys u next=>jD k ys u next (λy=>some y) (λy=>some y))
    (λm ys next hl=>by simp only[eV,ab];rw[if_neg (by omega)]) (λys m next hl=>by simp only[jD,ab];rw[if_neg (by omega)]) xs [] m k (by simp) (by omega) h0 (by unfold Dg;omega)
    (λx hm m h0 hB=>by
      have hmt:=eL Step.tot hm;rw[ht]at hmt;unfold Dg at hB
      have hxk:x.tot<k:=by omega
      have hxN:x.tot<=aT:=by omega
      clear hmt hm;unfold Step.tot av.tot at hxk hxN hB⊢;obtain⟨r0,y0,e0,a0,b0,l0,h0⟩:=wg (k:=k) (xs:=x.data) (m:=m+1+1+1) (by omega) (by omega) (by omega) (by unfold Dg;omega);obtain⟨r1,y1,e1,a1,b1,l1,h1⟩:=p8 (k:=k) (xs:=x.input.data) (m:=r0+1+1+1) (by omega) (by omega) (by omega) (by unfold Dg;omega);refine⟨r1,(⟨m,m+1,m+1+1,y0,(⟨(⟨r0,r0+1,r0+1+1⟩:Shape),y1⟩:av)⟩:Step),by omega,by omega,λi ys next hl hi hx=>?_,λi ys next hl hi hy=>?_⟩
      · simp(disch:=first|omega|(simp only[RW];omega))only[eV,ab,if_pos,Rg,aH,RW,R3,List.set_set,hx,aa,e0,e1]
      · simp(disch:=omega)only[jD,ab,if_pos,if_neg,aE,hy,aa,mg,aH,if_true,h0,h1])
  rw[ht]at a4;exact⟨r,out,a2,a3,a4,a1,a5 k (by omega)⟩
end
section
end
section
theorem LC {β R:Type} (n:Nat) (f:Nat->β) {g:Int× List β->(Int× List β->Option R)->Option R} {fin:List β->Option R}
  (h:∀(i:Nat) (ys:List β) (hi:i<n) (next:Int× List β->Option R),ys.length=i->g ((i:Int),ys) next=next (((i+1:Nat):Int),ys++[f i]))
  (hn:∀ys next,g ((n:Int),ys) next=fin ys) {k:Nat} (hk:n<k):iter g k (0,[])=fin ((List.range n).map f):=by
 have:=fo (g:=g) (st:=λi=>((i:Int),(List.range i).map f)) (n:=n) (r:=fin ((List.range n).map f)) (λi hi next=>by
  rw[h i _ hi next (by simp),SM,Sm];rfl) (λnext=>hn _ _) hk
 simpa using this
def takes (x:Step):Int:=cond (inB x.kind 4 5&&inB x.a 0 200) x.a 0
theorem CE (x:Step):0<=takes x/\takes x<=200:=by
 unfold takes;cases h:(inB x.kind 4 5&&inB x.a 0 200)
 ·simp
 ·simp only[inB,Rf,decide_eq_true_eq]at h;simp only[cond_true];omega
theorem tN (k:Nat) (x:Step):qJ k x=some (takes x):=by
 unfold qJ takes;simp only[cy,aa];cases inB x.kind 4 5<;>cases inB x.a 0 200<;>rfl
theorem wj (k:Nat) (x:Step):kG k x=some (inB x.kind 4 5&&inB x.a 0 200):=by
 unfold kG;simp only[fy,aa,bJ];by_cases h4:x.kind=4
 ·rw[if_pos h4,h4];rfl
 ·rw[if_neg h4];by_cases h5:x.kind=5
  ·rw[if_pos h5,h5];rfl
  ·rw[if_neg h5,show inB x.kind 4 5=false from by unfold inB;rw[decide_eq_false_iff_not];omega];rfl
end
section
theorem jr {b c:Bool}:cond b (some c) (some false)=some (b&&c):=by cases b<;>rfl
theorem dq {α:Type} {b:Bool} {x y:α}:cond (!b) x y=cond b y x:=by cases b<;>rfl
theorem nJ {α:Type} (a b:Int) (x y:α):cond (a !=b) x y=cond (decide (a=b)) y x:=by rw[Lt];by_cases h:a=b<;>simp[h]
theorem EC (a b:Int):(a==b)=decide (a=b):=O7 a b
def H4 (l:ax):Bool:=inB l.out 1 8&&(inB l.mult 0 2147483647&&(inB l.shift 0 31&&(inB l.zero (-128) 127&&(decide ((l.m9.length:Int)=l.out)&&(l.m9.all (λx=>inB x (-1000000) 1000000)&&rI l.weights)))))
def sk (l:ax):Bool:=decide (l.out=0)&&(decide (l.mult=0)&&(decide (l.shift=0)&&(decide ((l.weights.length:Int)=0)&&decide ((l.m9.length:Int)=0))))
def pb (l:ax):Bool:=decide (l.size=0)&&decide (l.step=0)
def LD (s:Shape) (l:ax):Bool:=inB l.size 1 3&&(inB l.step 1 2&&(decide (l.size<=s.h)&&decide (l.size<=s.w)))
def iR (s:Shape) (l:ax):Bool:=s.okB&&
 (cond (decide (l.kind=0)) (pb l&&(H4 l&&(decide (s.size<=64)&&decide ((l.weights.length:Int)=l.out*s.size))))
 (cond (decide (l.kind=1)) (LD s l&&(H4 l&&(decide ((l.weights.length:Int)=l.out*l.size*l.size*s.c)&&decide ((l.weights.length:Int)<=600))))
 (cond (decide (l.kind=2)||decide (l.kind=3)) (LD s l&&(sk l&&decide (l.zero=0)))
 (cond (decide (l.kind=4)) (pb l&&(sk l&&inB l.zero (-128) 127))
 (cond (decide (l.kind=5)) (pb l&&(sk l&&(decide (l.zero=0)&&decide (s.size<=8)))) false)))))
def rf (s:Shape) (l:ax) (c:Int):Shape:=
 ⟨IntKind.i64.wrap ((IntKind.i64.wrap ((IntKind.i64.wrap (s.h-l.size)).tdiv l.step))+1),IntKind.i64.wrap ((IntKind.i64.wrap ((IntKind.i64.wrap (s.w-l.size)).tdiv l.step))+1),c⟩
def shapeOf (s:Shape) (l:ax):Shape:=
 cond (decide (l.kind=0)) ⟨1,1,l.out⟩ (cond (decide (l.kind=1)) (rf s l l.out) (cond (decide (l.kind=4)) s (cond (decide (l.kind=5)) ⟨1,1,s.size⟩ (rf s l s.c))))
def jt:Shape:=⟨0,0,0⟩
def gS (s:Shape) (l:ax):Shape× Bool:=cond (iR s l) (shapeOf s l,true) (jt,false)
theorem vK (k:Nat) (x:Int):gJ k x=some (inB x (-128) 127):=by unfold gJ;rw[cy,aa]
theorem GJ {k:Nat} {l:ax} (hk:l.tot<k) (hN:l.tot<=aT) (fin:Option Bool):
    (iter (λu16 n16=>gp k (l.kind,l.out,l.size,l.step,l.mult,l.shift,l.zero,l.weights,l.m9) u16 n16 (λy9=>iter (λu14 n14=>gq k (l.kind,l.out,l.size,l.step,l.mult,l.shift,l.zero,l.weights,l.m9) u14 n14 (λy12=>fin) (λy13=>some y13)) k (0:Int)) (λy15=>some y15)) k (0:Int))
      =cond (l.m9.all (λx=>inB x (-1000000) 1000000)) (cond (rI l.weights) fin (some false)) (some false):=by
  have hM:=al;unfold ax.tot at hk hN
  rw [ov l.m9 (λ x => inB x (-1000000) 1000000) (yes := cond (rI l.weights) fin (some false)) (no := some false) (λ i hi next => by
    simp only[gp]
    rw[ab,if_pos (by omega),aE,ai hi,aa,cy,aa,cond_not,au hi (by omega)]) (λnext=>by
    simp only[gp];rw[ab,if_neg (by omega)]
    exact ov l.weights (λx=>inB x (-128) 127) (λi hi next=>by
      simp only[gq]
      rw[ab,if_pos (by omega),aE,ai hi,aa,vK,aa,cond_not,au hi (by omega)]) (λnext=>by
      simp only[gq];rw[ab,if_neg (by omega)]) (by omega)) (by omega)]
def yJ (l:ax) (window weighs:Bool):Bool:=
 cond window (inB l.size 1 3&&inB l.step 1 2) (pb l)&&cond weighs (H4 l) (sk l&&cond (decide (l.kind=4)) (inB l.zero (-128) 127) (decide (l.zero=0)))
theorem Ph (n:Nat):decide ((n:Int)>0)=!decide ((n:Int)=0):=by
 by_cases h:(n:Int)=0
 ·rw[decide_eq_true h,decide_eq_false (by omega)];rfl
 ·rw[decide_eq_false h,decide_eq_true (by omega)];rfl
theorem CF {k:Nat} {l:ax} (hk:l.tot<k) (hN:l.tot<=aT) (a b:Bool):qK k l a b=some (yJ l a b):=by
 unfold qK yJ H4 sk pb;simp only[cy,vK,aa,dq,nJ,GJ hk hN,Ph,EC];cases a<;>cases b<;>simp only[cond_true,cond_false,jr]<;>(by_cases h4:l.kind=4<;>simp only[h4,decide_true,decide_false,cond_true,cond_false,jr,Bool.and_assoc,Tq])
theorem cn {x a b:Int}:inB x a b=true↔a<=x/\x<=b:=by unfold inB;simp
theorem qa {s:Shape} {l:ax} (h:LD s l=true):1<=l.size/\l.size<=3/\1<=l.step/\l.step<=2/\l.size<=s.h/\l.size<=s.w:=by
 simp only[LD,Rf,cn,decide_eq_true_eq]at h;omega
theorem wR {l:ax} (h:H4 l=true):1<=l.out/\l.out<=8:=by
 simp only[H4,Rf,cn]at h;omega
theorem ED {o z c:Int} (h1:1<=o) (h2:o<=8) (h3:1<=z) (h4:z<=3) (h5:1<=c) (h6:c<=8):
  IntKind.i64.wrap (IntKind.i64.wrap (IntKind.i64.wrap (o*z)*z)*c)=o*z*z*c/\IntKind.i64.wrap (o*IntKind.i64.wrap (IntKind.i64.wrap (z*z)*c))=o*z*z*c:=by
 have a1:=pT (show 0<=o by omega) h2 (show 0<=z by omega) h4;have a2:=pT a1.1 a1.2 (show 0<=z by omega) h4;have a3:=pT a2.1 a2.2 (show 0<=c by omega) h6;have b1:=pT (show 0<=z by omega) h4 (show 0<=z by omega) h4;have b2:=pT b1.1 b1.2 (show 0<=c by omega) h6;have b3:=pT (show 0<=o by omega) h2 b2.1 b2.2;refine⟨?_,?_⟩
 ·rw[aH (n:=o*z) (by omega) (by omega),aH (n:=o*z*z) (by omega) (by omega),aH (by omega) (by omega)]
 ·rw[aH (n:=z*z) (by omega) (by omega),aH (n:=z*z*c) (by omega) (by omega),aH (by omega) (by omega),<-TP,<-TP]
theorem Bd {o:Int} {s:Shape} (h1:1<=o) (h2:o<=8):IntKind.i64.wrap (o*s.size)=o*s.size:=by
 have h:=Shape.LB s;have a1:=pT (show 0<=o by omega) h2 h.1 h.2;exact aH (by omega) (by omega)
theorem oQ {k:Nat} {s:Shape} {l:ax} (hk:l.tot<k) (hN:l.tot<=aT):lh k s l=some (gS s l):=by
  unfold lh gS iR;simp only[ke,cy,oN,CF hk hN,aa,dq,nJ,EC];cases hs:s.okB
  · rfl
  obtain⟨c1,c2,c3,c4,c5,c6⟩:=Shape.tK hs;simp only[cond_true,Rp];by_cases k0:l.kind=0
  · have e1:inB l.kind 0 5=true:=by rw[cn];omega
    have e2:inB l.kind 1 3=false:=by rw[<-Bool.not_eq_true,cn];omega
    simp only[k0,e1,e2,cond_true,cond_false,yJ,shapeOf,decide_true];simp only[k0]at e1 e2;simp only[e1,e2,cond_true,cond_false,show decide ((0:Int)<=1)=true from rfl];cases pb l
    · rfl
    cases hnum:H4 l
    · rfl
    obtain⟨o1,o2⟩:=wR hnum;simp only[Bd o1 o2,Rp,cond_true];by_cases z:s.size<=64
    · rw[decide_eq_true z,decide_eq_false (by omega)];cases decide ((l.weights.length:Int)=l.out*s.size)<;>rfl
    · rw[decide_eq_false z,decide_eq_true (by omega)];rfl
  by_cases k1:l.kind=1
  · simp only[k1,yJ,shapeOf,show inB 1 0 5=true from rfl,show inB 1 1 3=true from rfl,decide_true,cond_true,cond_false,show decide ((1:Int)=0)=false from rfl,show decide ((1:Int)<=1)=true from rfl];unfold LD;cases hz:inB l.size 1 3
    · rfl
    cases ht:inB l.step 1 2
    · rfl
    rw[cn]at hz ht;simp only[Rp,cond_true];cases hnum:H4 l
    · simp only[cond_false,Sa,Th];rfl
    obtain⟨o1,o2⟩:=wR hnum;simp only[cond_true,Rp,(ED o1 o2 hz.1 hz.2 c5 c6).1];rw[decide_eq_false (show¬l.step=0 by omega)];simp only[cond_false];by_cases w1:l.size<=s.h
    · rw [decide_eq_true w1, decide_eq_false (show ¬ l.size > s.h by omega)];by_cases w2:l.size<=s.w
      · rw[decide_eq_true w2,decide_eq_false (show¬l.size>s.w by omega)];simp only[cond_false,Rp];cases decide ((l.weights.length:Int)=l.out*l.size*l.size*s.c)
        · rfl
        · by_cases w3:(l.weights.length:Int)<=600
          · rw[decide_eq_true w3,decide_eq_false (by omega)];rfl
          · rw[decide_eq_false w3,decide_eq_true (by omega)];rfl
      · rw[decide_eq_false w2,decide_eq_true (show l.size>s.w by omega)];rfl
    · rw[decide_eq_false w1,decide_eq_true (show l.size>s.h by omega)];rfl
  have win:l.kind=2\/l.kind=3->_:=λh23=>by
    have e1:inB l.kind 0 5=true:=by rw[cn];omega
    have e2:inB l.kind 1 3=true:=by rw[cn];omega
    have e3:decide (l.kind<=1)=false:=decide_eq_false (by omega)
    have e4:(decide (l.kind=2)||decide (l.kind=3))=true:=by simpa using h23
    have e5:decide (l.kind=4)=false:=decide_eq_false (by omega);have e6:decide (l.kind=5)=false:=decide_eq_false (by omega);exact And.intro e1 (And.intro e2 (And.intro e3 (And.intro e4 (And.intro e5 e6))))
  by_cases h23:l.kind=2\/l.kind=3
  · obtain⟨e1,e2,e3,e4,e5,e6⟩:=win h23;simp only[e1,e2,e3,e4,e5,e6,decide_eq_false k0,decide_eq_false k1,yJ,shapeOf,cond_true,cond_false];unfold LD;cases hz:inB l.size 1 3
    · rfl
    cases ht:inB l.step 1 2
    · rfl
    rw[cn]at hz ht;simp only[Rp,cond_true];rw[decide_eq_false (show¬l.step=0 by omega)];cases sk l
    · simp only[Sa,Th,cond_false];rfl
    cases decide (l.zero=0)
    · simp only[Sa,Th,cond_false];rfl
    simp only[cond_false,cond_true,Tq,Rp];by_cases w1:l.size<=s.h
    · rw[decide_eq_true w1,decide_eq_false (show¬l.size>s.h by omega)];by_cases w2:l.size<=s.w
      · rw[decide_eq_true w2,decide_eq_false (show¬l.size>s.w by omega)];rfl
      · rw[decide_eq_false w2,decide_eq_true (show l.size>s.w by omega)];rfl
    · rw[decide_eq_false w1,decide_eq_true (show l.size>s.h by omega)];rfl
  have e4:(decide (l.kind=2)||decide (l.kind=3))=false:=by simpa using h23
  by_cases k4:l.kind=4
  · simp only[k4,e4,yJ,shapeOf,show inB 4 0 5=true from rfl,show inB 4 1 3=false from rfl,decide_true,cond_true,cond_false,show decide ((4:Int)=0)=false from rfl,show decide ((4:Int)=1)=false from rfl,show decide ((4:Int)<=1)=false from rfl,
      show(decide ((4:Int)=2)||decide ((4:Int)=3))=false from rfl,show decide ((4:Int)=5)=false from rfl]
    cases pb l<;>cases sk l<;>cases inB l.zero (-128) 127<;>rfl
  by_cases k5:l.kind=5
  · simp only[k5,yJ,shapeOf,show inB 5 0 5=true from rfl,show inB 5 1 3=false from rfl,decide_true,cond_true,cond_false,show decide ((5:Int)=0)=false from rfl,show decide ((5:Int)=1)=false from rfl,show decide ((5:Int)<=1)=false from rfl,
      show(decide ((5:Int)=2)||decide ((5:Int)=3))=false from rfl,show decide ((5:Int)=4)=false from rfl]
    by_cases z:s.size<=8
    · rw[decide_eq_true z,decide_eq_false (show¬s.size>8 by omega)];cases pb l<;>cases sk l<;>cases decide (l.zero=0)<;>rfl
    · rw[decide_eq_false z,decide_eq_true (show s.size>8 by omega)];cases pb l<;>cases sk l<;>cases decide (l.zero=0)<;>rfl
  · have e1:inB l.kind 0 5=false:=by rw[<-Bool.not_eq_true,cn];omega
    simp only[e1,e4,decide_eq_false k0,decide_eq_false k1,decide_eq_false k4,decide_eq_false k5,cond_false];rfl
theorem tO (k:Nat) (l:ax):eW k l=some (pb l):=by
 unfold eW pb;simp only[EC,jr]
theorem vf (k:Nat) (l:ax):eF k l=some (sk l):=by
 unfold eF sk;simp only[EC,jr]
theorem sn (k:Nat) (s:Shape) (l:ax):dZ k l s=some (LD s l):=by
 unfold dZ LD;simp only[fy,aa,jr]
 congr 1
 rw[Tr];simp only[Rf,cn,decide_eq_true_eq];split<;>split<;>constructor<;>intro h<;>omega
theorem GK {k:Nat} {xs:List Int} (hk:xs.length<k) (hx:xs.length<=ue):aJ k xs=some (!xs.all (λx=>inB x (-1000000) 1000000)):=by
 unfold ue at hx;unfold aJ aW
 rw[eT xs (λx=>!inB x (-1000000) 1000000) (λi hi next=>by
  simp only[aF,ab,gV,fy,aa]
  rw[if_pos (by omega),aE,ai hi,aa,au hi (by omega)]) (λnext=>by
  simp only[aF,ab];rw[if_neg (by omega)]) hk]
 rw[cR];simp only[aa,nI];rw[SY];simp
theorem sq {k:Nat} {l:ax} {n:Int} (hk:l.tot<k) (hN:l.tot<=aT):fD k l n=some (H4 l&&decide ((l.weights.length:Int)=IntKind.i64.wrap (l.out*n))):=by
 have hM:=al;unfold ax.tot at hk hN;unfold fD H4;simp only[fy,aa,tL (xs:=l.weights) (k:=k) (by omega) (by unfold ue;omega),GK (xs:=l.m9) (k:=k) (by omega) (by unfold ue;omega),EC,TD,jr]
 congr 1
 cases inB l.out 1 8<;>cases inB l.mult 0 2147483647<;>cases inB l.shift 0 31<;>cases inB l.zero (-128) 127<;>cases decide ((l.weights.length:Int)=IntKind.i64.wrap (l.out*n))<;>cases rI l.weights<;>cases decide ((l.m9.length:Int)=l.out)<;>cases l.m9.all (λx=>inB x (-1000000) 1000000)<;>rfl
theorem iS (k:Nat) {s:Shape} {l:ax} (c:Int) (h:1<=l.step):eX k l s c=some (rf s l c):=by
 unfold eX rf;rw[decide_eq_false (show¬l.step=0 by omega)];rfl
theorem oR {k:Nat} {s:Shape} {l:ax} (hk:l.tot<k) (hN:l.tot<=aT):lj k s l=some (gS s l):=by
 unfold lj gS iR;simp only[p6,fy,sj,tO,vf,sn,sq hk hN,aa,dq,EC];cases hs:s.okB
 ·rfl
 obtain⟨c1,c2,c3,c4,c5,c6⟩:=Shape.tK hs;simp only[cond_true,Rp];by_cases k0:l.kind=0
 ·simp only[k0,shapeOf,decide_true,cond_true];cases hnum:H4 l
  ·cases decide (s.size<=64)<;>cases pb l<;>rfl
  obtain⟨o1,o2⟩:=wR hnum;simp only[Bd o1 o2];cases decide (s.size<=64)<;>cases pb l<;>cases decide ((l.weights.length:Int)=l.out*s.size)<;>rfl
 by_cases k1:l.kind=1
 ·simp only[k1,shapeOf,show decide ((1:Int)=0)=false from rfl,decide_true,cond_true,cond_false];cases hw:LD s l
  ·rfl
  have hw:=qa hw;cases hnum:H4 l
  ·cases decide ((l.weights.length:Int)<=600)<;>rfl
  obtain⟨o1,o2⟩:=wR hnum;simp only[(ED o1 o2 hw.1 hw.2.1 c5 c6).2,iS k _ hw.2.2.1,aa];cases decide ((l.weights.length:Int)<=600)<;>cases decide ((l.weights.length:Int)=l.out*l.size*l.size*s.c)<;>rfl
 simp only[decide_eq_false k0,decide_eq_false k1,cond_false];by_cases k2:l.kind=2
 ·simp only[k2,shapeOf,decide_true,Bool.true_or,cond_true,cond_false,show decide ((2:Int)=0)=false from rfl,show decide ((2:Int)=1)=false from rfl,show decide ((2:Int)=4)=false from rfl,show decide ((2:Int)=5)=false from rfl];cases hw:LD s l
  ·rfl
  have hw:=qa hw;simp only[iS k _ hw.2.2.1,aa];cases sk l<;>cases decide (l.zero=0)<;>rfl
 by_cases k3:l.kind=3
 ·simp only[k3,shapeOf,decide_true,SS,cond_true,cond_false,show decide ((3:Int)=0)=false from rfl,show decide ((3:Int)=1)=false from rfl,show decide ((3:Int)=2)=false from rfl,show decide ((3:Int)=4)=false from rfl,show decide ((3:Int)=5)=false from rfl];cases hw:LD s l
  ·rfl
  have hw:=qa hw;simp only[iS k _ hw.2.2.1,aa];cases sk l<;>cases decide (l.zero=0)<;>rfl
 simp only[decide_eq_false k2,decide_eq_false k3,Bool.or_self,cond_false];by_cases k4:l.kind=4
 ·simp only[k4,shapeOf,decide_true,cond_true,cond_false,show decide ((4:Int)=0)=false from rfl,show decide ((4:Int)=1)=false from rfl];cases pb l<;>cases sk l<;>cases inB l.zero (-128) 127<;>rfl
 by_cases k5:l.kind=5
 ·simp only[k5,shapeOf,decide_true,cond_true,cond_false,show decide ((5:Int)=0)=false from rfl,show decide ((5:Int)=1)=false from rfl,show decide ((5:Int)=4)=false from rfl];cases pb l<;>cases sk l<;>cases decide (l.zero=0)<;>cases decide (s.size<=8)<;>rfl
 simp only[decide_eq_false k4,decide_eq_false k5,cond_false];rfl
def cT:Shape->List ax->Option (List Shape)
 |_,[]=>some []
 |s,l::ls=>cond (iR s l) ((cT (shapeOf s l) ls).map (shapeOf s l::·)) none
theorem rJ:∀(ls:List ax) (s:Shape) (t:List Shape),cT s ls=some t->t.length=ls.length
 |[],s,t,h=>by cases h;rfl
 |l::ls,s,t,h=>by
  simp only[cT]at h;cases hb:iR s l<;>simp only[hb,cond_true,cond_false]at h
  ·exact nomatch h
  ·obtain⟨t',h1,rfl⟩:=Rk.1 h;simp[rJ ls _ _ h1]
theorem sr {R:Type} {aB:List ax} {V:Type} {st:Nat->List Shape->Shape->V} {g:V->(V->Option R)->Option R} {fin:List Shape->Option R} {bad:Option R}
    (h:∀(i:Nat) (ys:List Shape) (s:Shape) (hi:i<aB.length) (next:V->Option R),ys.length=i+1->ys[i]? =some s->g (st i ys s) next=cond (iR s aB[i]) (next (st (i+1) (ys++[shapeOf s aB[i]]) (shapeOf s aB[i]))) bad)
    (hn:∀ys s next,g (st aB.length ys s) next=fin ys):∀(rest:List ax) (i:Nat) (ys:List Shape) (s:Shape) (k:Nat),i<=aB.length->aB.drop i=rest->ys.length=i+1->ys[i]? =some s->rest.length<k->
      iter g k (st i ys s)=(cT s rest).elim bad λt=>fin (ys++t)
  |[],i,ys,s,0,hle,hd,hl,hs,hk=>by omega
  |_::_,i,ys,s,0,hle,hd,hl,hs,hk=>by omega
  | [], i, ys, s, k + 1, hle, hd, hl, hs, hk => by
    have h1:=congrArg List.length hd;simp only[Sp,RK]at h1;rw[aC]
    have c:i=aB.length:=by omega
    subst c;rw[hn];simp[cT]
  | l :: ls, i, ys, s, k + 1, hle, hd, hl, hs, hk => by
    have hi:i<aB.length:=by
      have h1:=congrArg List.length hd;simp only[Sp,Rm]at h1;omega
    rw[gI hi]at hd
    injection hd with h1 h2
    rw[aC,h i ys s hi _ hl hs,h1];simp only[cT];cases hb:iR s l
    · rfl
    · simp only[cond_true];rw[sr h hn ls (i+1) (ys++[shapeOf s l]) (shapeOf s l) k (by omega) h2 (by simp[hl]) (by rw[Rh (by omega),hl];simp) (by simpa using hk)]
      cases cT (shapeOf s l) ls with
      |none=>rfl
      |some t=>simp
def dU (m:Model):List Shape× Bool:=cond (m.inp.okB&&inB (m.aB.length:Int) 1 6) ((cT m.inp m.aB).elim ([],false) λt=>(m.inp::t,true)) ([],false)
theorem tP {m:Model} {k:Nat} (hk:m.tot<k) (hN:m.tot<=aT) {l:ax} (h:l∈m.aB):l.tot<k/\l.tot<=aT:=by
 have:=eL ax.tot h;unfold Model.tot at hk hN;omega
theorem gv {m:Model} {k:Nat} (hk:m.tot<k) (hN:m.tot<=aT):m.aB.length<k/\m.aB.length<=aT:=by
 have:=bm ax.tot m.aB;unfold Model.tot at hk hN;omega
theorem m7 {k:Nat} {m:Model} (hk:m.tot<k) (hN:m.tot<=aT):jn k m=some (dU m):=by
  have hM:=al;obtain⟨hlk,hlN⟩:=gv hk hN;unfold jn dU;simp only[ke,cy,aa,dq];cases m.inp.okB
  · rfl
  cases hlen:inB (m.aB.length:Int) 1 6
  · rfl
  rw[cn]at hlen;simp only[cond_true,Rp]
  have:=sr (aB:=m.aB) (V:=Int× List Shape) (st:=λi ys s=>((i:Int),ys)) (fin:=λy=>some (y,true)) (bad:=some (([]:List Shape),false))
    (g:=λu next=>gK k (m.inp.h,m.inp.w,m.inp.c,m.aB) u next (λy6=>some (y6,true)) (λy7=>some (([]:List Shape),y7))) (λi ys s hi next hl hs=>by
      obtain⟨a1,a2⟩:=tP hk hN (Rq hi);simp only[gK];rw[ab,if_pos (by omega),ab,if_pos (by omega),Rg,hs,aa,aE,ai hi,aa,oQ a1 a2,aa,au hi (by omega),cr (by simp;omega)];unfold gS
      cases iR s m.aB[i]<;>rfl) (λys s next=>by
      simp only[gK];rw[ab,if_neg (by omega)]) m.aB 0 [m.inp] m.inp k (by omega) rfl rfl rfl hlk
  refine this.trans ?_;cases cT m.inp m.aB<;>rfl
def tQ (m:Model):List Shape× Bool:=(cT m.inp m.aB).elim ([],false) λt=>(m.inp::t,true)
theorem nK {k:Nat} {m:Model} (hk:m.tot<k) (hN:m.tot<aT):gM k m=some (tQ m):=by
  have hM:=al;obtain⟨hlk,hlN⟩:=gv hk (TE hN)
  have hb:m.aB.length+1<=aT:=by have:=bm ax.tot m.aB;unfold Model.tot at hN;omega
  unfold gM tQ
  have := sr (aB := m.aB) (V := Int × List Shape × Int × Int × Int) (st := λ i ys s => ((i : Int), ys, s.h, s.w, s.c)) (fin := λ y => some (y, true)) (bad := some (([] : List Shape), false))
      (g:=λu next=>eY k (m.aB,(m.aB.length:Int)) u next (λy3=>some (y3,true)) (λy4=>some (([]:List Shape),y4))) (λi ys s hi next hl hs=>by
        obtain⟨a1,a2⟩:=tP hk (TE hN) (Rq hi);simp only[eY];rw[ab,if_pos (by omega),aE,ai hi,aa,oR a1 a2,aa,au hi (by omega),cr (by simp;omega)];unfold gS
        cases iR s m.aB[i]<;>rfl) (λys s next=>by
        simp only[eY];rw[ab,if_neg (by omega)]) m.aB 0 [m.inp] m.inp k (by omega) rfl rfl rfl hlk
  refine this.trans ?_;cases cT m.inp m.aB<;>rfl
theorem Ju {s:Shape} {ls:List ax} (hs:s.okB=false) (hl:ls≠[]):cT s ls=none:=by
 cases ls with
 |nil=>exact(hl rfl).elim
 |cons l ls=>simp[cT,iR,hs]
def ey (m:Model):Bool:=(dU m).2
theorem vL {m:Model} (h:inB (m.aB.length:Int) 1 6=true):tQ m=dU m:=by
 unfold tQ dU;rw[h,Tq];cases hs:m.inp.okB
 ·rw[Ju hs (λe=>by rw[e]at h;exact nomatch h)];rfl
 ·rfl
theorem Be {m:Model} (h:inB (m.aB.length:Int) 1 6=false):ey m=false:=by
 unfold ey dU;rw[h,Th];rfl
theorem vM {k:Nat} {m:Model} (hk:m.tot<k) (hN:m.tot<=aT):pX k m=some (ey m):=by
 unfold pX;rw[m7 hk hN];rfl
theorem qb {k:Nat} {m:Model} (hk:m.tot<k) (hN:m.tot<aT):lI k m=some (ey m):=by
 unfold lI;rw[fy,aa,dq,nK hk hN];cases h:inB (m.aB.length:Int) 1 6
 ·rw[Be h];rfl
 ·rw[vL h];rfl
def ch (m:Model):List Shape:=cond (ey m) (dU m).1 []
theorem tR {k:Nat} {m:Model} (hk:m.tot<k) (hN:m.tot<aT):nz k m=some (ch m):=by
 unfold nz ch;rw[qb hk hN,aa,dq,nK hk hN];cases h:ey m
 ·rfl
 ·have:inB (m.aB.length:Int) 1 6=true:=by
   cases h2:inB (m.aB.length:Int) 1 6
   ·rw[Be h2]at h;exact nomatch h
   ·rfl
  rw[vL this];rfl
theorem mH {m:Model} (h:ey m=true):(ch m).length=m.aB.length+1:=by
 unfold ch;rw[h,cond_true];unfold ey at h;unfold dU at h⊢;cases h1:(m.inp.okB&&inB (m.aB.length:Int) 1 6)<;>rw[h1]at h
 ·exact nomatch h
 ·simp only[cond_true]at h⊢
  cases h2:cT m.inp m.aB with
  |none=>rw[h2]at h;exact nomatch h
  |some t=>simp[rJ _ _ _ h2]
def LF (s t:Shape) (l:ax):Int:=
  cond (decide (l.kind=0)) (IntKind.i64.wrap (1+(IntKind.i64.wrap ((IntKind.i64.wrap (t.size*s.size)).tdiv 16))))
  (cond (decide (l.kind=1)) (IntKind.i64.wrap (1+(IntKind.i64.wrap ((IntKind.i64.wrap ((IntKind.i64.wrap ((IntKind.i64.wrap (t.size*l.size))*l.size))*s.c)).tdiv 16))))
  (cond (decide (l.kind=2)) (IntKind.i64.wrap (1+(IntKind.i64.wrap ((IntKind.i64.wrap ((IntKind.i64.wrap (t.size*l.size))*l.size)).tdiv 16))))
  (cond (decide (l.kind=3)) (IntKind.i64.wrap (1+(IntKind.i64.wrap ((IntKind.i64.wrap ((IntKind.i64.wrap (t.size*l.size))*l.size)).tdiv 16))))
   (IntKind.i64.wrap (1+(IntKind.i64.wrap (s.size.tdiv 16)))))))
def yK (s:Shape) (l:ax):Int:=cond (gS s l).2 (LF s (gS s l).1 l) 0
theorem GL {k:Nat} {s:Shape} {l:ax} (hk:l.tot<k) (hN:l.tot<=aT):wK k s l=some (yK s l):=by
 unfold wK yK LF;simp only[oQ hk hN,oN,aa,dq,EC];cases(gS s l).2
 ·rfl
 simp only[cond_true];cases decide (l.kind=0)<;>cases decide (l.kind=1)<;>cases decide (l.kind=2)<;>cases decide (l.kind=3)<;>rfl
theorem GM {k:Nat} {s:Shape} {l:ax} (hk:l.tot<k) (hN:l.tot<=aT):wL k s l=some (yK s l):=by
 unfold wL yK LF;simp only[oR hk hN,sj,aa,dq,EC];rw[Int.mul_comm s.size];cases(gS s l).2
 ·rfl
 simp only[cond_true];cases decide (l.kind=0)<;>cases decide (l.kind=1)<;>cases decide (l.kind=2)<;>cases decide (l.kind=3)<;>rfl
def bC (m:Model):List Int:=cond (ey m) ((List.range m.aB.length).map λi=>yK ((ch m).getD i jt) (m.aB.getD i ⟨0,0,0,0,0,0,0,[],[]⟩)) []
theorem b8 {α:Type} {xs:List α} {i:Nat} (h:i<xs.length) (d:α):xs.getD i d=xs[i]:=by rw[RL,ai h];rfl
theorem kh {k:Nat} {m:Model} (hk:m.tot<k) (hN:m.tot<=aT):jX k m=some (bC m):=by
 have hM:=al;obtain⟨hlk,hlN⟩:=gv hk hN;unfold jX bC;rw[m7 hk hN,aa,dq];show cond (ey m) _ _=_;cases h:ey m
 ·rfl
 have hsl:=mH h
 have e:(dU m).1=ch m:=by unfold ch;rw[h];rfl
 simp only[cond_true,e]
 exact LC m.aB.length _ (g:=λu next=>jW k (m.inp.h,m.inp.w,m.inp.c,m.aB,ch m) u next (λy5=>some y5)) (fin:=some) (λi ys hi next hl=>by
  obtain⟨a1,a2⟩:=tP hk hN (Rq hi);simp only[jW]
  rw[ab,if_pos (by omega),ab,if_pos (by omega),Rg,ai (show i<(ch m).length by omega),aa,aE,ai hi,aa,GL a1 a2,aa,cr (by simp;omega),au hi (by omega),b8 (show i<(ch m).length by omega),b8 hi]) (λys next=>by
  simp only[jW];rw[ab,if_neg (by omega)]) hlk
theorem ki {k:Nat} {m:Model} (hk:m.tot+1<k) (hN:m.tot<aT):jZ k m=some (bC m):=by
  have hM:=al;obtain⟨hlk,hlN⟩:=gv (show m.tot<k-1 by omega) (TE hN);unfold jZ bC;rw[tR (by omega) hN,aa];cases h:ey m
  · have:ch m=[]:=by unfold ch;rw[h];rfl
    rw[this]
    cases k with
    |zero=>omega
    |succ k=>rfl
  have hsl:=mH h;simp only[cond_true];rw[hsl]
  have := fo (R := List Int) (g := λ u next => jY k (((m.aB.length + 1 : Nat) : Int), m.inp.h, m.inp.w, m.inp.c, m.aB, ch m) u next (λ y5 => some y5)) (n := m.aB.length + 1)
    (st:=λi=>((i:Int),(List.range (min i m.aB.length)).map λi=>yK ((ch m).getD i jt) (m.aB.getD i ⟨0,0,0,0,0,0,0,[],[]⟩)))
    (r := some ((List.range m.aB.length).map λ i => yK ((ch m).getD i jt) (m.aB.getD i ⟨0, 0, 0, 0, 0, 0, 0, [], []⟩))) (λ i hi next => by
      simp only[jY];rw[ab,if_pos (by omega),ab,if_pos (by omega),Rg,ai (show i<(ch m).length by omega),aa,au hi (by omega),ab];by_cases c:i<m.aB.length
      · obtain⟨a1,a2⟩:=tP (show m.tot<k by omega) (TE hN) (Rq c);rw[if_pos (by omega),aE,ai c,aa,GM a1 a2,aa,cr (by simp;omega),Tu (by omega),Tu (by omega),SM,Sm,List.map_singleton,b8 (show i<(ch m).length by omega),b8 c]
      · rw[if_neg (by omega),Nat.min_eq_right (by omega),Nat.min_eq_right (by omega)]) (λnext=>by
      simp only[jY]
      rw[ab,if_neg (by omega),Nat.min_eq_right (by omega)]) (k:=k) (by omega)
  simpa using this
def yL (m:Model):Int:=(bC m).foldl (λs x=>IntKind.i64.wrap (s+x)) 0
theorem ju (m:Model):(bC m).length<=m.aB.length:=by
 unfold bC;cases ey m<;>simp
theorem zZ {k:Nat} {m:Model} (hk:m.tot<k) (hN:m.tot<=aT):oC k m=some (yL m):=by
 have hM:=al;obtain⟨hlk,hlN⟩:=gv hk hN;have hc:=ju m;unfold oC;rw[kh hk hN,aa]
 exact pS (bC m) (λs x=>IntKind.i64.wrap (s+x)) (g:=λu next=>gL k (bC m) u next (λy3=>some y3)) (fin:=some) 0 (λi s hi next _=>by
  simp only[gL]
  rw[ab,if_pos (by omega),ab,if_pos (by omega),Rg,ai hi,aa,au hi (by omega)]) (λnext=>by
  simp only[gL];rw[ab,if_neg (by omega)]) (by omega)
theorem CG {k:Nat} {xs:List Int} (hk:xs.length<k) (hN:xs.length<=aT):Ly k xs=some (xs.foldl (λs x=>IntKind.i64.wrap (s+x)) 0):=by
 have hM:=al
 exact pS xs (λs x=>IntKind.i64.wrap (s+x)) (g:=λu next=>tp k (xs,(xs.length:Int)) u next (λy2=>some y2)) (fin:=some) 0 (λi s hi next _=>by
  simp only[tp]
  rw[ab,if_pos (by omega),aE,ai hi,aa,au hi (by omega)]) (λnext=>by
  simp only[tp];rw[ab,if_neg (by omega)]) hk
theorem Aa {k:Nat} {m:Model} (hk:m.tot+1<k) (hN:m.tot<aT):oD k m=some (yL m):=by
 obtain⟨hlk,hlN⟩:=gv (show m.tot<k by omega) (TE hN);have hc:=ju m;unfold oD;rw[ki hk hN,aa,CG (by omega) (by omega)];rfl
end
section
end
section
end
section
theorem EE {k:Nat} {l:ax} (hk:l.tot<k) (hN:l.tot<=aT):tq k l=some l:=by
 unfold ax.tot at hk hN;unfold tq;rw[kg (by omega) (by omega),aa,kg (by omega) (by omega)];rfl
theorem vg {k:Nat} {l:ax} (hN:l.tot<=aT):jE k l=some l:=by
 unfold ax.tot at hN;unfold jE;rw[cS (by omega),aa,cS (by omega)];rfl
theorem vh {k:Nat} {xs:List ax} (hk:eE ax.tot xs<k) (hN:eE ax.tot xs<=aT):mX k xs=some xs:=by
 have hM:=al;have hl:=bm ax.tot xs
 have:=qG xs (λx=>x) (g:=λu next=>eZ k (xs,(xs.length:Int)) u next (λy3=>some y3)) (fin:=some) (λi ys hi next hys=>by
  have hm:=eL ax.tot (Rq hi);simp only[eZ]
  rw[ab,if_pos (by omega),aE,ai hi,aa,vg (by omega),aa,cr (by omega),au hi (by omega)]) (λys next=>by
  simp only[eZ];rw[ab,if_neg (by omega)]) (k:=k) (by omega)
 rw[TF]at this;exact this
theorem nL {k:Nat} {m:Model} (hk:m.tot<k) (hN:m.tot<=aT):gN k m=some m:=by
 unfold Model.tot at hk hN;unfold gN;rw[vh (by omega) (by omega)];rfl
theorem qc {k:Nat} {m:Model} (hk:m.tot<k) (hN:m.tot<=aT):pY k m=some m:=by
 have hM:=al;obtain⟨hlk,hlN⟩:=gv hk hN
 have:=qG m.aB (λx=>x) (g:=λu next=>j3 k (m.inp.h,m.inp.w,m.inp.c,m.aB,(0:Int),(0:Int),(0:Int),m.inp.h,m.inp.w,m.inp.c) u next (λy3=>some (⟨m.inp,y3⟩:Model))) (fin:=λy3=>some (⟨m.inp,y3⟩:Model)) (λi ys hi next hys=>by
  obtain⟨a1,a2⟩:=tP hk hN (Rq hi);simp only[j3]
  rw[ab,if_pos (by omega),aE,ai hi,aa,EE a1 a2,aa,cr (by omega),au hi (by omega)]) (λys next=>by
  simp only[j3];rw[ab,if_neg (by omega)]) (k:=k) hlk
 rw[TF]at this;exact this
theorem yM {k:Nat} {j:Job} (hk:j.tot<k) (hN:j.tot<=aT):mj k j=some j:=by
 unfold Job.tot av.tot at hk hN;unfold mj;rw[nL (by omega) (by omega),aa,mG (by omega)];rfl
def dr:Model:=⟨⟨0,0,0⟩,[]⟩
end
section
def QX (xs:List Int):Int:=xs.foldl (λs x=>IntKind.i64.wrap (s+x)) 0
theorem LG (a b:Shape):(cond (a.h==b.h) (cond (a.w==b.w) (cond (a.c==b.c) (true) false) false) false)=decide (a=b):=by
 obtain⟨a1,a2,a3⟩:=a;obtain⟨b1,b2,b3⟩:=b;by_cases h1:a1=b1<;>by_cases h2:a2=b2<;>by_cases h3:a3=b3<;>simp[h1,h2,h3]
def uf (j:Job):Bool:=ey j.model&&(inB j.at_ 0 j.model.aB.length&&(j.act.okB&&(decide (j.act.sh=(ch j.model).getD j.at_.toNat jt)&&decide (j.iW=QX ((bC j.model).take j.at_.toNat)))))
theorem il {m:Model} (h:ey m=true):(bC m).length=m.aB.length:=by
 unfold bC;rw[h];simp
theorem Bf {k:Nat} {j:Job} (hk:j.tot+1<k) (hN:j.tot<aT):yD k j=some (uf j):=by
 have hM:=al;unfold Job.tot av.tot at hk hN
 have hmk:j.model.tot+1<k:=by omega
 have hmN:j.model.tot<aT:=by omega
 obtain⟨hlk,hlN⟩:=gv (show j.model.tot<k by omega) (TE hmN);unfold yD uf;rw[qb (by omega) hmN,aa];cases hm:ey j.model
 ·rfl
 have hsl:=mH hm;have hcl:=il hm;simp only[cond_true,Rp,fy,aa];cases hin:inB j.at_ 0 j.model.aB.length
 ·rfl
 rw[cn]at hin;simp only[cond_true,Rp];rw[tM (by omega) (by unfold ue;omega),aa];cases j.act.okB
 ·rfl
 have hi:j.at_.toNat<(ch j.model).length:=by omega
 simp only[cond_true,Rp];rw[tR (by omega) hmN,aa,ab,if_pos (by omega),ai hi,aa,LG,b8 hi];cases decide (j.act.sh=(ch j.model)[j.at_.toNat])
 ·rfl
 simp only[cond_true,Rp]
 have htl:(((bC j.model).drop 0).take (j.at_.toNat-0)).length<=(bC j.model).length:=by simp;omega
 rw[ki hmk hmN,aa,ab,if_pos (by omega),CG (by omega) (by omega),aa,EC,TA,RZ];rfl
theorem rh {k:Nat} {j:Job} (hk:j.tot<k) (hN:j.tot<=aT):sf k j=some (uf j):=by
  have hM:=al;unfold Job.tot av.tot at hk hN
  have hmk:j.model.tot<k:=by omega
  have hmN:j.model.tot<=aT:=by omega
  obtain⟨hlk,hlN⟩:=gv hmk hmN;unfold sf uf;rw[m7 hmk hmN,aa,dq];show cond (ey j.model) _ _=_;cases hm:ey j.model
  · rfl
  have hsl:=mH hm;have hcl:=il hm
  have e:(dU j.model).1=ch j.model:=by unfold ch;rw[hm];rfl
  simp only[cond_true,Rp,cy,aa,dq,e];cases hin:inB j.at_ 0 j.model.aB.length
  · rfl
  rw[cn]at hin;simp only[cond_true,Rp];rw[oO (by omega) (by unfold ue;omega),aa];cases j.act.okB
  · rfl
  have hi:j.at_.toNat<(ch j.model).length:=by omega
  simp only[cond_true,Rp];rw[ab,if_pos (by omega),ai hi,aa,LG,b8 hi];cases decide (j.act.sh=(ch j.model)[j.at_.toNat])
  · rfl
  simp only[cond_true,Rp];rw[kh hmk hmN,aa]
  have htl:((bC j.model).take j.at_.toNat).length=j.at_.toNat:=by simp;omega
  have:=pS ((bC j.model).take j.at_.toNat) (λs x=>IntKind.i64.wrap (s+x)) (R:=Bool)
    (g:=λu next=>nA k (j.model.inp.h,j.model.inp.w,j.model.inp.c,j.model.aB,j.at_,j.act.sh.h,j.act.sh.w,j.act.sh.c,j.act.data,j.iW,bC j.model) u next (λy7=>some (j.iW==y7))) (fin:=λy7=>some (j.iW==y7)) 0 (λi s hi next _=>by
      rw[htl]at hi
      have hi2:i<(bC j.model).length:=by omega
      simp only[nA]
      rw[ab,if_pos (by omega),ab,if_pos (by omega),Rg,ai hi2,aa,au hi2 (by omega),List.getElem_take]) (λnext=>by
      simp only[nA];rw[ab,if_neg (by omega)]) (k:=k) (by omega)
  rw[this,EC];rfl
def QY:Job:=⟨⟨⟨0,0,0⟩,[]⟩,0,⟨⟨0,0,0⟩,[]⟩,0⟩
def dE (m:Model) (t:av):Job× Bool:=cond (uf ⟨m,0,t,0⟩) (⟨m,0,t,0⟩,true) (QY,false)
theorem CH {k:Nat} {m:Model} {t:av} (hk:m.tot+t.tot<k) (hN:m.tot+t.tot<=aT):qL k m t=some (dE m t):=by
 have ht:t.tot=t.data.length:=rfl;unfold qL dE;rw[qc (by omega) (by omega),aa,p7 (by omega) (by omega),aa,rh (by simp only[Job.tot];omega) (by simp only[Job.tot];omega),aa,dq];cases uf ⟨m,0,t,0⟩<;>rfl
theorem CI {k:Nat} {m:Model} {t:av} (hk:m.tot+t.tot+1<k) (hN:m.tot+t.tot<aT):qM k m t=some (dE m t):=by
 unfold qM dE;rw[Bf (by simp only[Job.tot];omega) (by simp only[Job.tot];omega),aa,dq];cases uf ⟨m,0,t,0⟩
 ·rfl
 ·simp only[cond_true];rw[yM (by simp only[Job.tot];omega) (by simp only[Job.tot];omega)];rfl
theorem vN (m:Model) (t:av):(dE m t).1.tot<=m.tot+t.tot:=by
 unfold dE;cases uf ⟨m,0,t,0⟩
 ·exact RO _
 ·simp only[cond_true,Job.tot];omega
end
section
theorem yN (w a:Nat):(BitVec.ofInt w (a:Int)).toNat=a %2^w:=by
 simp
theorem Qi {a b n:Nat} (ha:a<2^n) (hb:b*2^n+a<9223372036854775808):
  IntKind.i64.wrap (((BitVec.ofInt IntKind.i64.bits (a:Int)||| BitVec.ofInt IntKind.i64.bits ((b*2^n:Nat):Int)).toNat:Nat):Int)=((a+b*2^n:Nat):Int):=by
 have h1:a %2^64=a:=RY (by omega);have h2:(b*2^n) %2^64=b*2^n:=RY (by omega)
 have h3:a||| b*2^n=a+b*2^n:=by
  have:=Nat.two_pow_add_eq_or_of_lt ha b;rw[Nat.or_comm,RQ b,<-this,Nat.add_comm]
 have e:(BitVec.ofInt IntKind.i64.bits (a:Int)||| BitVec.ofInt IntKind.i64.bits ((b*2^n:Nat):Int)).toNat=a+b*2^n:=by
  rw[BitVec.toNat_or,yN,yN];show a %2^64||| (b*2^n) %2^64=_;rw[h1,h2,h3]
 rw[e,aH (by omega) (by omega)]
theorem Pj {c:Nat} (h:c<256):IntKind.i64.wrap (IntKind.u8.wrap (((BitVec.ofInt IntKind.u8.bits (c:Int)&&& BitVec.ofInt IntKind.u8.bits (127:Int)).toNat:Nat):Int))=((c %128:Nat):Int):=by
 have e:(BitVec.ofInt IntKind.u8.bits (c:Int)&&& BitVec.ofInt IntKind.u8.bits (127:Int)).toNat=c %128:=by
  rw[BitVec.toNat_and,yN];show c %2^8&&& 127=_;rw[RY (by omega)];exact Nat.and_two_pow_sub_one_eq_mod c 7
 rw[e,Qh (by omega) (by omega),aH (by omega) (by omega)]
def qd (b:List Int) (at_:Nat):Nat->Nat->Nat->Int× Int
  |0,_,_=>(0,-1)
  | f + 1, i, u =>
    match b[at_+i]? with
    |none=>(0,-1)
    | some c =>
      cond (decide (128<=c.toNat)) (qd b at_ f (i+1) (u+c.toNat %128*2^(7*i)))
        (cond ((decide (0<i)&&decide (c.toNat=0))||decide (2199023255551<u+c.toNat %128*2^(7*i))) (0,-1)
          (cond (decide ((u+c.toNat %128*2^(7*i)) %2=1)) (-(((u+c.toNat %128*2^(7*i)+1)/2:Nat):Int)) (((u+c.toNat %128*2^(7*i))/2:Nat):Int),((at_+i+1:Nat):Int)))
def eM (b:List Int) (at_:Int):Int× Int:=cond (decide (0<=at_)) (qd b at_.toNat 6 0 0) (0,-1)
theorem Bg {i:Nat} (hi:i<6):(2:Int)^(min (IntKind.u64.wrap (IntKind.i64.wrap ((7:Int)*(i:Int)))).toNat IntKind.i64.bits)=((2^(7*i):Nat):Int)/\
  (2:Int)^(min (IntKind.i64.wrap ((7:Int)*(i:Int))).toNat IntKind.i64.bits)=((2^(7*i):Nat):Int):=by
 have:i=0\/i=1\/i=2\/i=3\/i=4\/i=5:=by omega
 rcases this with rfl|rfl|rfl|rfl|rfl|rfl<;>exact⟨by kernel_rfl,by kernel_rfl⟩
theorem CJ {i u c:Nat} (hi:i<6) (hu:u<2^(7*i)):u+c %128*2^(7*i)<2^(7*(i+1))/\2^(7*(i+1))<=4398046511104:=by
 have h1:2^(7*(i+1))=128*2^(7*i):=by rw[show 7*(i+1)=7*i+7 from by omega,Nat.pow_add];omega
 have h2:c %128*2^(7*i)<=127*2^(7*i):=Rz _ (by omega);refine⟨by omega,?_⟩
 have:i=0\/i=1\/i=2\/i=3\/i=4\/i=5:=by omega
 rcases this with rfl|rfl|rfl|rfl|rfl|rfl<;>decide
theorem Nx {i u n:Nat} (hi:i<6) (hu:u<2^(7*i)) (hn:n<256):
  IntKind.i64.wrap ((u:Int)+(IntKind.i64.wrap (((IntKind.i64.wrap (n:Int)).tmod (128:Int))*2^(min (IntKind.u64.wrap (IntKind.i64.wrap ((7:Int)*(i:Int)))).toNat IntKind.i64.bits))))=((u+n %128*2^(7*i):Nat):Int):=by
 have h:=CJ (c:=n) hi hu;have e:((n:Int).tmod 128)=((n %128:Nat):Int):=rfl;rw[aH (n:=(n:Int)) (by omega) (by omega),(Bg hi).1,e,<-Sn,aH (n:=((n %128*2^(7*i):Nat):Int)) (by omega) (by omega),<-Int.natCast_add,aH (by omega) (by omega)]
theorem Ny {U:Nat} (h:U<4398046511104):IntKind.i64.wrap ((IntKind.i64.wrap (0-(IntKind.i64.wrap ((U:Int)+(1:Int))))).tdiv (2:Int))=-(((U+1)/2:Nat):Int):=by
 have e:(-(((U+1:Nat):Int))).tdiv 2=-(((U+1)/2:Nat):Int):=by rw[Int.neg_tdiv];rfl
 rw[aH (n:=(U:Int)+1) (by omega) (by omega),aH (n:=0-((U:Int)+1)) (by omega) (by omega),show(0:Int)-((U:Int)+1)=-((U+1:Nat):Int)from by omega,e,aH (by omega) (by omega)]
theorem yO {U:Nat} (h:U<4398046511104):IntKind.i64.wrap ((U:Int).tdiv (2:Int))=((U/2:Nat):Int):=by
 have e:(U:Int).tdiv 2=((U/2:Nat):Int):=rfl;rw[e,aH (by omega) (by omega)]
theorem H5 (U:Nat):((U:Int).tmod 2==(1:Int))=decide (U %2=1):=by
 have e:(U:Int).tmod 2=((U %2:Nat):Int):=rfl;rw[EC,e]
 congr 1
 rw[eq_iff_iff];omega
theorem yP {b:List Int} {a kk:Nat} (hb:∀x∈b,okB x) (hl:b.length<=aT):∀(f i u k:Nat),i+f=6->u<2^(7*i)->f<k->
  iter (λu4 n4=>gu kk (b,(a:Int)) u4 n4 (λy2=>some ((0:Int),(-1:Int))) (λy3=>some (y3.1,y3.2))) k ((u:Int),(i:Int))=some (qd b a f i u)
 |f,i,u,0,_,_,hk=>by omega
 |0,i,u,k+1,hi,_,_=>by
  rw[aC];simp only[gu]
  rw[ab,if_neg (by omega)];rfl
 |f+1,i,u,k+1,hi,hu,hk=>by
  have hM:=al
  have hi6:i<6:=by omega
  rw[aC];simp only[gu,qd];rw[ab,if_pos (by omega),ab,if_neg (by omega),aH (n:=(b.length:Int)-(i:Int)) (by omega) (by omega),ab];by_cases hin:a+i<b.length
  ·rw[if_neg (by omega),aH (n:=(a:Int)+(i:Int)) (by omega) (by omega),show(a:Int)+(i:Int)=((a+i:Nat):Int)from by omega,aE,ai hin,aa];have hc:=hb b[a+i] (Rq hin);unfold okB at hc;obtain⟨n,hn⟩:∃n:Nat,b[a+i]=(n:Int):=⟨b[a+i].toNat,by omega⟩;rw[hn]at hc⊢
   have hn256:n<256:=by omega
   obtain⟨w1,w2⟩:=CJ (c:=n) hi6 hu
   have hU:u+n %128*2^(7*i)<4398046511104:=by omega
   simp only[Nx hi6 hu hn256,Ny hU,yO hU,H5,Rg]
   have hsh:IntKind.u64.wrap (IntKind.i64.wrap ((7:Int)*(i:Int)))=((7*i:Nat):Int):=by
    have:i=0\/i=1\/i=2\/i=3\/i=4\/i=5:=by omega
    rcases this with rfl|rfl|rfl|rfl|rfl|rfl<;>decide
   rw[hsh,ab,if_neg (by omega),aH (n:=(n:Int)) (by omega) (by omega),aH (n:=((a+i:Nat):Int)+1) (by omega) (by omega),aH (n:=(i:Int)+1) (by omega) (by omega),ab];by_cases h128:128<=n
   ·rw[if_neg (by omega),decide_eq_true h128,cond_true];exact yP (kk:=kk) hb hl f (i+1) _ k (by omega) w1 (by omega)
   ·rw[if_pos (by omega),decide_eq_false h128,cond_false,EC]
    have e1:decide ((n:Int)=0)=decide (n=0):=by congr 1;rw[eq_iff_iff];omega
    have e2:decide ((i:Int)>0)=decide (0<i):=by congr 1;rw[eq_iff_iff];omega
    have e3:((a+i:Nat):Int)+1=((a+i+1:Nat):Int):=by omega
    have e4:decide ((((u+n %128*2^(7*i)):Nat):Int)>2199023255551)=decide (2199023255551<(u+n %128*2^(7*i))):=by congr 1;rw[eq_iff_iff];omega
    rw[e1,e2,e3,e4];cases decide (2199023255551<(u+n %128*2^(7*i)))<;>cases decide (n=0)<;>cases decide (0<i)<;>cases decide ((u+n %128*2^(7*i)) %2=1)<;>rfl
  ·rw[if_pos (by omega),RI (by omega)]
theorem CK {k:Nat} {b:List Int} {a:Int} (hk:7<=k) (hb:∀x∈b,okB x) (hl:b.length<=aT):qT k b a=some (eM b a):=by
 unfold qT eM;by_cases h:0<=a
 ·rw[decide_eq_true h,cond_true];have:=yP (kk:=k) (a:=a.toNat) hb hl 6 0 0 k rfl (by decide) (by omega);rw[Int.toNat_of_nonneg h]at this;exact this
 ·rw[decide_eq_false h,cond_false];obtain⟨k,rfl⟩:∃k',k=k'+1:=⟨k-1,by omega⟩;rw[aC];simp only[gu];rw[ab,if_pos (by omega),ab,if_pos (by omega)]
theorem Pk {i u n:Nat} (hi:i<6) (hu:u<2^(7*i)) (hn:n<256):
  IntKind.i64.wrap (((BitVec.ofInt IntKind.i64.bits (u:Int)||| BitVec.ofInt IntKind.i64.bits (IntKind.i64.wrap ((IntKind.i64.wrap (IntKind.u8.wrap (((BitVec.ofInt IntKind.u8.bits (n:Int)&&& BitVec.ofInt IntKind.u8.bits (127:Int)).toNat:Int))))*2^(min (IntKind.i64.wrap ((7:Int)*(i:Int))).toNat IntKind.i64.bits)))).toNat:Int))=((u+n %128*2^(7*i):Nat):Int):=by
 have h:=CJ (c:=n) hi hu;rw[Pj hn,(Bg hi).2,<-Sn,aH (n:=((n %128*2^(7*i):Nat):Int)) (by omega) (by omega),Qi hu (by omega)]
theorem LH {U:Nat} (h:U<4398046511104) (ho:U %2=1):IntKind.i64.wrap ((IntKind.i64.wrap (0-(IntKind.i64.wrap ((U:Int).tdiv (2:Int)))))-(1:Int))=-(((U+1)/2:Nat):Int):=by
 rw[yO h,aH (n:=0-((U/2:Nat):Int)) (by omega) (by omega),aH (by omega) (by omega)];omega
theorem GN (k:Nat) (x:Int):oG k x=some (inB x (-1099511627776) 1099511627775):=by unfold oG;rw[fy];rfl
theorem yQ {b l:List Int} {a kk:Nat} (hb:∀x∈b,okB x) (hlN:b.length<=aT) (hl:l=(b.take (min (a+6) b.length)).drop a) (ha:a<=b.length):∀(f i u k:Nat),i+f=6->u<2^(7*i)->f<k->
    iter (λu9 n9=>iH kk ((a:Int),l,(l.length:Int)) u9 n9 (λy7=>some ((0:Int),(-1:Int))) (λy8=>some (y8.1,y8.2))) k ((u:Int),(i:Int))=some (qd b a f i u)
  |f,i,u,0,_,_,hk=>by omega
  | 0, i, u, k + 1, hi, _, _ => by
    have hll:l.length<=6:=by rw[hl];simp;omega
    rw[aC];simp only[iH]
    rw[ab,if_neg (by omega)];rfl
  | f + 1, i, u, k + 1, hi, hu, hk => by
    have hM:=al
    have hi6:i<6:=by omega
    have hll:l.length=min 6 (b.length-a):=by rw[hl];simp;omega
    rw[aC];generalize hnx:iter _ k=nx;simp only[iH,qd];by_cases hin:a+i<b.length
    · have hli:i<l.length:=by omega
      have hget:l[i]=b[a+i]:=by subst hl;simp
      rw[ab,if_pos (by omega),aE,ai hli,aa,ai hin,hget];have hc:=hb b[a+i] (Rq hin);unfold okB at hc;obtain⟨n,hn⟩:∃n:Nat,b[a+i]=(n:Int):=⟨b[a+i].toNat,by omega⟩;rw[hn]at hc⊢
      have hn256:n<256:=by omega
      obtain⟨w1,w2⟩:=CJ (c:=n) hi6 hu
      have hU:u+n %128*2^(7*i)<4398046511104:=by omega
      have hsh:IntKind.i64.wrap ((7:Int)*(i:Int))=((7*i:Nat):Int):=by
        rw[aH (by omega) (by omega)];omega
      have hnn:¬(IntKind.i64.wrap ((7:Int)*(i:Int))<0):=by rw[hsh];omega
      rw[decide_eq_false hnn,cond_false];simp only[Pk hi6 hu hn256,H5,Rg,GN,aa,dq];rw[aH (n:=(a:Int)+(i:Int)) (by omega) (by omega),show(a:Int)+(i:Int)=((a+i:Nat):Int)from by omega,aH (n:=((a+i:Nat):Int)+1) (by omega) (by omega),aH (n:=(i:Int)+1) (by omega) (by omega),ab];by_cases h128:128<=n
      · rw[if_pos (by omega),decide_eq_true h128,cond_true];rw[<-hnx];exact yQ (kk:=kk) hb hlN hl ha f (i+1) _ k (by omega) w1 (by omega)
      · rw [if_neg (by omega), decide_eq_false h128, cond_false, EC]
        have e1:decide ((n:Int)=0)=decide (n=0):=by congr 1;rw[eq_iff_iff];omega
        have e2:decide ((i:Int)>0)=decide (0<i):=by congr 1;rw[eq_iff_iff];omega
        have e3:((a+i:Nat):Int)+1=((a+i+1:Nat):Int):=by omega
        rw[e1,e2,e3];by_cases ho:(u+n %128*2^(7*i)) %2=1
        · rw[decide_eq_true ho,LH hU ho]
          have e4:inB (-(((u+n %128*2^(7*i)+1)/2:Nat):Int)) (-1099511627776) 1099511627775=!decide (2199023255551<(u+n %128*2^(7*i))):=by
            rw[Tr,cn,Te,decide_eq_false_iff_not];constructor<;>intro h<;>omega
          rw[e4];cases decide (2199023255551<(u+n %128*2^(7*i)))<;>cases decide (n=0)<;>cases decide (0<i)<;>rfl
        · rw[decide_eq_false ho,yO hU]
          have e4:inB (((u+n %128*2^(7*i))/2:Nat):Int) (-1099511627776) 1099511627775=!decide (2199023255551<(u+n %128*2^(7*i))):=by
            rw[Tr,cn,Te,decide_eq_false_iff_not];constructor<;>intro h<;>omega
          rw[e4];cases decide (2199023255551<(u+n %128*2^(7*i)))<;>cases decide (n=0)<;>cases decide (0<i)<;>rfl
    · rw[ab,if_neg (by omega),RI (by omega)]
theorem CL {k:Nat} {b:List Int} {a:Int} (hk:7<=k) (hb:∀x∈b,okB x) (hl:b.length<=aT):qU k b a=some (eM b a):=by
  have hM:=al;unfold qU eM;rw[fy,aa,dq,aH (n:=(b.length:Int)-1) (by omega) (by omega)];by_cases h:0<=a
  · rw [decide_eq_true h, cond_true];by_cases h2:a<b.length
    · have e:inB a 0 ((b.length:Int)-1)=true:=cn.2 (by omega)
      have e6:(if IntKind.i64.wrap (a+6)<(b.length:Int)then IntKind.i64.wrap (a+6)else(b.length:Int))=((min (a.toNat+6) b.length:Nat):Int):=by
        rw[aH (by omega) (by omega)];split<;>omega
      rw[e,cond_true,e6,ab,if_pos (by omega),ab,if_pos (by omega),Rg];have:=yQ (kk:=k) (l:=(b.take (min (a.toNat+6) b.length)).drop a.toNat) (a:=a.toNat) hb hl rfl (by omega) 6 0 0 k rfl (by decide) (by omega);rw[Int.toNat_of_nonneg h]at this;exact this
    · have e:inB a 0 ((b.length:Int)-1)=false:=by rw[<-Bool.not_eq_true,cn];omega
      rw[e,cond_false];simp only[qd];rw[RI (by omega)]
  · have e:inB a 0 ((b.length:Int)-1)=false:=by rw[<-Bool.not_eq_true,cn];omega
    rw[decide_eq_false h,cond_false,e];rfl
end
section
def aV (b:List Int) (at_:Int) (bad:Bool):Int× Int× Bool:=
 cond bad (0,at_,true) (cond (decide ((eM b at_).2<0)) (0,at_,true) ((eM b at_).1,(eM b at_).2,false))
theorem mI {k:Nat} {b:List Int} {a:Int} {bad:Bool} (hk:7<=k) (hb:∀x∈b,okB x) (hl:b.length<=aT):cC k b a bad=some (aV b a bad):=by
 unfold cC aV;simp only[CK hk hb hl,aa,decide_true,cond_true];cases bad<;>cases decide ((eM b a).2<0)<;>rfl
theorem lQ {k:Nat} {b:List Int} {a:Int} {bad:Bool} (hk:7<=k) (hb:∀x∈b,okB x) (hl:b.length<=aT):aD k ⟨b,a,bad⟩=some (aV b a bad):=by
 unfold aD aV;simp only[CL hk hb hl,aa,decide_true,cond_true];cases bad<;>cases decide ((eM b a).2<0)<;>rfl
end
section
theorem Bh {b:List Int} {a:Nat}:∀(f i u:Nat),(qd b a f i u).2=-1\/((a:Int)<(qd b a f i u).2/\(qd b a f i u).2<=b.length)
 |0,i,u=>.inl rfl
 |f+1,i,u=>by
  simp only[qd]
  cases hc:b[a+i]? with
  |none=>exact .inl rfl
  |some c=>
   have hlt:=(Of.1 hc).1;simp only;cases decide (128<=c.toNat)
   ·simp only[cond_false];cases((decide (0<i)&&decide (c.toNat=0))||decide (2199023255551<u+c.toNat %128*2^(7*i)))
    ·simp only[cond_false];right;omega
    ·exact .inl rfl
   ·exact Bh f (i+1) _
theorem EF (b:List Int) (a:Int):(eM b a).2=-1\/(0<=a/\a<(eM b a).2/\(eM b a).2<=b.length):=by
 unfold eM;by_cases h:0<=a
 ·rw[decide_eq_true h,cond_true]
  rcases Bh (b:=b) (a:=a.toNat) 6 0 0 with h1|h1
  ·exact .inl h1
  ·right;omega
 ·rw[decide_eq_false h];exact .inl rfl
def Qj (b:List Int) (a:Int):Option (Int× Int):=cond (decide ((eM b a).2<0)) none (some (eM b a))
theorem Nz {b:List Int} {a x p:Int} (h:Qj b a=some (x,p)):0<=a/\a<p/\p<=b.length:=by
 unfold Qj at h
 rcases EF b a with h1|h1
 ·rw[h1]at h;exact nomatch h
 ·rw[decide_eq_false (by omega),cond_false,It]at h;rw[h]at h1;exact h1
theorem CM (b:List Int) (a:Int):aV b a false=(Qj b a).elim (0,a,true) λq=>(q.1,q.2,false):=by
 unfold aV Qj;cases decide ((eM b a).2<0)<;>rfl
def b9 (b:List Int) (a:Int) (bad:Bool) (most:Int):Int× Int× Bool:=cond (inB (aV b a bad).1 0 most) (aV b a bad) (0,(aV b a bad).2.1,true)
theorem Bi {k:Nat} {b:List Int} {a most:Int} {bad:Bool} (hk:7<=k) (hb:∀x∈b,okB x) (hl:b.length<=aT):dp k ⟨b,a,bad⟩ most=some (b9 b a bad most):=by
 unfold dp b9;simp only[lQ hk hb hl,fy,aa,decide_true,cond_true,dq];cases inB (aV b a bad).1 0 most<;>rfl
theorem Jv {k:Nat} {b:List Int} {a:Int} {bad:Bool} (hk:7<=k) (hb:∀x∈b,okB x) (hl:b.length<=aT):ep k ⟨b,a,bad⟩=
  some (let r1:=aV b a bad;let r2:=aV b r1.2.1 r1.2.2;let r3:=aV b r2.2.1 r2.2.2;(⟨r1.1,r2.1,r3.1⟩,r3.2.1,r3.2.2)):=by
 unfold ep;simp only[lQ hk hb hl,aa,decide_true,cond_true]
end
section
section
variable {R:Type} {k:Nat} {b:List Int} {m:Int} {q1 q2 q3 q4 q5 q6 q7 q8 q9 q10 q11 q12:Int} {d:List Int} {fin:Int× Bool× List Int->Option R}
end
end
section
section
variable {R:Type} {k:Nat} {b:List Int} {m:Int} {q1 q2 q3 q4 q5 q6 q7 q8 q9 q10 q11 q12:Int} {d:List Int} {fin:Int× Bool× List Int->Option R}
end
end
section
def GO (s x:Int):Int:=(IntKind.i64.wrap ((IntKind.i64.wrap ((IntKind.i64.wrap ((257:Int)*s))+(IntKind.i64.wrap x)))+(1:Int))).tmod (1000003:Int)
def GP (b:List Int):Int:=b.foldl GO 1
theorem Jw {k:Nat} {b:List Int} (hk:b.length<k) (hl:b.length<=aT):CB k b=some (GP b):=by
 have hM:=al;unfold CB
 exact pS b GO (g:=λu next=>nE k b u next (λy2=>some y2)) (fin:=some) 1 (λi s hi next _=>by
  simp only[nE]
  rw[ab,if_pos (by omega),aE,ai hi,aa,au hi (by omega)];rfl) (λnext=>by
  simp only[nE];rw[ab,if_neg (by omega)]) hk
theorem Jx {k:Nat} {b:List Int} (hk:b.length<k) (hl:b.length<=aT):yH k b=some (GP b):=by
 have hM:=al;unfold yH
 exact pS b GO (g:=λu next=>nF k (b,(b.length:Int)) u next (λy2=>some y2)) (fin:=some) 1 (λi s hi next _=>by
  simp only[nF]
  rw[ab,if_pos (by omega),aE,ai hi,aa,au hi (by omega),Int.mul_comm s 257];rfl) (λnext=>by
  simp only[nF];rw[ab,if_neg (by omega)]) hk
section
variable {R:Type} {k:Nat} {b:List Int} {m:Int}
end
end
set_option maxRecDepth 100000
set_option maxHeartbeats 4000000
section
def vO (b:List Int):Nat->Int->Bool->List Int->List Int× Int× Bool
 |0,a,bad,ys=>(ys,a,bad)
 |n+1,a,bad,ys=>cond bad (ys,a,bad) (vO b n (aV b a bad).2.1 (aV b a bad).2.2 (ys++[(aV b a bad).1]))
def ri (b:List Int) (a:Int) (bad:Bool):List Int× Int× Bool:=vO b (b9 b a bad 2000).1.toNat (b9 b a bad 2000).2.1 (b9 b a bad 2000).2.2 []
section
variable {k:Nat} {b:List Int} (hk:7<=k) (hb:∀x∈b,okB x) (hl:b.length<=aT)
include hk hb hl
theorem Bj {a:Int} {bad:Bool}:j8 k b a bad=some (b9 b a bad 2000):=by
 unfold j8 b9;simp only[mI hk hb hl,cy,aa,decide_true,cond_true,dq];cases inB (aV b a bad).1 0 2000<;>rfl
theorem yR {R:Type} {fin:List Int× Int× Bool->Option R} {m:Int}:∀(n:Nat) (i a:Int) (bad:Bool) (ys:List Int) (kf:Nat),n<kf->m=i+n->0<=i->m<=100000->ys.length+n<=100000->
  iter (λu4 n4=>eH k (m,b) u4 n4 fin) kf (i,a,bad,ys)=fin (vO b n a bad ys)
 |_,_,_,_,_,0,h,_,_,_,_=>by omega
 |0,i,a,bad,ys,kf+1,_,hm,_,_,_=>by
  rw[aC];show eH k (m,b) _ _ fin=_;unfold eH;simp only
  rw[decide_eq_false (by omega)];rfl
 |n+1,i,a,bad,ys,kf+1,hkf,hm,hi,hm2,hy=>by
  have hM:=al;rw[aC];show eH k (m,b) _ _ fin=_;unfold eH vO;simp only;rw[decide_eq_true (by omega),cond_true];cases bad
  ·simp only[RG,cond_true,cond_false];rw[mI hk hb hl,aa,cr (by simp;omega),aH (by omega) (by omega)];exact yR n (i+1) _ _ _ kf (by omega) (by omega) (by omega) hm2 (by simp;omega)
  ·rfl
theorem yS {R:Type} {fin:List Int× Int× Bool->Option R}:∀(n:Nat) (a:Int) (bad:Bool) (ys:List Int) (kf:Nat),n<kf->ys.length+n<=100000->
  iter (λu4 n4=>bV k b u4 n4 fin) kf ((n:Int),a,bad,ys)=fin (vO b n a bad ys)
 |_,_,_,_,0,h,_=>by omega
 |0,a,bad,ys,kf+1,_,_=>by
  rw[aC];show bV k b _ _ fin=_;unfold bV;simp only
  rw[decide_eq_false (by omega)];rfl
 |n+1,a,bad,ys,kf+1,hkf,hy=>by
  have hM:=al;rw[aC];show bV k b _ _ fin=_;unfold bV vO;simp only;rw[decide_eq_true (by omega),cond_true];cases bad
  ·simp only[RG,cond_true,cond_false];rw[lQ hk hb hl,aa,cr (by simp;omega),aH (by omega) (by omega),show((n+1:Nat):Int)-1=(n:Int)from by omega];exact yS n _ _ _ kf (by omega) (by simp;omega)
  ·rfl
omit hk hb hl in
theorem rj (b:List Int) (a:Int) (bad:Bool):0<=(b9 b a bad 2000).1/\(b9 b a bad 2000).1<=2000:=by
 unfold b9;cases h:inB (aV b a bad).1 0 2000
 ·simp only[cond_false];omega
 ·exact of_decide_eq_true h
theorem LI (h3:2001<k) {a:Int} {bad:Bool}:lO k b a bad=some (ri b a bad):=by
 have hc:=rj b a bad;unfold lO;rw[Bj hk hb hl,aa];exact(yR hk hb hl (m:=(b9 b a bad 2000).1) (fin:=λy3=>cond (decide (b=b)) (some (y3.1,y3.2.1,y3.2.2)) none) (b9 b a bad 2000).1.toNat 0 _ _ [] k (by omega) (by omega) (by omega) (by omega) (by simp;omega)).trans (by rw[decide_eq_true rfl];rfl)
theorem Jy (h3:2001<k) {a:Int} {bad:Bool}:dB k ⟨b,a,bad⟩ 2000=some (ri b a bad):=by
 have hc:=rj b a bad;unfold dB;rw[Bi hk hb hl,aa];have:=yS hk hb hl (fin:=λy3=>cond (decide (b=b)) (some (y3.1,y3.2.1,y3.2.2)) none) (b9 b a bad 2000).1.toNat (b9 b a bad 2000).2.1 (b9 b a bad 2000).2.2 [] k (by omega) (by simp;omega);rw[show(((b9 b a bad 2000).1.toNat:Nat):Int)=(b9 b a bad 2000).1 from by omega]at this;exact this.trans (by rw[decide_eq_true rfl];rfl)
omit hk hb hl in
theorem Bl (b:List Int):∀(n:Nat) (a:Int) (bad:Bool) (ys:List Int),(vO b n a bad ys).1.length<=ys.length+n
 |0,_,_,_=>Rw _
 |n+1,a,bad,ys=>by
  unfold vO;cases bad
  ·have:=Bl b n (aV b a false).2.1 (aV b a false).2.2 (ys++[(aV b a false).1]);simp only[cond_false];simp only[Ro,Rm,RK]at this;omega
  ·simp only[cond_true];omega
omit hk hb hl in
theorem vP (b:List Int) (a:Int) (bad:Bool):(ri b a bad).1.length<=2000:=by
 have hc:=rj b a bad;have:=Bl b (b9 b a bad 2000).1.toNat (b9 b a bad 2000).2.1 (b9 b a bad 2000).2.2 [];unfold ri;simp only[RK]at this;omega
end
def cU (b:List Int) (a:Int) (bad:Bool):ax× Int× Bool:=
 let r1:=aV b a bad;let r2:=aV b r1.2.1 r1.2.2;let r3:=aV b r2.2.1 r2.2.2;let r4:=aV b r3.2.1 r3.2.2;let r5:=aV b r4.2.1 r4.2.2;let r6:=aV b r5.2.1 r5.2.2;let r7:=aV b r6.2.1 r6.2.2
 let r8:=ri b r7.2.1 r7.2.2;let r9:=ri b r8.2.1 r8.2.2
 (⟨r1.1,r2.1,r3.1,r4.1,r5.1,r6.1,r7.1,r8.1,r9.1⟩,r9.2.1,r9.2.2)
def qe (b:List Int):Nat->Int->Bool->List ax->Int× Bool× List ax
 |0,a,bad,ys=>(a,bad,ys)
 |n+1,a,bad,ys=>cond bad (a,bad,ys) (qe b n (cU b a bad).2.1 (cU b a bad).2.2 (ys++[(cU b a bad).1]))
def eI (b:List Int):Model× Int:=
 cond (decide ((b.length:Int)>6000)) (dr,5) (cond (!decide (b.take 3=[80,77,49])) (dr,1)
  (let r2:=aV b 3 false;let r3:=aV b r2.2.1 r2.2.2;let r4:=aV b r3.2.1 r3.2.2;let r5:=b9 b r4.2.1 r4.2.2 2000;let y:=qe b r5.1.toNat r5.2.1 r5.2.2 [];let r6:=aV b y.1 y.2.1
  cond r6.2.2 (dr,2) (cond (r6.1 !=GP ((b.take y.1.toNat).drop 0)) (dr,3) (cond (r6.2.1 !=(b.length:Int)) (dr,3)
   (cond (!ey ⟨⟨r2.1,r3.1,r4.1⟩,y.2.2⟩) (dr,4) (⟨⟨r2.1,r3.1,r4.1⟩,y.2.2⟩,0))))))
theorem CN (b:List Int) (a:Int) (bad:Bool):(cU b a bad).1.tot<=2000+(2000+0):=Nat.add_le_add (vP b _ _) (Nat.add_le_add (vP b _ _) (Rw 0))
theorem rk (b:List Int):∀(n:Nat) (a:Int) (bad:Bool) (ys:List ax),eE ax.tot (qe b n a bad ys).2.2<=eE ax.tot ys+4001*n
 |0,_,_,_=>Rw _
 |n+1,a,bad,ys=>by
  unfold qe;cases bad
  ·have:=rk b n (cU b a false).2.1 (cU b a false).2.2 (ys++[(cU b a false).1]);have hL:=CN b a false;rw[se]at this
   have h1:eE ax.tot [(cU b a false).1]=(cU b a false).1.tot+1:=by simp[eE];omega
   simp only[cond_false];omega
  ·simp only[cond_true];omega
section
variable {k:Nat} {b:List Int} (hk:9000000<=k) (hb:∀x∈b,okB x) (hl:b.length<=aT)
include hk hb hl
theorem Jz {a:Int} {bad:Bool}:et k ⟨b,a,bad⟩=some (cU b a bad):=by
 unfold et cU;simp only[lQ (show 7<=k by omega) hb hl,Jy (show 7<=k by omega) hb hl (show 2001<k by omega),aa,decide_true,cond_true]
theorem tS {R:Type} {fin:Int× Bool× List ax->Option R} {m q1 q2 q3 q4 q5 q6 q7 q8 q9:Int}:∀(n:Nat) (i a:Int) (bad:Bool) (ys:List ax) (kf:Nat),n<kf->m=i+n->0<=i->m<=100000->ys.length+n<=100000->
  iter (λu19 n19=>cG k (b,m,q1,q2,q3,q4,q5,q6,b,q7,q8,q9) u19 n19 fin) kf (i,a,bad,ys)=fin (qe b n a bad ys)
 |_,_,_,_,_,0,h,_,_,_,_=>by omega
 |0,i,a,bad,ys,kf+1,_,hm,_,_,_=>by
  rw[aC];show cG k _ _ _ fin=_;unfold cG;simp only
  rw[decide_eq_false (by omega)];rfl
 |n+1,i,a,bad,ys,kf+1,hkf,hm,hi,hm2,hy=>by
  have hM:=al;rw[aC];cases bad
  ·have st:∀next,cG k (b,m,q1,q2,q3,q4,q5,q6,b,q7,q8,q9) (i,a,false,ys) next fin=next (i+1,(cU b a false).2.1,(cU b a false).2.2,ys++[(cU b a false).1]):=λnext=>by
    unfold cG;simp only;rw[decide_eq_true (by omega),cond_true];simp only[RG,cond_true,mI (show 7<=k by omega) hb hl,LI (show 7<=k by omega) hb hl (show 2001<k by omega),aa];rw[cr (by omega),aH (by omega) (by omega)];rfl
   exact(st _).trans (tS n (i+1) (cU b a false).2.1 (cU b a false).2.2 (ys++[(cU b a false).1]) kf (by omega) (by omega) (by omega) hm2 (by rw[Ro];simp only[Rm,RK];omega))
  ·show cG k _ _ _ fin=_;unfold cG;simp only;rw[decide_eq_true (by omega),cond_true];rfl
theorem tT {R:Type} {fin:Int× Bool× List ax->Option R} {q1 q2 q3 q7 q8 q9:Int}:∀(n:Nat) (a:Int) (bad:Bool) (ys:List ax) (kf:Nat),n<kf->ys.length+n<=100000->
  iter (λu9 n9=>du k (b,q1,q2,q3,b,q7,q8,q9) u9 n9 fin) kf ((n:Int),a,bad,ys)=fin (qe b n a bad ys)
 |_,_,_,_,0,h,_=>by omega
 |0,a,bad,ys,kf+1,_,_=>by
  rw[aC];show du k _ _ _ fin=_;unfold du;simp only
  rw[decide_eq_false (by omega)];rfl
 |n+1,a,bad,ys,kf+1,hkf,hy=>by
  have hM:=al;rw[aC];show du k _ _ _ fin=_;unfold du qe;simp only;rw[decide_eq_true (by omega),cond_true];cases bad
  ·simp only[RG,cond_true,cond_false];rw[Jz hk hb hl,aa,cr (by omega),aH (by omega) (by omega),show((n+1:Nat):Int)-1=(n:Int)from by omega];exact tT (fin:=fin) (q1:=q1) (q2:=q2) (q3:=q3) (q7:=q7) (q8:=q8) (q9:=q9) n (cU b a false).2.1 (cU b a false).2.2 (ys++[(cU b a false).1]) kf (by omega) (by rw[Ro];simp only[Rm,RK];omega)
  ·rfl
end
theorem yU {b:List Int} {a:Int} {bad:Bool} (h:(aV b a bad).2.2=false):0<=a/\a<=b.length:=by
 cases bad
 ·rw[CM]at h
  cases hn:Qj b a with
  |none=>rw[hn]at h;exact nomatch h
  |some q=>have:=Nz (x:=q.1) (p:=q.2) hn;omega
 ·exact nomatch h
theorem Qk {b:List Int}:(decide ((b.length:Int)>=3)=false/\decide (b.take 3=[80,77,49])=false)\/∃x y z l,b=x::y::z::l:=by
 match b with
 |[]=>exact .inl ⟨rfl,rfl⟩
 |[x]=>exact .inl ⟨rfl,by simp⟩
 |[x,y]=>exact .inl ⟨rfl,by simp⟩
 |x::y::z::l=>exact .inr ⟨x,y,z,l,rfl⟩
theorem EG (k:Nat) (b:List Int):tH k b=some (decide (b.take 3=[80,77,49])):=by
 unfold tH
 rcases Qk (b:=b)with⟨h1,h2⟩|⟨x,y,z,l,rfl⟩
 ·rw[h1,h2];rfl
 ·rw[decide_eq_true (by simp;omega),cond_true];have e0:idx (x::y::z::l) 0=some x:=rfl;have e1:idx (x::y::z::l) 1=some y:=rfl;have e2:idx (x::y::z::l) 2=some z:=rfl;rw[e0,e1,e2];simp only[aa,List.take_succ_cons,List.take_zero,R7,and_true,Bool.decide_and,EC];cases decide (x=80)<;>cases decide (y=77)<;>rfl
theorem CO {k:Nat} {b:List Int} (hb:∀x∈b,okB x) (hl:b.length<=aT):iI k b [80,77,49]=some (decide (b.take 3=[80,77,49])):=by
 have hM:=al;unfold iI;rw[ab];by_cases h:(b.length:Int)>=(([80,77,49]:List Int).length:Int)
 ·have h':3<=b.length:=by simp at h;omega
  rw[if_pos h,decide_eq_true (show 0<=((([80,77,49]:List Int).length:Nat):Int)/\((([80,77,49]:List Int).length:Nat):Int)<=(b.length:Int) by simp;omega),cond_true,TA];rw[show((([80,77,49]:List Int).length:Nat):Int).toNat=3 from rfl];rw[zY (λx hx=>hb x (Ti hx)) (λx hx=>by simp at hx;rcases hx with rfl|rfl|rfl<;>exact⟨by omega,by omega⟩),aa]
 ·rw[if_neg h]
  rcases Qk (b:=b)with⟨_,h2⟩|⟨x,y,z,l,rfl⟩
  ·rw[h2]
  ·simp at h;omega
section
variable {k:Nat} {b:List Int} (hk:9000000<=k) (hb:∀x∈b,okB x) (hl:b.length<=aT)
include hk hb hl
theorem wm:kR k b=some (eI b):=by
 have hM:=al;unfold kR eI;by_cases c:(b.length:Int)>6000
 ·rw[decide_eq_true c];rfl
 rw[decide_eq_false c,cond_false,cond_false,EG,aa];cases decide (b.take 3=[80,77,49])
 ·rfl
 simp only[Rn,cond_false,mI (show 7<=k by omega) hb hl,Bj (show 7<=k by omega) hb hl,aa];generalize aV b 3 false=r2;generalize aV b r2.2.1 r2.2.2=r3;generalize aV b r3.2.1 r3.2.2=r4;have hc:=rj b r4.2.1 r4.2.2;generalize b9 b r4.2.1 r4.2.2 2000=r5 at hc;refine(tS hk hb hl r5.1.toNat 0 _ _ [] k (by omega) (by omega) (by omega) (by omega) (by simp;omega)).trans ?_;have ht:=rk b r5.1.toNat r5.2.1 r5.2.2 [];rw[show eE ax.tot []=0 from rfl]at ht;generalize qe b r5.1.toNat r5.2.1 r5.2.2 []=y at ht;cases h6:(aV b y.1 y.2.1).2.2
 ·simp only[cond_false];obtain⟨g1,g2⟩:=yU h6;rw[decide_eq_true ⟨g1,g2⟩,cond_true,Jw (by simp;omega) (by simp;omega),aa];cases((aV b y.1 y.2.1).1 !=GP (List.drop 0 (b.take y.1.toNat)))
  ·simp only[cond_false];cases((aV b y.1 y.2.1).2.1 !=(b.length:Int))
   ·simp only[cond_false];rw[vM (by show eE ax.tot y.2.2+0<k;omega) (by show eE ax.tot y.2.2+0<=aT;omega),aa];generalize ey _=q;cases q<;>rfl
   ·rfl
  ·rfl
 ·rfl
theorem wo:kW k b=some (eI b):=by
 have hM:=al;unfold kW eI;by_cases c:(b.length:Int)>6000
 ·rw[decide_eq_true c];rfl
 rw[decide_eq_false c,cond_false,cond_false,CO hb hl,aa];cases decide (b.take 3=[80,77,49])
 ·rfl
 simp only[Rn,cond_false,Jv (show 7<=k by omega) hb hl,Bi (show 7<=k by omega) hb hl,aa];generalize aV b 3 false=r2;generalize aV b r2.2.1 r2.2.2=r3;generalize aV b r3.2.1 r3.2.2=r4;have hc:=rj b r4.2.1 r4.2.2;generalize b9 b r4.2.1 r4.2.2 2000=r5 at hc;have:=tT hk hb hl (q1:=0) (q2:=0) (q3:=0) (q7:=r2.1) (q8:=r3.1) (q9:=r4.1) (fin:=λy5=>(aD k (⟨b,y5.1,y5.2.1⟩:Reader)).bind λr6=>cond (r6.2.2) (some ((⟨(⟨(0:Int),(0:Int),(0:Int)⟩:Shape),([]:List ax)⟩:Model),(2:Int))) (cond (decide (0<=y5.1/\y5.1<=(b.length:Int))) ((yH k ((b.take y5.1.toNat).drop 0)).bind λr7=>cond (r6.1 !=r7) (some ((⟨(⟨(0:Int),(0:Int),(0:Int)⟩:Shape),([]:List ax)⟩:Model),(3:Int))) (cond (r6.2.1 !=(b.length:Int)) (some ((⟨(⟨(0:Int),(0:Int),(0:Int)⟩:Shape),([]:List ax)⟩:Model),(3:Int))) ((lI k (⟨⟨r2.1,r3.1,r4.1⟩,y5.2.2⟩:Model)).bind λr8=>cond (!r8) (some ((⟨(⟨(0:Int),(0:Int),(0:Int)⟩:Shape),([]:List ax)⟩:Model),(4:Int))) (some ((⟨⟨r2.1,r3.1,r4.1⟩,y5.2.2⟩:Model),(0:Int)))))) none)) r5.1.toNat r5.2.1 r5.2.2 [] k (by omega) (by simp;omega);rw[show((r5.1.toNat:Nat):Int)=r5.1 from by omega]at this;refine Eq.trans this ?_;have ht:=rk b r5.1.toNat r5.2.1 r5.2.2 [];rw[show eE ax.tot []=0 from rfl]at ht;generalize qe b r5.1.toNat r5.2.1 r5.2.2 []=y at ht;rw[lQ (show 7<=k by omega) hb hl,aa];cases h6:(aV b y.1 y.2.1).2.2
 ·simp only[cond_false];obtain⟨g1,g2⟩:=yU h6;rw[decide_eq_true ⟨g1,g2⟩,cond_true,Jx (by simp;omega) (by simp;omega),aa];cases((aV b y.1 y.2.1).1 !=GP (List.drop 0 (b.take y.1.toNat)))
  ·simp only[cond_false];cases((aV b y.1 y.2.1).2.1 !=(b.length:Int))
   ·simp only[cond_false];rw[qb (by show eE ax.tot y.2.2+0<k;omega) (by show eE ax.tot y.2.2+0<aT;omega),aa];generalize ey _=q;cases q<;>rfl
   ·rfl
  ·rfl
 ·rfl
end
end
section
def sat (a b x:Int):Int:=if x<a then a else if x>b then b else x
theorem EH {a b:Int} (h:a<=b) (x:Int):a<=sat a b x/\sat a b x<=b:=by
 unfold sat;by_cases h1:x<a
 ·rw[if_pos h1];omega
 ·rw[if_neg h1];by_cases h2:x>b
  ·rw[if_pos h2];omega
  ·rw[if_neg h2];omega
theorem Oa {a b x:Int} (h1:a<=x) (h2:x<=b):sat a b x=x:=by
 unfold sat;rw[if_neg (by omega),if_neg (by omega)]
theorem qf {k:Nat} {x a b:Int} (h:a<=b):nB k x a b=some (sat a b x):=by
 unfold nB sat;rw[ab,ab,ab];by_cases h1:x<a
 ·rw[if_pos h1,if_pos h1]
 ·rw[if_neg h1,if_neg h1,if_neg (by omega)];by_cases h2:x>b
  ·rw[if_pos h2,if_pos h2]
  ·rw[if_neg h2,if_neg h2]
theorem CP {k:Nat} {x a b:Int} (h:a<=b):Jo k x a b=some (sat a b x):=by
 unfold Jo sat
 congr 1
 repeat' split
 all_goals omega
def yV (x:Int):Int:=sat (-128) 127 x
def ia (x:Int):Int:=sat (-2147483648) 2147483647 x
theorem yW (x:Int):-128<=yV x/\yV x<=127:=EH (by omega) x
theorem kY (x:Int):-2147483648<=ia x/\ia x<=2147483647:=EH (by omega) x
theorem EI (k:Nat) (x:Int):yE k x=some (yV x):=by unfold yE yV;rw[qf (by omega),aa]
theorem vi (k:Nat) (x:Int):mY k x=some (ia x):=by unfold mY ia;rw[qf (by omega),aa]
theorem EJ (k:Nat) (x:Int):yG k x=some (yV x):=by unfold yG yV;rw[CP (by omega),aa]
theorem vj (k:Nat) (x:Int):mZ k x=some (ia x):=by unfold mZ ia;rw[CP (by omega),aa]
def o7 (a b:Int):Int:=ia (ia a+ia b)
theorem oS (k:Nat) (a b:Int):mm k a b=some (o7 a b):=by
 have h1:=kY a;have h2:=kY b;unfold mm o7;simp only[vi,aa];rw[aH (by omega) (by omega)]
theorem yX (k:Nat) (a b:Int):tB k a b=some (o7 a b):=by
 have h1:=kY a;have h2:=kY b;unfold tB o7;simp only[vj,aa];rw[aH (by omega) (by omega)]
theorem Pm {x y A B:Int} (hx:-A<=x/\x<=A) (hy:-B<=y/\y<=B):-(A*B)<=x*y/\x*y<=A*B:=by
 have h1:=Ta (show 0<=A-x by omega) (show 0<=B+y by omega);have h2:=Ta (show 0<=A+x by omega) (show 0<=B-y by omega);have h3:=Ta (show 0<=A-x by omega) (show 0<=B-y by omega);have h4:=Ta (show 0<=A+x by omega) (show 0<=B+y by omega);simp only[Int.sub_mul,Int.add_mul,Int.mul_add,Int.mul_sub]at h1 h2 h3 h4;omega
def oT (a b:Int):Int:=ia ((ia a*ia b+1073741824)/2147483648)
theorem EK {k:Nat} {a:Int} (h1:-4611686018427387904<=a/\a<=9223372036854775807):tw k a 2147483648=some (a/2147483648):=by
 have e:=Int.mul_tdiv_add_tmod a 2147483648;have h2:=Int.tmod_lt_of_pos a (show(0:Int)<2147483648 by omega);unfold tw;rw[ab,if_neg (by omega),ab,if_neg (by omega),ab];by_cases c:0<=a
 ·have h3:=Int.tmod_nonneg 2147483648 c;rw[if_neg (by omega),aH (by omega) (by omega)]
  congr 1;omega
 ·have h3:=Int.tmod_nonneg 2147483648 (show 0<=-a by omega);have h4:=Int.tmod_lt_of_pos (-a) (show(0:Int)<2147483648 by omega);rw[Int.neg_tmod]at h3 h4;by_cases c2:a.tmod 2147483648<0
  ·rw[if_pos c2,aH (n:=a.tdiv 2147483648) (by omega) (by omega),aH (by omega) (by omega)]
   congr 1;omega
  ·rw[if_neg c2,aH (by omega) (by omega)]
   congr 1;omega
theorem Ob (a b:Int):-4611686018427387904<=ia a*ia b/\ia a*ia b<=4611686018427387904:=
 Pm (A:=2147483648) (B:=2147483648) (by have:=kY a;omega) (by have:=kY b;omega)
theorem EL (k:Nat) (a b:Int):tx k a b=some (oT a b):=by
 have h:=Ob a b;unfold tx oT;simp only[vi,aa];rw[aH (n:=ia a*ia b) (by omega) (by omega),aH (by omega) (by omega),EK (by omega),aa]
theorem EM (k:Nat) (a b:Int):tC k a b=some (oT a b):=by
 have h:=Ob a b;unfold tC oT;simp only[vj,aa];rw[aH (n:=ia a*ia b) (by omega) (by omega),aH (by omega) (by omega)]
 have e:((2:Int)^(min (31:Int).toNat IntKind.i64.bits))=2147483648:=by decide
 rw[e,Int.fdiv_eq_ediv_of_nonneg _ (by omega)]
def gD (x by_:Int):Int:=if x<0 then -((2*-x+by_)/(2*by_))else(2*x+by_)/(2*by_)
theorem Bm {a b:Int} (ha:0<=a) (hb:1<=b):0<=a/b/\a/b<=a:=
 ⟨Int.ediv_nonneg ha (by omega),Int.ediv_le_self _ ha⟩
theorem vQ {k:Nat} {x d:Int} (hx:-2147483648<=x/\x<=2147483648) (hd:1<=d/\d<=2147483648):nD k x d=some (gD x d):=by
 unfold nD oF gD;rw[aH (n:=2*d) (by omega) (by omega),ab];by_cases c:x<0
 ·rw[if_pos c,if_pos c,aH (n:=0-x) (by omega) (by omega),ab,if_neg (by omega),ab,if_neg (by omega),aa,aH (n:=2*(0-x)) (by omega) (by omega),aH (n:=2*(0-x)+d) (by omega) (by omega),Se (by omega)];have h:=Bm (a:=2*(0-x)+d) (b:=2*d) (by omega) (by omega);rw[show 2*-x+d=2*(0-x)+d from by omega];generalize (2*(0-x)+d)/(2*d)=q at h;rw[aH (n:=q) (by omega) (by omega),aH (by omega) (by omega)]
  congr 1;omega
 ·rw[if_neg c,if_neg c,ab,if_neg (by omega),aH (n:=2*x) (by omega) (by omega),aH (n:=2*x+d) (by omega) (by omega),Se (by omega)];have h:=Bm (a:=2*x+d) (b:=2*d) (by omega) (by omega);rw[aH (by omega) (by omega)]
def im (x n:Int):Int:=gD (ia x) (2^(sat 0 31 n).toNat)
theorem yY {r:Int} (h:0<=r/\r<=31):IntKind.i64.wrap ((1:Int)*2^(min r.toNat IntKind.i64.bits))=2^r.toNat/\(1:Int)<=2^r.toNat/\(2:Int)^r.toNat<=2147483648:=by
 have hb:IntKind.i64.bits=64:=rfl;have h1:(2:Nat)^r.toNat<=2^31:=Nat.pow_le_pow_right (by omega) (by omega);have h2:1<=(2:Nat)^r.toNat:=Nat.one_le_two_pow
 have e:((2^r.toNat:Nat):Int)=2^r.toNat:=by simp
 rw[hb,Tu (by omega),Int.one_mul];rw[<-e];refine⟨aH (by omega) (by omega),by omega,by omega⟩
theorem H6 {v:Int} {s:Nat}:(v+(2^s:Int)/2)/2^s=(2*v+2^s)/(2*2^s):=by
 cases s with
 |zero=>omega
 |succ s=>
  have e:(2:Int)^(s+1)=2*2^s:=by rw[Int.pow_succ,Int.mul_comm]
  rw[e]
  have e2:2*v+2*(2:Int)^s=2*(v+2^s):=by rw[Int.mul_add]
  rw[e2,Int.mul_ediv_mul_of_pos _ _ (by omega:(0:Int)<2),Int.mul_ediv_cancel_left _ (by omega:(2:Int)≠0)]
theorem yZ (k:Nat) (x n:Int):mz k x n=some (im x n):=by
 have h1:=kY x;have h2:=EH (a:=0) (b:=31) (by omega) n;obtain⟨e,h3,h4⟩:=yY h2;unfold mz im;rw[vj,aa,CP (by omega),aa,ab,if_neg (by omega),e,vQ (by omega) ⟨h3,h4⟩,aa]
theorem LJ {r:Int} (h:0<=r/\r<=31):IntKind.u64.wrap r=r:=Go.IntWalk.u64_in r ⟨by omega,by omega⟩
theorem za (k:Nat) (x n:Int):mn k x n=some (im x n):=by
 have h1:=kY x;have h2:=EH (a:=0) (b:=31) (by omega) n;obtain⟨e,h3,h4⟩:=yY h2;unfold mn im gD;rw[vi,aa,qf (by omega),aa,LJ h2,ab,if_neg (by omega),e,ab];have hh:((2:Int)^(sat 0 31 n).toNat).tdiv 2=2^(sat 0 31 n).toNat/2:=Se (by omega);rw[hh,aH (n:=2^(sat 0 31 n).toNat/2) (by omega) (by omega)];by_cases c:ia x<0
 ·rw[if_pos c,if_pos c,ab,if_neg (by omega),aH (n:=0-ia x) (by omega) (by omega),aH (n:=0-ia x+2^(sat 0 31 n).toNat/2) (by omega) (by omega),Se (by omega),H6,show 2*-ia x+2^(sat 0 31 n).toNat=2*(0-ia x)+2^(sat 0 31 n).toNat from by omega];have h:=Bm (a:=2*(0-ia x)+2^(sat 0 31 n).toNat) (b:=2*2^(sat 0 31 n).toNat) (by omega) (by omega);generalize (2*(0-ia x)+2^(sat 0 31 n).toNat)/(2*2^(sat 0 31 n).toNat)=q at h;rw[aH (n:=q) (by omega) (by omega),aH (by omega) (by omega)]
  congr 1;omega
 ·rw[if_neg c,if_neg c,ab,if_neg (by omega),aH (n:=ia x+2^(sat 0 31 n).toNat/2) (by omega) (by omega),Se (by omega),H6];have h:=Bm (a:=2*ia x+2^(sat 0 31 n).toNat) (b:=2*2^(sat 0 31 n).toNat) (by omega) (by omega);rw[aH (by omega) (by omega)]
def zb (acc mult shift zero:Int):Int:=yV (im (oT acc mult) shift+yV zero)
theorem JA {x d B:Int} (hx:-B<=x/\x<=B) (hd:1<=d):-B<=gD x d/\gD x d<=B:=by
 have key:∀y:Int,0<=y->y<=B->0<=(2*y+d)/(2*d)/\(2*y+d)/(2*d)<=B:=λy h0 h1=>by
  refine⟨Int.ediv_nonneg (by omega) (by omega),?_⟩
  have hlt:(2*y+d)/(2*d)<B+1:=by
   apply Int.ediv_lt_of_lt_mul (by omega);have:=Ta (show 0<=B by omega) (show 0<=d-1 by omega);rw[Int.mul_sub,Int.mul_one]at this;rw[Int.add_mul,Int.one_mul,Int.mul_comm B,TP,Int.mul_comm d B];omega
  omega
 unfold gD;by_cases c:x<0
 ·rw[if_pos c];have:=key (-x) (by omega) (by omega);omega
 ·rw[if_neg c];have:=key x (by omega) (by omega);omega
theorem vR (acc mult shift zero:Int):IntKind.i64.wrap (im (oT acc mult) shift+yV zero)=im (oT acc mult) shift+yV zero:=by
 have h1:=yW zero;have h2:=EH (a:=0) (b:=31) (by omega) shift;have h3:=kY (oT acc mult);have h4:=JA (x:=ia (oT acc mult)) (d:=2^(sat 0 31 shift).toNat) (B:=2147483648) (by omega) (yY h2).2.1;unfold im;exact aH (by omega) (by omega)
theorem vS (k:Nat) (a b c d:Int):nC k a b c d=some (zb a b c d):=by
 unfold nC zb;simp only[EL,za,EI,aa,vR]
theorem EN (k:Nat) (a b c d:Int):tD k a b c d=some (zb a b c d):=by
 unfold tD zb;simp only[EM,yZ,EJ,aa,vR]
end
section
theorem kZ {α:Type} (f:Nat->List α) (m:Nat):∀n,(∀i,i<n->(f i).length<=m)->((List.range n).flatMap f).length<=n*m
 |0,_=>by simp
 |n+1,h=>by
  have:=kZ f m n λi hi=>h i (by omega);have:=h n (by omega);rw[SM,To,Ro,RH,show([n]:List Nat).flatMap f=f n from by simp];omega
theorem gQ {α:Type} (f:Nat->List α) (m:Nat):∀n,(∀i,i<n->(f i).length=m)->((List.range n).flatMap f).length=n*m
 |0,_=>by simp
 |n+1,h=>by
  have:=gQ f m n λi hi=>h i (by omega);have:=h n (by omega);rw[SM,To,Ro,RH,show([n]:List Nat).flatMap f=f n from by simp];omega
theorem CQ {α:Type} (f:Nat->List α) (q:Nat):∀n,(∀i,i<n->(f i).length=q)->∀a b,a<n->b<q->((List.range n).flatMap f)[a*q+b]? =(f a)[b]?
 |0,_,a,b,h,_=>by omega
 |n+1,h,a,b,ha,hb=>by
  have hl:=gQ f q n λi hi=>h i (by omega);rw[SM,To]
  have hs:([n]:List Nat).flatMap f=f n:=by simp
  rw[hs];by_cases c:a<n
  ·have:(a+1)*q<=n*q:=Rz _ (by omega);rw[RH]at this;rw[Ri (by omega)];exact CQ f q n (λi hi=>h i (by omega)) a b c hb
  ·have:a=n:=by omega
   subst this;rw[Rh (by omega),hl,RN]
theorem fJ {α R:Type} (n m:Nat) (f:Nat->List α) (xs0:List α) {g:Int× List α->(Int× List α->Option R)->Option R} {fin:List α->Option R} {k:Nat}
  (hf:∀i,i<n->(f i).length<=m)
  (h:∀(i:Nat) ys next,i<n->ys.length<=xs0.length+i*m->g ((i:Int),ys) next=next (((i+1:Nat):Int),ys++f i))
  (hn:∀ys next,g ((n:Int),ys) next=fin ys) (hk:n<k):iter g k ((0:Int),xs0)=fin (xs0++(List.range n).flatMap f):=by
 have:=fo (g:=g) (st:=λi=>((i:Int),xs0++(List.range i).flatMap f)) (n:=n) (r:=fin (xs0++(List.range n).flatMap f)) (λi hi next=>by
  have hl:=kZ f m i λj hj=>hf j (by omega);rw[h i _ next hi (by rw[Ro];omega),SM,To]
  simp) (λnext=>hn _ _) hk
 simpa using this
theorem nM {β R:Type} (n:Nat) (f:β->Nat->β) (a0:β) {g:β× Int->(β× Int->Option R)->Option R} {fin:β->Option R} {k:Nat}
  (h:∀(i:Nat) a next,i<n->g (a,(i:Int)) next=next (f a i,((i+1:Nat):Int))) (hn:∀a next,g (a,(n:Int)) next=fin a) (hk:n<k):
  iter g k (a0,(0:Int))=fin ((List.range n).foldl f a0):=
 fo (g:=g) (st:=λi=>((List.range i).foldl f a0,(i:Int))) (n:=n) (r:=fin ((List.range n).foldl f a0)) (λi hi next=>by
  rw[h i _ next hi,SM,Sq];rfl) (λnext=>hn _ _) hk
theorem fold_congr {β:Type} {f g:β->Nat->β}:∀(n:Nat) (a:β),(∀a i,i<n->f a i=g a i)->(List.range n).foldl f a=(List.range n).foldl g a
 |0,_,_=>rfl
 |n+1,a,h=>by
  rw[SM,Sq,Sq,fold_congr n a λa i hi=>h a i (by omega)];exact h _ n (by omega)
theorem CS {β:Type} (f:β->Nat->β) (q:Nat):∀(m:Nat) (a:β),(List.range (m*q)).foldl f a=(List.range m).foldl (λa i=>(List.range q).foldl (λa j=>f a (i*q+j)) a) a
 |0,a=>by simp
 |m+1,a=>by
  rw[RH,Nat.one_mul,List.range_add,Sq,CS f q m a,SM,Sq,List.foldl_map];rfl
theorem EO {a b:Nat} (h:a*b<=9223372036854775807):IntKind.i64.wrap ((a:Int)*(b:Int))=((a*b:Nat):Int):=by
 rw[Sn];have e:((a:Int)*(b:Int))=((a*b:Nat):Int):=(Sn a b).symm;exact aH (by omega) (by omega)
theorem Fl {a b:Nat} (h:a+b<=9223372036854775807):IntKind.i64.wrap ((a:Int)+(b:Int))=((a+b:Nat):Int):=by
 rw[aH (by omega) (by omega)];omega
theorem LK {α:Type} {p:Prop} {i:Decidable p} (h:p) (x y:α):cond (@decide p i) x y=x:=by rw[decide_eq_true h];rfl
theorem QZ {α:Type} {p:Prop} {i:Decidable p} (h:¬p) (x y:α):cond (@decide p i) x y=y:=by rw[decide_eq_false h];rfl
theorem tU {H W C h w c:Nat} (h1:h<H) (h2:w<W) (h3:c<C):(h*W+w)*C+c<H*W*C:=by
 have a1:(h+1)*W<=H*W:=Rz _ h1;rw[RH]at a1;have a2:(h*W+w+1)*C<=H*W*C:=Rz _ (by omega);rw[RH]at a2;omega
structure k6 (H W C:Nat) (xs:List Int):Prop where
 h1:1<=H
 h8:H<=8
 w1:1<=W
 w8:W<=8
 c1:1<=C
 c8:C<=8
 len:xs.length=H*W*C
 mem:∀x∈xs,-128<=x/\x<=127
def vk (H W C:Nat) (xs:List Int):av:=⟨⟨H,W,C⟩,xs⟩
theorem k6.PI {H W C:Nat} {xs:List Int} (r:k6 H W C xs):H*W*C<=512:=by
 have a:=R2 r.h8 r.w8;have b:=R2 a r.c8;omega
theorem k6.sh {H W C:Nat} {xs:List Int} (r:k6 H W C xs):(⟨H,W,C⟩:Shape).okB=true:=by
 obtain⟨a,b,c,d,e,f,_,_⟩:=r;simp only[Shape.okB,inB,Rf,decide_eq_true_eq];omega
theorem k6.size {H W C:Nat} {xs:List Int} (r:k6 H W C xs):(⟨H,W,C⟩:Shape).size=((H*W*C:Nat):Int):=by
 unfold Shape.size;rw[r.sh,cond_true,Sn,Sn]
theorem k6.ok {H W C:Nat} {xs:List Int} (r:k6 H W C xs):(vk H W C xs).okB=true:=by
 unfold av.okB vk;simp only[r.sh,r.size,r.len,decide_true,Rp];unfold rI;rw[SQ];intro x hx;have:=r.mem x hx;rw[cn];omega
theorem CT {t:av} (h:t.okB=true):∃H W C:Nat,k6 H W C t.data/\t=vk H W C t.data:=by
 unfold av.okB at h;simp only[Rf,decide_eq_true_eq]at h;obtain⟨h1,h2,h3⟩:=h;have hs:=Shape.tK h1;unfold rI at h3;rw[SQ]at h3;unfold Shape.size at h2;rw[h1,cond_true]at h2;obtain⟨⟨a,b,c⟩,xs⟩:=t;simp only at hs h2 h3;refine⟨a.toNat,b.toNat,c.toNat,⟨by omega,by omega,by omega,by omega,by omega,by omega,?_,λx hx=>cn.1 (h3 x hx)⟩,?_⟩
 ·have ea:((a.toNat:Nat):Int)=a:=by omega
  have eb:((b.toNat:Nat):Int)=b:=by omega
  have ec:((c.toNat:Nat):Int)=c:=by omega
  have e:((a.toNat*b.toNat*c.toNat:Nat):Int)=a*b*c:=by rw[Sn,Sn,ea,eb,ec]
  show xs.length=_;omega
 ·unfold vk
  congr 2<;>omega
def atN (W C:Nat) (xs:List Int) (h w c:Nat):Int:=xs.getD ((h*W+w)*C+c) 0
theorem GQ {H W C:Nat} {xs:List Int} (r:k6 H W C xs) {h w c:Nat} (h1:h<H) (h2:w<W) (h3:c<C):xs[(h*W+w)*C+c]? =some (atN W C xs h w c):=by
 have:=tU h1 h2 h3;have hl:=r.len;unfold atN;rw[b8 (by omega),ai (by omega)]
theorem wS {xs:List Int} {i:Nat} (h:i<xs.length):xs.getD i 0∈xs:=by rw[b8 h];exact Rq h
theorem H7 {H W C:Nat} {xs:List Int} (r:k6 H W C xs) {h w c:Nat} (h1:h<H) (h2:w<W) (h3:c<C):-128<=atN W C xs h w c/\atN W C xs h w c<=127:=by
 have:=tU h1 h2 h3;have hl:=r.len;exact r.mem _ (wS (by omega))
theorem Bn {H W C:Nat} {xs:List Int} (r:k6 H W C xs) {h w c:Nat} (h1:h<H) (h2:w<W) (h3:c<C):
  IntKind.i64.wrap (IntKind.i64.wrap (IntKind.i64.wrap (IntKind.i64.wrap ((h:Int)*(W:Int))+(w:Int))*(C:Int))+(c:Int))=(((h*W+w)*C+c:Nat):Int):=by
 have a:=tU h1 h2 h3;have b:=r.PI;have d:h*W<=H*W:=Rz _ (by omega);have e:=R2 r.h8 r.w8;rw[EO (by omega),Fl (by have:=r.w8;omega),EO (by omega),Fl (by omega)]
theorem su {k:Nat} {H W C:Nat} {xs:List Int} (r:k6 H W C xs) (hk:512<k) {h w c:Nat} (h1:h<H) (h2:w<W) (h3:c<C):oE k (vk H W C xs) h w c=some (atN W C xs h w c,true):=by
 have hl:=r.len;have hc:=r.PI
 have hi:∀{a n:Nat},a<n->n<=8->inB (a:Int) 0 (IntKind.i64.wrap ((n:Int)-1))=true:=λ{a n} h h8=>by
  rw[aH (by omega) (by omega),cn];omega
 unfold oE yF;simp only[ke,cy,aa];rw[oO (t:=vk H W C xs) (by show xs.length<k;omega) (by unfold ue;show xs.length<=_;omega),r.ok];simp only[vk,r.sh,hi h1 r.h8,hi h2 r.w8,hi h3 r.c8,Rn,cond_false,aa,Bn r h1 h2 h3];rw[ab,if_neg (by omega),aE,GQ r h1 h2 h3,aa]
theorem sw {k:Nat} {H W C:Nat} {xs:List Int} (r:k6 H W C xs) {h w c:Nat} (h1:h<H) (h2:w<W) (h3:c<C):iF k ⟨H,W,C⟩ h w c=some ((((h*W+w)*C+c:Nat)):Int):=by
 unfold iF;rw[Bn r h1 h2 h3]
structure LM (H W Z S h w:Nat):Prop where
 z1:1<=Z
 z3:Z<=3
 s2:S<=2
 hh:h*S+Z<=H
 ww:w*S+Z<=W
def iY (W C:Nat) (xs:List Int) (Z S h w c:Nat):List Int:=
 (List.range Z).flatMap λi=>(List.range Z).flatMap λj=>[atN W C xs (h*S+i) (w*S+j) c]
def Pn (W C:Nat) (xs:List Int) (Z S h w:Nat):List Int:=
 (List.range Z).flatMap λi=>(List.range Z).flatMap λj=>(List.range C).map λc=>atN W C xs (h*S+i) (w*S+j) c
theorem EP (W C:Nat) (xs:List Int) (Z S h w c:Nat):(iY W C xs Z S h w c).length=Z*(Z*1):=
 gQ _ _ _ λi hi=>gQ _ _ _ λj hj=>rfl
theorem CU (W C:Nat) (xs:List Int) (Z S h w:Nat):(Pn W C xs Z S h w).length=Z*(Z*C):=
 gQ _ _ _ λi hi=>gQ _ _ _ λj hj=>by simp
theorem ER {k:Nat} {H W C:Nat} {xs:List Int} (r:k6 H W C xs) (hk:512<k) {l:ax} {Z S h w c:Nat} (hz:l.size=Z) (hs:l.step=S) (v:LM H W Z S h w) (hc:c<C):
  lJ k (vk H W C xs) l h w c=some (iY W C xs Z S h w c):=by
 have hM:=al;have hv:=v;obtain⟨z1,z3,s2,hh,ww⟩:=hv;have:=r.h8;have:=r.w8;unfold lJ
 refine(fJ Z 3 (λi=>(List.range Z).flatMap λj=>[atN W C xs (h*S+i) (w*S+j) c]) [] (fin:=some) (λi hi=>by
   have:=kZ (λj=>[atN W C xs (h*S+i) (w*S+j) c]) 1 Z (λ_ _=>Rw _);omega) (λi ys next hi hy=>?_) (λys next=>?_) (by omega)).trans (by rw[SD];rfl)
 ·simp only[mq,hz,hs];rw[ab,if_pos (by omega),au hi (by omega)];refine fJ Z 1 (λj=>[atN W C xs (h*S+i) (w*S+j) c]) ys (fin:=λy=>next (((i+1:Nat):Int),y)) (λ_ _=>Rw _) (λj zs next2 hj hz2=>?_) (λzs next2=>?_) (by omega)
  ·simp only[mo,hz,hs]
   have e1:h*S+i<H:=by omega
   have e2:w*S+j<W:=by omega
   have e:=su (k:=k) r hk e1 e2 hc;unfold vk at e;simp only[RK]at hy;rw[ab,if_pos (by omega)];simp only[vk];rw[EO (by omega),Fl (by omega),EO (by omega),Fl (by omega),e,aa,cr (by simp;omega),au hj (by omega)]
  ·simp only[mo];rw[ab,if_neg (by omega)]
 ·simp only[mq];rw[ab,if_neg (by omega)]
theorem ES {α:Type} {ws:List α} {a q i:Nat} (hi:i<q):((ws.take (a+q)).drop a)[i]? =ws[a+i]? :=by
 rw[Rv,RR,if_pos (by omega)]
theorem LN {ws:List Int} {a q:Nat} (h:a+q<=ws.length):(ws.take (a+q)).drop a=(List.range q).map λc=>ws.getD (a+c) 0:=by
 apply List.ext_getElem?;intro i;by_cases c:i<q
 ·rw[ES c,RX,List.getElem?_range c,Sx,ai (by omega),b8 (by omega)]
 ·rw[RI (by simp;omega),RI (by simp;omega)]
theorem zc {k:Nat} {H W C:Nat} {xs:List Int} (r:k6 H W C xs) (hk:512<k) {l:ax} {Z S h w c:Nat} (hz:l.size=Z) (hs:l.step=S) (v:LM H W Z S h w) (hc:c<C):
  cE k l (vk H W C xs) h w c=some (iY W C xs Z S h w c):=by
 have hM:=al;have hv:=v;obtain⟨z1,z3,s2,hh,ww⟩:=hv;have:=r.h8;have:=r.w8;have:=r.c8;have hcu:=r.PI;have hlen:=r.len;unfold cE
 refine(fJ Z 3 (λi=>(List.range Z).flatMap λj=>[atN W C xs (h*S+i) (w*S+j) c]) [] (fin:=some) (λi hi=>by
   have:=kZ (λj=>[atN W C xs (h*S+i) (w*S+j) c]) 1 Z (λ_ _=>Rw _);omega) (λi ys next hi hy=>?_) (λys next=>?_) (by omega)).trans (by rw[SD];rfl)
 ·simp only[dJ,hz,hs];rw[ab,if_pos (by omega),au hi (by omega)];refine fJ Z 1 (λj=>[atN W C xs (h*S+i) (w*S+j) c]) ys (fin:=λy=>next (((i+1:Nat):Int),y)) (λ_ _=>Rw _) (λj zs next2 hj hz2=>?_) (λzs next2=>?_) (by omega)
  ·simp only[dI,hz,hs]
   have e1:h*S+i<H:=by omega
   have e2:w*S+j<W:=by omega
   have e:=sw (k:=k) (c:=0) r e1 e2 (by omega);have hp:=tU e1 e2 hc;simp only[RK]at hy;rw[ab,if_pos (by omega)];simp only[vk];rw[EO (by omega),Fl (by omega),EO (by omega),Fl (by omega)];refine(congrArg (λo:Option Int=>o.bind _) e).trans ?_;rw[aa,ab,if_neg (by omega),RP,Fl (by omega),aE,GQ r e1 e2 hc,aa,cr (by simp;omega),au hj (by omega)]
  ·simp only[dI];rw[ab,if_neg (by omega)]
 ·simp only[dJ];rw[ab,if_neg (by omega)]
theorem ET {k:Nat} {H W C:Nat} {xs:List Int} (r:k6 H W C xs) (hk:512<k) {l:ax} {Z S h w:Nat} (hz:l.size=Z) (hs:l.step=S) (v:LM H W Z S h w):
  cE k l (vk H W C xs) h w (-1)=some (Pn W C xs Z S h w):=by
 have hM:=al;have hv:=v;obtain⟨z1,z3,s2,hh,ww⟩:=hv;have:=r.h8;have:=r.w8;have:=r.c8;have hc1:=r.c1;have hcu:=r.PI;have hlen:=r.len;unfold cE
 refine(fJ Z 24 (λi=>(List.range Z).flatMap λj=>(List.range C).map λc=>atN W C xs (h*S+i) (w*S+j) c) [] (fin:=some) (λi hi=>by
   have:=kZ (λj=>(List.range C).map λc=>atN W C xs (h*S+i) (w*S+j) c) 8 Z (λ_ _=>by simp;omega);omega) (λi ys next hi hy=>?_) (λys next=>?_) (by omega)).trans (by rw[SD];rfl)
 ·simp only[dJ,hz,hs];rw[ab,if_pos (by omega),au hi (by omega)];refine fJ Z 8 (λj=>(List.range C).map λc=>atN W C xs (h*S+i) (w*S+j) c) ys (fin:=λy=>next (((i+1:Nat):Int),y)) (λ_ _=>by simp;omega) (λj zs next2 hj hz2=>?_) (λzs next2=>?_) (by omega)
  ·simp only[dI,hz,hs]
   have e1:h*S+i<H:=by omega
   have e2:w*S+j<W:=by omega
   have e:=sw (k:=k) (c:=0) r e1 e2 (by omega);have hp:=tU (C:=C) (c:=C-1) e1 e2 (by omega);simp only[RK]at hy;rw[ab,if_pos (by omega)];simp only[vk];rw[EO (by omega),Fl (by omega),EO (by omega),Fl (by omega)];refine(congrArg (λo:Option Int=>o.bind _) e).trans ?_;have e3:=LN (ws:=xs) (a:=((h*S+i)*W+(w*S+j))*C) (q:=C) (by omega);have ew:IntKind.i64.wrap (((((h*S+i)*W+(w*S+j))*C:Nat):Int)+(C:Int))=((((h*S+i)*W+(w*S+j))*C+C:Nat):Int):=Fl (by omega);rw[aa,LK (by omega),RP];refine(LK (by rw[ew];omega) _ _).trans ?_;refine(LK (by rw[ew];omega) _ _).trans ?_;rw[ew,Rg,Rg,e3,cr (by simp;omega),au hj (by omega)];rfl
  ·simp only[dI];rw[ab,if_neg (by omega)]
 ·simp only[dJ];rw[ab,if_neg (by omega)]
end
end Go.Proofs.Ev
