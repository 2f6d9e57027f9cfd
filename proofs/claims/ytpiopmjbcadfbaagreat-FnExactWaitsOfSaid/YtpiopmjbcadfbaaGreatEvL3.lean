/- Typed functions and what holds of them: part 3. -/
import Derived.Test.YtpiopmjbcadfbaaGreatEvL2
import Derived.KernelRfl
set_option linter.unusedVariables false
set_option linter.unusedSimpArgs false
set_option linter.unusedSectionVars false
namespace Go.Proofs.Ev
section
def av.tot (x:av):Nat:=x.data.length+(0)
def ax.tot (x:ax):Nat:=x.weights.length+(x.mR.length+(0))
def Model.tot (x:Model):Nat:=eA ax.tot x.aB+(0)
def Job.tot (x:Job):Nat:=x.model.tot+(x.act.tot+(0))
def Task.tot (x:Task):Nat:=x.ar.length+(0)
def aj.tot (x:aj):Nat:=eA Task.tot x.tasks+(0)
def Request.tot (x:Request):Nat:=x.job.tot+(0)
def Runtime.tot (x:Runtime):Nat:=x.sched.tot+(eA Model.tot x.ak+(x.ao.length+(eA Request.tot x.ae+(0))))
def Step.tot (x:Step):Nat:=x.data.length+(x.input.tot+(0))
def Event.tot (x:Event):Nat:=x.out.tot+(0)
def Entry.tot (x:Entry):Nat:=x.model.tot+(x.input.tot+(0))
theorem I5 {k:Nat} {xs:List Int} {n:Int} (hx:xs.length<=tT) (h1:0<=n) (h2:n<=1048576):Sz (s3 k xs n) n xs.length:=Gd k xs n ⟨h1,h2⟩ hx
theorem I6 {k:Nat} {xs:List Int} (hk:xs.length<k) (hN:xs.length<=aT):s4 k xs=some xs:=Ge hk hN
theorem AJ {k:Nat} {xs ys:List Int} (hk:xs.length<k) (hN:xs.length<=aT):oc k xs ys=some (decide (xs=ys)):=Gf hk (by unfold tT;rw[al]at hN;omega)
theorem pS {k:Nat} {xs:List Int} {m:Int} (hk:xs.length<k) (hN:xs.length<=aT) (h0:0<=m) (hB:m+16*xs.length<=CV):
    ∃r ys,kv k xs m=some (r,ys)/\m<=r/\r<=m+16*xs.length/\ys.length=xs.length/\ni k ys m=some r:=by
  have ht:eA (λ_=>0) xs=xs.length:=D5 xs;rw[al]at hN;unfold CV at hB
  obtain⟨r,out,a1,a2,a3,a4,a5⟩:=sY (t:=λ_:Int=>0) (N:=xs.length) (g:=λu next=>fv k () u next (λy=>some (y.1,y.2))) (fin:=λy=>some (y.1,y.2)) (hd:=λys u next=>iw k ys u next (λy=>some y) (λy=>some y))
    (λm ys next hl=>by simp only[fv,ab];rw[if_neg (by omega)]) (λys m next hl=>by simp only[iw,ab];rw[if_neg (by omega)]) xs [] m k (by simp) hk h0 (by rw[ht];unfold CV;omega)
    (λx hm m h0 hB=>by
      unfold CV at hB;refine⟨m+1,m,by omega,by omega,λi ys next hl hi hx=>?_,λi ys next hl hi hy=>?_⟩
      · simp(disch:=omega)only[fv,ab,if_pos,QW,aH]
      · simp(disch:=omega)only[iw,ab,if_pos,aD,hy,aa,l4,aH,if_true])
  rw[ht]at a4;exact⟨r,out,a2,a3,a4,a1,a5 k hk⟩
theorem Gh {k:Nat} {xs:List Int} {n:Int} (hx:xs.length<=tT) (h1:0<=n) (h2:n<=1048576):Sz (pK k xs n) n xs.length:=D7 k xs n ⟨h1,h2⟩ hx
theorem Gi {k:Nat} {xs:List Int} (hk:xs.length<k) (hN:xs.length<=aT):pL k xs=some xs:=D8 hk hN
theorem Gj {k:Nat} {xs ys:List Int} (hk:xs.length<k) (hN:xs.length<=aT):s6 k xs ys=some (decide (xs=ys)):=Ea hk (by unfold tT;rw[al]at hN;omega)
theorem vS {k:Nat} {xs:List Int} {m:Int} (hk:xs.length<k) (hN:xs.length<=aT) (h0:0<=m) (hB:m+16*xs.length<=CV):
    ∃r ys,mK k xs m=some (r,ys)/\m<=r/\r<=m+16*xs.length/\ys.length=xs.length/\xL k ys m=some r:=by
  have ht:eA (λ_=>0) xs=xs.length:=D5 xs;rw[al]at hN;unfold CV at hB
  obtain⟨r,out,a1,a2,a3,a4,a5⟩:=sY (t:=λ_:Int=>0) (N:=xs.length) (g:=λu next=>eQ k () u next (λy=>some (y.1,y.2))) (fin:=λy=>some (y.1,y.2)) (hd:=λys u next=>jr k ys u next (λy=>some y) (λy=>some y))
    (λm ys next hl=>by simp only[eQ,ab];rw[if_neg (by omega)]) (λys m next hl=>by simp only[jr,ab];rw[if_neg (by omega)]) xs [] m k (by simp) hk h0 (by rw[ht];unfold CV;omega)
    (λx hm m h0 hB=>by
      unfold CV at hB;refine⟨m+1,IntKind.u8.wrap m,by omega,by omega,λi ys next hl hi hx=>?_,λi ys next hl hi hy=>?_⟩
      · simp(disch:=omega)only[eQ,ab,if_pos,QW,aH]
      · simp(disch:=omega)only[jr,ab,if_pos,aD,hy,aa,l4,aH,if_true])
  rw[ht]at a4;exact⟨r,out,a2,a3,a4,a1,a5 k hk⟩
theorem Gk {k:Nat} {x:Shape}:xG k x=some x:=rfl
theorem Gl {k:Nat} {x y:Shape}:xH k x y=some (decide (x=y)):=by
 refine(Pj (Pj (Pj (La)))).trans ?_
 congr 1
 rw[decide_eq_decide];cases x;cases y;simp only[Shape.mk.injEq,and_true]
theorem Ec {k:Nat} {x:av} {n:Int} (hx:x.Ok) (hk:x.tot<k) (h1:0<=n) (h2:n<=1048576):Sz (uQ k x n) n x.tot:=by
 unfold av.tot at hk;exact K8 h1 (I5 hx.2.1 h1 h2) λc0=>NP (by omega)
theorem Ed {k:Nat} {x:av} (hk:x.tot<k) (hN:x.tot<=aT):qw k x=some x:=by
 unfold av.tot at hk hN;have e0:=Gk (k:=k) (x:=x.sh);have e1:=I6 (k:=k) (xs:=x.data) (by omega) (by omega);unfold qw;simp only[e0,e1,aa]
theorem Ee {k:Nat} {x y:av} (hk:x.tot<k) (hN:x.tot<=aT):uR k x y=some (decide (x=y)):=by
 unfold av.tot at hk hN;refine(Qj Gl (Qj (AJ (by omega) (by omega)) (La))).trans ?_
 congr 1
 rw[decide_eq_decide];cases x;cases y;simp only[av.mk.injEq,and_true]
theorem I7 {k:Nat} {x:Step} {n:Int} (hx:x.Ok) (hk:x.tot<k) (h1:0<=n) (h2:n<=1048576):Sz (wj k x n) n x.tot:=by
 unfold Step.tot at hk;exact K8 h1 (Gh hx.2.2.2.1.1 h1 h2) λc0=>K8 (by omega) (Ec hx.2.2.2.2 (by omega) (by omega) (by omega)) λc1=>NP (by omega)
theorem I8 {k:Nat} {x:Step} (hk:x.tot<k) (hN:x.tot<=aT):s5 k x=some x:=by
 unfold Step.tot at hk hN;have e0:=Gi (k:=k) (xs:=x.data) (by omega) (by omega);have e1:=Ed (k:=k) (x:=x.input) (by omega) (by omega);unfold s5;simp only[e0,e1,aa]
theorem I9 {k:Nat} {x y:Step} (hk:x.tot<k) (hN:x.tot<=aT):wm k x y=some (decide (x=y)):=by
 unfold Step.tot at hk hN;refine(Pj (Pj (Pj (Qj (Gj (by omega) (by omega)) (Qj (Ee (by omega) (by omega)) (La)))))).trans ?_
 congr 1
 rw[decide_eq_decide];cases x;cases y;simp only[Step.mk.injEq,and_true]
theorem Gm {k:Nat} {xs:List Step} {n:Int} (hx:okS Step.Ok xs) (hk:eA Step.tot xs<k) (h1:0<=n) (h2:n<=1048576):Sz (xJ k xs n) n (eA Step.tot xs):=
 OO (f:=λx n=>wj k x n) (g:=λu next=>jK k xs u next (λy=>some y) (λy=>some y)) hx.1 (λx hm n a b=>I7 (hx.2 x hm) (by have:=eH Step.tot hm;omega) a b)
  (λi left hi next=>by simp only[jK];rw[ab,if_pos (by omega),aD,ag hi,aa]) (λleft next=>by simp only[jK];rw[ab,if_neg (by omega)]) (by have:=bm Step.tot xs;omega) h1 h2
theorem Gn {k:Nat} {xs:List Step} (hk:eA Step.tot xs<k) (hN:eA Step.tot xs<=aT):nj k xs=some xs:=by
 have hl:xs.length<=eA Step.tot xs:=bm _ _
 exact OP xs _ (f:=λx=>s5 k x) (g:=λu next=>jL k xs u next (λy=>some y)) (by omega) (λx hm=>I8 (by have:=eH Step.tot hm;omega) (by have:=eH Step.tot hm;omega))
  (λi ys hi next=>by simp only[jL];rw[ab,if_pos (by omega),aD,ag hi,aa]) (λys next=>by simp only[jL];rw[ab,if_neg (by omega)]) (by omega)
theorem Gp {k:Nat} {xs ys:List Step} (hk:eA Step.tot xs<k) (hN:eA Step.tot xs<=aT):xK k xs ys=some (decide (xs=ys)):=by
 have hl:xs.length<=eA Step.tot xs:=bm _ _;have h2:=al
 exact OQ (f:=λx y=>wm k x y) (g:=λu next=>jM k (xs,ys) u next (λy=>some true) (λy=>some y)) (by omega) (λx hm y=>I9 (by have:=eH Step.tot hm;omega) (by have:=eH Step.tot hm;omega))
  (λi hi hi' next=>by simp only[jM];rw[ab,if_pos (by omega),aD,aD,ag hi,ag hi',aa,aa]) (λnext=>by simp only[jM];rw[ab,if_neg (by omega)]) (by omega)
theorem vT {k:Nat} {xs:List Step} {m:Int} (hk:eA Step.tot xs<k) (hN:eA Step.tot xs<=aT) (h0:0<=m) (hB:m+16*eA Step.tot xs<=CV):
    ∃r ys,mL k xs m=some (r,ys)/\m<=r/\r<=m+16*eA Step.tot xs/\ys.length=xs.length/\Gc k ys m=some r:=by
  have ht:eA Step.tot xs=eA Step.tot xs:=rfl;have hN2:=al;have hlen:=bm Step.tot xs;unfold CV at hB
  obtain⟨r,out,a1,a2,a3,a4,a5⟩:=sY (t:=Step.tot) (N:=xs.length) (g:=λu next=>eR k () u next (λy=>some (y.1,y.2))) (fin:=λy=>some (y.1,y.2)) (hd:=λys u next=>jt k ys u next (λy=>some y) (λy=>some y))
    (λm ys next hl=>by simp only[eR,ab];rw[if_neg (by omega)]) (λys m next hl=>by simp only[jt,ab];rw[if_neg (by omega)]) xs [] m k (by simp) (by omega) h0 (by unfold CV;omega)
    (λx hm m h0 hB=>by
      have hmt:=eH Step.tot hm;rw[ht]at hmt;unfold CV at hB
      have hxk:x.tot<k:=by omega
      have hxN:x.tot<=aT:=by omega
      clear hmt hm;unfold Step.tot av.tot at hxk hxN hB⊢;obtain⟨r0,y0,e0,a0,b0,l0,h0⟩:=vS (k:=k) (xs:=x.data) (m:=m+1+1+1) (by omega) (by omega) (by omega) (by unfold CV;omega);obtain⟨r1,y1,e1,a1,b1,l1,h1⟩:=pS (k:=k) (xs:=x.input.data) (m:=r0+1+1+1) (by omega) (by omega) (by omega) (by unfold CV;omega);refine⟨r1,(⟨m,m+1,m+1+1,y0,(⟨(⟨r0,r0+1,r0+1+1⟩:Shape),y1⟩:av)⟩:Step),by omega,by omega,λi ys next hl hi hx=>?_,λi ys next hl hi hy=>?_⟩
      · simp(disch:=first|omega|(simp only[RB];omega))only[eR,ab,if_pos,QW,aH,RB,RG,List.set_set,hx,aa,e0,e1]
      · simp(disch:=omega)only[jt,ab,if_pos,if_neg,aD,hy,aa,l4,aH,if_true,h0,h1])
  rw[ht]at a4;exact⟨r,out,a2,a3,a4,a1,a5 k (by omega)⟩
end
section
end
section
theorem Lh {β R:Type} (n:Nat) (f:Nat->β) {g:Int× List β->(Int× List β->Option R)->Option R} {fin:List β->Option R}
  (h:∀(i:Nat) (ys:List β) (hi:i<n) (next:Int× List β->Option R),ys.length=i->g ((i:Int),ys) next=next (((i+1:Nat):Int),ys++[f i]))
  (hn:∀ys next,g ((n:Int),ys) next=fin ys) {k:Nat} (hk:n<k):iter g k (0,[])=fin ((List.range n).map f):=by
 have:=fj (g:=g) (st:=λi=>((i:Int),(List.range i).map f)) (n:=n) (r:=fin ((List.range n).map f)) (λi hi next=>by
  rw[h i _ hi next (by simp),Sp,RY];rfl) (λnext=>hn _ _) hk
 simpa using this
def takes (x:Step):Int:=cond (inB x.kind 4 5&&inB x.a 0 200) x.a 0
end
section
theorem jh {b c:Bool}:cond b (some c) (some false)=some (b&&c):=by cases b<;>rfl
theorem dk {α:Type} {b:Bool} {x y:α}:cond (!b) x y=cond b y x:=by cases b<;>rfl
theorem nw {α:Type} (a b:Int) (x y:α):cond (a !=b) x y=cond (decide (a=b)) y x:=by rw[K7];by_cases h:a=b<;>simp[h]
theorem Ef (a b:Int):(a==b)=decide (a=b):=ON a b
def HJ (l:ax):Bool:=inB l.out 1 8&&(inB l.mult 0 2147483647&&(inB l.shift 0 31&&(inB l.zero (-128) 127&&(decide ((l.mR.length:Int)=l.out)&&(l.mR.all (λx=>inB x (-1000000) 1000000)&&ru l.weights)))))
def rW (l:ax):Bool:=decide (l.out=0)&&(decide (l.mult=0)&&(decide (l.shift=0)&&(decide ((l.weights.length:Int)=0)&&decide ((l.mR.length:Int)=0))))
def oW (l:ax):Bool:=decide (l.size=0)&&decide (l.step=0)
def Li (s:Shape) (l:ax):Bool:=inB l.size 1 3&&(inB l.step 1 2&&(decide (l.size<=s.h)&&decide (l.size<=s.w)))
def iJ (s:Shape) (l:ax):Bool:=s.okB&&
 (cond (decide (l.kind=0)) (oW l&&(HJ l&&(decide (s.size<=64)&&decide ((l.weights.length:Int)=l.out*s.size))))
 (cond (decide (l.kind=1)) (Li s l&&(HJ l&&(decide ((l.weights.length:Int)=l.out*l.size*l.size*s.c)&&decide ((l.weights.length:Int)<=600))))
 (cond (decide (l.kind=2)||decide (l.kind=3)) (Li s l&&(rW l&&decide (l.zero=0)))
 (cond (decide (l.kind=4)) (oW l&&(rW l&&inB l.zero (-128) 127))
 (cond (decide (l.kind=5)) (oW l&&(rW l&&(decide (l.zero=0)&&decide (s.size<=8)))) false)))))
def qQ (s:Shape) (l:ax) (c:Int):Shape:=
 ⟨IntKind.i64.wrap ((IntKind.i64.wrap ((IntKind.i64.wrap (s.h-l.size)).tdiv l.step))+1),IntKind.i64.wrap ((IntKind.i64.wrap ((IntKind.i64.wrap (s.w-l.size)).tdiv l.step))+1),c⟩
def shapeOf (s:Shape) (l:ax):Shape:=
 cond (decide (l.kind=0)) ⟨1,1,l.out⟩ (cond (decide (l.kind=1)) (qQ s l l.out) (cond (decide (l.kind=4)) s (cond (decide (l.kind=5)) ⟨1,1,s.size⟩ (qQ s l s.c))))
def ji:Shape:=⟨0,0,0⟩
def gK (s:Shape) (l:ax):Shape× Bool:=cond (iJ s l) (shapeOf s l,true) (ji,false)
theorem vy (k:Nat) (x:Int):gB k x=some (inB x (-128) 127):=by unfold gB;rw[cD,aa]
theorem Gq {k:Nat} {l:ax} (hk:l.tot<k) (hN:l.tot<=aT) (fin:Option Bool):
    (iter (λu16 n16=>fZ k (l.kind,l.out,l.size,l.step,l.mult,l.shift,l.zero,l.weights,l.mR) u16 n16 (λy9=>iter (λu14 n14=>gd k (l.kind,l.out,l.size,l.step,l.mult,l.shift,l.zero,l.weights,l.mR) u14 n14 (λy12=>fin) (λy13=>some y13)) k (0:Int)) (λy15=>some y15)) k (0:Int))
      =cond (l.mR.all (λx=>inB x (-1000000) 1000000)) (cond (ru l.weights) fin (some false)) (some false):=by
  have hM:=al;unfold ax.tot at hk hN
  rw [nY l.mR (λ x => inB x (-1000000) 1000000) (yes := cond (ru l.weights) fin (some false)) (no := some false) (λ i hi next => by
    simp only[fZ]
    rw[ab,if_pos (by omega),aD,ag hi,aa,cD,aa,cond_not,au hi (by omega)]) (λnext=>by
    simp only[fZ];rw[ab,if_neg (by omega)]
    exact nY l.weights (λx=>inB x (-128) 127) (λi hi next=>by
      simp only[gd]
      rw[ab,if_pos (by omega),aD,ag hi,aa,vy,aa,cond_not,au hi (by omega)]) (λnext=>by
      simp only[gd];rw[ab,if_neg (by omega)]) (by omega)) (by omega)]
def xT (l:ax) (window weighs:Bool):Bool:=
 cond window (inB l.size 1 3&&inB l.step 1 2) (oW l)&&cond weighs (HJ l) (rW l&&cond (decide (l.kind=4)) (inB l.zero (-128) 127) (decide (l.zero=0)))
theorem OV (n:Nat):decide ((n:Int)>0)=!decide ((n:Int)=0):=by
 by_cases h:(n:Int)=0
 ·rw[decide_eq_true h,decide_eq_false (by omega)];rfl
 ·rw[decide_eq_false h,decide_eq_true (by omega)];rfl
theorem Cm {k:Nat} {l:ax} (hk:l.tot<k) (hN:l.tot<=aT) (a b:Bool):qx k l a b=some (xT l a b):=by
 unfold qx xT HJ rW oW;simp only[cD,vy,aa,dk,nw,Gq hk hN,OV,Ef];cases a<;>cases b<;>simp only[cond_true,cond_false,jh]<;>(by_cases h4:l.kind=4<;>simp only[h4,decide_true,decide_false,cond_true,cond_false,jh,Bool.and_assoc,S5])
theorem cn {x a b:Int}:inB x a b=true↔a<=x/\x<=b:=by unfold inB;simp
theorem pT {s:Shape} {l:ax} (h:Li s l=true):1<=l.size/\l.size<=3/\1<=l.step/\l.step<=2/\l.size<=s.h/\l.size<=s.w:=by
 simp only[Li,QV,cn,decide_eq_true_eq]at h;omega
theorem wA {l:ax} (h:HJ l=true):1<=l.out/\l.out<=8:=by
 simp only[HJ,QV,cn]at h;omega
theorem Eg {o z c:Int} (h1:1<=o) (h2:o<=8) (h3:1<=z) (h4:z<=3) (h5:1<=c) (h6:c<=8):
  IntKind.i64.wrap (IntKind.i64.wrap (IntKind.i64.wrap (o*z)*z)*c)=o*z*z*c/\IntKind.i64.wrap (o*IntKind.i64.wrap (IntKind.i64.wrap (z*z)*c))=o*z*z*c:=by
 have a1:=pI (show 0<=o by omega) h2 (show 0<=z by omega) h4;have a2:=pI a1.1 a1.2 (show 0<=z by omega) h4;have a3:=pI a2.1 a2.2 (show 0<=c by omega) h6;have b1:=pI (show 0<=z by omega) h4 (show 0<=z by omega) h4;have b2:=pI b1.1 b1.2 (show 0<=c by omega) h6;have b3:=pI (show 0<=o by omega) h2 b2.1 b2.2;refine⟨?_,?_⟩
 ·rw[aH (n:=o*z) (by omega) (by omega),aH (n:=o*z*z) (by omega) (by omega),aH (by omega) (by omega)]
 ·rw[aH (n:=z*z) (by omega) (by omega),aH (n:=z*z*c) (by omega) (by omega),aH (by omega) (by omega),<-Tr,<-Tr]
theorem AK {o:Int} {s:Shape} (h1:1<=o) (h2:o<=8):IntKind.i64.wrap (o*s.size)=o*s.size:=by
 have h:=Shape.Lg s;have a1:=pI (show 0<=o by omega) h2 h.1 h.2;exact aH (by omega) (by omega)
theorem oE {k:Nat} {s:Shape} {l:ax} (hk:l.tot<k) (hN:l.tot<=aT):kZ k s l=some (gK s l):=by
  unfold kZ gK iJ;simp only[j3,cD,oC,Cm hk hN,aa,dk,nw,Ef];cases hs:s.okB
  · rfl
  obtain⟨c1,c2,c3,c4,c5,c6⟩:=Shape.tB hs;simp only[cond_true,Q2];by_cases k0:l.kind=0
  · have e1:inB l.kind 0 5=true:=by rw[cn];omega
    have e2:inB l.kind 1 3=false:=by rw[<-Bool.not_eq_true,cn];omega
    simp only[k0,e1,e2,cond_true,cond_false,xT,shapeOf,decide_true];simp only[k0]at e1 e2;simp only[e1,e2,cond_true,cond_false,show decide ((0:Int)<=1)=true from rfl];cases oW l
    · rfl
    cases hnum:HJ l
    · rfl
    obtain⟨o1,o2⟩:=wA hnum;simp only[AK o1 o2,Q2,cond_true];by_cases z:s.size<=64
    · rw[decide_eq_true z,decide_eq_false (by omega)];cases decide ((l.weights.length:Int)=l.out*s.size)<;>rfl
    · rw[decide_eq_false z,decide_eq_true (by omega)];rfl
  by_cases k1:l.kind=1
  · simp only[k1,xT,shapeOf,show inB 1 0 5=true from rfl,show inB 1 1 3=true from rfl,decide_true,cond_true,cond_false,show decide ((1:Int)=0)=false from rfl,show decide ((1:Int)<=1)=true from rfl];unfold Li;cases hz:inB l.size 1 3
    · rfl
    cases ht:inB l.step 1 2
    · rfl
    rw[cn]at hz ht;simp only[Q2,cond_true];cases hnum:HJ l
    · simp only[cond_false,RN,SX];rfl
    obtain⟨o1,o2⟩:=wA hnum;simp only[cond_true,Q2,(Eg o1 o2 hz.1 hz.2 c5 c6).1];rw[decide_eq_false (show¬l.step=0 by omega)];simp only[cond_false];by_cases w1:l.size<=s.h
    · rw [decide_eq_true w1, decide_eq_false (show ¬ l.size > s.h by omega)];by_cases w2:l.size<=s.w
      · rw[decide_eq_true w2,decide_eq_false (show¬l.size>s.w by omega)];simp only[cond_false,Q2];cases decide ((l.weights.length:Int)=l.out*l.size*l.size*s.c)
        · rfl
        · by_cases w3:(l.weights.length:Int)<=600
          · rw[decide_eq_true w3,decide_eq_false (by omega)];rfl
          · rw[decide_eq_false w3,decide_eq_true (by omega)];rfl
      · rw[decide_eq_false w2,decide_eq_true (show l.size>s.w by omega)];rfl
    · rw[decide_eq_false w1,decide_eq_true (show l.size>s.h by omega)];rfl
  have win:l.kind=2\/l.kind=3->_:=λh23=>by
    have e1:inB l.kind 0 5=true:=by rw[cn];omega
    have e2:inB l.kind 1 3=true:=by rw[cn];omega
    have e3:decide (l.kind<=1)=false:=decide_eq_false (by omega)
    have e4:(decide (l.kind=2)||decide (l.kind=3))=true:=by simpa using h23
    have e5:decide (l.kind=4)=false:=decide_eq_false (by omega);have e6:decide (l.kind=5)=false:=decide_eq_false (by omega);exact And.intro e1 (And.intro e2 (And.intro e3 (And.intro e4 (And.intro e5 e6))))
  by_cases h23:l.kind=2\/l.kind=3
  · obtain⟨e1,e2,e3,e4,e5,e6⟩:=win h23;simp only[e1,e2,e3,e4,e5,e6,decide_eq_false k0,decide_eq_false k1,xT,shapeOf,cond_true,cond_false];unfold Li;cases hz:inB l.size 1 3
    · rfl
    cases ht:inB l.step 1 2
    · rfl
    rw[cn]at hz ht;simp only[Q2,cond_true];rw[decide_eq_false (show¬l.step=0 by omega)];cases rW l
    · simp only[RN,SX,cond_false];rfl
    cases decide (l.zero=0)
    · simp only[RN,SX,cond_false];rfl
    simp only[cond_false,cond_true,S5,Q2];by_cases w1:l.size<=s.h
    · rw[decide_eq_true w1,decide_eq_false (show¬l.size>s.h by omega)];by_cases w2:l.size<=s.w
      · rw[decide_eq_true w2,decide_eq_false (show¬l.size>s.w by omega)];rfl
      · rw[decide_eq_false w2,decide_eq_true (show l.size>s.w by omega)];rfl
    · rw[decide_eq_false w1,decide_eq_true (show l.size>s.h by omega)];rfl
  have e4:(decide (l.kind=2)||decide (l.kind=3))=false:=by simpa using h23
  by_cases k4:l.kind=4
  · simp only[k4,e4,xT,shapeOf,show inB 4 0 5=true from rfl,show inB 4 1 3=false from rfl,decide_true,cond_true,cond_false,show decide ((4:Int)=0)=false from rfl,show decide ((4:Int)=1)=false from rfl,show decide ((4:Int)<=1)=false from rfl,
      show(decide ((4:Int)=2)||decide ((4:Int)=3))=false from rfl,show decide ((4:Int)=5)=false from rfl]
    cases oW l<;>cases rW l<;>cases inB l.zero (-128) 127<;>rfl
  by_cases k5:l.kind=5
  · simp only[k5,xT,shapeOf,show inB 5 0 5=true from rfl,show inB 5 1 3=false from rfl,decide_true,cond_true,cond_false,show decide ((5:Int)=0)=false from rfl,show decide ((5:Int)=1)=false from rfl,show decide ((5:Int)<=1)=false from rfl,
      show(decide ((5:Int)=2)||decide ((5:Int)=3))=false from rfl,show decide ((5:Int)=4)=false from rfl]
    by_cases z:s.size<=8
    · rw[decide_eq_true z,decide_eq_false (show¬s.size>8 by omega)];cases oW l<;>cases rW l<;>cases decide (l.zero=0)<;>rfl
    · rw[decide_eq_false z,decide_eq_true (show s.size>8 by omega)];cases oW l<;>cases rW l<;>cases decide (l.zero=0)<;>rfl
  · have e1:inB l.kind 0 5=false:=by rw[<-Bool.not_eq_true,cn];omega
    simp only[e1,e4,decide_eq_false k0,decide_eq_false k1,decide_eq_false k4,decide_eq_false k5,cond_false];rfl
theorem tE (k:Nat) (l:ax):eS k l=some (oW l):=by
 unfold eS oW;simp only[Ef,jh]
theorem uT (k:Nat) (l:ax):eB k l=some (rW l):=by
 unfold eB rW;simp only[Ef,jh]
theorem rX (k:Nat) (s:Shape) (l:ax):dU k l s=some (Li s l):=by
 unfold dU Li;simp only[fE,aa,jh]
 congr 1
 rw[S6];simp only[QV,cn,decide_eq_true_eq];split<;>split<;>constructor<;>intro h<;>omega
theorem Gr {k:Nat} {xs:List Int} (hk:xs.length<k) (hx:xs.length<=tT):aJ k xs=some (!xs.all (λx=>inB x (-1000000) 1000000)):=by
 unfold tT at hx;unfold aJ aW
 rw[eP xs (λx=>!inB x (-1000000) 1000000) (λi hi next=>by
  simp only[aE,ab,gN,fE,aa]
  rw[if_pos (by omega),aD,ag hi,aa,au hi (by omega)]) (λnext=>by
  simp only[aE,ab];rw[if_neg (by omega)]) hk]
 rw[cN];simp only[aa,nv];rw[SA];simp
theorem rY {k:Nat} {l:ax} {n:Int} (hk:l.tot<k) (hN:l.tot<=aT):fw k l n=some (HJ l&&decide ((l.weights.length:Int)=IntKind.i64.wrap (l.out*n))):=by
 have hM:=al;unfold ax.tot at hk hN;unfold fw HJ;simp only[fE,aa,tC (xs:=l.weights) (k:=k) (by omega) (by unfold tT;omega),Gr (xs:=l.mR) (k:=k) (by omega) (by unfold tT;omega),Ef,Tg,jh]
 congr 1
 cases inB l.out 1 8<;>cases inB l.mult 0 2147483647<;>cases inB l.shift 0 31<;>cases inB l.zero (-128) 127<;>cases decide ((l.weights.length:Int)=IntKind.i64.wrap (l.out*n))<;>cases ru l.weights<;>cases decide ((l.mR.length:Int)=l.out)<;>cases l.mR.all (λx=>inB x (-1000000) 1000000)<;>rfl
theorem iK (k:Nat) {s:Shape} {l:ax} (c:Int) (h:1<=l.step):eT k l s c=some (qQ s l c):=by
 unfold eT qQ;rw[decide_eq_false (show¬l.step=0 by omega)];rfl
theorem oF {k:Nat} {s:Shape} {l:ax} (hk:l.tot<k) (hN:l.tot<=aT):k6 k s l=some (gK s l):=by
 unfold k6 gK iJ;simp only[pQ,fE,rV,tE,uT,rX,rY hk hN,aa,dk,Ef];cases hs:s.okB
 ·rfl
 obtain⟨c1,c2,c3,c4,c5,c6⟩:=Shape.tB hs;simp only[cond_true,Q2];by_cases k0:l.kind=0
 ·simp only[k0,shapeOf,decide_true,cond_true];cases hnum:HJ l
  ·cases decide (s.size<=64)<;>cases oW l<;>rfl
  obtain⟨o1,o2⟩:=wA hnum;simp only[AK o1 o2];cases decide (s.size<=64)<;>cases oW l<;>cases decide ((l.weights.length:Int)=l.out*s.size)<;>rfl
 by_cases k1:l.kind=1
 ·simp only[k1,shapeOf,show decide ((1:Int)=0)=false from rfl,decide_true,cond_true,cond_false];cases hw:Li s l
  ·rfl
  have hw:=pT hw;cases hnum:HJ l
  ·cases decide ((l.weights.length:Int)<=600)<;>rfl
  obtain⟨o1,o2⟩:=wA hnum;simp only[(Eg o1 o2 hw.1 hw.2.1 c5 c6).2,iK k _ hw.2.2.1,aa];cases decide ((l.weights.length:Int)<=600)<;>cases decide ((l.weights.length:Int)=l.out*l.size*l.size*s.c)<;>rfl
 simp only[decide_eq_false k0,decide_eq_false k1,cond_false];by_cases k2:l.kind=2
 ·simp only[k2,shapeOf,decide_true,Bool.true_or,cond_true,cond_false,show decide ((2:Int)=0)=false from rfl,show decide ((2:Int)=1)=false from rfl,show decide ((2:Int)=4)=false from rfl,show decide ((2:Int)=5)=false from rfl];cases hw:Li s l
  ·rfl
  have hw:=pT hw;simp only[iK k _ hw.2.2.1,aa];cases rW l<;>cases decide (l.zero=0)<;>rfl
 by_cases k3:l.kind=3
 ·simp only[k3,shapeOf,decide_true,Sv,cond_true,cond_false,show decide ((3:Int)=0)=false from rfl,show decide ((3:Int)=1)=false from rfl,show decide ((3:Int)=2)=false from rfl,show decide ((3:Int)=4)=false from rfl,show decide ((3:Int)=5)=false from rfl];cases hw:Li s l
  ·rfl
  have hw:=pT hw;simp only[iK k _ hw.2.2.1,aa];cases rW l<;>cases decide (l.zero=0)<;>rfl
 simp only[decide_eq_false k2,decide_eq_false k3,Bool.or_self,cond_false];by_cases k4:l.kind=4
 ·simp only[k4,shapeOf,decide_true,cond_true,cond_false,show decide ((4:Int)=0)=false from rfl,show decide ((4:Int)=1)=false from rfl];cases oW l<;>cases rW l<;>cases inB l.zero (-128) 127<;>rfl
 by_cases k5:l.kind=5
 ·simp only[k5,shapeOf,decide_true,cond_true,cond_false,show decide ((5:Int)=0)=false from rfl,show decide ((5:Int)=1)=false from rfl,show decide ((5:Int)=4)=false from rfl];cases oW l<;>cases rW l<;>cases decide (l.zero=0)<;>cases decide (s.size<=8)<;>rfl
 simp only[decide_eq_false k4,decide_eq_false k5,cond_false];rfl
def cQ:Shape->List ax->Option (List Shape)
 |_,[]=>some []
 |s,l::ls=>cond (iJ s l) ((cQ (shapeOf s l) ls).map (shapeOf s l::·)) none
theorem rv:∀(ls:List ax) (s:Shape) (t:List Shape),cQ s ls=some t->t.length=ls.length
 |[],s,t,h=>by cases h;rfl
 |l::ls,s,t,h=>by
  simp only[cQ]at h;cases hb:iJ s l<;>simp only[hb,cond_true,cond_false]at h
  ·exact nomatch h
  ·obtain⟨t',h1,rfl⟩:=Q0.1 h;simp[rv ls _ _ h1]
theorem rZ {R:Type} {aB:List ax} {V:Type} {st:Nat->List Shape->Shape->V} {g:V->(V->Option R)->Option R} {fin:List Shape->Option R} {bad:Option R}
    (h:∀(i:Nat) (ys:List Shape) (s:Shape) (hi:i<aB.length) (next:V->Option R),ys.length=i+1->ys[i]? =some s->g (st i ys s) next=cond (iJ s aB[i]) (next (st (i+1) (ys++[shapeOf s aB[i]]) (shapeOf s aB[i]))) bad)
    (hn:∀ys s next,g (st aB.length ys s) next=fin ys):∀(rest:List ax) (i:Nat) (ys:List Shape) (s:Shape) (k:Nat),i<=aB.length->aB.drop i=rest->ys.length=i+1->ys[i]? =some s->rest.length<k->
      iter g k (st i ys s)=(cQ s rest).elim bad λt=>fin (ys++t)
  |[],i,ys,s,0,hle,hd,hl,hs,hk=>by omega
  |_::_,i,ys,s,0,hle,hd,hl,hs,hk=>by omega
  | [], i, ys, s, k + 1, hle, hd, hl, hs, hk => by
    have h1:=congrArg List.length hd;simp only[R3,Rz]at h1;rw[aG]
    have c:i=aB.length:=by omega
    subst c;rw[hn];simp[cQ]
  | l :: ls, i, ys, s, k + 1, hle, hd, hl, hs, hk => by
    have hi:i<aB.length:=by
      have h1:=congrArg List.length hd;simp only[R3,Q5]at h1;omega
    rw[gA hi]at hd
    injection hd with h1 h2
    rw[aG,h i ys s hi _ hl hs,h1];simp only[cQ];cases hb:iJ s l
    · rfl
    · simp only[cond_true];rw[rZ h hn ls (i+1) (ys++[shapeOf s l]) (shapeOf s l) k (by omega) h2 (by simp[hl]) (by rw[QX (by omega),hl];simp) (by simpa using hk)]
      cases cQ (shapeOf s l) ls with
      |none=>rfl
      |some t=>simp
def dP (m:Model):List Shape× Bool:=cond (m.inp.okB&&inB (m.aB.length:Int) 1 6) ((cQ m.inp m.aB).elim ([],false) λt=>(m.inp::t,true)) ([],false)
theorem tF {m:Model} {k:Nat} (hk:m.tot<k) (hN:m.tot<=aT) {l:ax} (h:l∈m.aB):l.tot<k/\l.tot<=aT:=by
 have:=eH ax.tot h;unfold Model.tot at hk hN;omega
theorem gg {m:Model} {k:Nat} (hk:m.tot<k) (hN:m.tot<=aT):m.aB.length<k/\m.aB.length<=aT:=by
 have:=bm ax.tot m.aB;unfold Model.tot at hk hN;omega
theorem mP {k:Nat} {m:Model} (hk:m.tot<k) (hN:m.tot<=aT):je k m=some (dP m):=by
  have hM:=al;obtain⟨hlk,hlN⟩:=gg hk hN;unfold je dP;simp only[j3,cD,aa,dk];cases m.inp.okB
  · rfl
  cases hlen:inB (m.aB.length:Int) 1 6
  · rfl
  rw[cn]at hlen;simp only[cond_true,Q2]
  have:=rZ (aB:=m.aB) (V:=Int× List Shape) (st:=λi ys s=>((i:Int),ys)) (fin:=λy=>some (y,true)) (bad:=some (([]:List Shape),false))
    (g:=λu next=>gC k (m.inp.h,m.inp.w,m.inp.c,m.aB) u next (λy6=>some (y6,true)) (λy7=>some (([]:List Shape),y7))) (λi ys s hi next hl hs=>by
      obtain⟨a1,a2⟩:=tF hk hN (Q3 hi);simp only[gC];rw[ab,if_pos (by omega),ab,if_pos (by omega),QW,hs,aa,aD,ag hi,aa,oE a1 a2,aa,au hi (by omega),cu (by simp;omega)];unfold gK
      cases iJ s m.aB[i]<;>rfl) (λys s next=>by
      simp only[gC];rw[ab,if_neg (by omega)]) m.aB 0 [m.inp] m.inp k (by omega) rfl rfl rfl hlk
  refine this.trans ?_;cases cQ m.inp m.aB<;>rfl
def tG (m:Model):List Shape× Bool:=(cQ m.inp m.aB).elim ([],false) λt=>(m.inp::t,true)
theorem ny {k:Nat} {m:Model} (hk:m.tot<k) (hN:m.tot<aT):gE k m=some (tG m):=by
  have hM:=al;obtain⟨hlk,hlN⟩:=gg hk (Th hN)
  have hb:m.aB.length+1<=aT:=by have:=bm ax.tot m.aB;unfold Model.tot at hN;omega
  unfold gE tG
  have := rZ (aB := m.aB) (V := Int × List Shape × Int × Int × Int) (st := λ i ys s => ((i : Int), ys, s.h, s.w, s.c)) (fin := λ y => some (y, true)) (bad := some (([] : List Shape), false))
      (g:=λu next=>eU k (m.aB,(m.aB.length:Int)) u next (λy3=>some (y3,true)) (λy4=>some (([]:List Shape),y4))) (λi ys s hi next hl hs=>by
        obtain⟨a1,a2⟩:=tF hk (Th hN) (Q3 hi);simp only[eU];rw[ab,if_pos (by omega),aD,ag hi,aa,oF a1 a2,aa,au hi (by omega),cu (by simp;omega)];unfold gK
        cases iJ s m.aB[i]<;>rfl) (λys s next=>by
        simp only[eU];rw[ab,if_neg (by omega)]) m.aB 0 [m.inp] m.inp k (by omega) rfl rfl rfl hlk
  refine this.trans ?_;cases cQ m.inp m.aB<;>rfl
theorem Ja {s:Shape} {ls:List ax} (hs:s.okB=false) (hl:ls≠[]):cQ s ls=none:=by
 cases ls with
 |nil=>exact(hl rfl).elim
 |cons l ls=>simp[cQ,iJ,hs]
def ep (m:Model):Bool:=(dP m).2
theorem vz {m:Model} (h:inB (m.aB.length:Int) 1 6=true):tG m=dP m:=by
 unfold tG dP;rw[h,S5];cases hs:m.inp.okB
 ·rw[Ja hs (λe=>by rw[e]at h;exact nomatch h)];rfl
 ·rfl
theorem AL {m:Model} (h:inB (m.aB.length:Int) 1 6=false):ep m=false:=by
 unfold ep dP;rw[h,SX];rfl
theorem vA {k:Nat} {m:Model} (hk:m.tot<k) (hN:m.tot<=aT):pM k m=some (ep m):=by
 unfold pM;rw[mP hk hN];rfl
theorem pU {k:Nat} {m:Model} (hk:m.tot<k) (hN:m.tot<aT):ly k m=some (ep m):=by
 unfold ly;rw[fE,aa,dk,ny hk hN];cases h:inB (m.aB.length:Int) 1 6
 ·rw[AL h];rfl
 ·rw[vz h];rfl
def ch (m:Model):List Shape:=cond (ep m) (dP m).1 []
theorem tH {k:Nat} {m:Model} (hk:m.tot<k) (hN:m.tot<aT):nk k m=some (ch m):=by
 unfold nk ch;rw[pU hk hN,aa,dk,ny hk hN];cases h:ep m
 ·rfl
 ·have:inB (m.aB.length:Int) 1 6=true:=by
   cases h2:inB (m.aB.length:Int) 1 6
   ·rw[AL h2]at h;exact nomatch h
   ·rfl
  rw[vz this];rfl
theorem mv {m:Model} (h:ep m=true):(ch m).length=m.aB.length+1:=by
 unfold ch;rw[h,cond_true];unfold ep at h;unfold dP at h⊢;cases h1:(m.inp.okB&&inB (m.aB.length:Int) 1 6)<;>rw[h1]at h
 ·exact nomatch h
 ·simp only[cond_true]at h⊢
  cases h2:cQ m.inp m.aB with
  |none=>rw[h2]at h;exact nomatch h
  |some t=>simp[rv _ _ _ h2]
def Lj (s t:Shape) (l:ax):Int:=
  cond (decide (l.kind=0)) (IntKind.i64.wrap (1+(IntKind.i64.wrap ((IntKind.i64.wrap (t.size*s.size)).tdiv 16))))
  (cond (decide (l.kind=1)) (IntKind.i64.wrap (1+(IntKind.i64.wrap ((IntKind.i64.wrap ((IntKind.i64.wrap ((IntKind.i64.wrap (t.size*l.size))*l.size))*s.c)).tdiv 16))))
  (cond (decide (l.kind=2)) (IntKind.i64.wrap (1+(IntKind.i64.wrap ((IntKind.i64.wrap ((IntKind.i64.wrap (t.size*l.size))*l.size)).tdiv 16))))
  (cond (decide (l.kind=3)) (IntKind.i64.wrap (1+(IntKind.i64.wrap ((IntKind.i64.wrap ((IntKind.i64.wrap (t.size*l.size))*l.size)).tdiv 16))))
   (IntKind.i64.wrap (1+(IntKind.i64.wrap (s.size.tdiv 16)))))))
def xU (s:Shape) (l:ax):Int:=cond (gK s l).2 (Lj s (gK s l).1 l) 0
theorem Gs {k:Nat} {s:Shape} {l:ax} (hk:l.tot<k) (hN:l.tot<=aT):wo k s l=some (xU s l):=by
 unfold wo xU Lj;simp only[oE hk hN,oC,aa,dk,Ef];cases(gK s l).2
 ·rfl
 simp only[cond_true];cases decide (l.kind=0)<;>cases decide (l.kind=1)<;>cases decide (l.kind=2)<;>cases decide (l.kind=3)<;>rfl
theorem Gt {k:Nat} {s:Shape} {l:ax} (hk:l.tot<k) (hN:l.tot<=aT):wq k s l=some (xU s l):=by
 unfold wq xU Lj;simp only[oF hk hN,rV,aa,dk,Ef];rw[Int.mul_comm s.size];cases(gK s l).2
 ·rfl
 simp only[cond_true];cases decide (l.kind=0)<;>cases decide (l.kind=1)<;>cases decide (l.kind=2)<;>cases decide (l.kind=3)<;>rfl
def bC (m:Model):List Int:=cond (ep m) ((List.range m.aB.length).map λi=>xU ((ch m).getD i ji) (m.aB.getD i ⟨0,0,0,0,0,0,0,[],[]⟩)) []
theorem bZ {α:Type} {xs:List α} {i:Nat} (h:i<xs.length) (d:α):xs.getD i d=xs[i]:=by rw[Rq,ag h];rfl
theorem j5 {k:Nat} {m:Model} (hk:m.tot<k) (hN:m.tot<=aT):jO k m=some (bC m):=by
 have hM:=al;obtain⟨hlk,hlN⟩:=gg hk hN;unfold jO bC;rw[mP hk hN,aa,dk];show cond (ep m) _ _=_;cases h:ep m
 ·rfl
 have hsl:=mv h
 have e:(dP m).1=ch m:=by unfold ch;rw[h];rfl
 simp only[cond_true,e]
 exact Lh m.aB.length _ (g:=λu next=>jN k (m.inp.h,m.inp.w,m.inp.c,m.aB,ch m) u next (λy5=>some y5)) (fin:=some) (λi ys hi next hl=>by
  obtain⟨a1,a2⟩:=tF hk hN (Q3 hi);simp only[jN]
  rw[ab,if_pos (by omega),ab,if_pos (by omega),QW,ag (show i<(ch m).length by omega),aa,aD,ag hi,aa,Gs a1 a2,aa,cu (by simp;omega),au hi (by omega),bZ (show i<(ch m).length by omega),bZ hi]) (λys next=>by
  simp only[jN];rw[ab,if_neg (by omega)]) hlk
theorem j6 {k:Nat} {m:Model} (hk:m.tot+1<k) (hN:m.tot<aT):jQ k m=some (bC m):=by
  have hM:=al;obtain⟨hlk,hlN⟩:=gg (show m.tot<k-1 by omega) (Th hN);unfold jQ bC;rw[tH (by omega) hN,aa];cases h:ep m
  · have:ch m=[]:=by unfold ch;rw[h];rfl
    rw[this]
    cases k with
    |zero=>omega
    |succ k=>rfl
  have hsl:=mv h;simp only[cond_true];rw[hsl]
  have := fj (R := List Int) (g := λ u next => jP k (((m.aB.length + 1 : Nat) : Int), m.inp.h, m.inp.w, m.inp.c, m.aB, ch m) u next (λ y5 => some y5)) (n := m.aB.length + 1)
    (st:=λi=>((i:Int),(List.range (min i m.aB.length)).map λi=>xU ((ch m).getD i ji) (m.aB.getD i ⟨0,0,0,0,0,0,0,[],[]⟩)))
    (r := some ((List.range m.aB.length).map λ i => xU ((ch m).getD i ji) (m.aB.getD i ⟨0, 0, 0, 0, 0, 0, 0, [], []⟩))) (λ i hi next => by
      simp only[jP];rw[ab,if_pos (by omega),ab,if_pos (by omega),QW,ag (show i<(ch m).length by omega),aa,au hi (by omega),ab];by_cases c:i<m.aB.length
      · obtain⟨a1,a2⟩:=tF (show m.tot<k by omega) (Th hN) (Q3 c);rw[if_pos (by omega),aD,ag c,aa,Gt a1 a2,aa,cu (by simp;omega),S8 (by omega),S8 (by omega),Sp,RY,List.map_singleton,bZ (show i<(ch m).length by omega),bZ c]
      · rw[if_neg (by omega),Nat.min_eq_right (by omega),Nat.min_eq_right (by omega)]) (λnext=>by
      simp only[jP]
      rw[ab,if_neg (by omega),Nat.min_eq_right (by omega)]) (k:=k) (by omega)
  simpa using this
def xV (m:Model):Int:=(bC m).foldl (λs x=>IntKind.i64.wrap (s+x)) 0
theorem jj (m:Model):(bC m).length<=m.aB.length:=by
 unfold bC;cases ep m<;>simp
theorem zI {k:Nat} {m:Model} (hk:m.tot<k) (hN:m.tot<=aT):oe k m=some (xV m):=by
 have hM:=al;obtain⟨hlk,hlN⟩:=gg hk hN;have hc:=jj m;unfold oe;rw[j5 hk hN,aa]
 exact pH (bC m) (λs x=>IntKind.i64.wrap (s+x)) (g:=λu next=>gD k (bC m) u next (λy3=>some y3)) (fin:=some) 0 (λi s hi next _=>by
  simp only[gD]
  rw[ab,if_pos (by omega),ab,if_pos (by omega),QW,ag hi,aa,au hi (by omega)]) (λnext=>by
  simp only[gD];rw[ab,if_neg (by omega)]) (by omega)
theorem Cn {k:Nat} {xs:List Int} (hk:xs.length<k) (hN:xs.length<=aT):Lc k xs=some (xs.foldl (λs x=>IntKind.i64.wrap (s+x)) 0):=by
 have hM:=al
 exact pH xs (λs x=>IntKind.i64.wrap (s+x)) (g:=λu next=>s7 k (xs,(xs.length:Int)) u next (λy2=>some y2)) (fin:=some) 0 (λi s hi next _=>by
  simp only[s7]
  rw[ab,if_pos (by omega),aD,ag hi,aa,au hi (by omega)]) (λnext=>by
  simp only[s7];rw[ab,if_neg (by omega)]) hk
theorem zJ {k:Nat} {m:Model} (hk:m.tot+1<k) (hN:m.tot<aT):oh k m=some (xV m):=by
 obtain⟨hlk,hlN⟩:=gg (show m.tot<k by omega) (Th hN);have hc:=jj m;unfold oh;rw[j6 hk hN,aa,Cn (by omega) (by omega)];rfl
end
section
end
section
end
section
theorem Eh {k:Nat} {l:ax} (hk:l.tot<k) (hN:l.tot<=aT):s8 k l=some l:=by
 unfold ax.tot at hk hN;unfold s8;rw[j4 (by omega) (by omega),aa,j4 (by omega) (by omega)];rfl
theorem uU {k:Nat} {l:ax} (hN:l.tot<=aT):ju k l=some l:=by
 unfold ax.tot at hN;unfold ju;rw[cO (by omega),aa,cO (by omega)];rfl
theorem uV {k:Nat} {xs:List ax} (hk:eA ax.tot xs<k) (hN:eA ax.tot xs<=aT):mM k xs=some xs:=by
 have hM:=al;have hl:=bm ax.tot xs
 have:=sX xs (λx=>x) (g:=λu next=>eV k (xs,(xs.length:Int)) u next (λy3=>some y3)) (fin:=some) (λi ys hi next hys=>by
  have hm:=eH ax.tot (Q3 hi);simp only[eV]
  rw[ab,if_pos (by omega),aD,ag hi,aa,uU (by omega),aa,cu (by omega),au hi (by omega)]) (λys next=>by
  simp only[eV];rw[ab,if_neg (by omega)]) (k:=k) (by omega)
 rw[Ti]at this;exact this
theorem nz {k:Nat} {m:Model} (hk:m.tot<k) (hN:m.tot<=aT):gF k m=some m:=by
 unfold Model.tot at hk hN;unfold gF;rw[uV (by omega) (by omega)];rfl
theorem pV {k:Nat} {m:Model} (hk:m.tot<k) (hN:m.tot<=aT):pN k m=some m:=by
 have hM:=al;obtain⟨hlk,hlN⟩:=gg hk hN
 have:=sX m.aB (λx=>x) (g:=λu next=>jR k (m.inp.h,m.inp.w,m.inp.c,m.aB,(0:Int),(0:Int),(0:Int),m.inp.h,m.inp.w,m.inp.c) u next (λy3=>some (⟨m.inp,y3⟩:Model))) (fin:=λy3=>some (⟨m.inp,y3⟩:Model)) (λi ys hi next hys=>by
  obtain⟨a1,a2⟩:=tF hk hN (Q3 hi);simp only[jR]
  rw[ab,if_pos (by omega),aD,ag hi,aa,Eh a1 a2,aa,cu (by omega),au hi (by omega)]) (λys next=>by
  simp only[jR];rw[ab,if_neg (by omega)]) (k:=k) hlk
 rw[Ti]at this;exact this
theorem xW {k:Nat} {j:Job} (hk:j.tot<k) (hN:j.tot<=aT):l6 k j=some j:=by
 unfold Job.tot av.tot at hk hN;unfold l6;rw[nz (by omega) (by omega),aa,mu (by omega)];rfl
def dm:Model:=⟨⟨0,0,0⟩,[]⟩
end
section
def QD (xs:List Int):Int:=xs.foldl (λs x=>IntKind.i64.wrap (s+x)) 0
theorem Ll (a b:Shape):(cond (a.h==b.h) (cond (a.w==b.w) (cond (a.c==b.c) (true) false) false) false)=decide (a=b):=by
 obtain⟨a1,a2,a3⟩:=a;obtain⟨b1,b2,b3⟩:=b;by_cases h1:a1=b1<;>by_cases h2:a2=b2<;>by_cases h3:a3=b3<;>simp[h1,h2,h3]
def tU (j:Job):Bool:=ep j.model&&(inB j.at_ 0 j.model.aB.length&&(j.act.okB&&(decide (j.act.sh=(ch j.model).getD j.at_.toNat ji)&&decide (j.iL=QD ((bC j.model).take j.at_.toNat)))))
theorem hY {m:Model} (h:ep m=true):(bC m).length=m.aB.length:=by
 unfold bC;rw[h];simp
theorem AM {k:Nat} {j:Job} (hk:j.tot+1<k) (hN:j.tot<aT):xM k j=some (tU j):=by
 have hM:=al;unfold Job.tot av.tot at hk hN
 have hmk:j.model.tot+1<k:=by omega
 have hmN:j.model.tot<aT:=by omega
 obtain⟨hlk,hlN⟩:=gg (show j.model.tot<k by omega) (Th hmN);unfold xM tU;rw[pU (by omega) hmN,aa];cases hm:ep j.model
 ·rfl
 have hsl:=mv hm;have hcl:=hY hm;simp only[cond_true,Q2,fE,aa];cases hin:inB j.at_ 0 j.model.aB.length
 ·rfl
 rw[cn]at hin;simp only[cond_true,Q2];rw[tD (by omega) (by unfold tT;omega),aa];cases j.act.okB
 ·rfl
 have hi:j.at_.toNat<(ch j.model).length:=by omega
 simp only[cond_true,Q2];rw[tH (by omega) hmN,aa,ab,if_pos (by omega),ag hi,aa,Ll,bZ hi];cases decide (j.act.sh=(ch j.model)[j.at_.toNat])
 ·rfl
 simp only[cond_true,Q2]
 have htl:(((bC j.model).drop 0).take (j.at_.toNat-0)).length<=(bC j.model).length:=by simp;omega
 rw[j6 hmk hmN,aa,ab,if_pos (by omega),Cn (by omega) (by omega),aa,Ef,Td,RE];rfl
theorem qR {k:Nat} {j:Job} (hk:j.tot<k) (hN:j.tot<=aT):rS k j=some (tU j):=by
  have hM:=al;unfold Job.tot av.tot at hk hN
  have hmk:j.model.tot<k:=by omega
  have hmN:j.model.tot<=aT:=by omega
  obtain⟨hlk,hlN⟩:=gg hmk hmN;unfold rS tU;rw[mP hmk hmN,aa,dk];show cond (ep j.model) _ _=_;cases hm:ep j.model
  · rfl
  have hsl:=mv hm;have hcl:=hY hm
  have e:(dP j.model).1=ch j.model:=by unfold ch;rw[hm];rfl
  simp only[cond_true,Q2,cD,aa,dk,e];cases hin:inB j.at_ 0 j.model.aB.length
  · rfl
  rw[cn]at hin;simp only[cond_true,Q2];rw[oD (by omega) (by unfold tT;omega),aa];cases j.act.okB
  · rfl
  have hi:j.at_.toNat<(ch j.model).length:=by omega
  simp only[cond_true,Q2];rw[ab,if_pos (by omega),ag hi,aa,Ll,bZ hi];cases decide (j.act.sh=(ch j.model)[j.at_.toNat])
  · rfl
  simp only[cond_true,Q2];rw[j5 hmk hmN,aa]
  have htl:((bC j.model).take j.at_.toNat).length=j.at_.toNat:=by simp;omega
  have:=pH ((bC j.model).take j.at_.toNat) (λs x=>IntKind.i64.wrap (s+x)) (R:=Bool)
    (g:=λu next=>nm k (j.model.inp.h,j.model.inp.w,j.model.inp.c,j.model.aB,j.at_,j.act.sh.h,j.act.sh.w,j.act.sh.c,j.act.data,j.iL,bC j.model) u next (λy7=>some (j.iL==y7))) (fin:=λy7=>some (j.iL==y7)) 0 (λi s hi next _=>by
      rw[htl]at hi
      have hi2:i<(bC j.model).length:=by omega
      simp only[nm]
      rw[ab,if_pos (by omega),ab,if_pos (by omega),QW,ag hi2,aa,au hi2 (by omega),List.getElem_take]) (λnext=>by
      simp only[nm];rw[ab,if_neg (by omega)]) (k:=k) (by omega)
  rw[this,Ef];rfl
def QE:Job:=⟨⟨⟨0,0,0⟩,[]⟩,0,⟨⟨0,0,0⟩,[]⟩,0⟩
def dA (m:Model) (t:av):Job× Bool:=cond (tU ⟨m,0,t,0⟩) (⟨m,0,t,0⟩,true) (QE,false)
theorem Cp {k:Nat} {m:Model} {t:av} (hk:m.tot+t.tot<k) (hN:m.tot+t.tot<=aT):qy k m t=some (dA m t):=by
 have ht:t.tot=t.data.length:=rfl;unfold qy dA;rw[pV (by omega) (by omega),aa,pR (by omega) (by omega),aa,qR (by simp only[Job.tot];omega) (by simp only[Job.tot];omega),aa,dk];cases tU ⟨m,0,t,0⟩<;>rfl
theorem Cq {k:Nat} {m:Model} {t:av} (hk:m.tot+t.tot+1<k) (hN:m.tot+t.tot<aT):qz k m t=some (dA m t):=by
 unfold qz dA;rw[AM (by simp only[Job.tot];omega) (by simp only[Job.tot];omega),aa,dk];cases tU ⟨m,0,t,0⟩
 ·rfl
 ·simp only[cond_true];rw[xW (by simp only[Job.tot];omega) (by simp only[Job.tot];omega)];rfl
theorem vB (m:Model) (t:av):(dA m t).1.tot<=m.tot+t.tot:=by
 unfold dA;cases tU ⟨m,0,t,0⟩
 ·exact Rt _
 ·simp only[cond_true,Job.tot];omega
end
section
theorem xX (w a:Nat):(BitVec.ofInt w (a:Int)).toNat=a %2^w:=by
 simp
theorem PY {a b n:Nat} (ha:a<2^n) (hb:b*2^n+a<9223372036854775808):
  IntKind.i64.wrap (((BitVec.ofInt IntKind.i64.bits (a:Int)||| BitVec.ofInt IntKind.i64.bits ((b*2^n:Nat):Int)).toNat:Nat):Int)=((a+b*2^n:Nat):Int):=by
 have h1:a %2^64=a:=RD (by omega);have h2:(b*2^n) %2^64=b*2^n:=RD (by omega)
 have h3:a||| b*2^n=a+b*2^n:=by
  have:=Nat.two_pow_add_eq_or_of_lt ha b;rw[Nat.or_comm,Rv b,<-this,Nat.add_comm]
 have e:(BitVec.ofInt IntKind.i64.bits (a:Int)||| BitVec.ofInt IntKind.i64.bits ((b*2^n:Nat):Int)).toNat=a+b*2^n:=by
  rw[BitVec.toNat_or,xX,xX];show a %2^64||| (b*2^n) %2^64=_;rw[h1,h2,h3]
 rw[e,aH (by omega) (by omega)]
theorem OW {c:Nat} (h:c<256):IntKind.i64.wrap (IntKind.u8.wrap (((BitVec.ofInt IntKind.u8.bits (c:Int)&&& BitVec.ofInt IntKind.u8.bits (127:Int)).toNat:Nat):Int))=((c %128:Nat):Int):=by
 have e:(BitVec.ofInt IntKind.u8.bits (c:Int)&&& BitVec.ofInt IntKind.u8.bits (127:Int)).toNat=c %128:=by
  rw[BitVec.toNat_and,xX];show c %2^8&&& 127=_;rw[RD (by omega)];exact Nat.and_two_pow_sub_one_eq_mod c 7
 rw[e,PX (by omega) (by omega),aH (by omega) (by omega)]
def pW (b:List Int) (at_:Nat):Nat->Nat->Nat->Int× Int
  |0,_,_=>(0,-1)
  | f + 1, i, u =>
    match b[at_+i]? with
    |none=>(0,-1)
    | some c =>
      cond (decide (128<=c.toNat)) (pW b at_ f (i+1) (u+c.toNat %128*2^(7*i)))
        (cond ((decide (0<i)&&decide (c.toNat=0))||decide (2199023255551<u+c.toNat %128*2^(7*i))) (0,-1)
          (cond (decide ((u+c.toNat %128*2^(7*i)) %2=1)) (-(((u+c.toNat %128*2^(7*i)+1)/2:Nat):Int)) (((u+c.toNat %128*2^(7*i))/2:Nat):Int),((at_+i+1:Nat):Int)))
def eI (b:List Int) (at_:Int):Int× Int:=cond (decide (0<=at_)) (pW b at_.toNat 6 0 0) (0,-1)
theorem AO {i:Nat} (hi:i<6):(2:Int)^(min (IntKind.u64.wrap (IntKind.i64.wrap ((7:Int)*(i:Int)))).toNat IntKind.i64.bits)=((2^(7*i):Nat):Int)/\
  (2:Int)^(min (IntKind.i64.wrap ((7:Int)*(i:Int))).toNat IntKind.i64.bits)=((2^(7*i):Nat):Int):=by
 have:i=0\/i=1\/i=2\/i=3\/i=4\/i=5:=by omega
 rcases this with rfl|rfl|rfl|rfl|rfl|rfl<;>exact⟨by kernel_rfl,by kernel_rfl⟩
theorem Cr {i u c:Nat} (hi:i<6) (hu:u<2^(7*i)):u+c %128*2^(7*i)<2^(7*(i+1))/\2^(7*(i+1))<=4398046511104:=by
 have h1:2^(7*(i+1))=128*2^(7*i):=by rw[show 7*(i+1)=7*i+7 from by omega,Nat.pow_add];omega
 have h2:c %128*2^(7*i)<=127*2^(7*i):=Re _ (by omega);refine⟨by omega,?_⟩
 have:i=0\/i=1\/i=2\/i=3\/i=4\/i=5:=by omega
 rcases this with rfl|rfl|rfl|rfl|rfl|rfl<;>decide
theorem Nd {i u n:Nat} (hi:i<6) (hu:u<2^(7*i)) (hn:n<256):
  IntKind.i64.wrap ((u:Int)+(IntKind.i64.wrap (((IntKind.i64.wrap (n:Int)).tmod (128:Int))*2^(min (IntKind.u64.wrap (IntKind.i64.wrap ((7:Int)*(i:Int)))).toNat IntKind.i64.bits))))=((u+n %128*2^(7*i):Nat):Int):=by
 have h:=Cr (c:=n) hi hu;have e:((n:Int).tmod 128)=((n %128:Nat):Int):=rfl;rw[aH (n:=(n:Int)) (by omega) (by omega),(AO hi).1,e,<-RZ,aH (n:=((n %128*2^(7*i):Nat):Int)) (by omega) (by omega),<-Int.natCast_add,aH (by omega) (by omega)]
theorem Nf {U:Nat} (h:U<4398046511104):IntKind.i64.wrap ((IntKind.i64.wrap (0-(IntKind.i64.wrap ((U:Int)+(1:Int))))).tdiv (2:Int))=-(((U+1)/2:Nat):Int):=by
 have e:(-(((U+1:Nat):Int))).tdiv 2=-(((U+1)/2:Nat):Int):=by rw[Int.neg_tdiv];rfl
 rw[aH (n:=(U:Int)+1) (by omega) (by omega),aH (n:=0-((U:Int)+1)) (by omega) (by omega),show(0:Int)-((U:Int)+1)=-((U+1:Nat):Int)from by omega,e,aH (by omega) (by omega)]
theorem xY {U:Nat} (h:U<4398046511104):IntKind.i64.wrap ((U:Int).tdiv (2:Int))=((U/2:Nat):Int):=by
 have e:(U:Int).tdiv 2=((U/2:Nat):Int):=rfl;rw[e,aH (by omega) (by omega)]
theorem HK (U:Nat):((U:Int).tmod 2==(1:Int))=decide (U %2=1):=by
 have e:(U:Int).tmod 2=((U %2:Nat):Int):=rfl;rw[Ef,e]
 congr 1
 rw[eq_iff_iff];omega
theorem xZ {b:List Int} {a kk:Nat} (hb:∀x∈b,okB x) (hl:b.length<=aT):∀(f i u k:Nat),i+f=6->u<2^(7*i)->f<k->
  iter (λu4 n4=>gf kk (b,(a:Int)) u4 n4 (λy2=>some ((0:Int),(-1:Int))) (λy3=>some (y3.1,y3.2))) k ((u:Int),(i:Int))=some (pW b a f i u)
 |f,i,u,0,_,_,hk=>by omega
 |0,i,u,k+1,hi,_,_=>by
  rw[aG];simp only[gf]
  rw[ab,if_neg (by omega)];rfl
 |f+1,i,u,k+1,hi,hu,hk=>by
  have hM:=al
  have hi6:i<6:=by omega
  rw[aG];simp only[gf,pW];rw[ab,if_pos (by omega),ab,if_neg (by omega),aH (n:=(b.length:Int)-(i:Int)) (by omega) (by omega),ab];by_cases hin:a+i<b.length
  ·rw[if_neg (by omega),aH (n:=(a:Int)+(i:Int)) (by omega) (by omega),show(a:Int)+(i:Int)=((a+i:Nat):Int)from by omega,aD,ag hin,aa];have hc:=hb b[a+i] (Q3 hin);unfold okB at hc;obtain⟨n,hn⟩:∃n:Nat,b[a+i]=(n:Int):=⟨b[a+i].toNat,by omega⟩;rw[hn]at hc⊢
   have hn256:n<256:=by omega
   obtain⟨w1,w2⟩:=Cr (c:=n) hi6 hu
   have hU:u+n %128*2^(7*i)<4398046511104:=by omega
   simp only[Nd hi6 hu hn256,Nf hU,xY hU,HK,QW]
   have hsh:IntKind.u64.wrap (IntKind.i64.wrap ((7:Int)*(i:Int)))=((7*i:Nat):Int):=by
    have:i=0\/i=1\/i=2\/i=3\/i=4\/i=5:=by omega
    rcases this with rfl|rfl|rfl|rfl|rfl|rfl<;>decide
   rw[hsh,ab,if_neg (by omega),aH (n:=(n:Int)) (by omega) (by omega),aH (n:=((a+i:Nat):Int)+1) (by omega) (by omega),aH (n:=(i:Int)+1) (by omega) (by omega),ab];by_cases h128:128<=n
   ·rw[if_neg (by omega),decide_eq_true h128,cond_true];exact xZ (kk:=kk) hb hl f (i+1) _ k (by omega) w1 (by omega)
   ·rw[if_pos (by omega),decide_eq_false h128,cond_false,Ef]
    have e1:decide ((n:Int)=0)=decide (n=0):=by congr 1;rw[eq_iff_iff];omega
    have e2:decide ((i:Int)>0)=decide (0<i):=by congr 1;rw[eq_iff_iff];omega
    have e3:((a+i:Nat):Int)+1=((a+i+1:Nat):Int):=by omega
    have e4:decide ((((u+n %128*2^(7*i)):Nat):Int)>2199023255551)=decide (2199023255551<(u+n %128*2^(7*i))):=by congr 1;rw[eq_iff_iff];omega
    rw[e1,e2,e3,e4];cases decide (2199023255551<(u+n %128*2^(7*i)))<;>cases decide (n=0)<;>cases decide (0<i)<;>cases decide ((u+n %128*2^(7*i)) %2=1)<;>rfl
  ·rw[if_pos (by omega),Ro (by omega)]
theorem Cs {k:Nat} {b:List Int} {a:Int} (hk:7<=k) (hb:∀x∈b,okB x) (hl:b.length<=aT):qG k b a=some (eI b a):=by
 unfold qG eI;by_cases h:0<=a
 ·rw[decide_eq_true h,cond_true];have:=xZ (kk:=k) (a:=a.toNat) hb hl 6 0 0 k rfl (by decide) (by omega);rw[Int.toNat_of_nonneg h]at this;exact this
 ·rw[decide_eq_false h,cond_false];obtain⟨k,rfl⟩:∃k',k=k'+1:=⟨k-1,by omega⟩;rw[aG];simp only[gf];rw[ab,if_pos (by omega),ab,if_pos (by omega)]
theorem OX {i u n:Nat} (hi:i<6) (hu:u<2^(7*i)) (hn:n<256):
  IntKind.i64.wrap (((BitVec.ofInt IntKind.i64.bits (u:Int)||| BitVec.ofInt IntKind.i64.bits (IntKind.i64.wrap ((IntKind.i64.wrap (IntKind.u8.wrap (((BitVec.ofInt IntKind.u8.bits (n:Int)&&& BitVec.ofInt IntKind.u8.bits (127:Int)).toNat:Int))))*2^(min (IntKind.i64.wrap ((7:Int)*(i:Int))).toNat IntKind.i64.bits)))).toNat:Int))=((u+n %128*2^(7*i):Nat):Int):=by
 have h:=Cr (c:=n) hi hu;rw[OW hn,(AO hi).2,<-RZ,aH (n:=((n %128*2^(7*i):Nat):Int)) (by omega) (by omega),PY hu (by omega)]
theorem Lm {U:Nat} (h:U<4398046511104) (ho:U %2=1):IntKind.i64.wrap ((IntKind.i64.wrap (0-(IntKind.i64.wrap ((U:Int).tdiv (2:Int)))))-(1:Int))=-(((U+1)/2:Nat):Int):=by
 rw[xY h,aH (n:=0-((U/2:Nat):Int)) (by omega) (by omega),aH (by omega) (by omega)];omega
theorem Gu (k:Nat) (x:Int):oq k x=some (inB x (-1099511627776) 1099511627775):=by unfold oq;rw[fE];rfl
theorem yA {b l:List Int} {a kk:Nat} (hb:∀x∈b,okB x) (hlN:b.length<=aT) (hl:l=(b.take (min (a+6) b.length)).drop a) (ha:a<=b.length):∀(f i u k:Nat),i+f=6->u<2^(7*i)->f<k->
    iter (λu9 n9=>iz kk ((a:Int),l,(l.length:Int)) u9 n9 (λy7=>some ((0:Int),(-1:Int))) (λy8=>some (y8.1,y8.2))) k ((u:Int),(i:Int))=some (pW b a f i u)
  |f,i,u,0,_,_,hk=>by omega
  | 0, i, u, k + 1, hi, _, _ => by
    have hll:l.length<=6:=by rw[hl];simp;omega
    rw[aG];simp only[iz]
    rw[ab,if_neg (by omega)];rfl
  | f + 1, i, u, k + 1, hi, hu, hk => by
    have hM:=al
    have hi6:i<6:=by omega
    have hll:l.length=min 6 (b.length-a):=by rw[hl];simp;omega
    rw[aG];generalize hnx:iter _ k=nx;simp only[iz,pW];by_cases hin:a+i<b.length
    · have hli:i<l.length:=by omega
      have hget:l[i]=b[a+i]:=by subst hl;simp
      rw[ab,if_pos (by omega),aD,ag hli,aa,ag hin,hget];have hc:=hb b[a+i] (Q3 hin);unfold okB at hc;obtain⟨n,hn⟩:∃n:Nat,b[a+i]=(n:Int):=⟨b[a+i].toNat,by omega⟩;rw[hn]at hc⊢
      have hn256:n<256:=by omega
      obtain⟨w1,w2⟩:=Cr (c:=n) hi6 hu
      have hU:u+n %128*2^(7*i)<4398046511104:=by omega
      have hsh:IntKind.i64.wrap ((7:Int)*(i:Int))=((7*i:Nat):Int):=by
        rw[aH (by omega) (by omega)];omega
      have hnn:¬(IntKind.i64.wrap ((7:Int)*(i:Int))<0):=by rw[hsh];omega
      rw[decide_eq_false hnn,cond_false];simp only[OX hi6 hu hn256,HK,QW,Gu,aa,dk];rw[aH (n:=(a:Int)+(i:Int)) (by omega) (by omega),show(a:Int)+(i:Int)=((a+i:Nat):Int)from by omega,aH (n:=((a+i:Nat):Int)+1) (by omega) (by omega),aH (n:=(i:Int)+1) (by omega) (by omega),ab];by_cases h128:128<=n
      · rw[if_pos (by omega),decide_eq_true h128,cond_true];rw[<-hnx];exact yA (kk:=kk) hb hlN hl ha f (i+1) _ k (by omega) w1 (by omega)
      · rw [if_neg (by omega), decide_eq_false h128, cond_false, Ef]
        have e1:decide ((n:Int)=0)=decide (n=0):=by congr 1;rw[eq_iff_iff];omega
        have e2:decide ((i:Int)>0)=decide (0<i):=by congr 1;rw[eq_iff_iff];omega
        have e3:((a+i:Nat):Int)+1=((a+i+1:Nat):Int):=by omega
        rw[e1,e2,e3];by_cases ho:(u+n %128*2^(7*i)) %2=1
        · rw[decide_eq_true ho,Lm hU ho]
          have e4:inB (-(((u+n %128*2^(7*i)+1)/2:Nat):Int)) (-1099511627776) 1099511627775=!decide (2199023255551<(u+n %128*2^(7*i))):=by
            rw[S6,cn,SS,decide_eq_false_iff_not];constructor<;>intro h<;>omega
          rw[e4];cases decide (2199023255551<(u+n %128*2^(7*i)))<;>cases decide (n=0)<;>cases decide (0<i)<;>rfl
        · rw[decide_eq_false ho,xY hU]
          have e4:inB (((u+n %128*2^(7*i))/2:Nat):Int) (-1099511627776) 1099511627775=!decide (2199023255551<(u+n %128*2^(7*i))):=by
            rw[S6,cn,SS,decide_eq_false_iff_not];constructor<;>intro h<;>omega
          rw[e4];cases decide (2199023255551<(u+n %128*2^(7*i)))<;>cases decide (n=0)<;>cases decide (0<i)<;>rfl
    · rw[ab,if_neg (by omega),Ro (by omega)]
theorem Ct {k:Nat} {b:List Int} {a:Int} (hk:7<=k) (hb:∀x∈b,okB x) (hl:b.length<=aT):qH k b a=some (eI b a):=by
  have hM:=al;unfold qH eI;rw[fE,aa,dk,aH (n:=(b.length:Int)-1) (by omega) (by omega)];by_cases h:0<=a
  · rw [decide_eq_true h, cond_true];by_cases h2:a<b.length
    · have e:inB a 0 ((b.length:Int)-1)=true:=cn.2 (by omega)
      have e6:(if IntKind.i64.wrap (a+6)<(b.length:Int)then IntKind.i64.wrap (a+6)else(b.length:Int))=((min (a.toNat+6) b.length:Nat):Int):=by
        rw[aH (by omega) (by omega)];split<;>omega
      rw[e,cond_true,e6,ab,if_pos (by omega),ab,if_pos (by omega),QW];have:=yA (kk:=k) (l:=(b.take (min (a.toNat+6) b.length)).drop a.toNat) (a:=a.toNat) hb hl rfl (by omega) 6 0 0 k rfl (by decide) (by omega);rw[Int.toNat_of_nonneg h]at this;exact this
    · have e:inB a 0 ((b.length:Int)-1)=false:=by rw[<-Bool.not_eq_true,cn];omega
      rw[e,cond_false];simp only[pW];rw[Ro (by omega)]
  · have e:inB a 0 ((b.length:Int)-1)=false:=by rw[<-Bool.not_eq_true,cn];omega
    rw[decide_eq_false h,cond_false,e];rfl
end
section
def aV (b:List Int) (at_:Int) (bad:Bool):Int× Int× Bool:=
 cond bad (0,at_,true) (cond (decide ((eI b at_).2<0)) (0,at_,true) ((eI b at_).1,(eI b at_).2,false))
theorem mx {k:Nat} {b:List Int} {a:Int} {bad:Bool} (hk:7<=k) (hb:∀x∈b,okB x) (hl:b.length<=aT):cz k b a bad=some (aV b a bad):=by
 unfold cz aV;simp only[Cs hk hb hl,aa,decide_true,cond_true];cases bad<;>cases decide ((eI b a).2<0)<;>rfl
theorem lG {k:Nat} {b:List Int} {a:Int} {bad:Bool} (hk:7<=k) (hb:∀x∈b,okB x) (hl:b.length<=aT):aC k ⟨b,a,bad⟩=some (aV b a bad):=by
 unfold aC aV;simp only[Ct hk hb hl,aa,decide_true,cond_true];cases bad<;>cases decide ((eI b a).2<0)<;>rfl
end
section
theorem AP {b:List Int} {a:Nat}:∀(f i u:Nat),(pW b a f i u).2=-1\/((a:Int)<(pW b a f i u).2/\(pW b a f i u).2<=b.length)
 |0,i,u=>.inl rfl
 |f+1,i,u=>by
  simp only[pW]
  cases hc:b[a+i]? with
  |none=>exact .inl rfl
  |some c=>
   have hlt:=(Of.1 hc).1;simp only;cases decide (128<=c.toNat)
   ·simp only[cond_false];cases((decide (0<i)&&decide (c.toNat=0))||decide (2199023255551<u+c.toNat %128*2^(7*i)))
    ·simp only[cond_false];right;omega
    ·exact .inl rfl
   ·exact AP f (i+1) _
theorem Ei (b:List Int) (a:Int):(eI b a).2=-1\/(0<=a/\a<(eI b a).2/\(eI b a).2<=b.length):=by
 unfold eI;by_cases h:0<=a
 ·rw[decide_eq_true h,cond_true]
  rcases AP (b:=b) (a:=a.toNat) 6 0 0 with h1|h1
  ·exact .inl h1
  ·right;omega
 ·rw[decide_eq_false h];exact .inl rfl
def PZ (b:List Int) (a:Int):Option (Int× Int):=cond (decide ((eI b a).2<0)) none (some (eI b a))
theorem Ng {b:List Int} {a x p:Int} (h:PZ b a=some (x,p)):0<=a/\a<p/\p<=b.length:=by
 unfold PZ at h
 rcases Ei b a with h1|h1
 ·rw[h1]at h;exact nomatch h
 ·rw[decide_eq_false (by omega),cond_false,It]at h;rw[h]at h1;exact h1
theorem Cu (b:List Int) (a:Int):aV b a false=(PZ b a).elim (0,a,true) λq=>(q.1,q.2,false):=by
 unfold aV PZ;cases decide ((eI b a).2<0)<;>rfl
def b8 (b:List Int) (a:Int) (bad:Bool) (most:Int):Int× Int× Bool:=cond (inB (aV b a bad).1 0 most) (aV b a bad) (0,(aV b a bad).2.1,true)
theorem AQ {k:Nat} {b:List Int} {a most:Int} {bad:Bool} (hk:7<=k) (hb:∀x∈b,okB x) (hl:b.length<=aT):dj k ⟨b,a,bad⟩ most=some (b8 b a bad most):=by
 unfold dj b8;simp only[lG hk hb hl,fE,aa,decide_true,cond_true,dk];cases inB (aV b a bad).1 0 most<;>rfl
theorem Jb {k:Nat} {b:List Int} {a:Int} {bad:Bool} (hk:7<=k) (hb:∀x∈b,okB x) (hl:b.length<=aT):eg k ⟨b,a,bad⟩=
  some (let r1:=aV b a bad;let r2:=aV b r1.2.1 r1.2.2;let r3:=aV b r2.2.1 r2.2.2;(⟨r1.1,r2.1,r3.1⟩,r3.2.1,r3.2.2)):=by
 unfold eg;simp only[lG hk hb hl,aa,decide_true,cond_true]
end
section
section
variable {R:Type} {k:Nat} {b:List Int} {m:Int} {q1 q2 q3 q4 q5 q6 q7 q8 q9 q10 q11 q12:Int} {d:List Int} {fin:Int× Bool× List Int->Option R}
end
end
section
section
variable {R:Type} {k:Nat} {b:List Int} {m:Int} {q1 q2 q3 q4 q5 q6 q7 q8 q9 q10 q11 q12:Int} {d:List Int} {fin:Int× Bool× List Int->Option R}
end
end
section
def Gv (s x:Int):Int:=(IntKind.i64.wrap ((IntKind.i64.wrap ((IntKind.i64.wrap ((257:Int)*s))+(IntKind.i64.wrap x)))+(1:Int))).tmod (1000003:Int)
def Gw (b:List Int):Int:=b.foldl Gv 1
theorem Jc {k:Nat} {b:List Int} (hk:b.length<k) (hl:b.length<=aT):Cj k b=some (Gw b):=by
 have hM:=al;unfold Cj
 exact pH b Gv (g:=λu next=>ns k b u next (λy2=>some y2)) (fin:=some) 1 (λi s hi next _=>by
  simp only[ns]
  rw[ab,if_pos (by omega),aD,ag hi,aa,au hi (by omega)];rfl) (λnext=>by
  simp only[ns];rw[ab,if_neg (by omega)]) hk
theorem Jd {k:Nat} {b:List Int} (hk:b.length<k) (hl:b.length<=aT):xQ k b=some (Gw b):=by
 have hM:=al;unfold xQ
 exact pH b Gv (g:=λu next=>nt k (b,(b.length:Int)) u next (λy2=>some y2)) (fin:=some) 1 (λi s hi next _=>by
  simp only[nt]
  rw[ab,if_pos (by omega),aD,ag hi,aa,au hi (by omega),Int.mul_comm s 257];rfl) (λnext=>by
  simp only[nt];rw[ab,if_neg (by omega)]) hk
section
variable {R:Type} {k:Nat} {b:List Int} {m:Int}
end
end
set_option maxRecDepth 100000
set_option maxHeartbeats 4000000
section
def vC (b:List Int):Nat->Int->Bool->List Int->List Int× Int× Bool
 |0,a,bad,ys=>(ys,a,bad)
 |n+1,a,bad,ys=>cond bad (ys,a,bad) (vC b n (aV b a bad).2.1 (aV b a bad).2.2 (ys++[(aV b a bad).1]))
def qS (b:List Int) (a:Int) (bad:Bool):List Int× Int× Bool:=vC b (b8 b a bad 2000).1.toNat (b8 b a bad 2000).2.1 (b8 b a bad 2000).2.2 []
section
variable {k:Nat} {b:List Int} (hk:7<=k) (hb:∀x∈b,okB x) (hl:b.length<=aT)
include hk hb hl
theorem AR {a:Int} {bad:Bool}:jW k b a bad=some (b8 b a bad 2000):=by
 unfold jW b8;simp only[mx hk hb hl,cD,aa,decide_true,cond_true,dk];cases inB (aV b a bad).1 0 2000<;>rfl
theorem yB {R:Type} {fin:List Int× Int× Bool->Option R} {m:Int}:∀(n:Nat) (i a:Int) (bad:Bool) (ys:List Int) (kf:Nat),n<kf->m=i+n->0<=i->m<=100000->ys.length+n<=100000->
  iter (λu4 n4=>eD k (m,b) u4 n4 fin) kf (i,a,bad,ys)=fin (vC b n a bad ys)
 |_,_,_,_,_,0,h,_,_,_,_=>by omega
 |0,i,a,bad,ys,kf+1,_,hm,_,_,_=>by
  rw[aG];show eD k (m,b) _ _ fin=_;unfold eD;simp only
  rw[decide_eq_false (by omega)];rfl
 |n+1,i,a,bad,ys,kf+1,hkf,hm,hi,hm2,hy=>by
  have hM:=al;rw[aG];show eD k (m,b) _ _ fin=_;unfold eD vC;simp only;rw[decide_eq_true (by omega),cond_true];cases bad
  ·simp only[Rm,cond_true,cond_false];rw[mx hk hb hl,aa,cu (by simp;omega),aH (by omega) (by omega)];exact yB n (i+1) _ _ _ kf (by omega) (by omega) (by omega) hm2 (by simp;omega)
  ·rfl
theorem yC {R:Type} {fin:List Int× Int× Bool->Option R}:∀(n:Nat) (a:Int) (bad:Bool) (ys:List Int) (kf:Nat),n<kf->ys.length+n<=100000->
  iter (λu4 n4=>bU k b u4 n4 fin) kf ((n:Int),a,bad,ys)=fin (vC b n a bad ys)
 |_,_,_,_,0,h,_=>by omega
 |0,a,bad,ys,kf+1,_,_=>by
  rw[aG];show bU k b _ _ fin=_;unfold bU;simp only
  rw[decide_eq_false (by omega)];rfl
 |n+1,a,bad,ys,kf+1,hkf,hy=>by
  have hM:=al;rw[aG];show bU k b _ _ fin=_;unfold bU vC;simp only;rw[decide_eq_true (by omega),cond_true];cases bad
  ·simp only[Rm,cond_true,cond_false];rw[lG hk hb hl,aa,cu (by simp;omega),aH (by omega) (by omega),show((n+1:Nat):Int)-1=(n:Int)from by omega];exact yC n _ _ _ kf (by omega) (by simp;omega)
  ·rfl
omit hk hb hl in
theorem qT (b:List Int) (a:Int) (bad:Bool):0<=(b8 b a bad 2000).1/\(b8 b a bad 2000).1<=2000:=by
 unfold b8;cases h:inB (aV b a bad).1 0 2000
 ·simp only[cond_false];omega
 ·exact of_decide_eq_true h
theorem Ln (h3:2001<k) {a:Int} {bad:Bool}:lE k b a bad=some (qS b a bad):=by
 have hc:=qT b a bad;unfold lE;rw[AR hk hb hl,aa];exact(yB hk hb hl (m:=(b8 b a bad 2000).1) (fin:=λy3=>cond (decide (b=b)) (some (y3.1,y3.2.1,y3.2.2)) none) (b8 b a bad 2000).1.toNat 0 _ _ [] k (by omega) (by omega) (by omega) (by omega) (by simp;omega)).trans (by rw[decide_eq_true rfl];rfl)
theorem Je (h3:2001<k) {a:Int} {bad:Bool}:dx k ⟨b,a,bad⟩ 2000=some (qS b a bad):=by
 have hc:=qT b a bad;unfold dx;rw[AQ hk hb hl,aa];have:=yC hk hb hl (fin:=λy3=>cond (decide (b=b)) (some (y3.1,y3.2.1,y3.2.2)) none) (b8 b a bad 2000).1.toNat (b8 b a bad 2000).2.1 (b8 b a bad 2000).2.2 [] k (by omega) (by simp;omega);rw[show(((b8 b a bad 2000).1.toNat:Nat):Int)=(b8 b a bad 2000).1 from by omega]at this;exact this.trans (by rw[decide_eq_true rfl];rfl)
omit hk hb hl in
theorem AU (b:List Int):∀(n:Nat) (a:Int) (bad:Bool) (ys:List Int),(vC b n a bad ys).1.length<=ys.length+n
 |0,_,_,_=>Rb _
 |n+1,a,bad,ys=>by
  unfold vC;cases bad
  ·have:=AU b n (aV b a false).2.1 (aV b a false).2.2 (ys++[(aV b a false).1]);simp only[cond_false];simp only[Q9,Q5,Rz]at this;omega
  ·simp only[cond_true];omega
omit hk hb hl in
theorem vD (b:List Int) (a:Int) (bad:Bool):(qS b a bad).1.length<=2000:=by
 have hc:=qT b a bad;have:=AU b (b8 b a bad 2000).1.toNat (b8 b a bad 2000).2.1 (b8 b a bad 2000).2.2 [];unfold qS;simp only[Rz]at this;omega
end
def cR (b:List Int) (a:Int) (bad:Bool):ax× Int× Bool:=
 let r1:=aV b a bad;let r2:=aV b r1.2.1 r1.2.2;let r3:=aV b r2.2.1 r2.2.2;let r4:=aV b r3.2.1 r3.2.2;let r5:=aV b r4.2.1 r4.2.2;let r6:=aV b r5.2.1 r5.2.2;let r7:=aV b r6.2.1 r6.2.2
 let r8:=qS b r7.2.1 r7.2.2;let r9:=qS b r8.2.1 r8.2.2
 (⟨r1.1,r2.1,r3.1,r4.1,r5.1,r6.1,r7.1,r8.1,r9.1⟩,r9.2.1,r9.2.2)
def pX (b:List Int):Nat->Int->Bool->List ax->Int× Bool× List ax
 |0,a,bad,ys=>(a,bad,ys)
 |n+1,a,bad,ys=>cond bad (a,bad,ys) (pX b n (cR b a bad).2.1 (cR b a bad).2.2 (ys++[(cR b a bad).1]))
def eE (b:List Int):Model× Int:=
 cond (decide ((b.length:Int)>6000)) (dm,5) (cond (!decide (b.take 3=[80,77,49])) (dm,1)
  (let r2:=aV b 3 false;let r3:=aV b r2.2.1 r2.2.2;let r4:=aV b r3.2.1 r3.2.2;let r5:=b8 b r4.2.1 r4.2.2 2000;let y:=pX b r5.1.toNat r5.2.1 r5.2.2 [];let r6:=aV b y.1 y.2.1
  cond r6.2.2 (dm,2) (cond (r6.1 !=Gw ((b.take y.1.toNat).drop 0)) (dm,3) (cond (r6.2.1 !=(b.length:Int)) (dm,3)
   (cond (!ep ⟨⟨r2.1,r3.1,r4.1⟩,y.2.2⟩) (dm,4) (⟨⟨r2.1,r3.1,r4.1⟩,y.2.2⟩,0))))))
theorem Cv (b:List Int) (a:Int) (bad:Bool):(cR b a bad).1.tot<=2000+(2000+0):=Nat.add_le_add (vD b _ _) (Nat.add_le_add (vD b _ _) (Rb 0))
theorem qU (b:List Int):∀(n:Nat) (a:Int) (bad:Bool) (ys:List ax),eA ax.tot (pX b n a bad ys).2.2<=eA ax.tot ys+4001*n
 |0,_,_,_=>Rb _
 |n+1,a,bad,ys=>by
  unfold pX;cases bad
  ·have:=qU b n (cR b a false).2.1 (cR b a false).2.2 (ys++[(cR b a false).1]);have hL:=Cv b a false;rw[rR]at this
   have h1:eA ax.tot [(cR b a false).1]=(cR b a false).1.tot+1:=by simp[eA];omega
   simp only[cond_false];omega
  ·simp only[cond_true];omega
section
variable {k:Nat} {b:List Int} (hk:9000000<=k) (hb:∀x∈b,okB x) (hl:b.length<=aT)
include hk hb hl
theorem Jf {a:Int} {bad:Bool}:en k ⟨b,a,bad⟩=some (cR b a bad):=by
 unfold en cR;simp only[lG (show 7<=k by omega) hb hl,Je (show 7<=k by omega) hb hl (show 2001<k by omega),aa,decide_true,cond_true]
theorem tI {R:Type} {fin:Int× Bool× List ax->Option R} {m q1 q2 q3 q4 q5 q6 q7 q8 q9:Int}:∀(n:Nat) (i a:Int) (bad:Bool) (ys:List ax) (kf:Nat),n<kf->m=i+n->0<=i->m<=100000->ys.length+n<=100000->
  iter (λu19 n19=>cG k (b,m,q1,q2,q3,q4,q5,q6,b,q7,q8,q9) u19 n19 fin) kf (i,a,bad,ys)=fin (pX b n a bad ys)
 |_,_,_,_,_,0,h,_,_,_,_=>by omega
 |0,i,a,bad,ys,kf+1,_,hm,_,_,_=>by
  rw[aG];show cG k _ _ _ fin=_;unfold cG;simp only
  rw[decide_eq_false (by omega)];rfl
 |n+1,i,a,bad,ys,kf+1,hkf,hm,hi,hm2,hy=>by
  have hM:=al;rw[aG];cases bad
  ·have st:∀next,cG k (b,m,q1,q2,q3,q4,q5,q6,b,q7,q8,q9) (i,a,false,ys) next fin=next (i+1,(cR b a false).2.1,(cR b a false).2.2,ys++[(cR b a false).1]):=λnext=>by
    unfold cG;simp only;rw[decide_eq_true (by omega),cond_true];simp only[Rm,cond_true,mx (show 7<=k by omega) hb hl,Ln (show 7<=k by omega) hb hl (show 2001<k by omega),aa];rw[cu (by omega),aH (by omega) (by omega)];rfl
   exact(st _).trans (tI n (i+1) (cR b a false).2.1 (cR b a false).2.2 (ys++[(cR b a false).1]) kf (by omega) (by omega) (by omega) hm2 (by rw[Q9];simp only[Q5,Rz];omega))
  ·show cG k _ _ _ fin=_;unfold cG;simp only;rw[decide_eq_true (by omega),cond_true];rfl
theorem tJ {R:Type} {fin:Int× Bool× List ax->Option R} {q1 q2 q3 q7 q8 q9:Int}:∀(n:Nat) (a:Int) (bad:Bool) (ys:List ax) (kf:Nat),n<kf->ys.length+n<=100000->
  iter (λu9 n9=>dp k (b,q1,q2,q3,b,q7,q8,q9) u9 n9 fin) kf ((n:Int),a,bad,ys)=fin (pX b n a bad ys)
 |_,_,_,_,0,h,_=>by omega
 |0,a,bad,ys,kf+1,_,_=>by
  rw[aG];show dp k _ _ _ fin=_;unfold dp;simp only
  rw[decide_eq_false (by omega)];rfl
 |n+1,a,bad,ys,kf+1,hkf,hy=>by
  have hM:=al;rw[aG];show dp k _ _ _ fin=_;unfold dp pX;simp only;rw[decide_eq_true (by omega),cond_true];cases bad
  ·simp only[Rm,cond_true,cond_false];rw[Jf hk hb hl,aa,cu (by omega),aH (by omega) (by omega),show((n+1:Nat):Int)-1=(n:Int)from by omega];exact tJ (fin:=fin) (q1:=q1) (q2:=q2) (q3:=q3) (q7:=q7) (q8:=q8) (q9:=q9) n (cR b a false).2.1 (cR b a false).2.2 (ys++[(cR b a false).1]) kf (by omega) (by rw[Q9];simp only[Q5,Rz];omega)
  ·rfl
end
theorem yD {b:List Int} {a:Int} {bad:Bool} (h:(aV b a bad).2.2=false):0<=a/\a<=b.length:=by
 cases bad
 ·rw[Cu]at h
  cases hn:PZ b a with
  |none=>rw[hn]at h;exact nomatch h
  |some q=>have:=Ng (x:=q.1) (p:=q.2) hn;omega
 ·exact nomatch h
theorem P0 {b:List Int}:(decide ((b.length:Int)>=3)=false/\decide (b.take 3=[80,77,49])=false)\/∃x y z l,b=x::y::z::l:=by
 match b with
 |[]=>exact .inl ⟨rfl,rfl⟩
 |[x]=>exact .inl ⟨rfl,by simp⟩
 |[x,y]=>exact .inl ⟨rfl,by simp⟩
 |x::y::z::l=>exact .inr ⟨x,y,z,l,rfl⟩
theorem Ej (k:Nat) (b:List Int):tw k b=some (decide (b.take 3=[80,77,49])):=by
 unfold tw
 rcases P0 (b:=b)with⟨h1,h2⟩|⟨x,y,z,l,rfl⟩
 ·rw[h1,h2];rfl
 ·rw[decide_eq_true (by simp;omega),cond_true];have e0:idx (x::y::z::l) 0=some x:=rfl;have e1:idx (x::y::z::l) 1=some y:=rfl;have e2:idx (x::y::z::l) 2=some z:=rfl;rw[e0,e1,e2];simp only[aa,List.take_succ_cons,List.take_zero,RK,and_true,Bool.decide_and,Ef];cases decide (x=80)<;>cases decide (y=77)<;>rfl
theorem Cw {k:Nat} {b:List Int} (hb:∀x∈b,okB x) (hl:b.length<=aT):iA k b [80,77,49]=some (decide (b.take 3=[80,77,49])):=by
 have hM:=al;unfold iA;rw[ab];by_cases h:(b.length:Int)>=(([80,77,49]:List Int).length:Int)
 ·have h':3<=b.length:=by simp at h;omega
  rw[if_pos h,decide_eq_true (show 0<=((([80,77,49]:List Int).length:Nat):Int)/\((([80,77,49]:List Int).length:Nat):Int)<=(b.length:Int) by simp;omega),cond_true,Td];rw[show((([80,77,49]:List Int).length:Nat):Int).toNat=3 from rfl];rw[zH (λx hx=>hb x (SY hx)) (λx hx=>by simp at hx;rcases hx with rfl|rfl|rfl<;>exact⟨by omega,by omega⟩),aa]
 ·rw[if_neg h]
  rcases P0 (b:=b)with⟨_,h2⟩|⟨x,y,z,l,rfl⟩
  ·rw[h2]
  ·simp at h;omega
section
variable {k:Nat} {b:List Int} (hk:9000000<=k) (hb:∀x∈b,okB x) (hl:b.length<=aT)
include hk hb hl
theorem vU:kI k b=some (eE b):=by
 have hM:=al;unfold kI eE;by_cases c:(b.length:Int)>6000
 ·rw[decide_eq_true c];rfl
 rw[decide_eq_false c,cond_false,cond_false,Ej,aa];cases decide (b.take 3=[80,77,49])
 ·rfl
 simp only[Q1,cond_false,mx (show 7<=k by omega) hb hl,AR (show 7<=k by omega) hb hl,aa];generalize aV b 3 false=r2;generalize aV b r2.2.1 r2.2.2=r3;generalize aV b r3.2.1 r3.2.2=r4;have hc:=qT b r4.2.1 r4.2.2;generalize b8 b r4.2.1 r4.2.2 2000=r5 at hc;refine(tI hk hb hl r5.1.toNat 0 _ _ [] k (by omega) (by omega) (by omega) (by omega) (by simp;omega)).trans ?_;have ht:=qU b r5.1.toNat r5.2.1 r5.2.2 [];rw[show eA ax.tot []=0 from rfl]at ht;generalize pX b r5.1.toNat r5.2.1 r5.2.2 []=y at ht;cases h6:(aV b y.1 y.2.1).2.2
 ·simp only[cond_false];obtain⟨g1,g2⟩:=yD h6;rw[decide_eq_true ⟨g1,g2⟩,cond_true,Jc (by simp;omega) (by simp;omega),aa];cases((aV b y.1 y.2.1).1 !=Gw (List.drop 0 (b.take y.1.toNat)))
  ·simp only[cond_false];cases((aV b y.1 y.2.1).2.1 !=(b.length:Int))
   ·simp only[cond_false];rw[vA (by show eA ax.tot y.2.2+0<k;omega) (by show eA ax.tot y.2.2+0<=aT;omega),aa];generalize ep _=q;cases q<;>rfl
   ·rfl
  ·rfl
 ·rfl
theorem vV:kM k b=some (eE b):=by
 have hM:=al;unfold kM eE;by_cases c:(b.length:Int)>6000
 ·rw[decide_eq_true c];rfl
 rw[decide_eq_false c,cond_false,cond_false,Cw hb hl,aa];cases decide (b.take 3=[80,77,49])
 ·rfl
 simp only[Q1,cond_false,Jb (show 7<=k by omega) hb hl,AQ (show 7<=k by omega) hb hl,aa];generalize aV b 3 false=r2;generalize aV b r2.2.1 r2.2.2=r3;generalize aV b r3.2.1 r3.2.2=r4;have hc:=qT b r4.2.1 r4.2.2;generalize b8 b r4.2.1 r4.2.2 2000=r5 at hc;have:=tJ hk hb hl (q1:=0) (q2:=0) (q3:=0) (q7:=r2.1) (q8:=r3.1) (q9:=r4.1) (fin:=λy5=>(aC k (⟨b,y5.1,y5.2.1⟩:Reader)).bind λr6=>cond (r6.2.2) (some ((⟨(⟨(0:Int),(0:Int),(0:Int)⟩:Shape),([]:List ax)⟩:Model),(2:Int))) (cond (decide (0<=y5.1/\y5.1<=(b.length:Int))) ((xQ k ((b.take y5.1.toNat).drop 0)).bind λr7=>cond (r6.1 !=r7) (some ((⟨(⟨(0:Int),(0:Int),(0:Int)⟩:Shape),([]:List ax)⟩:Model),(3:Int))) (cond (r6.2.1 !=(b.length:Int)) (some ((⟨(⟨(0:Int),(0:Int),(0:Int)⟩:Shape),([]:List ax)⟩:Model),(3:Int))) ((ly k (⟨⟨r2.1,r3.1,r4.1⟩,y5.2.2⟩:Model)).bind λr8=>cond (!r8) (some ((⟨(⟨(0:Int),(0:Int),(0:Int)⟩:Shape),([]:List ax)⟩:Model),(4:Int))) (some ((⟨⟨r2.1,r3.1,r4.1⟩,y5.2.2⟩:Model),(0:Int)))))) none)) r5.1.toNat r5.2.1 r5.2.2 [] k (by omega) (by simp;omega);rw[show((r5.1.toNat:Nat):Int)=r5.1 from by omega]at this;refine Eq.trans this ?_;have ht:=qU b r5.1.toNat r5.2.1 r5.2.2 [];rw[show eA ax.tot []=0 from rfl]at ht;generalize pX b r5.1.toNat r5.2.1 r5.2.2 []=y at ht;rw[lG (show 7<=k by omega) hb hl,aa];cases h6:(aV b y.1 y.2.1).2.2
 ·simp only[cond_false];obtain⟨g1,g2⟩:=yD h6;rw[decide_eq_true ⟨g1,g2⟩,cond_true,Jd (by simp;omega) (by simp;omega),aa];cases((aV b y.1 y.2.1).1 !=Gw (List.drop 0 (b.take y.1.toNat)))
  ·simp only[cond_false];cases((aV b y.1 y.2.1).2.1 !=(b.length:Int))
   ·simp only[cond_false];rw[pU (by show eA ax.tot y.2.2+0<k;omega) (by show eA ax.tot y.2.2+0<aT;omega),aa];generalize ep _=q;cases q<;>rfl
   ·rfl
  ·rfl
 ·rfl
end
end
section
def sat (a b x:Int):Int:=if x<a then a else if x>b then b else x
theorem Ek {a b:Int} (h:a<=b) (x:Int):a<=sat a b x/\sat a b x<=b:=by
 unfold sat;by_cases h1:x<a
 ·rw[if_pos h1];omega
 ·rw[if_neg h1];by_cases h2:x>b
  ·rw[if_pos h2];omega
  ·rw[if_neg h2];omega
theorem NR {a b x:Int} (h1:a<=x) (h2:x<=b):sat a b x=x:=by
 unfold sat;rw[if_neg (by omega),if_neg (by omega)]
theorem pY {k:Nat} {x a b:Int} (h:a<=b):np k x a b=some (sat a b x):=by
 unfold np sat;rw[ab,ab,ab];by_cases h1:x<a
 ·rw[if_pos h1,if_pos h1]
 ·rw[if_neg h1,if_neg h1,if_neg (by omega)];by_cases h2:x>b
  ·rw[if_pos h2,if_pos h2]
  ·rw[if_neg h2,if_neg h2]
theorem Cx {k:Nat} {x a b:Int} (h:a<=b):I4 k x a b=some (sat a b x):=by
 unfold I4 sat
 congr 1
 repeat' split
 all_goals omega
def yE (x:Int):Int:=sat (-128) 127 x
def gU (x:Int):Int:=sat (-2147483648) 2147483647 x
theorem yF (x:Int):-128<=yE x/\yE x<=127:=Ek (by omega) x
theorem kN (x:Int):-2147483648<=gU x/\gU x<=2147483647:=Ek (by omega) x
theorem Em (k:Nat) (x:Int):xN k x=some (yE x):=by unfold xN yE;rw[pY (by omega),aa]
theorem uW (k:Nat) (x:Int):mN k x=some (gU x):=by unfold mN gU;rw[pY (by omega),aa]
theorem En (k:Nat) (x:Int):xP k x=some (yE x):=by unfold xP yE;rw[Cx (by omega),aa]
theorem uX (k:Nat) (x:Int):mO k x=some (gU x):=by unfold mO gU;rw[Cx (by omega),aa]
def oT (a b:Int):Int:=gU (gU a+gU b)
theorem oG (k:Nat) (a b:Int):l7 k a b=some (oT a b):=by
 have h1:=kN a;have h2:=kN b;unfold l7 oT;simp only[uW,aa];rw[aH (by omega) (by omega)]
theorem yG (k:Nat) (a b:Int):tl k a b=some (oT a b):=by
 have h1:=kN a;have h2:=kN b;unfold tl oT;simp only[uX,aa];rw[aH (by omega) (by omega)]
theorem OY {x y A B:Int} (hx:-A<=x/\x<=A) (hy:-B<=y/\y<=B):-(A*B)<=x*y/\x*y<=A*B:=by
 have h1:=SN (show 0<=A-x by omega) (show 0<=B+y by omega);have h2:=SN (show 0<=A+x by omega) (show 0<=B-y by omega);have h3:=SN (show 0<=A-x by omega) (show 0<=B-y by omega);have h4:=SN (show 0<=A+x by omega) (show 0<=B+y by omega);simp only[Int.sub_mul,Int.add_mul,Int.mul_add,Int.mul_sub]at h1 h2 h3 h4;omega
def oH (a b:Int):Int:=gU ((gU a*gU b+1073741824)/2147483648)
theorem Eo {k:Nat} {a:Int} (h1:-4611686018427387904<=a/\a<=9223372036854775807):tb k a 2147483648=some (a/2147483648):=by
 have e:=Int.mul_tdiv_add_tmod a 2147483648;have h2:=Int.tmod_lt_of_pos a (show(0:Int)<2147483648 by omega);unfold tb;rw[ab,if_neg (by omega),ab,if_neg (by omega),ab];by_cases c:0<=a
 ·have h3:=Int.tmod_nonneg 2147483648 c;rw[if_neg (by omega),aH (by omega) (by omega)]
  congr 1;omega
 ·have h3:=Int.tmod_nonneg 2147483648 (show 0<=-a by omega);have h4:=Int.tmod_lt_of_pos (-a) (show(0:Int)<2147483648 by omega);rw[Int.neg_tmod]at h3 h4;by_cases c2:a.tmod 2147483648<0
  ·rw[if_pos c2,aH (n:=a.tdiv 2147483648) (by omega) (by omega),aH (by omega) (by omega)]
   congr 1;omega
  ·rw[if_neg c2,aH (by omega) (by omega)]
   congr 1;omega
theorem NS (a b:Int):-4611686018427387904<=gU a*gU b/\gU a*gU b<=4611686018427387904:=
 OY (A:=2147483648) (B:=2147483648) (by have:=kN a;omega) (by have:=kN b;omega)
theorem Ep (k:Nat) (a b:Int):tc k a b=some (oH a b):=by
 have h:=NS a b;unfold tc oH;simp only[uW,aa];rw[aH (n:=gU a*gU b) (by omega) (by omega),aH (by omega) (by omega),Eo (by omega),aa]
theorem Er (k:Nat) (a b:Int):tn k a b=some (oH a b):=by
 have h:=NS a b;unfold tn oH;simp only[uX,aa];rw[aH (n:=gU a*gU b) (by omega) (by omega),aH (by omega) (by omega)]
 have e:((2:Int)^(min (31:Int).toNat IntKind.i64.bits))=2147483648:=by decide
 rw[e,Int.fdiv_eq_ediv_of_nonneg _ (by omega)]
def gv (x by_:Int):Int:=if x<0 then -((2*-x+by_)/(2*by_))else(2*x+by_)/(2*by_)
theorem AV {a b:Int} (ha:0<=a) (hb:1<=b):0<=a/b/\a/b<=a:=
 ⟨Int.ediv_nonneg ha (by omega),Int.ediv_le_self _ ha⟩
theorem vE {k:Nat} {x d:Int} (hx:-2147483648<=x/\x<=2147483648) (hd:1<=d/\d<=2147483648):nr k x d=some (gv x d):=by
 unfold nr oo gv;rw[aH (n:=2*d) (by omega) (by omega),ab];by_cases c:x<0
 ·rw[if_pos c,if_pos c,aH (n:=0-x) (by omega) (by omega),ab,if_neg (by omega),ab,if_neg (by omega),aa,aH (n:=2*(0-x)) (by omega) (by omega),aH (n:=2*(0-x)+d) (by omega) (by omega),RR (by omega)];have h:=AV (a:=2*(0-x)+d) (b:=2*d) (by omega) (by omega);rw[show 2*-x+d=2*(0-x)+d from by omega];generalize (2*(0-x)+d)/(2*d)=q at h;rw[aH (n:=q) (by omega) (by omega),aH (by omega) (by omega)]
  congr 1;omega
 ·rw[if_neg c,if_neg c,ab,if_neg (by omega),aH (n:=2*x) (by omega) (by omega),aH (n:=2*x+d) (by omega) (by omega),RR (by omega)];have h:=AV (a:=2*x+d) (b:=2*d) (by omega) (by omega);rw[aH (by omega) (by omega)]
def ia (x n:Int):Int:=gv (gU x) (2^(sat 0 31 n).toNat)
theorem yH {r:Int} (h:0<=r/\r<=31):IntKind.i64.wrap ((1:Int)*2^(min r.toNat IntKind.i64.bits))=2^r.toNat/\(1:Int)<=2^r.toNat/\(2:Int)^r.toNat<=2147483648:=by
 have hb:IntKind.i64.bits=64:=rfl;have h1:(2:Nat)^r.toNat<=2^31:=Nat.pow_le_pow_right (by omega) (by omega);have h2:1<=(2:Nat)^r.toNat:=Nat.one_le_two_pow
 have e:((2^r.toNat:Nat):Int)=2^r.toNat:=by simp
 rw[hb,S8 (by omega),Int.one_mul];rw[<-e];refine⟨aH (by omega) (by omega),by omega,by omega⟩
theorem HL {v:Int} {s:Nat}:(v+(2^s:Int)/2)/2^s=(2*v+2^s)/(2*2^s):=by
 cases s with
 |zero=>omega
 |succ s=>
  have e:(2:Int)^(s+1)=2*2^s:=by rw[Int.pow_succ,Int.mul_comm]
  rw[e]
  have e2:2*v+2*(2:Int)^s=2*(v+2^s):=by rw[Int.mul_add]
  rw[e2,Int.mul_ediv_mul_of_pos _ _ (by omega:(0:Int)<2),Int.mul_ediv_cancel_left _ (by omega:(2:Int)≠0)]
theorem yI (k:Nat) (x n:Int):mj k x n=some (ia x n):=by
 have h1:=kN x;have h2:=Ek (a:=0) (b:=31) (by omega) n;obtain⟨e,h3,h4⟩:=yH h2;unfold mj ia;rw[uX,aa,Cx (by omega),aa,ab,if_neg (by omega),e,vE (by omega) ⟨h3,h4⟩,aa]
theorem Lo {r:Int} (h:0<=r/\r<=31):IntKind.u64.wrap r=r:=Go.IntWalk.u64_in r ⟨by omega,by omega⟩
theorem yJ (k:Nat) (x n:Int):l8 k x n=some (ia x n):=by
 have h1:=kN x;have h2:=Ek (a:=0) (b:=31) (by omega) n;obtain⟨e,h3,h4⟩:=yH h2;unfold l8 ia gv;rw[uW,aa,pY (by omega),aa,Lo h2,ab,if_neg (by omega),e,ab];have hh:((2:Int)^(sat 0 31 n).toNat).tdiv 2=2^(sat 0 31 n).toNat/2:=RR (by omega);rw[hh,aH (n:=2^(sat 0 31 n).toNat/2) (by omega) (by omega)];by_cases c:gU x<0
 ·rw[if_pos c,if_pos c,ab,if_neg (by omega),aH (n:=0-gU x) (by omega) (by omega),aH (n:=0-gU x+2^(sat 0 31 n).toNat/2) (by omega) (by omega),RR (by omega),HL,show 2*-gU x+2^(sat 0 31 n).toNat=2*(0-gU x)+2^(sat 0 31 n).toNat from by omega];have h:=AV (a:=2*(0-gU x)+2^(sat 0 31 n).toNat) (b:=2*2^(sat 0 31 n).toNat) (by omega) (by omega);generalize (2*(0-gU x)+2^(sat 0 31 n).toNat)/(2*2^(sat 0 31 n).toNat)=q at h;rw[aH (n:=q) (by omega) (by omega),aH (by omega) (by omega)]
  congr 1;omega
 ·rw[if_neg c,if_neg c,ab,if_neg (by omega),aH (n:=gU x+2^(sat 0 31 n).toNat/2) (by omega) (by omega),RR (by omega),HL];have h:=AV (a:=2*gU x+2^(sat 0 31 n).toNat) (b:=2*2^(sat 0 31 n).toNat) (by omega) (by omega);rw[aH (by omega) (by omega)]
def yK (acc mult shift zero:Int):Int:=yE (ia (oH acc mult) shift+yE zero)
theorem Jg {x d B:Int} (hx:-B<=x/\x<=B) (hd:1<=d):-B<=gv x d/\gv x d<=B:=by
 have key:∀y:Int,0<=y->y<=B->0<=(2*y+d)/(2*d)/\(2*y+d)/(2*d)<=B:=λy h0 h1=>by
  refine⟨Int.ediv_nonneg (by omega) (by omega),?_⟩
  have hlt:(2*y+d)/(2*d)<B+1:=by
   apply Int.ediv_lt_of_lt_mul (by omega);have:=SN (show 0<=B by omega) (show 0<=d-1 by omega);rw[Int.mul_sub,Int.mul_one]at this;rw[Int.add_mul,Int.one_mul,Int.mul_comm B,Tr,Int.mul_comm d B];omega
  omega
 unfold gv;by_cases c:x<0
 ·rw[if_pos c];have:=key (-x) (by omega) (by omega);omega
 ·rw[if_neg c];have:=key x (by omega) (by omega);omega
theorem vF (acc mult shift zero:Int):IntKind.i64.wrap (ia (oH acc mult) shift+yE zero)=ia (oH acc mult) shift+yE zero:=by
 have h1:=yF zero;have h2:=Ek (a:=0) (b:=31) (by omega) shift;have h3:=kN (oH acc mult);have h4:=Jg (x:=gU (oH acc mult)) (d:=2^(sat 0 31 shift).toNat) (B:=2147483648) (by omega) (yH h2).2.1;unfold ia;exact aH (by omega) (by omega)
theorem vG (k:Nat) (a b c d:Int):nq k a b c d=some (yK a b c d):=by
 unfold nq yK;simp only[Ep,yJ,Em,aa,vF]
theorem Es (k:Nat) (a b c d:Int):tp k a b c d=some (yK a b c d):=by
 unfold tp yK;simp only[Er,yI,En,aa,vF]
end
section
theorem kO {α:Type} (f:Nat->List α) (m:Nat):∀n,(∀i,i<n->(f i).length<=m)->((List.range n).flatMap f).length<=n*m
 |0,_=>by simp
 |n+1,h=>by
  have:=kO f m n λi hi=>h i (by omega);have:=h n (by omega);rw[Sp,S3,Q9,Rn,show([n]:List Nat).flatMap f=f n from by simp];omega
theorem gI {α:Type} (f:Nat->List α) (m:Nat):∀n,(∀i,i<n->(f i).length=m)->((List.range n).flatMap f).length=n*m
 |0,_=>by simp
 |n+1,h=>by
  have:=gI f m n λi hi=>h i (by omega);have:=h n (by omega);rw[Sp,S3,Q9,Rn,show([n]:List Nat).flatMap f=f n from by simp];omega
theorem Cy {α:Type} (f:Nat->List α) (q:Nat):∀n,(∀i,i<n->(f i).length=q)->∀a b,a<n->b<q->((List.range n).flatMap f)[a*q+b]? =(f a)[b]?
 |0,_,a,b,h,_=>by omega
 |n+1,h,a,b,ha,hb=>by
  have hl:=gI f q n λi hi=>h i (by omega);rw[Sp,S3]
  have hs:([n]:List Nat).flatMap f=f n:=by simp
  rw[hs];by_cases c:a<n
  ·have:(a+1)*q<=n*q:=Re _ (by omega);rw[Rn]at this;rw[QY (by omega)];exact Cy f q n (λi hi=>h i (by omega)) a b c hb
  ·have:a=n:=by omega
   subst this;rw[QX (by omega),hl,Rs]
theorem fB {α R:Type} (n m:Nat) (f:Nat->List α) (xs0:List α) {g:Int× List α->(Int× List α->Option R)->Option R} {fin:List α->Option R} {k:Nat}
  (hf:∀i,i<n->(f i).length<=m)
  (h:∀(i:Nat) ys next,i<n->ys.length<=xs0.length+i*m->g ((i:Int),ys) next=next (((i+1:Nat):Int),ys++f i))
  (hn:∀ys next,g ((n:Int),ys) next=fin ys) (hk:n<k):iter g k ((0:Int),xs0)=fin (xs0++(List.range n).flatMap f):=by
 have:=fj (g:=g) (st:=λi=>((i:Int),xs0++(List.range i).flatMap f)) (n:=n) (r:=fin (xs0++(List.range n).flatMap f)) (λi hi next=>by
  have hl:=kO f m i λj hj=>hf j (by omega);rw[h i _ next hi (by rw[Q9];omega),Sp,S3]
  simp) (λnext=>hn _ _) hk
 simpa using this
theorem nA {β R:Type} (n:Nat) (f:β->Nat->β) (a0:β) {g:β× Int->(β× Int->Option R)->Option R} {fin:β->Option R} {k:Nat}
  (h:∀(i:Nat) a next,i<n->g (a,(i:Int)) next=next (f a i,((i+1:Nat):Int))) (hn:∀a next,g (a,(n:Int)) next=fin a) (hk:n<k):
  iter g k (a0,(0:Int))=fin ((List.range n).foldl f a0):=
 fj (g:=g) (st:=λi=>((List.range i).foldl f a0,(i:Int))) (n:=n) (r:=fin ((List.range n).foldl f a0)) (λi hi next=>by
  rw[h i _ next hi,Sp,R4];rfl) (λnext=>hn _ _) hk
theorem fold_congr {β:Type} {f g:β->Nat->β}:∀(n:Nat) (a:β),(∀a i,i<n->f a i=g a i)->(List.range n).foldl f a=(List.range n).foldl g a
 |0,_,_=>rfl
 |n+1,a,h=>by
  rw[Sp,R4,R4,fold_congr n a λa i hi=>h a i (by omega)];exact h _ n (by omega)
theorem Cz {β:Type} (f:β->Nat->β) (q:Nat):∀(m:Nat) (a:β),(List.range (m*q)).foldl f a=(List.range m).foldl (λa i=>(List.range q).foldl (λa j=>f a (i*q+j)) a) a
 |0,a=>by simp
 |m+1,a=>by
  rw[Rn,Nat.one_mul,List.range_add,R4,Cz f q m a,Sp,R4,List.foldl_map];rfl
theorem Et {a b:Nat} (h:a*b<=9223372036854775807):IntKind.i64.wrap ((a:Int)*(b:Int))=((a*b:Nat):Int):=by
 rw[RZ];have e:((a:Int)*(b:Int))=((a*b:Nat):Int):=(RZ a b).symm;exact aH (by omega) (by omega)
theorem E3 {a b:Nat} (h:a+b<=9223372036854775807):IntKind.i64.wrap ((a:Int)+(b:Int))=((a+b:Nat):Int):=by
 rw[aH (by omega) (by omega)];omega
theorem Lq {α:Type} {p:Prop} {i:Decidable p} (h:p) (x y:α):cond (@decide p i) x y=x:=by rw[decide_eq_true h];rfl
theorem QF {α:Type} {p:Prop} {i:Decidable p} (h:¬p) (x y:α):cond (@decide p i) x y=y:=by rw[decide_eq_false h];rfl
theorem tK {H W C h w c:Nat} (h1:h<H) (h2:w<W) (h3:c<C):(h*W+w)*C+c<H*W*C:=by
 have a1:(h+1)*W<=H*W:=Re _ h1;rw[Rn]at a1;have a2:(h*W+w+1)*C<=H*W*C:=Re _ (by omega);rw[Rn]at a2;omega
structure kP (H W C:Nat) (xs:List Int):Prop where
 h1:1<=H
 h8:H<=8
 w1:1<=W
 w8:W<=8
 c1:1<=C
 c8:C<=8
 len:xs.length=H*W*C
 mem:∀x∈xs,-128<=x/\x<=127
def uY (H W C:Nat) (xs:List Int):av:=⟨⟨H,W,C⟩,xs⟩
theorem kP.Pk {H W C:Nat} {xs:List Int} (r:kP H W C xs):H*W*C<=512:=by
 have a:=RF r.h8 r.w8;have b:=RF a r.c8;omega
theorem kP.sh {H W C:Nat} {xs:List Int} (r:kP H W C xs):(⟨H,W,C⟩:Shape).okB=true:=by
 obtain⟨a,b,c,d,e,f,_,_⟩:=r;simp only[Shape.okB,inB,QV,decide_eq_true_eq];omega
theorem kP.size {H W C:Nat} {xs:List Int} (r:kP H W C xs):(⟨H,W,C⟩:Shape).size=((H*W*C:Nat):Int):=by
 unfold Shape.size;rw[r.sh,cond_true,RZ,RZ]
theorem kP.ok {H W C:Nat} {xs:List Int} (r:kP H W C xs):(uY H W C xs).okB=true:=by
 unfold av.okB uY;simp only[r.sh,r.size,r.len,decide_true,Q2];unfold ru;rw[Ss];intro x hx;have:=r.mem x hx;rw[cn];omega
theorem CA {t:av} (h:t.okB=true):∃H W C:Nat,kP H W C t.data/\t=uY H W C t.data:=by
 unfold av.okB at h;simp only[QV,decide_eq_true_eq]at h;obtain⟨h1,h2,h3⟩:=h;have hs:=Shape.tB h1;unfold ru at h3;rw[Ss]at h3;unfold Shape.size at h2;rw[h1,cond_true]at h2;obtain⟨⟨a,b,c⟩,xs⟩:=t;simp only at hs h2 h3;refine⟨a.toNat,b.toNat,c.toNat,⟨by omega,by omega,by omega,by omega,by omega,by omega,?_,λx hx=>cn.1 (h3 x hx)⟩,?_⟩
 ·have ea:((a.toNat:Nat):Int)=a:=by omega
  have eb:((b.toNat:Nat):Int)=b:=by omega
  have ec:((c.toNat:Nat):Int)=c:=by omega
  have e:((a.toNat*b.toNat*c.toNat:Nat):Int)=a*b*c:=by rw[RZ,RZ,ea,eb,ec]
  show xs.length=_;omega
 ·unfold uY
  congr 2<;>omega
def atN (W C:Nat) (xs:List Int) (h w c:Nat):Int:=xs.getD ((h*W+w)*C+c) 0
theorem Gx {H W C:Nat} {xs:List Int} (r:kP H W C xs) {h w c:Nat} (h1:h<H) (h2:w<W) (h3:c<C):xs[(h*W+w)*C+c]? =some (atN W C xs h w c):=by
 have:=tK h1 h2 h3;have hl:=r.len;unfold atN;rw[bZ (by omega),ag (by omega)]
theorem wB {xs:List Int} {i:Nat} (h:i<xs.length):xs.getD i 0∈xs:=by rw[bZ h];exact Q3 h
theorem HM {H W C:Nat} {xs:List Int} (r:kP H W C xs) {h w c:Nat} (h1:h<H) (h2:w<W) (h3:c<C):-128<=atN W C xs h w c/\atN W C xs h w c<=127:=by
 have:=tK h1 h2 h3;have hl:=r.len;exact r.mem _ (wB (by omega))
theorem AW {H W C:Nat} {xs:List Int} (r:kP H W C xs) {h w c:Nat} (h1:h<H) (h2:w<W) (h3:c<C):
  IntKind.i64.wrap (IntKind.i64.wrap (IntKind.i64.wrap (IntKind.i64.wrap ((h:Int)*(W:Int))+(w:Int))*(C:Int))+(c:Int))=(((h*W+w)*C+c:Nat):Int):=by
 have a:=tK h1 h2 h3;have b:=r.Pk;have d:h*W<=H*W:=Re _ (by omega);have e:=RF r.h8 r.w8;rw[Et (by omega),E3 (by have:=r.w8;omega),Et (by omega),E3 (by omega)]
theorem sa {k:Nat} {H W C:Nat} {xs:List Int} (r:kP H W C xs) (hk:512<k) {h w c:Nat} (h1:h<H) (h2:w<W) (h3:c<C):om k (uY H W C xs) h w c=some (atN W C xs h w c,true):=by
 have hl:=r.len;have hc:=r.Pk
 have hi:∀{a n:Nat},a<n->n<=8->inB (a:Int) 0 (IntKind.i64.wrap ((n:Int)-1))=true:=λ{a n} h h8=>by
  rw[aH (by omega) (by omega),cn];omega
 unfold om xO;simp only[j3,cD,aa];rw[oD (t:=uY H W C xs) (by show xs.length<k;omega) (by unfold tT;show xs.length<=_;omega),r.ok];simp only[uY,r.sh,hi h1 r.h8,hi h2 r.w8,hi h3 r.c8,Q1,cond_false,aa,AW r h1 h2 h3];rw[ab,if_neg (by omega),aD,Gx r h1 h2 h3,aa]
theorem sb {k:Nat} {H W C:Nat} {xs:List Int} (r:kP H W C xs) {h w c:Nat} (h1:h<H) (h2:w<W) (h3:c<C):ix k ⟨H,W,C⟩ h w c=some ((((h*W+w)*C+c:Nat)):Int):=by
 unfold ix;rw[AW r h1 h2 h3]
structure Lr (H W Z S h w:Nat):Prop where
 z1:1<=Z
 z3:Z<=3
 s2:S<=2
 hh:h*S+Z<=H
 ww:w*S+Z<=W
def iN (W C:Nat) (xs:List Int) (Z S h w c:Nat):List Int:=
 (List.range Z).flatMap λi=>(List.range Z).flatMap λj=>[atN W C xs (h*S+i) (w*S+j) c]
def OZ (W C:Nat) (xs:List Int) (Z S h w:Nat):List Int:=
 (List.range Z).flatMap λi=>(List.range Z).flatMap λj=>(List.range C).map λc=>atN W C xs (h*S+i) (w*S+j) c
theorem Eu (W C:Nat) (xs:List Int) (Z S h w c:Nat):(iN W C xs Z S h w c).length=Z*(Z*1):=
 gI _ _ _ λi hi=>gI _ _ _ λj hj=>rfl
theorem CB (W C:Nat) (xs:List Int) (Z S h w:Nat):(OZ W C xs Z S h w).length=Z*(Z*C):=
 gI _ _ _ λi hi=>gI _ _ _ λj hj=>by simp
theorem Ew {k:Nat} {H W C:Nat} {xs:List Int} (r:kP H W C xs) (hk:512<k) {l:ax} {Z S h w c:Nat} (hz:l.size=Z) (hs:l.step=S) (v:Lr H W Z S h w) (hc:c<C):
  lz k (uY H W C xs) l h w c=some (iN W C xs Z S h w c):=by
 have hM:=al;have hv:=v;obtain⟨z1,z3,s2,hh,ww⟩:=hv;have:=r.h8;have:=r.w8;unfold lz
 refine(fB Z 3 (λi=>(List.range Z).flatMap λj=>[atN W C xs (h*S+i) (w*S+j) c]) [] (fin:=some) (λi hi=>by
   have:=kO (λj=>[atN W C xs (h*S+i) (w*S+j) c]) 1 Z (λ_ _=>Rb _);omega) (λi ys next hi hy=>?_) (λys next=>?_) (by omega)).trans (by rw[Sf];rfl)
 ·simp only[ma,hz,hs];rw[ab,if_pos (by omega),au hi (by omega)];refine fB Z 1 (λj=>[atN W C xs (h*S+i) (w*S+j) c]) ys (fin:=λy=>next (((i+1:Nat):Int),y)) (λ_ _=>Rb _) (λj zs next2 hj hz2=>?_) (λzs next2=>?_) (by omega)
  ·simp only[l9,hz,hs]
   have e1:h*S+i<H:=by omega
   have e2:w*S+j<W:=by omega
   have e:=sa (k:=k) r hk e1 e2 hc;unfold uY at e;simp only[Rz]at hy;rw[ab,if_pos (by omega)];simp only[uY];rw[Et (by omega),E3 (by omega),Et (by omega),E3 (by omega),e,aa,cu (by simp;omega),au hj (by omega)]
  ·simp only[l9];rw[ab,if_neg (by omega)]
 ·simp only[ma];rw[ab,if_neg (by omega)]
theorem Ey {α:Type} {ws:List α} {a q i:Nat} (hi:i<q):((ws.take (a+q)).drop a)[i]? =ws[a+i]? :=by
 rw[Ra,Rw,if_pos (by omega)]
theorem Ls {ws:List Int} {a q:Nat} (h:a+q<=ws.length):(ws.take (a+q)).drop a=(List.range q).map λc=>ws.getD (a+c) 0:=by
 apply List.ext_getElem?;intro i;by_cases c:i<q
 ·rw[Ey c,RC,List.getElem?_range c,Sb,ag (by omega),bZ (by omega)]
 ·rw[Ro (by simp;omega),Ro (by simp;omega)]
theorem yL {k:Nat} {H W C:Nat} {xs:List Int} (r:kP H W C xs) (hk:512<k) {l:ax} {Z S h w c:Nat} (hz:l.size=Z) (hs:l.step=S) (v:Lr H W Z S h w) (hc:c<C):
  cE k l (uY H W C xs) h w c=some (iN W C xs Z S h w c):=by
 have hM:=al;have hv:=v;obtain⟨z1,z3,s2,hh,ww⟩:=hv;have:=r.h8;have:=r.w8;have:=r.c8;have hcu:=r.Pk;have hlen:=r.len;unfold cE
 refine(fB Z 3 (λi=>(List.range Z).flatMap λj=>[atN W C xs (h*S+i) (w*S+j) c]) [] (fin:=some) (λi hi=>by
   have:=kO (λj=>[atN W C xs (h*S+i) (w*S+j) c]) 1 Z (λ_ _=>Rb _);omega) (λi ys next hi hy=>?_) (λys next=>?_) (by omega)).trans (by rw[Sf];rfl)
 ·simp only[dF,hz,hs];rw[ab,if_pos (by omega),au hi (by omega)];refine fB Z 1 (λj=>[atN W C xs (h*S+i) (w*S+j) c]) ys (fin:=λy=>next (((i+1:Nat):Int),y)) (λ_ _=>Rb _) (λj zs next2 hj hz2=>?_) (λzs next2=>?_) (by omega)
  ·simp only[dE,hz,hs]
   have e1:h*S+i<H:=by omega
   have e2:w*S+j<W:=by omega
   have e:=sb (k:=k) (c:=0) r e1 e2 (by omega);have hp:=tK e1 e2 hc;simp only[Rz]at hy;rw[ab,if_pos (by omega)];simp only[uY];rw[Et (by omega),E3 (by omega),Et (by omega),E3 (by omega)];refine(congrArg (λo:Option Int=>o.bind _) e).trans ?_;rw[aa,ab,if_neg (by omega),Ru,E3 (by omega),aD,Gx r e1 e2 hc,aa,cu (by simp;omega),au hj (by omega)]
  ·simp only[dE];rw[ab,if_neg (by omega)]
 ·simp only[dF];rw[ab,if_neg (by omega)]
theorem Ez {k:Nat} {H W C:Nat} {xs:List Int} (r:kP H W C xs) (hk:512<k) {l:ax} {Z S h w:Nat} (hz:l.size=Z) (hs:l.step=S) (v:Lr H W Z S h w):
  cE k l (uY H W C xs) h w (-1)=some (OZ W C xs Z S h w):=by
 have hM:=al;have hv:=v;obtain⟨z1,z3,s2,hh,ww⟩:=hv;have:=r.h8;have:=r.w8;have:=r.c8;have hc1:=r.c1;have hcu:=r.Pk;have hlen:=r.len;unfold cE
 refine(fB Z 24 (λi=>(List.range Z).flatMap λj=>(List.range C).map λc=>atN W C xs (h*S+i) (w*S+j) c) [] (fin:=some) (λi hi=>by
   have:=kO (λj=>(List.range C).map λc=>atN W C xs (h*S+i) (w*S+j) c) 8 Z (λ_ _=>by simp;omega);omega) (λi ys next hi hy=>?_) (λys next=>?_) (by omega)).trans (by rw[Sf];rfl)
 ·simp only[dF,hz,hs];rw[ab,if_pos (by omega),au hi (by omega)];refine fB Z 8 (λj=>(List.range C).map λc=>atN W C xs (h*S+i) (w*S+j) c) ys (fin:=λy=>next (((i+1:Nat):Int),y)) (λ_ _=>by simp;omega) (λj zs next2 hj hz2=>?_) (λzs next2=>?_) (by omega)
  ·simp only[dE,hz,hs]
   have e1:h*S+i<H:=by omega
   have e2:w*S+j<W:=by omega
   have e:=sb (k:=k) (c:=0) r e1 e2 (by omega);have hp:=tK (C:=C) (c:=C-1) e1 e2 (by omega);simp only[Rz]at hy;rw[ab,if_pos (by omega)];simp only[uY];rw[Et (by omega),E3 (by omega),Et (by omega),E3 (by omega)];refine(congrArg (λo:Option Int=>o.bind _) e).trans ?_;have e3:=Ls (ws:=xs) (a:=((h*S+i)*W+(w*S+j))*C) (q:=C) (by omega);have ew:IntKind.i64.wrap (((((h*S+i)*W+(w*S+j))*C:Nat):Int)+(C:Int))=((((h*S+i)*W+(w*S+j))*C+C:Nat):Int):=E3 (by omega);rw[aa,Lq (by omega),Ru];refine(Lq (by rw[ew];omega) _ _).trans ?_;refine(Lq (by rw[ew];omega) _ _).trans ?_;rw[ew,QW,QW,e3,cu (by simp;omega),au hj (by omega)];rfl
  ·simp only[dE];rw[ab,if_neg (by omega)]
 ·simp only[dF];rw[ab,if_neg (by omega)]
end
end Go.Proofs.Ev
