/- Typed functions and what holds of them: part 4. -/
import Derived.Test.YtpiopmjbcadfbaaGreatEvL3
import Derived.KernelRfl
set_option linter.unusedVariables false
set_option linter.unusedSimpArgs false
set_option linter.unusedSectionVars false
namespace Go.Proofs.Ev
section
def al.tot (x:al):Nat:=x.data.length+(0)
def aj.tot (x:aj):Nat:=x.weights.length+(x.cG.length+(0))
def Model.tot (x:Model):Nat:=dj aj.tot x.ao+(0)
def Job.tot (x:Job):Nat:=x.model.tot+(x.act.tot+(0))
def Task.tot (x:Task):Nat:=x.av.length+(0)
def ak.tot (x:ak):Nat:=dj Task.tot x.tasks+(0)
def Request.tot (x:Request):Nat:=x.job.tot+(0)
def Runtime.tot (x:Runtime):Nat:=x.sched.tot+(dj Model.tot x.ar+(x.ax.length+(dj Request.tot x.ae+(0))))
def Step.tot (x:Step):Nat:=x.data.length+(x.input.tot+(0))
def Event.tot (x:Event):Nat:=x.out.tot+(0)
def Entry.tot (x:Entry):Nat:=x.model.tot+(x.input.tot+(0))
theorem Ju {k:Nat} {xs:List Int} {n:Int} (hx:xs.length<=ue) (h1:0<=n) (h2:n<=1048576):Sz (tf k xs n) n xs.length:=Gy k xs n ⟨h1,h2⟩ hx
theorem Jv {k:Nat} {xs:List Int} (hk:xs.length<k) (hN:xs.length<=aN):tj k xs=some xs:=Gz hk hN
theorem vg {k:Nat} {xs ys:List Int} (hk:xs.length<k) (hN:xs.length<=aN):qB k xs ys=some (decide (xs=ys)):=GA hk (by unfold ue;rw[aq]at hN;omega)
theorem iN {k:Nat} {xs:List Int} {m:Int} (hk:xs.length<k) (hN:xs.length<=aN) (h0:0<=m) (hB:m+16*xs.length<=sE):
    ∃r ys,fU k xs m=some (r,ys)/\m<=r/\r<=m+16*xs.length/\ys.length=xs.length/\k7 k ys m=some r:=by
  have ht:dj (λ_=>0) xs=xs.length:=Ep xs;rw[aq]at hN;unfold sE at hB
  obtain⟨r,out,a1,a2,a3,a4,a5⟩:=ni (t:=λ_:Int=>0) (N:=xs.length) (g:=λu next=>fl k () u next (λy=>some (y.1,y.2))) (fin:=λy=>some (y.1,y.2)) (hd:=λys u next=>ix k ys u next (λy=>some y) (λy=>some y))
    (λm ys next hl=>by simp only[fl,ab];rw[if_neg (by omega)]) (λys m next hl=>by simp only[ix,ab];rw[if_neg (by omega)]) xs [] m k (by simp) hk h0 (by rw[ht];unfold sE;omega)
    (λx hm m h0 hB=>by
      unfold sE at hB;refine⟨m+1,m,by omega,by omega,λi ys next hl hi hx=>?_,λi ys next hl hi hy=>?_⟩
      · simp(disch:=omega)only[fl,ab,if_pos,Rr,aG]
      · simp(disch:=omega)only[ix,ab,if_pos,aC,hy,aa,jv,aG,if_true])
  rw[ht]at a4;exact⟨r,out,a2,a3,a4,a1,a5 k hk⟩
theorem GD {k:Nat} {xs:List Int} {n:Int} (hx:xs.length<=ue) (h1:0<=n) (h2:n<=1048576):Sz (pO k xs n) n xs.length:=Et k xs n ⟨h1,h2⟩ hx
theorem GF {k:Nat} {xs:List Int} (hk:xs.length<k) (hN:xs.length<=aN):pP k xs=some xs:=Eu hk hN
theorem GG {k:Nat} {xs ys:List Int} (hk:xs.length<k) (hN:xs.length<=aN):tp k xs ys=some (decide (xs=ys)):=Ey hk (by unfold ue;rw[aq]at hN;omega)
theorem wm {k:Nat} {xs:List Int} {m:Int} (hk:xs.length<k) (hN:xs.length<=aN) (h0:0<=m) (hB:m+16*xs.length<=sE):
    ∃r ys,mQ k xs m=some (r,ys)/\m<=r/\r<=m+16*xs.length/\ys.length=xs.length/\yC k ys m=some r:=by
  have ht:dj (λ_=>0) xs=xs.length:=Ep xs;rw[aq]at hN;unfold sE at hB
  obtain⟨r,out,a1,a2,a3,a4,a5⟩:=ni (t:=λ_:Int=>0) (N:=xs.length) (g:=λu next=>eN k () u next (λy=>some (y.1,y.2))) (fin:=λy=>some (y.1,y.2)) (hd:=λys u next=>jy k ys u next (λy=>some y) (λy=>some y))
    (λm ys next hl=>by simp only[eN,ab];rw[if_neg (by omega)]) (λys m next hl=>by simp only[jy,ab];rw[if_neg (by omega)]) xs [] m k (by simp) hk h0 (by rw[ht];unfold sE;omega)
    (λx hm m h0 hB=>by
      unfold sE at hB;refine⟨m+1,IntKind.u8.wrap m,by omega,by omega,λi ys next hl hi hx=>?_,λi ys next hl hi hy=>?_⟩
      · simp(disch:=omega)only[eN,ab,if_pos,Rr,aG]
      · simp(disch:=omega)only[jy,ab,if_pos,aC,hy,aa,jv,aG,if_true])
  rw[ht]at a4;exact⟨r,out,a2,a3,a4,a1,a5 k hk⟩
theorem GH {k:Nat} {x:Shape}:xY k x=some x:=rfl
theorem yK {k:Nat} {x y:Shape}:tl k x y=some (decide (x=y)):=by
 refine(Er (Er (Er (Ba)))).trans ?_
 congr 1
 rw[decide_eq_decide];cases x;cases y;simp only[Shape.mk.injEq,and_true]
theorem EA {k:Nat} {x:al} {n:Int} (hx:x.Ok) (hk:x.tot<k) (h1:0<=n) (h2:n<=1048576):Sz (vd k x n) n x.tot:=by
 unfold al.tot at hk;exact LA h1 (Ju hx.2.1 h1 h2) λc0=>Oh (by omega)
theorem EB {k:Nat} {x:al} (hk:x.tot<k) (hN:x.tot<=aN):qA k x=some x:=by
 unfold al.tot at hk hN;have e0:=GH (k:=k) (x:=x.sh);have e1:=Jv (k:=k) (xs:=x.data) (by omega) (by omega);unfold qA;simp only[e0,e1,aa]
theorem vS {k:Nat} {x y:al} (hk:x.tot<k) (hN:x.tot<=aN):qC k x y=some (decide (x=y)):=by
 unfold al.tot at hk hN;refine(Mx yK (Mx (vg (by omega) (by omega)) (Ba))).trans ?_
 congr 1
 rw[decide_eq_decide];cases x;cases y;simp only[al.mk.injEq,and_true]
theorem GI {k:Nat} {x y:aj} (hk:x.tot<k) (hN:x.tot<=aN):tu k x y=some (decide (x=y)):=by
 unfold aj.tot at hk hN;refine(Er (Er (Er (Er (Er (Er (Er (Mx (vg (by omega) (by omega)) (Mx (vg (by omega) (by omega)) (Ba)))))))))).trans ?_
 congr 1
 rw[decide_eq_decide];cases x;cases y;simp only[aj.mk.injEq,and_true]
theorem EC {k:Nat} {xs ys:List aj} (hk:dj aj.tot xs<k) (hN:dj aj.tot xs<=aN):ve k xs ys=some (decide (xs=ys)):=by
 have hl:xs.length<=dj aj.tot xs:=aS _ _;have h2:=aq
 exact Gw (f:=λx y=>tu k x y) (g:=λu next=>iy k (xs,ys) u next (λy=>some true) (λy=>some y)) (by omega) (λx hm y=>GI (by have:=da aj.tot hm;omega) (by have:=da aj.tot hm;omega))
  (λi hi hi' next=>by simp only[iy];rw[ab,if_pos (by omega),aC,aC,ag hi,ag hi',aa,aa]) (λnext=>by simp only[iy];rw[ab,if_neg (by omega)]) (by omega)
theorem GJ {k:Nat} {x y:Model} (hk:x.tot<k) (hN:x.tot<=aN):yD k x y=some (decide (x=y)):=by
 unfold Model.tot at hk hN;refine(Mx yK (Mx (EC (by omega) (by omega)) (Ba))).trans ?_
 congr 1
 rw[decide_eq_decide];cases x;cases y;simp only[Model.mk.injEq,and_true]
theorem Jw {k:Nat} {x:Step} {n:Int} (hx:x.Ok) (hk:x.tot<k) (h1:0<=n) (h2:n<=1048576):Sz (wH k x n) n x.tot:=by
 unfold Step.tot at hk;exact LA h1 (GD hx.2.2.2.1.1 h1 h2) λc0=>LA (by omega) (EA hx.2.2.2.2 (by omega) (by omega) (by omega)) λc1=>Oh (by omega)
theorem Jx {k:Nat} {x:Step} (hk:x.tot<k) (hN:x.tot<=aN):tn k x=some x:=by
 unfold Step.tot at hk hN;have e0:=GF (k:=k) (xs:=x.data) (by omega) (by omega);have e1:=EB (k:=k) (x:=x.input) (by omega) (by omega);unfold tn;simp only[e0,e1,aa]
theorem Jy {k:Nat} {x y:Step} (hk:x.tot<k) (hN:x.tot<=aN):wI k x y=some (decide (x=y)):=by
 unfold Step.tot at hk hN;refine(Er (Er (Er (Mx (GG (by omega) (by omega)) (Mx (vS (by omega) (by omega)) (Ba)))))).trans ?_
 congr 1
 rw[decide_eq_decide];cases x;cases y;simp only[Step.mk.injEq,and_true]
theorem GK {k:Nat} {xs:List Step} {n:Int} (hx:okS Step.Ok xs) (hk:dj Step.tot xs<k) (h1:0<=n) (h2:n<=1048576):Sz (yA k xs n) n (dj Step.tot xs):=
 Ph (f:=λx n=>wH k x n) (g:=λu next=>jO k xs u next (λy=>some y) (λy=>some y)) hx.1 (λx hm n a b=>Jw (hx.2 x hm) (by have:=da Step.tot hm;omega) a b)
  (λi left hi next=>by simp only[jO];rw[ab,if_pos (by omega),aC,ag hi,aa]) (λleft next=>by simp only[jO];rw[ab,if_neg (by omega)]) (by have:=aS Step.tot xs;omega) h1 h2
theorem GL {k:Nat} {xs:List Step} (hk:dj Step.tot xs<k) (hN:dj Step.tot xs<=aN):nq k xs=some xs:=by
 have hl:xs.length<=dj Step.tot xs:=aS _ _
 exact Pj xs _ (f:=λx=>tn k x) (g:=λu next=>jP k xs u next (λy=>some y)) (by omega) (λx hm=>Jx (by have:=da Step.tot hm;omega) (by have:=da Step.tot hm;omega))
  (λi ys hi next=>by simp only[jP];rw[ab,if_pos (by omega),aC,ag hi,aa]) (λys next=>by simp only[jP];rw[ab,if_neg (by omega)]) (by omega)
theorem GM {k:Nat} {xs ys:List Step} (hk:dj Step.tot xs<k) (hN:dj Step.tot xs<=aN):yB k xs ys=some (decide (xs=ys)):=by
 have hl:xs.length<=dj Step.tot xs:=aS _ _;have h2:=aq
 exact Gw (f:=λx y=>wI k x y) (g:=λu next=>jQ k (xs,ys) u next (λy=>some true) (λy=>some y)) (by omega) (λx hm y=>Jy (by have:=da Step.tot hm;omega) (by have:=da Step.tot hm;omega))
  (λi hi hi' next=>by simp only[jQ];rw[ab,if_pos (by omega),aC,aC,ag hi,ag hi',aa,aa]) (λnext=>by simp only[jQ];rw[ab,if_neg (by omega)]) (by omega)
theorem wo {k:Nat} {xs:List Step} {m:Int} (hk:dj Step.tot xs<k) (hN:dj Step.tot xs<=aN) (h0:0<=m) (hB:m+16*dj Step.tot xs<=sE):
    ∃r ys,mR k xs m=some (r,ys)/\m<=r/\r<=m+16*dj Step.tot xs/\ys.length=xs.length/\Gx k ys m=some r:=by
  have ht:dj Step.tot xs=dj Step.tot xs:=rfl;have hN2:=aq;have hlen:=aS Step.tot xs;unfold sE at hB
  obtain⟨r,out,a1,a2,a3,a4,a5⟩:=ni (t:=Step.tot) (N:=xs.length) (g:=λu next=>eO k () u next (λy=>some (y.1,y.2))) (fin:=λy=>some (y.1,y.2)) (hd:=λys u next=>jz k ys u next (λy=>some y) (λy=>some y))
    (λm ys next hl=>by simp only[eO,ab];rw[if_neg (by omega)]) (λys m next hl=>by simp only[jz,ab];rw[if_neg (by omega)]) xs [] m k (by simp) (by omega) h0 (by unfold sE;omega)
    (λx hm m h0 hB=>by
      have hmt:=da Step.tot hm;rw[ht]at hmt;unfold sE at hB
      have hxk:x.tot<k:=by omega
      have hxN:x.tot<=aN:=by omega
      clear hmt hm;unfold Step.tot al.tot at hxk hxN hB⊢;obtain⟨r0,y0,e0,a0,b0,l0,h0⟩:=wm (k:=k) (xs:=x.data) (m:=m+1+1+1) (by omega) (by omega) (by omega) (by unfold sE;omega);obtain⟨r1,y1,e1,a1,b1,l1,h1⟩:=iN (k:=k) (xs:=x.input.data) (m:=r0+1+1+1) (by omega) (by omega) (by omega) (by unfold sE;omega);refine⟨r1,(⟨m,m+1,m+1+1,y0,(⟨(⟨r0,r0+1,r0+1+1⟩:Shape),y1⟩:al)⟩:Step),by omega,by omega,λi ys next hl hi hx=>?_,λi ys next hl hi hy=>?_⟩
      · simp(disch:=first|omega|(simp only[RW];omega))only[eO,ab,if_pos,Rr,aG,RW,R7,List.set_set,hx,aa,e0,e1]
      · simp(disch:=omega)only[jz,ab,if_pos,if_neg,aC,hy,aa,jv,aG,if_true,h0,h1])
  rw[ht]at a4;exact⟨r,out,a2,a3,a4,a1,a5 k (by omega)⟩
end
section
end
section
theorem LI {β R:Type} (n:Nat) (f:Nat->β) {g:Int× List β->(Int× List β->Option R)->Option R} {fin:List β->Option R}
  (h:∀(i:Nat) (ys:List β) (hi:i<n) (next:Int× List β->Option R),ys.length=i->g ((i:Int),ys) next=next (((i+1:Nat):Int),ys++[f i]))
  (hn:∀ys next,g ((n:Int),ys) next=fin ys) {k:Nat} (hk:n<k):iter g k (0,[])=fin ((List.range n).map f):=by
 have:=fb (g:=g) (st:=λi=>((i:Int),(List.range i).map f)) (n:=n) (r:=fin ((List.range n).map f)) (λi hi next=>by
  rw[h i _ hi next (by simp),S1,SB];rfl) (λnext=>hn _ _) hk
 simpa using this
def takes (x:Step):Int:=cond (inB x.kind 4 5&&inB x.a 0 200) x.a 0
end
section
theorem jl {b c:Bool}:cond b (some c) (some false)=some (b&&c):=by cases b<;>rfl
theorem dm {α:Type} {b:Bool} {x y:α}:cond (!b) x y=cond b y x:=by cases b<;>rfl
theorem nC {α:Type} (a b:Int) (x y:α):cond (a !=b) x y=cond (decide (a=b)) y x:=by rw[Lz];by_cases h:a=b<;>simp[h]
theorem ED (a b:Int):(a==b)=decide (a=b):=Pg a b
def H8 (l:aj):Bool:=inB l.out 1 8&&(inB l.mult 0 2147483647&&(inB l.shift 0 31&&(inB l.zero (-128) 127&&(decide ((l.cG.length:Int)=l.out)&&(l.cG.all (λx=>inB x (-1000000) 1000000)&&rC l.weights)))))
def sj (l:aj):Bool:=decide (l.out=0)&&(decide (l.mult=0)&&(decide (l.shift=0)&&(decide ((l.weights.length:Int)=0)&&decide ((l.cG.length:Int)=0))))
def o5 (l:aj):Bool:=decide (l.size=0)&&decide (l.step=0)
def LJ (s:Shape) (l:aj):Bool:=inB l.size 1 3&&(inB l.step 1 2&&(decide (l.size<=s.h)&&decide (l.size<=s.w)))
def iO (s:Shape) (l:aj):Bool:=s.okB&&
 (cond (decide (l.kind=0)) (o5 l&&(H8 l&&(decide (s.size<=64)&&decide ((l.weights.length:Int)=l.out*s.size))))
 (cond (decide (l.kind=1)) (LJ s l&&(H8 l&&(decide ((l.weights.length:Int)=l.out*l.size*l.size*s.c)&&decide ((l.weights.length:Int)<=600))))
 (cond (decide (l.kind=2)||decide (l.kind=3)) (LJ s l&&(sj l&&decide (l.zero=0)))
 (cond (decide (l.kind=4)) (o5 l&&(sj l&&inB l.zero (-128) 127))
 (cond (decide (l.kind=5)) (o5 l&&(sj l&&(decide (l.zero=0)&&decide (s.size<=8)))) false)))))
def qW (s:Shape) (l:aj) (c:Int):Shape:=
 ⟨IntKind.i64.wrap ((IntKind.i64.wrap ((IntKind.i64.wrap (s.h-l.size)).tdiv l.step))+1),IntKind.i64.wrap ((IntKind.i64.wrap ((IntKind.i64.wrap (s.w-l.size)).tdiv l.step))+1),c⟩
def shapeOf (s:Shape) (l:aj):Shape:=
 cond (decide (l.kind=0)) ⟨1,1,l.out⟩ (cond (decide (l.kind=1)) (qW s l l.out) (cond (decide (l.kind=4)) s (cond (decide (l.kind=5)) ⟨1,1,s.size⟩ (qW s l s.c))))
def jm:Shape:=⟨0,0,0⟩
def gJ (s:Shape) (l:aj):Shape× Bool:=cond (iO s l) (shapeOf s l,true) (jm,false)
theorem vT (k:Nat) (x:Int):gy k x=some (inB x (-128) 127):=by unfold gy;rw[cy,aa]
theorem GN {k:Nat} {l:aj} (hk:l.tot<k) (hN:l.tot<=aN) (fin:Option Bool):
    (iter (λu16 n16=>fV k (l.kind,l.out,l.size,l.step,l.mult,l.shift,l.zero,l.weights,l.cG) u16 n16 (λy9=>iter (λu14 n14=>fW k (l.kind,l.out,l.size,l.step,l.mult,l.shift,l.zero,l.weights,l.cG) u14 n14 (λy12=>fin) (λy13=>some y13)) k (0:Int)) (λy15=>some y15)) k (0:Int))
      =cond (l.cG.all (λx=>inB x (-1000000) 1000000)) (cond (rC l.weights) fin (some false)) (some false):=by
  have hM:=aq;unfold aj.tot at hk hN
  rw [oh l.cG (λ x => inB x (-1000000) 1000000) (yes := cond (rC l.weights) fin (some false)) (no := some false) (λ i hi next => by
    simp only[fV]
    rw[ab,if_pos (by omega),aC,ag hi,aa,cy,aa,cond_not,ay hi (by omega)]) (λnext=>by
    simp only[fV];rw[ab,if_neg (by omega)]
    exact oh l.weights (λx=>inB x (-128) 127) (λi hi next=>by
      simp only[fW]
      rw[ab,if_pos (by omega),aC,ag hi,aa,vT,aa,cond_not,ay hi (by omega)]) (λnext=>by
      simp only[fW];rw[ab,if_neg (by omega)]) (by omega)) (by omega)]
def yL (l:aj) (window weighs:Bool):Bool:=
 cond window (inB l.size 1 3&&inB l.step 1 2) (o5 l)&&cond weighs (H8 l) (sj l&&cond (decide (l.kind=4)) (inB l.zero (-128) 127) (decide (l.zero=0)))
theorem Pp (n:Nat):decide ((n:Int)>0)=!decide ((n:Int)=0):=by
 by_cases h:(n:Int)=0
 ·rw[decide_eq_true h,decide_eq_false (by omega)];rfl
 ·rw[decide_eq_false h,decide_eq_true (by omega)];rfl
theorem CA {k:Nat} {l:aj} (hk:l.tot<k) (hN:l.tot<=aN) (a b:Bool):qD k l a b=some (yL l a b):=by
 unfold qD yL H8 sj o5;simp only[cy,vT,aa,dm,nC,GN hk hN,Pp,ED];cases a<;>cases b<;>simp only[cond_true,cond_false,jl]<;>(by_cases h4:l.kind=4<;>simp only[h4,decide_true,decide_false,cond_true,cond_false,jl,Bool.and_assoc,TE])
theorem cd {x a b:Int}:inB x a b=true↔a<=x/\x<=b:=by unfold inB;simp
theorem pW {s:Shape} {l:aj} (h:LJ s l=true):1<=l.size/\l.size<=3/\1<=l.step/\l.step<=2/\l.size<=s.h/\l.size<=s.w:=by
 simp only[LJ,Rq,cd,decide_eq_true_eq]at h;omega
theorem wQ {l:aj} (h:H8 l=true):1<=l.out/\l.out<=8:=by
 simp only[H8,Rq,cd]at h;omega
theorem EE {o z c:Int} (h1:1<=o) (h2:o<=8) (h3:1<=z) (h4:z<=3) (h5:1<=c) (h6:c<=8):
  IntKind.i64.wrap (IntKind.i64.wrap (IntKind.i64.wrap (o*z)*z)*c)=o*z*z*c/\IntKind.i64.wrap (o*IntKind.i64.wrap (IntKind.i64.wrap (z*z)*c))=o*z*z*c:=by
 have a1:=pM (show 0<=o by omega) h2 (show 0<=z by omega) h4;have a2:=pM a1.1 a1.2 (show 0<=z by omega) h4;have a3:=pM a2.1 a2.2 (show 0<=c by omega) h6;have b1:=pM (show 0<=z by omega) h4 (show 0<=z by omega) h4;have b2:=pM b1.1 b1.2 (show 0<=c by omega) h6;have b3:=pM (show 0<=o by omega) h2 b2.1 b2.2;refine⟨?_,?_⟩
 ·rw[aG (n:=o*z) (by omega) (by omega),aG (n:=o*z*z) (by omega) (by omega),aG (by omega) (by omega)]
 ·rw[aG (n:=z*z) (by omega) (by omega),aG (n:=z*z*c) (by omega) (by omega),aG (by omega) (by omega),<-T3,<-T3]
theorem Bb {o:Int} {s:Shape} (h1:1<=o) (h2:o<=8):IntKind.i64.wrap (o*s.size)=o*s.size:=by
 have h:=Shape.LH s;have a1:=pM (show 0<=o by omega) h2 h.1 h.2;exact aG (by omega) (by omega)
theorem oI {k:Nat} {s:Shape} {l:aj} (hk:l.tot<k) (hN:l.tot<=aN):k8 k s l=some (gJ s l):=by
  unfold k8 gJ iO;simp only[j6,cy,oG,CA hk hN,aa,dm,nC,ED];cases hs:s.okB
  · rfl
  obtain⟨c1,c2,c3,c4,c5,c6⟩:=Shape.tN hs;simp only[cond_true,Ry];by_cases k0:l.kind=0
  · have e1:inB l.kind 0 5=true:=by rw[cd];omega
    have e2:inB l.kind 1 3=false:=by rw[<-Bool.not_eq_true,cd];omega
    simp only[k0,e1,e2,cond_true,cond_false,yL,shapeOf,decide_true];simp only[k0]at e1 e2;simp only[e1,e2,cond_true,cond_false,show decide ((0:Int)<=1)=true from rfl];cases o5 l
    · rfl
    cases hnum:H8 l
    · rfl
    obtain⟨o1,o2⟩:=wQ hnum;simp only[Bb o1 o2,Ry,cond_true];by_cases z:s.size<=64
    · rw[decide_eq_true z,decide_eq_false (by omega)];cases decide ((l.weights.length:Int)=l.out*s.size)<;>rfl
    · rw[decide_eq_false z,decide_eq_true (by omega)];rfl
  by_cases k1:l.kind=1
  · simp only[k1,yL,shapeOf,show inB 1 0 5=true from rfl,show inB 1 1 3=true from rfl,decide_true,cond_true,cond_false,show decide ((1:Int)=0)=false from rfl,show decide ((1:Int)<=1)=true from rfl];unfold LJ;cases hz:inB l.size 1 3
    · rfl
    cases ht:inB l.step 1 2
    · rfl
    rw[cd]at hz ht;simp only[Ry,cond_true];cases hnum:H8 l
    · simp only[cond_false,Sp,Tu];rfl
    obtain⟨o1,o2⟩:=wQ hnum;simp only[cond_true,Ry,(EE o1 o2 hz.1 hz.2 c5 c6).1];rw[decide_eq_false (show¬l.step=0 by omega)];simp only[cond_false];by_cases w1:l.size<=s.h
    · rw [decide_eq_true w1, decide_eq_false (show ¬ l.size > s.h by omega)];by_cases w2:l.size<=s.w
      · rw[decide_eq_true w2,decide_eq_false (show¬l.size>s.w by omega)];simp only[cond_false,Ry];cases decide ((l.weights.length:Int)=l.out*l.size*l.size*s.c)
        · rfl
        · by_cases w3:(l.weights.length:Int)<=600
          · rw[decide_eq_true w3,decide_eq_false (by omega)];rfl
          · rw[decide_eq_false w3,decide_eq_true (by omega)];rfl
      · rw[decide_eq_false w2,decide_eq_true (show l.size>s.w by omega)];rfl
    · rw[decide_eq_false w1,decide_eq_true (show l.size>s.h by omega)];rfl
  have win:l.kind=2\/l.kind=3->_:=λh23=>by
    have e1:inB l.kind 0 5=true:=by rw[cd];omega
    have e2:inB l.kind 1 3=true:=by rw[cd];omega
    have e3:decide (l.kind<=1)=false:=decide_eq_false (by omega)
    have e4:(decide (l.kind=2)||decide (l.kind=3))=true:=by simpa using h23
    have e5:decide (l.kind=4)=false:=decide_eq_false (by omega);have e6:decide (l.kind=5)=false:=decide_eq_false (by omega);exact And.intro e1 (And.intro e2 (And.intro e3 (And.intro e4 (And.intro e5 e6))))
  by_cases h23:l.kind=2\/l.kind=3
  · obtain⟨e1,e2,e3,e4,e5,e6⟩:=win h23;simp only[e1,e2,e3,e4,e5,e6,decide_eq_false k0,decide_eq_false k1,yL,shapeOf,cond_true,cond_false];unfold LJ;cases hz:inB l.size 1 3
    · rfl
    cases ht:inB l.step 1 2
    · rfl
    rw[cd]at hz ht;simp only[Ry,cond_true];rw[decide_eq_false (show¬l.step=0 by omega)];cases sj l
    · simp only[Sp,Tu,cond_false];rfl
    cases decide (l.zero=0)
    · simp only[Sp,Tu,cond_false];rfl
    simp only[cond_false,cond_true,TE,Ry];by_cases w1:l.size<=s.h
    · rw[decide_eq_true w1,decide_eq_false (show¬l.size>s.h by omega)];by_cases w2:l.size<=s.w
      · rw[decide_eq_true w2,decide_eq_false (show¬l.size>s.w by omega)];rfl
      · rw[decide_eq_false w2,decide_eq_true (show l.size>s.w by omega)];rfl
    · rw[decide_eq_false w1,decide_eq_true (show l.size>s.h by omega)];rfl
  have e4:(decide (l.kind=2)||decide (l.kind=3))=false:=by simpa using h23
  by_cases k4:l.kind=4
  · simp only[k4,e4,yL,shapeOf,show inB 4 0 5=true from rfl,show inB 4 1 3=false from rfl,decide_true,cond_true,cond_false,show decide ((4:Int)=0)=false from rfl,show decide ((4:Int)=1)=false from rfl,show decide ((4:Int)<=1)=false from rfl,
      show(decide ((4:Int)=2)||decide ((4:Int)=3))=false from rfl,show decide ((4:Int)=5)=false from rfl]
    cases o5 l<;>cases sj l<;>cases inB l.zero (-128) 127<;>rfl
  by_cases k5:l.kind=5
  · simp only[k5,yL,shapeOf,show inB 5 0 5=true from rfl,show inB 5 1 3=false from rfl,decide_true,cond_true,cond_false,show decide ((5:Int)=0)=false from rfl,show decide ((5:Int)=1)=false from rfl,show decide ((5:Int)<=1)=false from rfl,
      show(decide ((5:Int)=2)||decide ((5:Int)=3))=false from rfl,show decide ((5:Int)=4)=false from rfl]
    by_cases z:s.size<=8
    · rw[decide_eq_true z,decide_eq_false (show¬s.size>8 by omega)];cases o5 l<;>cases sj l<;>cases decide (l.zero=0)<;>rfl
    · rw[decide_eq_false z,decide_eq_true (show s.size>8 by omega)];cases o5 l<;>cases sj l<;>cases decide (l.zero=0)<;>rfl
  · have e1:inB l.kind 0 5=false:=by rw[<-Bool.not_eq_true,cd];omega
    simp only[e1,e4,decide_eq_false k0,decide_eq_false k1,decide_eq_false k4,decide_eq_false k5,cond_false];rfl
theorem tQ (k:Nat) (l:aj):eP k l=some (o5 l):=by
 unfold eP o5;simp only[ED,jl]
theorem vh (k:Nat) (l:aj):eB k l=some (sj l):=by
 unfold eB sj;simp only[ED,jl]
theorem sk (k:Nat) (s:Shape) (l:aj):dV k l s=some (LJ s l):=by
 unfold dV LJ;simp only[fy,aa,jl]
 congr 1
 rw[TF];simp only[Rq,cd,decide_eq_true_eq];split<;>split<;>constructor<;>intro h<;>omega
theorem GO {k:Nat} {xs:List Int} (hk:xs.length<k) (hx:xs.length<=ue):aP k xs=some (!xs.all (λx=>inB x (-1000000) 1000000)):=by
 unfold ue at hx;unfold aP bA
 rw[eM xs (λx=>!inB x (-1000000) 1000000) (λi hi next=>by
  simp only[aO,ab,gO,fy,aa]
  rw[if_pos (by omega),aC,ag hi,aa,ay hi (by omega)]) (λnext=>by
  simp only[aO,ab];rw[if_neg (by omega)]) hk]
 rw[cK];simp only[aa,nB];rw[S8];simp
theorem sn {k:Nat} {l:aj} {n:Int} (hk:l.tot<k) (hN:l.tot<=aN):fm k l n=some (H8 l&&decide ((l.weights.length:Int)=IntKind.i64.wrap (l.out*n))):=by
 have hM:=aq;unfold aj.tot at hk hN;unfold fm H8;simp only[fy,aa,tO (xs:=l.weights) (k:=k) (by omega) (by unfold ue;omega),GO (xs:=l.cG) (k:=k) (by omega) (by unfold ue;omega),ED,TP,jl]
 congr 1
 cases inB l.out 1 8<;>cases inB l.mult 0 2147483647<;>cases inB l.shift 0 31<;>cases inB l.zero (-128) 127<;>cases decide ((l.weights.length:Int)=IntKind.i64.wrap (l.out*n))<;>cases rC l.weights<;>cases decide ((l.cG.length:Int)=l.out)<;>cases l.cG.all (λx=>inB x (-1000000) 1000000)<;>rfl
theorem iP (k:Nat) {s:Shape} {l:aj} (c:Int) (h:1<=l.step):eQ k l s c=some (qW s l c):=by
 unfold eQ qW;rw[decide_eq_false (show¬l.step=0 by omega)];rfl
theorem oJ {k:Nat} {s:Shape} {l:aj} (hk:l.tot<k) (hN:l.tot<=aN):k9 k s l=some (gJ s l):=by
 unfold k9 gJ iO;simp only[pU,fy,si,tQ,vh,sk,sn hk hN,aa,dm,ED];cases hs:s.okB
 ·rfl
 obtain⟨c1,c2,c3,c4,c5,c6⟩:=Shape.tN hs;simp only[cond_true,Ry];by_cases k0:l.kind=0
 ·simp only[k0,shapeOf,decide_true,cond_true];cases hnum:H8 l
  ·cases decide (s.size<=64)<;>cases o5 l<;>rfl
  obtain⟨o1,o2⟩:=wQ hnum;simp only[Bb o1 o2];cases decide (s.size<=64)<;>cases o5 l<;>cases decide ((l.weights.length:Int)=l.out*s.size)<;>rfl
 by_cases k1:l.kind=1
 ·simp only[k1,shapeOf,show decide ((1:Int)=0)=false from rfl,decide_true,cond_true,cond_false];cases hw:LJ s l
  ·rfl
  have hw:=pW hw;cases hnum:H8 l
  ·cases decide ((l.weights.length:Int)<=600)<;>rfl
  obtain⟨o1,o2⟩:=wQ hnum;simp only[(EE o1 o2 hw.1 hw.2.1 c5 c6).2,iP k _ hw.2.2.1,aa];cases decide ((l.weights.length:Int)<=600)<;>cases decide ((l.weights.length:Int)=l.out*l.size*l.size*s.c)<;>rfl
 simp only[decide_eq_false k0,decide_eq_false k1,cond_false];by_cases k2:l.kind=2
 ·simp only[k2,shapeOf,decide_true,Bool.true_or,cond_true,cond_false,show decide ((2:Int)=0)=false from rfl,show decide ((2:Int)=1)=false from rfl,show decide ((2:Int)=4)=false from rfl,show decide ((2:Int)=5)=false from rfl];cases hw:LJ s l
  ·rfl
  have hw:=pW hw;simp only[iP k _ hw.2.2.1,aa];cases sj l<;>cases decide (l.zero=0)<;>rfl
 by_cases k3:l.kind=3
 ·simp only[k3,shapeOf,decide_true,S5,cond_true,cond_false,show decide ((3:Int)=0)=false from rfl,show decide ((3:Int)=1)=false from rfl,show decide ((3:Int)=2)=false from rfl,show decide ((3:Int)=4)=false from rfl,show decide ((3:Int)=5)=false from rfl];cases hw:LJ s l
  ·rfl
  have hw:=pW hw;simp only[iP k _ hw.2.2.1,aa];cases sj l<;>cases decide (l.zero=0)<;>rfl
 simp only[decide_eq_false k2,decide_eq_false k3,Bool.or_self,cond_false];by_cases k4:l.kind=4
 ·simp only[k4,shapeOf,decide_true,cond_true,cond_false,show decide ((4:Int)=0)=false from rfl,show decide ((4:Int)=1)=false from rfl];cases o5 l<;>cases sj l<;>cases inB l.zero (-128) 127<;>rfl
 by_cases k5:l.kind=5
 ·simp only[k5,shapeOf,decide_true,cond_true,cond_false,show decide ((5:Int)=0)=false from rfl,show decide ((5:Int)=1)=false from rfl,show decide ((5:Int)=4)=false from rfl];cases o5 l<;>cases sj l<;>cases decide (l.zero=0)<;>cases decide (s.size<=8)<;>rfl
 simp only[decide_eq_false k4,decide_eq_false k5,cond_false];rfl
def cM:Shape->List aj->Option (List Shape)
 |_,[]=>some []
 |s,l::ls=>cond (iO s l) ((cM (shapeOf s l) ls).map (shapeOf s l::·)) none
theorem rD:∀(ls:List aj) (s:Shape) (t:List Shape),cM s ls=some t->t.length=ls.length
 |[],s,t,h=>by cases h;rfl
 |l::ls,s,t,h=>by
  simp only[cM]at h;cases hb:iO s l<;>simp only[hb,cond_true,cond_false]at h
  ·exact nomatch h
  ·obtain⟨t',h1,rfl⟩:=Rv.1 h;simp[rD ls _ _ h1]
theorem sq {R:Type} {ao:List aj} {V:Type} {st:Nat->List Shape->Shape->V} {g:V->(V->Option R)->Option R} {fin:List Shape->Option R} {bad:Option R}
    (h:∀(i:Nat) (ys:List Shape) (s:Shape) (hi:i<ao.length) (next:V->Option R),ys.length=i+1->ys[i]? =some s->g (st i ys s) next=cond (iO s ao[i]) (next (st (i+1) (ys++[shapeOf s ao[i]]) (shapeOf s ao[i]))) bad)
    (hn:∀ys s next,g (st ao.length ys s) next=fin ys):∀(rest:List aj) (i:Nat) (ys:List Shape) (s:Shape) (k:Nat),i<=ao.length->ao.drop i=rest->ys.length=i+1->ys[i]? =some s->rest.length<k->
      iter g k (st i ys s)=(cM s rest).elim bad λt=>fin (ys++t)
  |[],i,ys,s,0,hle,hd,hl,hs,hk=>by omega
  |_::_,i,ys,s,0,hle,hd,hl,hs,hk=>by omega
  | [], i, ys, s, k + 1, hle, hd, hl, hs, hk => by
    have h1:=congrArg List.length hd;simp only[SE,R6]at h1;rw[aF]
    have c:i=ao.length:=by omega
    subst c;rw[hn];simp[cM]
  | l :: ls, i, ys, s, k + 1, hle, hd, hl, hs, hk => by
    have hi:i<ao.length:=by
      have h1:=congrArg List.length hd;simp only[SE,RA]at h1;omega
    rw[gx hi]at hd
    injection hd with h1 h2
    rw[aF,h i ys s hi _ hl hs,h1];simp only[cM];cases hb:iO s l
    · rfl
    · simp only[cond_true];rw[sq h hn ls (i+1) (ys++[shapeOf s l]) (shapeOf s l) k (by omega) h2 (by simp[hl]) (by rw[Rs (by omega),hl];simp) (by simpa using hk)]
      cases cM (shapeOf s l) ls with
      |none=>rfl
      |some t=>simp
def dO (m:Model):List Shape× Bool:=cond (m.inp.okB&&inB (m.ao.length:Int) 1 6) ((cM m.inp m.ao).elim ([],false) λt=>(m.inp::t,true)) ([],false)
theorem tR {m:Model} {k:Nat} (hk:m.tot<k) (hN:m.tot<=aN) {l:aj} (h:l∈m.ao):l.tot<k/\l.tot<=aN:=by
 have:=da aj.tot h;unfold Model.tot at hk hN;omega
theorem gd {m:Model} {k:Nat} (hk:m.tot<k) (hN:m.tot<=aN):m.ao.length<k/\m.ao.length<=aN:=by
 have:=aS aj.tot m.ao;unfold Model.tot at hk hN;omega
theorem mV {k:Nat} {m:Model} (hk:m.tot<k) (hN:m.tot<=aN):ji k m=some (dO m):=by
  have hM:=aq;obtain⟨hlk,hlN⟩:=gd hk hN;unfold ji dO;simp only[j6,cy,aa,dm];cases m.inp.okB
  · rfl
  cases hlen:inB (m.ao.length:Int) 1 6
  · rfl
  rw[cd]at hlen;simp only[cond_true,Ry]
  have:=sq (ao:=m.ao) (V:=Int× List Shape) (st:=λi ys s=>((i:Int),ys)) (fin:=λy=>some (y,true)) (bad:=some (([]:List Shape),false))
    (g:=λu next=>gz k (m.inp.h,m.inp.w,m.inp.c,m.ao) u next (λy6=>some (y6,true)) (λy7=>some (([]:List Shape),y7))) (λi ys s hi next hl hs=>by
      obtain⟨a1,a2⟩:=tR hk hN (Rx hi);simp only[gz];rw[ab,if_pos (by omega),ab,if_pos (by omega),Rr,hs,aa,aC,ag hi,aa,oI a1 a2,aa,ay hi (by omega),cw (by simp;omega)];unfold gJ
      cases iO s m.ao[i]<;>rfl) (λys s next=>by
      simp only[gz];rw[ab,if_neg (by omega)]) m.ao 0 [m.inp] m.inp k (by omega) rfl rfl rfl hlk
  refine this.trans ?_;cases cM m.inp m.ao<;>rfl
def tS (m:Model):List Shape× Bool:=(cM m.inp m.ao).elim ([],false) λt=>(m.inp::t,true)
theorem nD {k:Nat} {m:Model} (hk:m.tot<k) (hN:m.tot<aN):gB k m=some (tS m):=by
  have hM:=aq;obtain⟨hlk,hlN⟩:=gd hk (TQ hN)
  have hb:m.ao.length+1<=aN:=by have:=aS aj.tot m.ao;unfold Model.tot at hN;omega
  unfold gB tS
  have := sq (ao := m.ao) (V := Int × List Shape × Int × Int × Int) (st := λ i ys s => ((i : Int), ys, s.h, s.w, s.c)) (fin := λ y => some (y, true)) (bad := some (([] : List Shape), false))
      (g:=λu next=>eR k (m.ao,(m.ao.length:Int)) u next (λy3=>some (y3,true)) (λy4=>some (([]:List Shape),y4))) (λi ys s hi next hl hs=>by
        obtain⟨a1,a2⟩:=tR hk (TQ hN) (Rx hi);simp only[eR];rw[ab,if_pos (by omega),aC,ag hi,aa,oJ a1 a2,aa,ay hi (by omega),cw (by simp;omega)];unfold gJ
        cases iO s m.ao[i]<;>rfl) (λys s next=>by
        simp only[eR];rw[ab,if_neg (by omega)]) m.ao 0 [m.inp] m.inp k (by omega) rfl rfl rfl hlk
  refine this.trans ?_;cases cM m.inp m.ao<;>rfl
theorem Jz {s:Shape} {ls:List aj} (hs:s.okB=false) (hl:ls≠[]):cM s ls=none:=by
 cases ls with
 |nil=>exact(hl rfl).elim
 |cons l ls=>simp[cM,iO,hs]
def et (m:Model):Bool:=(dO m).2
theorem vU {m:Model} (h:inB (m.ao.length:Int) 1 6=true):tS m=dO m:=by
 unfold tS dO;rw[h,TE];cases hs:m.inp.okB
 ·rw[Jz hs (λe=>by rw[e]at h;exact nomatch h)];rfl
 ·rfl
theorem Bc {m:Model} (h:inB (m.ao.length:Int) 1 6=false):et m=false:=by
 unfold et dO;rw[h,Tu];rfl
theorem vV {k:Nat} {m:Model} (hk:m.tot<k) (hN:m.tot<=aN):pQ k m=some (et m):=by
 unfold pQ;rw[mV hk hN];rfl
theorem pX {k:Nat} {m:Model} (hk:m.tot<k) (hN:m.tot<aN):lB k m=some (et m):=by
 unfold lB;rw[fy,aa,dm,nD hk hN];cases h:inB (m.ao.length:Int) 1 6
 ·rw[Bc h];rfl
 ·rw[vU h];rfl
def b8 (m:Model):List Shape:=cond (et m) (dO m).1 []
theorem tT {k:Nat} {m:Model} (hk:m.tot<k) (hN:m.tot<aN):nr k m=some (b8 m):=by
 unfold nr b8;rw[pX hk hN,aa,dm,nD hk hN];cases h:et m
 ·rfl
 ·have:inB (m.ao.length:Int) 1 6=true:=by
   cases h2:inB (m.ao.length:Int) 1 6
   ·rw[Bc h2]at h;exact nomatch h
   ·rfl
  rw[vU this];rfl
theorem mB {m:Model} (h:et m=true):(b8 m).length=m.ao.length+1:=by
 unfold b8;rw[h,cond_true];unfold et at h;unfold dO at h⊢;cases h1:(m.inp.okB&&inB (m.ao.length:Int) 1 6)<;>rw[h1]at h
 ·exact nomatch h
 ·simp only[cond_true]at h⊢
  cases h2:cM m.inp m.ao with
  |none=>rw[h2]at h;exact nomatch h
  |some t=>simp[rD _ _ _ h2]
def LK (s t:Shape) (l:aj):Int:=
  cond (decide (l.kind=0)) (IntKind.i64.wrap (1+(IntKind.i64.wrap ((IntKind.i64.wrap (t.size*s.size)).tdiv 16))))
  (cond (decide (l.kind=1)) (IntKind.i64.wrap (1+(IntKind.i64.wrap ((IntKind.i64.wrap ((IntKind.i64.wrap ((IntKind.i64.wrap (t.size*l.size))*l.size))*s.c)).tdiv 16))))
  (cond (decide (l.kind=2)) (IntKind.i64.wrap (1+(IntKind.i64.wrap ((IntKind.i64.wrap ((IntKind.i64.wrap (t.size*l.size))*l.size)).tdiv 16))))
  (cond (decide (l.kind=3)) (IntKind.i64.wrap (1+(IntKind.i64.wrap ((IntKind.i64.wrap ((IntKind.i64.wrap (t.size*l.size))*l.size)).tdiv 16))))
   (IntKind.i64.wrap (1+(IntKind.i64.wrap (s.size.tdiv 16)))))))
def yM (s:Shape) (l:aj):Int:=cond (gJ s l).2 (LK s (gJ s l).1 l) 0
theorem GP {k:Nat} {s:Shape} {l:aj} (hk:l.tot<k) (hN:l.tot<=aN):wJ k s l=some (yM s l):=by
 unfold wJ yM LK;simp only[oI hk hN,oG,aa,dm,ED];cases(gJ s l).2
 ·rfl
 simp only[cond_true];cases decide (l.kind=0)<;>cases decide (l.kind=1)<;>cases decide (l.kind=2)<;>cases decide (l.kind=3)<;>rfl
theorem GQ {k:Nat} {s:Shape} {l:aj} (hk:l.tot<k) (hN:l.tot<=aN):wK k s l=some (yM s l):=by
 unfold wK yM LK;simp only[oJ hk hN,si,aa,dm,ED];rw[Int.mul_comm s.size];cases(gJ s l).2
 ·rfl
 simp only[cond_true];cases decide (l.kind=0)<;>cases decide (l.kind=1)<;>cases decide (l.kind=2)<;>cases decide (l.kind=3)<;>rfl
def bo (m:Model):List Int:=cond (et m) ((List.range m.ao.length).map λi=>yM ((b8 m).getD i jm) (m.ao.getD i ⟨0,0,0,0,0,0,0,[],[]⟩)) []
theorem bJ {α:Type} {xs:List α} {i:Nat} (h:i<xs.length) (d:α):xs.getD i d=xs[i]:=by rw[RU,ag h];rfl
theorem j8 {k:Nat} {m:Model} (hk:m.tot<k) (hN:m.tot<=aN):jS k m=some (bo m):=by
 have hM:=aq;obtain⟨hlk,hlN⟩:=gd hk hN;unfold jS bo;rw[mV hk hN,aa,dm];show cond (et m) _ _=_;cases h:et m
 ·rfl
 have hsl:=mB h
 have e:(dO m).1=b8 m:=by unfold b8;rw[h];rfl
 simp only[cond_true,e]
 exact LI m.ao.length _ (g:=λu next=>jR k (m.inp.h,m.inp.w,m.inp.c,m.ao,b8 m) u next (λy5=>some y5)) (fin:=some) (λi ys hi next hl=>by
  obtain⟨a1,a2⟩:=tR hk hN (Rx hi);simp only[jR]
  rw[ab,if_pos (by omega),ab,if_pos (by omega),Rr,ag (show i<(b8 m).length by omega),aa,aC,ag hi,aa,GP a1 a2,aa,cw (by simp;omega),ay hi (by omega),bJ (show i<(b8 m).length by omega),bJ hi]) (λys next=>by
  simp only[jR];rw[ab,if_neg (by omega)]) hlk
theorem j9 {k:Nat} {m:Model} (hk:m.tot+1<k) (hN:m.tot<aN):jU k m=some (bo m):=by
  have hM:=aq;obtain⟨hlk,hlN⟩:=gd (show m.tot<k-1 by omega) (TQ hN);unfold jU bo;rw[tT (by omega) hN,aa];cases h:et m
  · have:b8 m=[]:=by unfold b8;rw[h];rfl
    rw[this]
    cases k with
    |zero=>omega
    |succ k=>rfl
  have hsl:=mB h;simp only[cond_true];rw[hsl]
  have := fb (R := List Int) (g := λ u next => jT k (((m.ao.length + 1 : Nat) : Int), m.inp.h, m.inp.w, m.inp.c, m.ao, b8 m) u next (λ y5 => some y5)) (n := m.ao.length + 1)
    (st:=λi=>((i:Int),(List.range (min i m.ao.length)).map λi=>yM ((b8 m).getD i jm) (m.ao.getD i ⟨0,0,0,0,0,0,0,[],[]⟩)))
    (r := some ((List.range m.ao.length).map λ i => yM ((b8 m).getD i jm) (m.ao.getD i ⟨0, 0, 0, 0, 0, 0, 0, [], []⟩))) (λ i hi next => by
      simp only[jT];rw[ab,if_pos (by omega),ab,if_pos (by omega),Rr,ag (show i<(b8 m).length by omega),aa,ay hi (by omega),ab];by_cases c:i<m.ao.length
      · obtain⟨a1,a2⟩:=tR (show m.tot<k by omega) (TQ hN) (Rx c);rw[if_pos (by omega),aC,ag c,aa,GQ a1 a2,aa,cw (by simp;omega),TG (by omega),TG (by omega),S1,SB,List.map_singleton,bJ (show i<(b8 m).length by omega),bJ c]
      · rw[if_neg (by omega),Nat.min_eq_right (by omega),Nat.min_eq_right (by omega)]) (λnext=>by
      simp only[jT]
      rw[ab,if_neg (by omega),Nat.min_eq_right (by omega)]) (k:=k) (by omega)
  simpa using this
def yN (m:Model):Int:=(bo m).foldl (λs x=>IntKind.i64.wrap (s+x)) 0
theorem jn (m:Model):(bo m).length<=m.ao.length:=by
 unfold bo;cases et m<;>simp
theorem zZ {k:Nat} {m:Model} (hk:m.tot<k) (hN:m.tot<=aN):ot k m=some (yN m):=by
 have hM:=aq;obtain⟨hlk,hlN⟩:=gd hk hN;have hc:=jn m;unfold ot;rw[j8 hk hN,aa]
 exact pL (bo m) (λs x=>IntKind.i64.wrap (s+x)) (g:=λu next=>gA k (bo m) u next (λy3=>some y3)) (fin:=some) 0 (λi s hi next _=>by
  simp only[gA]
  rw[ab,if_pos (by omega),ab,if_pos (by omega),Rr,ag hi,aa,ay hi (by omega)]) (λnext=>by
  simp only[gA];rw[ab,if_neg (by omega)]) (by omega)
theorem CB {k:Nat} {xs:List Int} (hk:xs.length<k) (hN:xs.length<=aN):LD k xs=some (xs.foldl (λs x=>IntKind.i64.wrap (s+x)) 0):=by
 have hM:=aq
 exact pL xs (λs x=>IntKind.i64.wrap (s+x)) (g:=λu next=>tq k (xs,(xs.length:Int)) u next (λy2=>some y2)) (fin:=some) 0 (λi s hi next _=>by
  simp only[tq]
  rw[ab,if_pos (by omega),aC,ag hi,aa,ay hi (by omega)]) (λnext=>by
  simp only[tq];rw[ab,if_neg (by omega)]) hk
theorem Aa {k:Nat} {m:Model} (hk:m.tot+1<k) (hN:m.tot<aN):ou k m=some (yN m):=by
 obtain⟨hlk,hlN⟩:=gd (show m.tot<k by omega) (TQ hN);have hc:=jn m;unfold ou;rw[j9 hk hN,aa,CB (by omega) (by omega)];rfl
end
section
theorem vi {k:Nat} {xs:List aj} {m:Int} (hk:dj aj.tot xs<k) (hN:dj aj.tot xs<=aN) (h0:0<=m) (hB:m+16*dj aj.tot xs<=sE):
    ∃r ys,lC k xs m=some (r,ys)/\m<=r/\r<=m+16*dj aj.tot xs/\ys.length=xs.length/\pR k ys m=some r:=by
  have ht:dj aj.tot xs=dj aj.tot xs:=rfl;have hN2:=aq;have hlen:=aS aj.tot xs;unfold sE at hB
  obtain⟨r,out,a1,a2,a3,a4,a5⟩:=ni (t:=aj.tot) (N:=xs.length) (g:=λu next=>eg k () u next (λy=>some (y.1,y.2))) (fin:=λy=>some (y.1,y.2)) (hd:=λys u next=>fG k ys u next (λy=>some y) (λy=>some y))
    (λm ys next hl=>by simp only[eg,ab];rw[if_neg (by omega)]) (λys m next hl=>by simp only[fG,ab];rw[if_neg (by omega)]) xs [] m k (by simp) (by omega) h0 (by unfold sE;omega)
    (λx hm m h0 hB=>by
      have hmt:=da aj.tot hm;rw[ht]at hmt;unfold sE at hB
      have hxk:x.tot<k:=by omega
      have hxN:x.tot<=aN:=by omega
      clear hmt hm;unfold aj.tot at hxk hxN hB⊢;obtain⟨r0,y0,e0,a0,b0,l0,h0⟩:=iN (k:=k) (xs:=x.weights) (m:=m+1+1+1+1+1+1+1) (by omega) (by omega) (by omega) (by unfold sE;omega);obtain⟨r1,y1,e1,a1,b1,l1,h1⟩:=iN (k:=k) (xs:=x.cG) (m:=r0) (by omega) (by omega) (by omega) (by unfold sE;omega);refine⟨r1,(⟨m,m+1,m+1+1,m+1+1+1,m+1+1+1+1,m+1+1+1+1+1,m+1+1+1+1+1+1,y0,y1⟩:aj),by omega,by omega,λi ys next hl hi hx=>?_,λi ys next hl hi hy=>?_⟩
      · simp(disch:=first|omega|(simp only[RW];omega))only[eg,ab,if_pos,Rr,aG,RW,R7,List.set_set,hx,aa,e0,e1]
      · simp(disch:=omega)only[fG,ab,if_pos,if_neg,aC,hy,aa,jv,aG,if_true,h0,h1])
  rw[ht]at a4;exact⟨r,out,a2,a3,a4,a1,a5 k (by omega)⟩
end
section
end
section
theorem EF {k:Nat} {l:aj} (hk:l.tot<k) (hN:l.tot<=aN):tv k l=some l:=by
 unfold aj.tot at hk hN;unfold tv;rw[j7 (by omega) (by omega),aa,j7 (by omega) (by omega)];rfl
theorem vj {k:Nat} {l:aj} (hN:l.tot<=aN):jA k l=some l:=by
 unfold aj.tot at hN;unfold jA;rw[cL (by omega),aa,cL (by omega)];rfl
theorem vk {k:Nat} {xs:List aj} (hk:dj aj.tot xs<k) (hN:dj aj.tot xs<=aN):mS k xs=some xs:=by
 have hM:=aq;have hl:=aS aj.tot xs
 have:=tb xs (λx=>x) (g:=λu next=>eS k (xs,(xs.length:Int)) u next (λy3=>some y3)) (fin:=some) (λi ys hi next hys=>by
  have hm:=da aj.tot (Rx hi);simp only[eS]
  rw[ab,if_pos (by omega),aC,ag hi,aa,vj (by omega),aa,cw (by omega),ay hi (by omega)]) (λys next=>by
  simp only[eS];rw[ab,if_neg (by omega)]) (k:=k) (by omega)
 rw[TR]at this;exact this
theorem nE {k:Nat} {m:Model} (hk:m.tot<k) (hN:m.tot<=aN):gC k m=some m:=by
 unfold Model.tot at hk hN;unfold gC;rw[vk (by omega) (by omega)];rfl
theorem pY {k:Nat} {m:Model} (hk:m.tot<k) (hN:m.tot<=aN):pS k m=some m:=by
 have hM:=aq;obtain⟨hlk,hlN⟩:=gd hk hN
 have:=tb m.ao (λx=>x) (g:=λu next=>jV k (m.inp.h,m.inp.w,m.inp.c,m.ao,(0:Int),(0:Int),(0:Int),m.inp.h,m.inp.w,m.inp.c) u next (λy3=>some (⟨m.inp,y3⟩:Model))) (fin:=λy3=>some (⟨m.inp,y3⟩:Model)) (λi ys hi next hys=>by
  obtain⟨a1,a2⟩:=tR hk hN (Rx hi);simp only[jV]
  rw[ab,if_pos (by omega),aC,ag hi,aa,EF a1 a2,aa,cw (by omega),ay hi (by omega)]) (λys next=>by
  simp only[jV];rw[ab,if_neg (by omega)]) (k:=k) hlk
 rw[TR]at this;exact this
theorem yO {k:Nat} {j:Job} (hk:j.tot<k) (hN:j.tot<=aN):ma k j=some j:=by
 unfold Job.tot al.tot at hk hN;unfold ma;rw[nE (by omega) (by omega),aa,mA (by omega)];rfl
def cX:Model:=⟨⟨0,0,0⟩,[]⟩
end
section
def Q7 (xs:List Int):Int:=xs.foldl (λs x=>IntKind.i64.wrap (s+x)) 0
theorem LM (a b:Shape):(cond (a.h==b.h) (cond (a.w==b.w) (cond (a.c==b.c) (true) false) false) false)=decide (a=b):=by
 obtain⟨a1,a2,a3⟩:=a;obtain⟨b1,b2,b3⟩:=b;by_cases h1:a1=b1<;>by_cases h2:a2=b2<;>by_cases h3:a3=b3<;>simp[h1,h2,h3]
def uf (j:Job):Bool:=et j.model&&(inB j.at_ 0 j.model.ao.length&&(j.act.okB&&(decide (j.act.sh=(b8 j.model).getD j.at_.toNat jm)&&decide (j.iR=Q7 ((bo j.model).take j.at_.toNat)))))
theorem hJ {m:Model} (h:et m=true):(bo m).length=m.ao.length:=by
 unfold bo;rw[h];simp
theorem Bd {k:Nat} {j:Job} (hk:j.tot+1<k) (hN:j.tot<aN):yE k j=some (uf j):=by
 have hM:=aq;unfold Job.tot al.tot at hk hN
 have hmk:j.model.tot+1<k:=by omega
 have hmN:j.model.tot<aN:=by omega
 obtain⟨hlk,hlN⟩:=gd (show j.model.tot<k by omega) (TQ hmN);unfold yE uf;rw[pX (by omega) hmN,aa];cases hm:et j.model
 ·rfl
 have hsl:=mB hm;have hcl:=hJ hm;simp only[cond_true,Ry,fy,aa];cases hin:inB j.at_ 0 j.model.ao.length
 ·rfl
 rw[cd]at hin;simp only[cond_true,Ry];rw[tP (by omega) (by unfold ue;omega),aa];cases j.act.okB
 ·rfl
 have hi:j.at_.toNat<(b8 j.model).length:=by omega
 simp only[cond_true,Ry];rw[tT (by omega) hmN,aa,ab,if_pos (by omega),ag hi,aa,LM,bJ hi];cases decide (j.act.sh=(b8 j.model)[j.at_.toNat])
 ·rfl
 simp only[cond_true,Ry]
 have htl:(((bo j.model).drop 0).take (j.at_.toNat-0)).length<=(bo j.model).length:=by simp;omega
 rw[j9 hmk hmN,aa,ab,if_pos (by omega),CB (by omega) (by omega),aa,ED,TL,Sc];rfl
theorem qX {k:Nat} {j:Job} (hk:j.tot<k) (hN:j.tot<=aN):sd k j=some (uf j):=by
  have hM:=aq;unfold Job.tot al.tot at hk hN
  have hmk:j.model.tot<k:=by omega
  have hmN:j.model.tot<=aN:=by omega
  obtain⟨hlk,hlN⟩:=gd hmk hmN;unfold sd uf;rw[mV hmk hmN,aa,dm];show cond (et j.model) _ _=_;cases hm:et j.model
  · rfl
  have hsl:=mB hm;have hcl:=hJ hm
  have e:(dO j.model).1=b8 j.model:=by unfold b8;rw[hm];rfl
  simp only[cond_true,Ry,cy,aa,dm,e];cases hin:inB j.at_ 0 j.model.ao.length
  · rfl
  rw[cd]at hin;simp only[cond_true,Ry];rw[oH (by omega) (by unfold ue;omega),aa];cases j.act.okB
  · rfl
  have hi:j.at_.toNat<(b8 j.model).length:=by omega
  simp only[cond_true,Ry];rw[ab,if_pos (by omega),ag hi,aa,LM,bJ hi];cases decide (j.act.sh=(b8 j.model)[j.at_.toNat])
  · rfl
  simp only[cond_true,Ry];rw[j8 hmk hmN,aa]
  have htl:((bo j.model).take j.at_.toNat).length=j.at_.toNat:=by simp;omega
  have:=pL ((bo j.model).take j.at_.toNat) (λs x=>IntKind.i64.wrap (s+x)) (R:=Bool)
    (g:=λu next=>ns k (j.model.inp.h,j.model.inp.w,j.model.inp.c,j.model.ao,j.at_,j.act.sh.h,j.act.sh.w,j.act.sh.c,j.act.data,j.iR,bo j.model) u next (λy7=>some (j.iR==y7))) (fin:=λy7=>some (j.iR==y7)) 0 (λi s hi next _=>by
      rw[htl]at hi
      have hi2:i<(bo j.model).length:=by omega
      simp only[ns]
      rw[ab,if_pos (by omega),ab,if_pos (by omega),Rr,ag hi2,aa,ay hi2 (by omega),List.getElem_take]) (λnext=>by
      simp only[ns];rw[ab,if_neg (by omega)]) (k:=k) (by omega)
  rw[this,ED];rfl
def Q8:Job:=⟨⟨⟨0,0,0⟩,[]⟩,0,⟨⟨0,0,0⟩,[]⟩,0⟩
def de (m:Model) (t:al):Job× Bool:=cond (uf ⟨m,0,t,0⟩) (⟨m,0,t,0⟩,true) (Q8,false)
theorem CC {k:Nat} {m:Model} {t:al} (hk:m.tot+t.tot<k) (hN:m.tot+t.tot<=aN):qE k m t=some (de m t):=by
 have ht:t.tot=t.data.length:=rfl;unfold qE de;rw[pY (by omega) (by omega),aa,pV (by omega) (by omega),aa,qX (by simp only[Job.tot];omega) (by simp only[Job.tot];omega),aa,dm];cases uf ⟨m,0,t,0⟩<;>rfl
theorem CD {k:Nat} {m:Model} {t:al} (hk:m.tot+t.tot+1<k) (hN:m.tot+t.tot<aN):qF k m t=some (de m t):=by
 unfold qF de;rw[Bd (by simp only[Job.tot];omega) (by simp only[Job.tot];omega),aa,dm];cases uf ⟨m,0,t,0⟩
 ·rfl
 ·simp only[cond_true];rw[yO (by simp only[Job.tot];omega) (by simp only[Job.tot];omega)];rfl
theorem vW (m:Model) (t:al):(de m t).1.tot<=m.tot+t.tot:=by
 unfold de;cases uf ⟨m,0,t,0⟩
 ·exact R9 _
 ·simp only[cond_true,Job.tot];omega
end
section
theorem yP (w a:Nat):(BitVec.ofInt w (a:Int)).toNat=a %2^w:=by
 simp
theorem Qo {a b n:Nat} (ha:a<2^n) (hb:b*2^n+a<9223372036854775808):
  IntKind.i64.wrap (((BitVec.ofInt IntKind.i64.bits (a:Int)||| BitVec.ofInt IntKind.i64.bits ((b*2^n:Nat):Int)).toNat:Nat):Int)=((a+b*2^n:Nat):Int):=by
 have h1:a %2^64=a:=Sb (by omega);have h2:(b*2^n) %2^64=b*2^n:=Sb (by omega)
 have h3:a||| b*2^n=a+b*2^n:=by
  have:=Nat.two_pow_add_eq_or_of_lt ha b;rw[Nat.or_comm,R2 b,<-this,Nat.add_comm]
 have e:(BitVec.ofInt IntKind.i64.bits (a:Int)||| BitVec.ofInt IntKind.i64.bits ((b*2^n:Nat):Int)).toNat=a+b*2^n:=by
  rw[BitVec.toNat_or,yP,yP];show a %2^64||| (b*2^n) %2^64=_;rw[h1,h2,h3]
 rw[e,aG (by omega) (by omega)]
theorem Pq {c:Nat} (h:c<256):IntKind.i64.wrap (IntKind.u8.wrap (((BitVec.ofInt IntKind.u8.bits (c:Int)&&& BitVec.ofInt IntKind.u8.bits (127:Int)).toNat:Nat):Int))=((c %128:Nat):Int):=by
 have e:(BitVec.ofInt IntKind.u8.bits (c:Int)&&& BitVec.ofInt IntKind.u8.bits (127:Int)).toNat=c %128:=by
  rw[BitVec.toNat_and,yP];show c %2^8&&& 127=_;rw[Sb (by omega)];exact Nat.and_two_pow_sub_one_eq_mod c 7
 rw[e,Qn (by omega) (by omega),aG (by omega) (by omega)]
def pZ (b:List Int) (at_:Nat):Nat->Nat->Nat->Int× Int
  |0,_,_=>(0,-1)
  | f + 1, i, u =>
    match b[at_+i]? with
    |none=>(0,-1)
    | some c =>
      cond (decide (128<=c.toNat)) (pZ b at_ f (i+1) (u+c.toNat %128*2^(7*i)))
        (cond ((decide (0<i)&&decide (c.toNat=0))||decide (2199023255551<u+c.toNat %128*2^(7*i))) (0,-1)
          (cond (decide ((u+c.toNat %128*2^(7*i)) %2=1)) (-(((u+c.toNat %128*2^(7*i)+1)/2:Nat):Int)) (((u+c.toNat %128*2^(7*i))/2:Nat):Int),((at_+i+1:Nat):Int)))
def eG (b:List Int) (at_:Int):Int× Int:=cond (decide (0<=at_)) (pZ b at_.toNat 6 0 0) (0,-1)
theorem Be {i:Nat} (hi:i<6):(2:Int)^(min (IntKind.u64.wrap (IntKind.i64.wrap ((7:Int)*(i:Int)))).toNat IntKind.i64.bits)=((2^(7*i):Nat):Int)/\
  (2:Int)^(min (IntKind.i64.wrap ((7:Int)*(i:Int))).toNat IntKind.i64.bits)=((2^(7*i):Nat):Int):=by
 have:i=0\/i=1\/i=2\/i=3\/i=4\/i=5:=by omega
 rcases this with rfl|rfl|rfl|rfl|rfl|rfl<;>exact⟨by kernel_rfl,by kernel_rfl⟩
theorem CE {i u c:Nat} (hi:i<6) (hu:u<2^(7*i)):u+c %128*2^(7*i)<2^(7*(i+1))/\2^(7*(i+1))<=4398046511104:=by
 have h1:2^(7*(i+1))=128*2^(7*i):=by rw[show 7*(i+1)=7*i+7 from by omega,Nat.pow_add];omega
 have h2:c %128*2^(7*i)<=127*2^(7*i):=RG _ (by omega);refine⟨by omega,?_⟩
 have:i=0\/i=1\/i=2\/i=3\/i=4\/i=5:=by omega
 rcases this with rfl|rfl|rfl|rfl|rfl|rfl<;>decide
theorem NH {i u n:Nat} (hi:i<6) (hu:u<2^(7*i)) (hn:n<256):
  IntKind.i64.wrap ((u:Int)+(IntKind.i64.wrap (((IntKind.i64.wrap (n:Int)).tmod (128:Int))*2^(min (IntKind.u64.wrap (IntKind.i64.wrap ((7:Int)*(i:Int)))).toNat IntKind.i64.bits))))=((u+n %128*2^(7*i):Nat):Int):=by
 have h:=CE (c:=n) hi hu;have e:((n:Int).tmod 128)=((n %128:Nat):Int):=rfl;rw[aG (n:=(n:Int)) (by omega) (by omega),(Be hi).1,e,<-SC,aG (n:=((n %128*2^(7*i):Nat):Int)) (by omega) (by omega),<-Int.natCast_add,aG (by omega) (by omega)]
theorem NI {U:Nat} (h:U<4398046511104):IntKind.i64.wrap ((IntKind.i64.wrap (0-(IntKind.i64.wrap ((U:Int)+(1:Int))))).tdiv (2:Int))=-(((U+1)/2:Nat):Int):=by
 have e:(-(((U+1:Nat):Int))).tdiv 2=-(((U+1)/2:Nat):Int):=by rw[Int.neg_tdiv];rfl
 rw[aG (n:=(U:Int)+1) (by omega) (by omega),aG (n:=0-((U:Int)+1)) (by omega) (by omega),show(0:Int)-((U:Int)+1)=-((U+1:Nat):Int)from by omega,e,aG (by omega) (by omega)]
theorem yQ {U:Nat} (h:U<4398046511104):IntKind.i64.wrap ((U:Int).tdiv (2:Int))=((U/2:Nat):Int):=by
 have e:(U:Int).tdiv 2=((U/2:Nat):Int):=rfl;rw[e,aG (by omega) (by omega)]
theorem H9 (U:Nat):((U:Int).tmod 2==(1:Int))=decide (U %2=1):=by
 have e:(U:Int).tmod 2=((U %2:Nat):Int):=rfl;rw[ED,e]
 congr 1
 rw[eq_iff_iff];omega
theorem yR {b:List Int} {a kk:Nat} (hb:∀x∈b,okB x) (hl:b.length<=aN):∀(f i u k:Nat),i+f=6->u<2^(7*i)->f<k->
  iter (λu4 n4=>fX kk (b,(a:Int)) u4 n4 (λy2=>some ((0:Int),(-1:Int))) (λy3=>some (y3.1,y3.2))) k ((u:Int),(i:Int))=some (pZ b a f i u)
 |f,i,u,0,_,_,hk=>by omega
 |0,i,u,k+1,hi,_,_=>by
  rw[aF];simp only[fX]
  rw[ab,if_neg (by omega)];rfl
 |f+1,i,u,k+1,hi,hu,hk=>by
  have hM:=aq
  have hi6:i<6:=by omega
  rw[aF];simp only[fX,pZ];rw[ab,if_pos (by omega),ab,if_neg (by omega),aG (n:=(b.length:Int)-(i:Int)) (by omega) (by omega),ab];by_cases hin:a+i<b.length
  ·rw[if_neg (by omega),aG (n:=(a:Int)+(i:Int)) (by omega) (by omega),show(a:Int)+(i:Int)=((a+i:Nat):Int)from by omega,aC,ag hin,aa];have hc:=hb b[a+i] (Rx hin);unfold okB at hc;obtain⟨n,hn⟩:∃n:Nat,b[a+i]=(n:Int):=⟨b[a+i].toNat,by omega⟩;rw[hn]at hc⊢
   have hn256:n<256:=by omega
   obtain⟨w1,w2⟩:=CE (c:=n) hi6 hu
   have hU:u+n %128*2^(7*i)<4398046511104:=by omega
   simp only[NH hi6 hu hn256,NI hU,yQ hU,H9,Rr]
   have hsh:IntKind.u64.wrap (IntKind.i64.wrap ((7:Int)*(i:Int)))=((7*i:Nat):Int):=by
    have:i=0\/i=1\/i=2\/i=3\/i=4\/i=5:=by omega
    rcases this with rfl|rfl|rfl|rfl|rfl|rfl<;>decide
   rw[hsh,ab,if_neg (by omega),aG (n:=(n:Int)) (by omega) (by omega),aG (n:=((a+i:Nat):Int)+1) (by omega) (by omega),aG (n:=(i:Int)+1) (by omega) (by omega),ab];by_cases h128:128<=n
   ·rw[if_neg (by omega),decide_eq_true h128,cond_true];exact yR (kk:=kk) hb hl f (i+1) _ k (by omega) w1 (by omega)
   ·rw[if_pos (by omega),decide_eq_false h128,cond_false,ED]
    have e1:decide ((n:Int)=0)=decide (n=0):=by congr 1;rw[eq_iff_iff];omega
    have e2:decide ((i:Int)>0)=decide (0<i):=by congr 1;rw[eq_iff_iff];omega
    have e3:((a+i:Nat):Int)+1=((a+i+1:Nat):Int):=by omega
    have e4:decide ((((u+n %128*2^(7*i)):Nat):Int)>2199023255551)=decide (2199023255551<(u+n %128*2^(7*i))):=by congr 1;rw[eq_iff_iff];omega
    rw[e1,e2,e3,e4];cases decide (2199023255551<(u+n %128*2^(7*i)))<;>cases decide (n=0)<;>cases decide (0<i)<;>cases decide ((u+n %128*2^(7*i)) %2=1)<;>rfl
  ·rw[if_pos (by omega),RR (by omega)]
theorem CF {k:Nat} {b:List Int} {a:Int} (hk:7<=k) (hb:∀x∈b,okB x) (hl:b.length<=aN):qM k b a=some (eG b a):=by
 unfold qM eG;by_cases h:0<=a
 ·rw[decide_eq_true h,cond_true];have:=yR (kk:=k) (a:=a.toNat) hb hl 6 0 0 k rfl (by decide) (by omega);rw[Int.toNat_of_nonneg h]at this;exact this
 ·rw[decide_eq_false h,cond_false];obtain⟨k,rfl⟩:∃k',k=k'+1:=⟨k-1,by omega⟩;rw[aF];simp only[fX];rw[ab,if_pos (by omega),ab,if_pos (by omega)]
theorem Pt {i u n:Nat} (hi:i<6) (hu:u<2^(7*i)) (hn:n<256):
  IntKind.i64.wrap (((BitVec.ofInt IntKind.i64.bits (u:Int)||| BitVec.ofInt IntKind.i64.bits (IntKind.i64.wrap ((IntKind.i64.wrap (IntKind.u8.wrap (((BitVec.ofInt IntKind.u8.bits (n:Int)&&& BitVec.ofInt IntKind.u8.bits (127:Int)).toNat:Int))))*2^(min (IntKind.i64.wrap ((7:Int)*(i:Int))).toNat IntKind.i64.bits)))).toNat:Int))=((u+n %128*2^(7*i):Nat):Int):=by
 have h:=CE (c:=n) hi hu;rw[Pq hn,(Be hi).2,<-SC,aG (n:=((n %128*2^(7*i):Nat):Int)) (by omega) (by omega),Qo hu (by omega)]
theorem LN {U:Nat} (h:U<4398046511104) (ho:U %2=1):IntKind.i64.wrap ((IntKind.i64.wrap (0-(IntKind.i64.wrap ((U:Int).tdiv (2:Int)))))-(1:Int))=-(((U+1)/2:Nat):Int):=by
 rw[yQ h,aG (n:=0-((U/2:Nat):Int)) (by omega) (by omega),aG (by omega) (by omega)];omega
theorem GR (k:Nat) (x:Int):oz k x=some (inB x (-1099511627776) 1099511627775):=by unfold oz;rw[fy];rfl
theorem yS {b l:List Int} {a kk:Nat} (hb:∀x∈b,okB x) (hlN:b.length<=aN) (hl:l=(b.take (min (a+6) b.length)).drop a) (ha:a<=b.length):∀(f i u k:Nat),i+f=6->u<2^(7*i)->f<k->
    iter (λu9 n9=>iB kk ((a:Int),l,(l.length:Int)) u9 n9 (λy7=>some ((0:Int),(-1:Int))) (λy8=>some (y8.1,y8.2))) k ((u:Int),(i:Int))=some (pZ b a f i u)
  |f,i,u,0,_,_,hk=>by omega
  | 0, i, u, k + 1, hi, _, _ => by
    have hll:l.length<=6:=by rw[hl];simp;omega
    rw[aF];simp only[iB]
    rw[ab,if_neg (by omega)];rfl
  | f + 1, i, u, k + 1, hi, hu, hk => by
    have hM:=aq
    have hi6:i<6:=by omega
    have hll:l.length=min 6 (b.length-a):=by rw[hl];simp;omega
    rw[aF];generalize hnx:iter _ k=nx;simp only[iB,pZ];by_cases hin:a+i<b.length
    · have hli:i<l.length:=by omega
      have hget:l[i]=b[a+i]:=by subst hl;simp
      rw[ab,if_pos (by omega),aC,ag hli,aa,ag hin,hget];have hc:=hb b[a+i] (Rx hin);unfold okB at hc;obtain⟨n,hn⟩:∃n:Nat,b[a+i]=(n:Int):=⟨b[a+i].toNat,by omega⟩;rw[hn]at hc⊢
      have hn256:n<256:=by omega
      obtain⟨w1,w2⟩:=CE (c:=n) hi6 hu
      have hU:u+n %128*2^(7*i)<4398046511104:=by omega
      have hsh:IntKind.i64.wrap ((7:Int)*(i:Int))=((7*i:Nat):Int):=by
        rw[aG (by omega) (by omega)];omega
      have hnn:¬(IntKind.i64.wrap ((7:Int)*(i:Int))<0):=by rw[hsh];omega
      rw[decide_eq_false hnn,cond_false];simp only[Pt hi6 hu hn256,H9,Rr,GR,aa,dm];rw[aG (n:=(a:Int)+(i:Int)) (by omega) (by omega),show(a:Int)+(i:Int)=((a+i:Nat):Int)from by omega,aG (n:=((a+i:Nat):Int)+1) (by omega) (by omega),aG (n:=(i:Int)+1) (by omega) (by omega),ab];by_cases h128:128<=n
      · rw[if_pos (by omega),decide_eq_true h128,cond_true];rw[<-hnx];exact yS (kk:=kk) hb hlN hl ha f (i+1) _ k (by omega) w1 (by omega)
      · rw [if_neg (by omega), decide_eq_false h128, cond_false, ED]
        have e1:decide ((n:Int)=0)=decide (n=0):=by congr 1;rw[eq_iff_iff];omega
        have e2:decide ((i:Int)>0)=decide (0<i):=by congr 1;rw[eq_iff_iff];omega
        have e3:((a+i:Nat):Int)+1=((a+i+1:Nat):Int):=by omega
        rw[e1,e2,e3];by_cases ho:(u+n %128*2^(7*i)) %2=1
        · rw[decide_eq_true ho,LN hU ho]
          have e4:inB (-(((u+n %128*2^(7*i)+1)/2:Nat):Int)) (-1099511627776) 1099511627775=!decide (2199023255551<(u+n %128*2^(7*i))):=by
            rw[TF,cd,Tp,decide_eq_false_iff_not];constructor<;>intro h<;>omega
          rw[e4];cases decide (2199023255551<(u+n %128*2^(7*i)))<;>cases decide (n=0)<;>cases decide (0<i)<;>rfl
        · rw[decide_eq_false ho,yQ hU]
          have e4:inB (((u+n %128*2^(7*i))/2:Nat):Int) (-1099511627776) 1099511627775=!decide (2199023255551<(u+n %128*2^(7*i))):=by
            rw[TF,cd,Tp,decide_eq_false_iff_not];constructor<;>intro h<;>omega
          rw[e4];cases decide (2199023255551<(u+n %128*2^(7*i)))<;>cases decide (n=0)<;>cases decide (0<i)<;>rfl
    · rw[ab,if_neg (by omega),RR (by omega)]
theorem CG {k:Nat} {b:List Int} {a:Int} (hk:7<=k) (hb:∀x∈b,okB x) (hl:b.length<=aN):qN k b a=some (eG b a):=by
  have hM:=aq;unfold qN eG;rw[fy,aa,dm,aG (n:=(b.length:Int)-1) (by omega) (by omega)];by_cases h:0<=a
  · rw [decide_eq_true h, cond_true];by_cases h2:a<b.length
    · have e:inB a 0 ((b.length:Int)-1)=true:=cd.2 (by omega)
      have e6:(if IntKind.i64.wrap (a+6)<(b.length:Int)then IntKind.i64.wrap (a+6)else(b.length:Int))=((min (a.toNat+6) b.length:Nat):Int):=by
        rw[aG (by omega) (by omega)];split<;>omega
      rw[e,cond_true,e6,ab,if_pos (by omega),ab,if_pos (by omega),Rr];have:=yS (kk:=k) (l:=(b.take (min (a.toNat+6) b.length)).drop a.toNat) (a:=a.toNat) hb hl rfl (by omega) 6 0 0 k rfl (by decide) (by omega);rw[Int.toNat_of_nonneg h]at this;exact this
    · have e:inB a 0 ((b.length:Int)-1)=false:=by rw[<-Bool.not_eq_true,cd];omega
      rw[e,cond_false];simp only[pZ];rw[RR (by omega)]
  · have e:inB a 0 ((b.length:Int)-1)=false:=by rw[<-Bool.not_eq_true,cd];omega
    rw[decide_eq_false h,cond_false,e];rfl
end
section
def aR (b:List Int) (at_:Int) (bad:Bool):Int× Int× Bool:=
 cond bad (0,at_,true) (cond (decide ((eG b at_).2<0)) (0,at_,true) ((eG b at_).1,(eG b at_).2,false))
theorem mC {k:Nat} {b:List Int} {a:Int} {bad:Bool} (hk:7<=k) (hb:∀x∈b,okB x) (hl:b.length<=aN):cr k b a bad=some (aR b a bad):=by
 unfold cr aR;simp only[CF hk hb hl,aa,decide_true,cond_true];cases bad<;>cases decide ((eG b a).2<0)<;>rfl
theorem lL {k:Nat} {b:List Int} {a:Int} {bad:Bool} (hk:7<=k) (hb:∀x∈b,okB x) (hl:b.length<=aN):aD k ⟨b,a,bad⟩=some (aR b a bad):=by
 unfold aD aR;simp only[CG hk hb hl,aa,decide_true,cond_true];cases bad<;>cases decide ((eG b a).2<0)<;>rfl
end
section
theorem Bf {b:List Int} {a:Nat}:∀(f i u:Nat),(pZ b a f i u).2=-1\/((a:Int)<(pZ b a f i u).2/\(pZ b a f i u).2<=b.length)
 |0,i,u=>.inl rfl
 |f+1,i,u=>by
  simp only[pZ]
  cases hc:b[a+i]? with
  |none=>exact .inl rfl
  |some c=>
   have hlt:=(Of.1 hc).1;simp only;cases decide (128<=c.toNat)
   ·simp only[cond_false];cases((decide (0<i)&&decide (c.toNat=0))||decide (2199023255551<u+c.toNat %128*2^(7*i)))
    ·simp only[cond_false];right;omega
    ·exact .inl rfl
   ·exact Bf f (i+1) _
theorem EG (b:List Int) (a:Int):(eG b a).2=-1\/(0<=a/\a<(eG b a).2/\(eG b a).2<=b.length):=by
 unfold eG;by_cases h:0<=a
 ·rw[decide_eq_true h,cond_true]
  rcases Bf (b:=b) (a:=a.toNat) 6 0 0 with h1|h1
  ·exact .inl h1
  ·right;omega
 ·rw[decide_eq_false h];exact .inl rfl
def Qp (b:List Int) (a:Int):Option (Int× Int):=cond (decide ((eG b a).2<0)) none (some (eG b a))
theorem NJ {b:List Int} {a x p:Int} (h:Qp b a=some (x,p)):0<=a/\a<p/\p<=b.length:=by
 unfold Qp at h
 rcases EG b a with h1|h1
 ·rw[h1]at h;exact nomatch h
 ·rw[decide_eq_false (by omega),cond_false,It]at h;rw[h]at h1;exact h1
theorem CH (b:List Int) (a:Int):aR b a false=(Qp b a).elim (0,a,true) λq=>(q.1,q.2,false):=by
 unfold aR Qp;cases decide ((eG b a).2<0)<;>rfl
def bS (b:List Int) (a:Int) (bad:Bool) (most:Int):Int× Int× Bool:=cond (inB (aR b a bad).1 0 most) (aR b a bad) (0,(aR b a bad).2.1,true)
theorem Bg {k:Nat} {b:List Int} {a most:Int} {bad:Bool} (hk:7<=k) (hb:∀x∈b,okB x) (hl:b.length<=aN):dk k ⟨b,a,bad⟩ most=some (bS b a bad most):=by
 unfold dk bS;simp only[lL hk hb hl,fy,aa,decide_true,cond_true,dm];cases inB (aR b a bad).1 0 most<;>rfl
theorem JA {k:Nat} {b:List Int} {a:Int} {bad:Bool} (hk:7<=k) (hb:∀x∈b,okB x) (hl:b.length<=aN):ek k ⟨b,a,bad⟩=
  some (let r1:=aR b a bad;let r2:=aR b r1.2.1 r1.2.2;let r3:=aR b r2.2.1 r2.2.2;(⟨r1.1,r2.1,r3.1⟩,r3.2.1,r3.2.2)):=by
 unfold ek;simp only[lL hk hb hl,aa,decide_true,cond_true]
end
section
section
variable {R:Type} {k:Nat} {b:List Int} {m:Int} {q1 q2 q3 q4 q5 q6 q7 q8 q9 q10 q11 q12:Int} {d:List Int} {fin:Int× Bool× List Int->Option R}
end
end
section
section
variable {R:Type} {k:Nat} {b:List Int} {m:Int} {q1 q2 q3 q4 q5 q6 q7 q8 q9 q10 q11 q12:Int} {d:List Int} {fin:Int× Bool× List Int->Option R}
end
end
section
def GS (s x:Int):Int:=(IntKind.i64.wrap ((IntKind.i64.wrap ((IntKind.i64.wrap ((257:Int)*s))+(IntKind.i64.wrap x)))+(1:Int))).tmod (1000003:Int)
def GU (b:List Int):Int:=b.foldl GS 1
theorem JB {k:Nat} {b:List Int} (hk:b.length<k) (hl:b.length<=aN):Cx k b=some (GU b):=by
 have hM:=aq;unfold Cx
 exact pL b GS (g:=λu next=>nw k b u next (λy2=>some y2)) (fin:=some) 1 (λi s hi next _=>by
  simp only[nw]
  rw[ab,if_pos (by omega),aC,ag hi,aa,ay hi (by omega)];rfl) (λnext=>by
  simp only[nw];rw[ab,if_neg (by omega)]) hk
theorem JC {k:Nat} {b:List Int} (hk:b.length<k) (hl:b.length<=aN):yI k b=some (GU b):=by
 have hM:=aq;unfold yI
 exact pL b GS (g:=λu next=>ny k (b,(b.length:Int)) u next (λy2=>some y2)) (fin:=some) 1 (λi s hi next _=>by
  simp only[ny]
  rw[ab,if_pos (by omega),aC,ag hi,aa,ay hi (by omega),Int.mul_comm s 257];rfl) (λnext=>by
  simp only[ny];rw[ab,if_neg (by omega)]) hk
section
variable {R:Type} {k:Nat} {b:List Int} {m:Int}
end
end
set_option maxRecDepth 100000
set_option maxHeartbeats 4000000
section
def vX (b:List Int):Nat->Int->Bool->List Int->List Int× Int× Bool
 |0,a,bad,ys=>(ys,a,bad)
 |n+1,a,bad,ys=>cond bad (ys,a,bad) (vX b n (aR b a bad).2.1 (aR b a bad).2.2 (ys++[(aR b a bad).1]))
def qY (b:List Int) (a:Int) (bad:Bool):List Int× Int× Bool:=vX b (bS b a bad 2000).1.toNat (bS b a bad 2000).2.1 (bS b a bad 2000).2.2 []
section
variable {k:Nat} {b:List Int} (hk:7<=k) (hb:∀x∈b,okB x) (hl:b.length<=aN)
include hk hb hl
theorem Bh {a:Int} {bad:Bool}:j3 k b a bad=some (bS b a bad 2000):=by
 unfold j3 bS;simp only[mC hk hb hl,cy,aa,decide_true,cond_true,dm];cases inB (aR b a bad).1 0 2000<;>rfl
theorem yU {R:Type} {fin:List Int× Int× Bool->Option R} {m:Int}:∀(n:Nat) (i a:Int) (bad:Bool) (ys:List Int) (kf:Nat),n<kf->m=i+n->0<=i->m<=100000->ys.length+n<=100000->
  iter (λu4 n4=>eC k (m,b) u4 n4 fin) kf (i,a,bad,ys)=fin (vX b n a bad ys)
 |_,_,_,_,_,0,h,_,_,_,_=>by omega
 |0,i,a,bad,ys,kf+1,_,hm,_,_,_=>by
  rw[aF];show eC k (m,b) _ _ fin=_;unfold eC;simp only
  rw[decide_eq_false (by omega)];rfl
 |n+1,i,a,bad,ys,kf+1,hkf,hm,hi,hm2,hy=>by
  have hM:=aq;rw[aF];show eC k (m,b) _ _ fin=_;unfold eC vX;simp only;rw[decide_eq_true (by omega),cond_true];cases bad
  ·simp only[RP,cond_true,cond_false];rw[mC hk hb hl,aa,cw (by simp;omega),aG (by omega) (by omega)];exact yU n (i+1) _ _ _ kf (by omega) (by omega) (by omega) hm2 (by simp;omega)
  ·rfl
theorem yV {R:Type} {fin:List Int× Int× Bool->Option R}:∀(n:Nat) (a:Int) (bad:Bool) (ys:List Int) (kf:Nat),n<kf->ys.length+n<=100000->
  iter (λu4 n4=>bN k b u4 n4 fin) kf ((n:Int),a,bad,ys)=fin (vX b n a bad ys)
 |_,_,_,_,0,h,_=>by omega
 |0,a,bad,ys,kf+1,_,_=>by
  rw[aF];show bN k b _ _ fin=_;unfold bN;simp only
  rw[decide_eq_false (by omega)];rfl
 |n+1,a,bad,ys,kf+1,hkf,hy=>by
  have hM:=aq;rw[aF];show bN k b _ _ fin=_;unfold bN vX;simp only;rw[decide_eq_true (by omega),cond_true];cases bad
  ·simp only[RP,cond_true,cond_false];rw[lL hk hb hl,aa,cw (by simp;omega),aG (by omega) (by omega),show((n+1:Nat):Int)-1=(n:Int)from by omega];exact yV n _ _ _ kf (by omega) (by simp;omega)
  ·rfl
omit hk hb hl in
theorem qZ (b:List Int) (a:Int) (bad:Bool):0<=(bS b a bad 2000).1/\(bS b a bad 2000).1<=2000:=by
 unfold bS;cases h:inB (aR b a bad).1 0 2000
 ·simp only[cond_false];omega
 ·exact of_decide_eq_true h
theorem LO (h3:2001<k) {a:Int} {bad:Bool}:lI k b a bad=some (qY b a bad):=by
 have hc:=qZ b a bad;unfold lI;rw[Bh hk hb hl,aa];exact(yU hk hb hl (m:=(bS b a bad 2000).1) (fin:=λy3=>cond (decide (b=b)) (some (y3.1,y3.2.1,y3.2.2)) none) (bS b a bad 2000).1.toNat 0 _ _ [] k (by omega) (by omega) (by omega) (by omega) (by simp;omega)).trans (by rw[decide_eq_true rfl];rfl)
theorem JD (h3:2001<k) {a:Int} {bad:Bool}:dz k ⟨b,a,bad⟩ 2000=some (qY b a bad):=by
 have hc:=qZ b a bad;unfold dz;rw[Bg hk hb hl,aa];have:=yV hk hb hl (fin:=λy3=>cond (decide (b=b)) (some (y3.1,y3.2.1,y3.2.2)) none) (bS b a bad 2000).1.toNat (bS b a bad 2000).2.1 (bS b a bad 2000).2.2 [] k (by omega) (by simp;omega);rw[show(((bS b a bad 2000).1.toNat:Nat):Int)=(bS b a bad 2000).1 from by omega]at this;exact this.trans (by rw[decide_eq_true rfl];rfl)
omit hk hb hl in
theorem Bi (b:List Int):∀(n:Nat) (a:Int) (bad:Bool) (ys:List Int),(vX b n a bad ys).1.length<=ys.length+n
 |0,_,_,_=>RJ _
 |n+1,a,bad,ys=>by
  unfold vX;cases bad
  ·have:=Bi b n (aR b a false).2.1 (aR b a false).2.2 (ys++[(aR b a false).1]);simp only[cond_false];simp only[RD,RA,R6]at this;omega
  ·simp only[cond_true];omega
omit hk hb hl in
theorem vY (b:List Int) (a:Int) (bad:Bool):(qY b a bad).1.length<=2000:=by
 have hc:=qZ b a bad;have:=Bi b (bS b a bad 2000).1.toNat (bS b a bad 2000).2.1 (bS b a bad 2000).2.2 [];unfold qY;simp only[R6]at this;omega
end
def cN (b:List Int) (a:Int) (bad:Bool):aj× Int× Bool:=
 let r1:=aR b a bad;let r2:=aR b r1.2.1 r1.2.2;let r3:=aR b r2.2.1 r2.2.2;let r4:=aR b r3.2.1 r3.2.2;let r5:=aR b r4.2.1 r4.2.2;let r6:=aR b r5.2.1 r5.2.2;let r7:=aR b r6.2.1 r6.2.2
 let r8:=qY b r7.2.1 r7.2.2;let r9:=qY b r8.2.1 r8.2.2
 (⟨r1.1,r2.1,r3.1,r4.1,r5.1,r6.1,r7.1,r8.1,r9.1⟩,r9.2.1,r9.2.2)
def p6 (b:List Int):Nat->Int->Bool->List aj->Int× Bool× List aj
 |0,a,bad,ys=>(a,bad,ys)
 |n+1,a,bad,ys=>cond bad (a,bad,ys) (p6 b n (cN b a bad).2.1 (cN b a bad).2.2 (ys++[(cN b a bad).1]))
def dP (b:List Int):Model× Int:=
 cond (decide ((b.length:Int)>6000)) (cX,5) (cond (!decide (b.take 3=[80,77,49])) (cX,1)
  (let r2:=aR b 3 false;let r3:=aR b r2.2.1 r2.2.2;let r4:=aR b r3.2.1 r3.2.2;let r5:=bS b r4.2.1 r4.2.2 2000;let y:=p6 b r5.1.toNat r5.2.1 r5.2.2 [];let r6:=aR b y.1 y.2.1
  cond r6.2.2 (cX,2) (cond (r6.1 !=GU ((b.take y.1.toNat).drop 0)) (cX,3) (cond (r6.2.1 !=(b.length:Int)) (cX,3)
   (cond (!et ⟨⟨r2.1,r3.1,r4.1⟩,y.2.2⟩) (cX,4) (⟨⟨r2.1,r3.1,r4.1⟩,y.2.2⟩,0))))))
theorem CI (b:List Int) (a:Int) (bad:Bool):(cN b a bad).1.tot<=2000+(2000+0):=Nat.add_le_add (vY b _ _) (Nat.add_le_add (vY b _ _) (RJ 0))
theorem ra (b:List Int):∀(n:Nat) (a:Int) (bad:Bool) (ys:List aj),dj aj.tot (p6 b n a bad ys).2.2<=dj aj.tot ys+4001*n
 |0,_,_,_=>RJ _
 |n+1,a,bad,ys=>by
  unfold p6;cases bad
  ·have:=ra b n (cN b a false).2.1 (cN b a false).2.2 (ys++[(cN b a false).1]);have hL:=CI b a false;rw[sb]at this
   have h1:dj aj.tot [(cN b a false).1]=(cN b a false).1.tot+1:=by simp[dj];omega
   simp only[cond_false];omega
  ·simp only[cond_true];omega
section
variable {k:Nat} {b:List Int} (hk:9000000<=k) (hb:∀x∈b,okB x) (hl:b.length<=aN)
include hk hb hl
theorem JE {a:Int} {bad:Bool}:eo k ⟨b,a,bad⟩=some (cN b a bad):=by
 unfold eo cN;simp only[lL (show 7<=k by omega) hb hl,JD (show 7<=k by omega) hb hl (show 2001<k by omega),aa,decide_true,cond_true]
theorem tU {R:Type} {fin:Int× Bool× List aj->Option R} {m q1 q2 q3 q4 q5 q6 q7 q8 q9:Int}:∀(n:Nat) (i a:Int) (bad:Bool) (ys:List aj) (kf:Nat),n<kf->m=i+n->0<=i->m<=100000->ys.length+n<=100000->
  iter (λu19 n19=>cD k (b,m,q1,q2,q3,q4,q5,q6,b,q7,q8,q9) u19 n19 fin) kf (i,a,bad,ys)=fin (p6 b n a bad ys)
 |_,_,_,_,_,0,h,_,_,_,_=>by omega
 |0,i,a,bad,ys,kf+1,_,hm,_,_,_=>by
  rw[aF];show cD k _ _ _ fin=_;unfold cD;simp only
  rw[decide_eq_false (by omega)];rfl
 |n+1,i,a,bad,ys,kf+1,hkf,hm,hi,hm2,hy=>by
  have hM:=aq;rw[aF];cases bad
  ·have st:∀next,cD k (b,m,q1,q2,q3,q4,q5,q6,b,q7,q8,q9) (i,a,false,ys) next fin=next (i+1,(cN b a false).2.1,(cN b a false).2.2,ys++[(cN b a false).1]):=λnext=>by
    unfold cD;simp only;rw[decide_eq_true (by omega),cond_true];simp only[RP,cond_true,mC (show 7<=k by omega) hb hl,LO (show 7<=k by omega) hb hl (show 2001<k by omega),aa];rw[cw (by omega),aG (by omega) (by omega)];rfl
   exact(st _).trans (tU n (i+1) (cN b a false).2.1 (cN b a false).2.2 (ys++[(cN b a false).1]) kf (by omega) (by omega) (by omega) hm2 (by rw[RD];simp only[RA,R6];omega))
  ·show cD k _ _ _ fin=_;unfold cD;simp only;rw[decide_eq_true (by omega),cond_true];rfl
theorem tV {R:Type} {fin:Int× Bool× List aj->Option R} {q1 q2 q3 q7 q8 q9:Int}:∀(n:Nat) (a:Int) (bad:Bool) (ys:List aj) (kf:Nat),n<kf->ys.length+n<=100000->
  iter (λu9 n9=>dr k (b,q1,q2,q3,b,q7,q8,q9) u9 n9 fin) kf ((n:Int),a,bad,ys)=fin (p6 b n a bad ys)
 |_,_,_,_,0,h,_=>by omega
 |0,a,bad,ys,kf+1,_,_=>by
  rw[aF];show dr k _ _ _ fin=_;unfold dr;simp only
  rw[decide_eq_false (by omega)];rfl
 |n+1,a,bad,ys,kf+1,hkf,hy=>by
  have hM:=aq;rw[aF];show dr k _ _ _ fin=_;unfold dr p6;simp only;rw[decide_eq_true (by omega),cond_true];cases bad
  ·simp only[RP,cond_true,cond_false];rw[JE hk hb hl,aa,cw (by omega),aG (by omega) (by omega),show((n+1:Nat):Int)-1=(n:Int)from by omega];exact tV (fin:=fin) (q1:=q1) (q2:=q2) (q3:=q3) (q7:=q7) (q8:=q8) (q9:=q9) n (cN b a false).2.1 (cN b a false).2.2 (ys++[(cN b a false).1]) kf (by omega) (by rw[RD];simp only[RA,R6];omega)
  ·rfl
end
theorem yW {b:List Int} {a:Int} {bad:Bool} (h:(aR b a bad).2.2=false):0<=a/\a<=b.length:=by
 cases bad
 ·rw[CH]at h
  cases hn:Qp b a with
  |none=>rw[hn]at h;exact nomatch h
  |some q=>have:=NJ (x:=q.1) (p:=q.2) hn;omega
 ·exact nomatch h
theorem Qq {b:List Int}:(decide ((b.length:Int)>=3)=false/\decide (b.take 3=[80,77,49])=false)\/∃x y z l,b=x::y::z::l:=by
 match b with
 |[]=>exact .inl ⟨rfl,rfl⟩
 |[x]=>exact .inl ⟨rfl,by simp⟩
 |[x,y]=>exact .inl ⟨rfl,by simp⟩
 |x::y::z::l=>exact .inr ⟨x,y,z,l,rfl⟩
theorem EH (k:Nat) (b:List Int):tJ k b=some (decide (b.take 3=[80,77,49])):=by
 unfold tJ
 rcases Qq (b:=b)with⟨h1,h2⟩|⟨x,y,z,l,rfl⟩
 ·rw[h1,h2];rfl
 ·rw[decide_eq_true (by simp;omega),cond_true];have e0:idx (x::y::z::l) 0=some x:=rfl;have e1:idx (x::y::z::l) 1=some y:=rfl;have e2:idx (x::y::z::l) 2=some z:=rfl;rw[e0,e1,e2];simp only[aa,List.take_succ_cons,List.take_zero,Sl,and_true,Bool.decide_and,ED];cases decide (x=80)<;>cases decide (y=77)<;>rfl
theorem CJ {k:Nat} {b:List Int} (hb:∀x∈b,okB x) (hl:b.length<=aN):iC k b [80,77,49]=some (decide (b.take 3=[80,77,49])):=by
 have hM:=aq;unfold iC;rw[ab];by_cases h:(b.length:Int)>=(([80,77,49]:List Int).length:Int)
 ·have h':3<=b.length:=by simp at h;omega
  rw[if_pos h,decide_eq_true (show 0<=((([80,77,49]:List Int).length:Nat):Int)/\((([80,77,49]:List Int).length:Nat):Int)<=(b.length:Int) by simp;omega),cond_true,TL];rw[show((([80,77,49]:List Int).length:Nat):Int).toNat=3 from rfl];rw[zY (λx hx=>hb x (Tv hx)) (λx hx=>by simp at hx;rcases hx with rfl|rfl|rfl<;>exact⟨by omega,by omega⟩),aa]
 ·rw[if_neg h]
  rcases Qq (b:=b)with⟨_,h2⟩|⟨x,y,z,l,rfl⟩
  ·rw[h2]
  ·simp at h;omega
section
variable {k:Nat} {b:List Int} (hk:9000000<=k) (hb:∀x∈b,okB x) (hl:b.length<=aN)
include hk hb hl
theorem wq:kK k b=some (dP b):=by
 have hM:=aq;unfold kK dP;by_cases c:(b.length:Int)>6000
 ·rw[decide_eq_true c];rfl
 rw[decide_eq_false c,cond_false,cond_false,EH,aa];cases decide (b.take 3=[80,77,49])
 ·rfl
 simp only[Rw,cond_false,mC (show 7<=k by omega) hb hl,Bh (show 7<=k by omega) hb hl,aa];generalize aR b 3 false=r2;generalize aR b r2.2.1 r2.2.2=r3;generalize aR b r3.2.1 r3.2.2=r4;have hc:=qZ b r4.2.1 r4.2.2;generalize bS b r4.2.1 r4.2.2 2000=r5 at hc;refine(tU hk hb hl r5.1.toNat 0 _ _ [] k (by omega) (by omega) (by omega) (by omega) (by simp;omega)).trans ?_;have ht:=ra b r5.1.toNat r5.2.1 r5.2.2 [];rw[show dj aj.tot []=0 from rfl]at ht;generalize p6 b r5.1.toNat r5.2.1 r5.2.2 []=y at ht;cases h6:(aR b y.1 y.2.1).2.2
 ·simp only[cond_false];obtain⟨g1,g2⟩:=yW h6;rw[decide_eq_true ⟨g1,g2⟩,cond_true,JB (by simp;omega) (by simp;omega),aa];cases((aR b y.1 y.2.1).1 !=GU (List.drop 0 (b.take y.1.toNat)))
  ·simp only[cond_false];cases((aR b y.1 y.2.1).2.1 !=(b.length:Int))
   ·simp only[cond_false];rw[vV (by show dj aj.tot y.2.2+0<k;omega) (by show dj aj.tot y.2.2+0<=aN;omega),aa];generalize et _=q;cases q<;>rfl
   ·rfl
  ·rfl
 ·rfl
theorem wu:kO k b=some (dP b):=by
 have hM:=aq;unfold kO dP;by_cases c:(b.length:Int)>6000
 ·rw[decide_eq_true c];rfl
 rw[decide_eq_false c,cond_false,cond_false,CJ hb hl,aa];cases decide (b.take 3=[80,77,49])
 ·rfl
 simp only[Rw,cond_false,JA (show 7<=k by omega) hb hl,Bg (show 7<=k by omega) hb hl,aa];generalize aR b 3 false=r2;generalize aR b r2.2.1 r2.2.2=r3;generalize aR b r3.2.1 r3.2.2=r4;have hc:=qZ b r4.2.1 r4.2.2;generalize bS b r4.2.1 r4.2.2 2000=r5 at hc;have:=tV hk hb hl (q1:=0) (q2:=0) (q3:=0) (q7:=r2.1) (q8:=r3.1) (q9:=r4.1) (fin:=λy5=>(aD k (⟨b,y5.1,y5.2.1⟩:Reader)).bind λr6=>cond (r6.2.2) (some ((⟨(⟨(0:Int),(0:Int),(0:Int)⟩:Shape),([]:List aj)⟩:Model),(2:Int))) (cond (decide (0<=y5.1/\y5.1<=(b.length:Int))) ((yI k ((b.take y5.1.toNat).drop 0)).bind λr7=>cond (r6.1 !=r7) (some ((⟨(⟨(0:Int),(0:Int),(0:Int)⟩:Shape),([]:List aj)⟩:Model),(3:Int))) (cond (r6.2.1 !=(b.length:Int)) (some ((⟨(⟨(0:Int),(0:Int),(0:Int)⟩:Shape),([]:List aj)⟩:Model),(3:Int))) ((lB k (⟨⟨r2.1,r3.1,r4.1⟩,y5.2.2⟩:Model)).bind λr8=>cond (!r8) (some ((⟨(⟨(0:Int),(0:Int),(0:Int)⟩:Shape),([]:List aj)⟩:Model),(4:Int))) (some ((⟨⟨r2.1,r3.1,r4.1⟩,y5.2.2⟩:Model),(0:Int)))))) none)) r5.1.toNat r5.2.1 r5.2.2 [] k (by omega) (by simp;omega);rw[show((r5.1.toNat:Nat):Int)=r5.1 from by omega]at this;refine Eq.trans this ?_;have ht:=ra b r5.1.toNat r5.2.1 r5.2.2 [];rw[show dj aj.tot []=0 from rfl]at ht;generalize p6 b r5.1.toNat r5.2.1 r5.2.2 []=y at ht;rw[lL (show 7<=k by omega) hb hl,aa];cases h6:(aR b y.1 y.2.1).2.2
 ·simp only[cond_false];obtain⟨g1,g2⟩:=yW h6;rw[decide_eq_true ⟨g1,g2⟩,cond_true,JC (by simp;omega) (by simp;omega),aa];cases((aR b y.1 y.2.1).1 !=GU (List.drop 0 (b.take y.1.toNat)))
  ·simp only[cond_false];cases((aR b y.1 y.2.1).2.1 !=(b.length:Int))
   ·simp only[cond_false];rw[pX (by show dj aj.tot y.2.2+0<k;omega) (by show dj aj.tot y.2.2+0<aN;omega),aa];generalize et _=q;cases q<;>rfl
   ·rfl
  ·rfl
 ·rfl
end
end
section
def sat (a b x:Int):Int:=if x<a then a else if x>b then b else x
theorem EI {a b:Int} (h:a<=b) (x:Int):a<=sat a b x/\sat a b x<=b:=by
 unfold sat;by_cases h1:x<a
 ·rw[if_pos h1];omega
 ·rw[if_neg h1];by_cases h2:x>b
  ·rw[if_pos h2];omega
  ·rw[if_neg h2];omega
theorem Oj {a b x:Int} (h1:a<=x) (h2:x<=b):sat a b x=x:=by
 unfold sat;rw[if_neg (by omega),if_neg (by omega)]
theorem p7 {k:Nat} {x a b:Int} (h:a<=b):nt k x a b=some (sat a b x):=by
 unfold nt sat;rw[ab,ab,ab];by_cases h1:x<a
 ·rw[if_pos h1,if_pos h1]
 ·rw[if_neg h1,if_neg h1,if_neg (by omega)];by_cases h2:x>b
  ·rw[if_pos h2,if_pos h2]
  ·rw[if_neg h2,if_neg h2]
theorem CK {k:Nat} {x a b:Int} (h:a<=b):Jt k x a b=some (sat a b x):=by
 unfold Jt sat
 congr 1
 repeat' split
 all_goals omega
def yX (x:Int):Int:=sat (-128) 127 x
def gW (x:Int):Int:=sat (-2147483648) 2147483647 x
theorem yY (x:Int):-128<=yX x/\yX x<=127:=EI (by omega) x
theorem kP (x:Int):-2147483648<=gW x/\gW x<=2147483647:=EI (by omega) x
theorem EJ (k:Nat) (x:Int):yF k x=some (yX x):=by unfold yF yX;rw[p7 (by omega),aa]
theorem vl (k:Nat) (x:Int):mT k x=some (gW x):=by unfold mT gW;rw[p7 (by omega),aa]
theorem EK (k:Nat) (x:Int):yH k x=some (yX x):=by unfold yH yX;rw[CK (by omega),aa]
theorem vm (k:Nat) (x:Int):mU k x=some (gW x):=by unfold mU gW;rw[CK (by omega),aa]
def oX (a b:Int):Int:=gW (gW a+gW b)
theorem oK (k:Nat) (a b:Int):mb k a b=some (oX a b):=by
 have h1:=kP a;have h2:=kP b;unfold mb oX;simp only[vl,aa];rw[aG (by omega) (by omega)]
theorem yZ (k:Nat) (a b:Int):tD k a b=some (oX a b):=by
 have h1:=kP a;have h2:=kP b;unfold tD oX;simp only[vm,aa];rw[aG (by omega) (by omega)]
theorem Pu {x y A B:Int} (hx:-A<=x/\x<=A) (hy:-B<=y/\y<=B):-(A*B)<=x*y/\x*y<=A*B:=by
 have h1:=Tl (show 0<=A-x by omega) (show 0<=B+y by omega);have h2:=Tl (show 0<=A+x by omega) (show 0<=B-y by omega);have h3:=Tl (show 0<=A-x by omega) (show 0<=B-y by omega);have h4:=Tl (show 0<=A+x by omega) (show 0<=B+y by omega);simp only[Int.sub_mul,Int.add_mul,Int.mul_add,Int.mul_sub]at h1 h2 h3 h4;omega
def oL (a b:Int):Int:=gW ((gW a*gW b+1073741824)/2147483648)
theorem EL {k:Nat} {a:Int} (h1:-4611686018427387904<=a/\a<=9223372036854775807):tz k a 2147483648=some (a/2147483648):=by
 have e:=Int.mul_tdiv_add_tmod a 2147483648;have h2:=Int.tmod_lt_of_pos a (show(0:Int)<2147483648 by omega);unfold tz;rw[ab,if_neg (by omega),ab,if_neg (by omega),ab];by_cases c:0<=a
 ·have h3:=Int.tmod_nonneg 2147483648 c;rw[if_neg (by omega),aG (by omega) (by omega)]
  congr 1;omega
 ·have h3:=Int.tmod_nonneg 2147483648 (show 0<=-a by omega);have h4:=Int.tmod_lt_of_pos (-a) (show(0:Int)<2147483648 by omega);rw[Int.neg_tmod]at h3 h4;by_cases c2:a.tmod 2147483648<0
  ·rw[if_pos c2,aG (n:=a.tdiv 2147483648) (by omega) (by omega),aG (by omega) (by omega)]
   congr 1;omega
  ·rw[if_neg c2,aG (by omega) (by omega)]
   congr 1;omega
theorem Ol (a b:Int):-4611686018427387904<=gW a*gW b/\gW a*gW b<=4611686018427387904:=
 Pu (A:=2147483648) (B:=2147483648) (by have:=kP a;omega) (by have:=kP b;omega)
theorem EM (k:Nat) (a b:Int):tA k a b=some (oL a b):=by
 have h:=Ol a b;unfold tA oL;simp only[vl,aa];rw[aG (n:=gW a*gW b) (by omega) (by omega),aG (by omega) (by omega),EL (by omega),aa]
theorem EN (k:Nat) (a b:Int):tE k a b=some (oL a b):=by
 have h:=Ol a b;unfold tE oL;simp only[vm,aa];rw[aG (n:=gW a*gW b) (by omega) (by omega),aG (by omega) (by omega)]
 have e:((2:Int)^(min (31:Int).toNat IntKind.i64.bits))=2147483648:=by decide
 rw[e,Int.fdiv_eq_ediv_of_nonneg _ (by omega)]
def gq (x by_:Int):Int:=if x<0 then -((2*-x+by_)/(2*by_))else(2*x+by_)/(2*by_)
theorem Bj {a b:Int} (ha:0<=a) (hb:1<=b):0<=a/b/\a/b<=a:=
 ⟨Int.ediv_nonneg ha (by omega),Int.ediv_le_self _ ha⟩
theorem vZ {k:Nat} {x d:Int} (hx:-2147483648<=x/\x<=2147483648) (hd:1<=d/\d<=2147483648):nv k x d=some (gq x d):=by
 unfold nv ow gq;rw[aG (n:=2*d) (by omega) (by omega),ab];by_cases c:x<0
 ·rw[if_pos c,if_pos c,aG (n:=0-x) (by omega) (by omega),ab,if_neg (by omega),ab,if_neg (by omega),aa,aG (n:=2*(0-x)) (by omega) (by omega),aG (n:=2*(0-x)+d) (by omega) (by omega),Su (by omega)];have h:=Bj (a:=2*(0-x)+d) (b:=2*d) (by omega) (by omega);rw[show 2*-x+d=2*(0-x)+d from by omega];generalize (2*(0-x)+d)/(2*d)=q at h;rw[aG (n:=q) (by omega) (by omega),aG (by omega) (by omega)]
  congr 1;omega
 ·rw[if_neg c,if_neg c,ab,if_neg (by omega),aG (n:=2*x) (by omega) (by omega),aG (n:=2*x+d) (by omega) (by omega),Su (by omega)];have h:=Bj (a:=2*x+d) (b:=2*d) (by omega) (by omega);rw[aG (by omega) (by omega)]
def hY (x n:Int):Int:=gq (gW x) (2^(sat 0 31 n).toNat)
theorem za {r:Int} (h:0<=r/\r<=31):IntKind.i64.wrap ((1:Int)*2^(min r.toNat IntKind.i64.bits))=2^r.toNat/\(1:Int)<=2^r.toNat/\(2:Int)^r.toNat<=2147483648:=by
 have hb:IntKind.i64.bits=64:=rfl;have h1:(2:Nat)^r.toNat<=2^31:=Nat.pow_le_pow_right (by omega) (by omega);have h2:1<=(2:Nat)^r.toNat:=Nat.one_le_two_pow
 have e:((2^r.toNat:Nat):Int)=2^r.toNat:=by simp
 rw[hb,TG (by omega),Int.one_mul];rw[<-e];refine⟨aG (by omega) (by omega),by omega,by omega⟩
theorem Ia {v:Int} {s:Nat}:(v+(2^s:Int)/2)/2^s=(2*v+2^s)/(2*2^s):=by
 cases s with
 |zero=>omega
 |succ s=>
  have e:(2:Int)^(s+1)=2*2^s:=by rw[Int.pow_succ,Int.mul_comm]
  rw[e]
  have e2:2*v+2*(2:Int)^s=2*(v+2^s):=by rw[Int.mul_add]
  rw[e2,Int.mul_ediv_mul_of_pos _ _ (by omega:(0:Int)<2),Int.mul_ediv_cancel_left _ (by omega:(2:Int)≠0)]
theorem zb (k:Nat) (x n:Int):mq k x n=some (hY x n):=by
 have h1:=kP x;have h2:=EI (a:=0) (b:=31) (by omega) n;obtain⟨e,h3,h4⟩:=za h2;unfold mq hY;rw[vm,aa,CK (by omega),aa,ab,if_neg (by omega),e,vZ (by omega) ⟨h3,h4⟩,aa]
theorem LQ {r:Int} (h:0<=r/\r<=31):IntKind.u64.wrap r=r:=Go.IntWalk.u64_in r ⟨by omega,by omega⟩
theorem zc (k:Nat) (x n:Int):md k x n=some (hY x n):=by
 have h1:=kP x;have h2:=EI (a:=0) (b:=31) (by omega) n;obtain⟨e,h3,h4⟩:=za h2;unfold md hY gq;rw[vl,aa,p7 (by omega),aa,LQ h2,ab,if_neg (by omega),e,ab];have hh:((2:Int)^(sat 0 31 n).toNat).tdiv 2=2^(sat 0 31 n).toNat/2:=Su (by omega);rw[hh,aG (n:=2^(sat 0 31 n).toNat/2) (by omega) (by omega)];by_cases c:gW x<0
 ·rw[if_pos c,if_pos c,ab,if_neg (by omega),aG (n:=0-gW x) (by omega) (by omega),aG (n:=0-gW x+2^(sat 0 31 n).toNat/2) (by omega) (by omega),Su (by omega),Ia,show 2*-gW x+2^(sat 0 31 n).toNat=2*(0-gW x)+2^(sat 0 31 n).toNat from by omega];have h:=Bj (a:=2*(0-gW x)+2^(sat 0 31 n).toNat) (b:=2*2^(sat 0 31 n).toNat) (by omega) (by omega);generalize (2*(0-gW x)+2^(sat 0 31 n).toNat)/(2*2^(sat 0 31 n).toNat)=q at h;rw[aG (n:=q) (by omega) (by omega),aG (by omega) (by omega)]
  congr 1;omega
 ·rw[if_neg c,if_neg c,ab,if_neg (by omega),aG (n:=gW x+2^(sat 0 31 n).toNat/2) (by omega) (by omega),Su (by omega),Ia];have h:=Bj (a:=2*gW x+2^(sat 0 31 n).toNat) (b:=2*2^(sat 0 31 n).toNat) (by omega) (by omega);rw[aG (by omega) (by omega)]
def zd (acc mult shift zero:Int):Int:=yX (hY (oL acc mult) shift+yX zero)
theorem JF {x d B:Int} (hx:-B<=x/\x<=B) (hd:1<=d):-B<=gq x d/\gq x d<=B:=by
 have key:∀y:Int,0<=y->y<=B->0<=(2*y+d)/(2*d)/\(2*y+d)/(2*d)<=B:=λy h0 h1=>by
  refine⟨Int.ediv_nonneg (by omega) (by omega),?_⟩
  have hlt:(2*y+d)/(2*d)<B+1:=by
   apply Int.ediv_lt_of_lt_mul (by omega);have:=Tl (show 0<=B by omega) (show 0<=d-1 by omega);rw[Int.mul_sub,Int.mul_one]at this;rw[Int.add_mul,Int.one_mul,Int.mul_comm B,T3,Int.mul_comm d B];omega
  omega
 unfold gq;by_cases c:x<0
 ·rw[if_pos c];have:=key (-x) (by omega) (by omega);omega
 ·rw[if_neg c];have:=key x (by omega) (by omega);omega
theorem v3 (acc mult shift zero:Int):IntKind.i64.wrap (hY (oL acc mult) shift+yX zero)=hY (oL acc mult) shift+yX zero:=by
 have h1:=yY zero;have h2:=EI (a:=0) (b:=31) (by omega) shift;have h3:=kP (oL acc mult);have h4:=JF (x:=gW (oL acc mult)) (d:=2^(sat 0 31 shift).toNat) (B:=2147483648) (by omega) (za h2).2.1;unfold hY;exact aG (by omega) (by omega)
theorem v5 (k:Nat) (a b c d:Int):nu k a b c d=some (zd a b c d):=by
 unfold nu zd;simp only[EM,zc,EJ,aa,v3]
theorem EO (k:Nat) (a b c d:Int):tF k a b c d=some (zd a b c d):=by
 unfold tF zd;simp only[EN,zb,EK,aa,v3]
end
section
theorem kQ {α:Type} (f:Nat->List α) (m:Nat):∀n,(∀i,i<n->(f i).length<=m)->((List.range n).flatMap f).length<=n*m
 |0,_=>by simp
 |n+1,h=>by
  have:=kQ f m n λi hi=>h i (by omega);have:=h n (by omega);rw[S1,TC,RD,RQ,show([n]:List Nat).flatMap f=f n from by simp];omega
theorem gG {α:Type} (f:Nat->List α) (m:Nat):∀n,(∀i,i<n->(f i).length=m)->((List.range n).flatMap f).length=n*m
 |0,_=>by simp
 |n+1,h=>by
  have:=gG f m n λi hi=>h i (by omega);have:=h n (by omega);rw[S1,TC,RD,RQ,show([n]:List Nat).flatMap f=f n from by simp];omega
theorem CL {α:Type} (f:Nat->List α) (q:Nat):∀n,(∀i,i<n->(f i).length=q)->∀a b,a<n->b<q->((List.range n).flatMap f)[a*q+b]? =(f a)[b]?
 |0,_,a,b,h,_=>by omega
 |n+1,h,a,b,ha,hb=>by
  have hl:=gG f q n λi hi=>h i (by omega);rw[S1,TC]
  have hs:([n]:List Nat).flatMap f=f n:=by simp
  rw[hs];by_cases c:a<n
  ·have:(a+1)*q<=n*q:=RG _ (by omega);rw[RQ]at this;rw[Rt (by omega)];exact CL f q n (λi hi=>h i (by omega)) a b c hb
  ·have:a=n:=by omega
   subst this;rw[Rs (by omega),hl,RY]
theorem ft {α R:Type} (n m:Nat) (f:Nat->List α) (xs0:List α) {g:Int× List α->(Int× List α->Option R)->Option R} {fin:List α->Option R} {k:Nat}
  (hf:∀i,i<n->(f i).length<=m)
  (h:∀(i:Nat) ys next,i<n->ys.length<=xs0.length+i*m->g ((i:Int),ys) next=next (((i+1:Nat):Int),ys++f i))
  (hn:∀ys next,g ((n:Int),ys) next=fin ys) (hk:n<k):iter g k ((0:Int),xs0)=fin (xs0++(List.range n).flatMap f):=by
 have:=fb (g:=g) (st:=λi=>((i:Int),xs0++(List.range i).flatMap f)) (n:=n) (r:=fin (xs0++(List.range n).flatMap f)) (λi hi next=>by
  have hl:=kQ f m i λj hj=>hf j (by omega);rw[h i _ next hi (by rw[RD];omega),S1,TC]
  simp) (λnext=>hn _ _) hk
 simpa using this
theorem nF {β R:Type} (n:Nat) (f:β->Nat->β) (a0:β) {g:β× Int->(β× Int->Option R)->Option R} {fin:β->Option R} {k:Nat}
  (h:∀(i:Nat) a next,i<n->g (a,(i:Int)) next=next (f a i,((i+1:Nat):Int))) (hn:∀a next,g (a,(n:Int)) next=fin a) (hk:n<k):
  iter g k (a0,(0:Int))=fin ((List.range n).foldl f a0):=
 fb (g:=g) (st:=λi=>((List.range i).foldl f a0,(i:Int))) (n:=n) (r:=fin ((List.range n).foldl f a0)) (λi hi next=>by
  rw[h i _ next hi,S1,So];rfl) (λnext=>hn _ _) hk
theorem fold_congr {β:Type} {f g:β->Nat->β}:∀(n:Nat) (a:β),(∀a i,i<n->f a i=g a i)->(List.range n).foldl f a=(List.range n).foldl g a
 |0,_,_=>rfl
 |n+1,a,h=>by
  rw[S1,So,So,fold_congr n a λa i hi=>h a i (by omega)];exact h _ n (by omega)
theorem CM {β:Type} (f:β->Nat->β) (q:Nat):∀(m:Nat) (a:β),(List.range (m*q)).foldl f a=(List.range m).foldl (λa i=>(List.range q).foldl (λa j=>f a (i*q+j)) a) a
 |0,a=>by simp
 |m+1,a=>by
  rw[RQ,Nat.one_mul,List.range_add,So,CM f q m a,S1,So,List.foldl_map];rfl
theorem EP {a b:Nat} (h:a*b<=9223372036854775807):IntKind.i64.wrap ((a:Int)*(b:Int))=((a*b:Nat):Int):=by
 rw[SC];have e:((a:Int)*(b:Int))=((a*b:Nat):Int):=(SC a b).symm;exact aG (by omega) (by omega)
theorem Fo {a b:Nat} (h:a+b<=9223372036854775807):IntKind.i64.wrap ((a:Int)+(b:Int))=((a+b:Nat):Int):=by
 rw[aG (by omega) (by omega)];omega
theorem LR {α:Type} {p:Prop} {i:Decidable p} (h:p) (x y:α):cond (@decide p i) x y=x:=by rw[decide_eq_true h];rfl
theorem Q9 {α:Type} {p:Prop} {i:Decidable p} (h:¬p) (x y:α):cond (@decide p i) x y=y:=by rw[decide_eq_false h];rfl
theorem tW {H W C h w c:Nat} (h1:h<H) (h2:w<W) (h3:c<C):(h*W+w)*C+c<H*W*C:=by
 have a1:(h+1)*W<=H*W:=RG _ h1;rw[RQ]at a1;have a2:(h*W+w+1)*C<=H*W*C:=RG _ (by omega);rw[RQ]at a2;omega
structure kR (H W C:Nat) (xs:List Int):Prop where
 h1:1<=H
 h8:H<=8
 w1:1<=W
 w8:W<=8
 c1:1<=C
 c8:C<=8
 len:xs.length=H*W*C
 mem:∀x∈xs,-128<=x/\x<=127
def vn (H W C:Nat) (xs:List Int):al:=⟨⟨H,W,C⟩,xs⟩
theorem kR.PK {H W C:Nat} {xs:List Int} (r:kR H W C xs):H*W*C<=512:=by
 have a:=Sd r.h8 r.w8;have b:=Sd a r.c8;omega
theorem kR.sh {H W C:Nat} {xs:List Int} (r:kR H W C xs):(⟨H,W,C⟩:Shape).okB=true:=by
 obtain⟨a,b,c,d,e,f,_,_⟩:=r;simp only[Shape.okB,inB,Rq,decide_eq_true_eq];omega
theorem kR.size {H W C:Nat} {xs:List Int} (r:kR H W C xs):(⟨H,W,C⟩:Shape).size=((H*W*C:Nat):Int):=by
 unfold Shape.size;rw[r.sh,cond_true,SC,SC]
theorem kR.ok {H W C:Nat} {xs:List Int} (r:kR H W C xs):(vn H W C xs).okB=true:=by
 unfold al.okB vn;simp only[r.sh,r.size,r.len,decide_true,Ry];unfold rC;rw[S3];intro x hx;have:=r.mem x hx;rw[cd];omega
theorem CN {t:al} (h:t.okB=true):∃H W C:Nat,kR H W C t.data/\t=vn H W C t.data:=by
 unfold al.okB at h;simp only[Rq,decide_eq_true_eq]at h;obtain⟨h1,h2,h3⟩:=h;have hs:=Shape.tN h1;unfold rC at h3;rw[S3]at h3;unfold Shape.size at h2;rw[h1,cond_true]at h2;obtain⟨⟨a,b,c⟩,xs⟩:=t;simp only at hs h2 h3;refine⟨a.toNat,b.toNat,c.toNat,⟨by omega,by omega,by omega,by omega,by omega,by omega,?_,λx hx=>cd.1 (h3 x hx)⟩,?_⟩
 ·have ea:((a.toNat:Nat):Int)=a:=by omega
  have eb:((b.toNat:Nat):Int)=b:=by omega
  have ec:((c.toNat:Nat):Int)=c:=by omega
  have e:((a.toNat*b.toNat*c.toNat:Nat):Int)=a*b*c:=by rw[SC,SC,ea,eb,ec]
  show xs.length=_;omega
 ·unfold vn
  congr 2<;>omega
def atN (W C:Nat) (xs:List Int) (h w c:Nat):Int:=xs.getD ((h*W+w)*C+c) 0
theorem GV {H W C:Nat} {xs:List Int} (r:kR H W C xs) {h w c:Nat} (h1:h<H) (h2:w<W) (h3:c<C):xs[(h*W+w)*C+c]? =some (atN W C xs h w c):=by
 have:=tW h1 h2 h3;have hl:=r.len;unfold atN;rw[bJ (by omega),ag (by omega)]
theorem wR {xs:List Int} {i:Nat} (h:i<xs.length):xs.getD i 0∈xs:=by rw[bJ h];exact Rx h
theorem Ib {H W C:Nat} {xs:List Int} (r:kR H W C xs) {h w c:Nat} (h1:h<H) (h2:w<W) (h3:c<C):-128<=atN W C xs h w c/\atN W C xs h w c<=127:=by
 have:=tW h1 h2 h3;have hl:=r.len;exact r.mem _ (wR (by omega))
theorem Bl {H W C:Nat} {xs:List Int} (r:kR H W C xs) {h w c:Nat} (h1:h<H) (h2:w<W) (h3:c<C):
  IntKind.i64.wrap (IntKind.i64.wrap (IntKind.i64.wrap (IntKind.i64.wrap ((h:Int)*(W:Int))+(w:Int))*(C:Int))+(c:Int))=(((h*W+w)*C+c:Nat):Int):=by
 have a:=tW h1 h2 h3;have b:=r.PK;have d:h*W<=H*W:=RG _ (by omega);have e:=Sd r.h8 r.w8;rw[EP (by omega),Fo (by have:=r.w8;omega),EP (by omega),Fo (by omega)]
theorem sr {k:Nat} {H W C:Nat} {xs:List Int} (r:kR H W C xs) (hk:512<k) {h w c:Nat} (h1:h<H) (h2:w<W) (h3:c<C):ov k (vn H W C xs) h w c=some (atN W C xs h w c,true):=by
 have hl:=r.len;have hc:=r.PK
 have hi:∀{a n:Nat},a<n->n<=8->inB (a:Int) 0 (IntKind.i64.wrap ((n:Int)-1))=true:=λ{a n} h h8=>by
  rw[aG (by omega) (by omega),cd];omega
 unfold ov yG;simp only[j6,cy,aa];rw[oH (t:=vn H W C xs) (by show xs.length<k;omega) (by unfold ue;show xs.length<=_;omega),r.ok];simp only[vn,r.sh,hi h1 r.h8,hi h2 r.w8,hi h3 r.c8,Rw,cond_false,aa,Bl r h1 h2 h3];rw[ab,if_neg (by omega),aC,GV r h1 h2 h3,aa]
theorem su {k:Nat} {H W C:Nat} {xs:List Int} (r:kR H W C xs) {h w c:Nat} (h1:h<H) (h2:w<W) (h3:c<C):iz k ⟨H,W,C⟩ h w c=some ((((h*W+w)*C+c:Nat)):Int):=by
 unfold iz;rw[Bl r h1 h2 h3]
structure LS (H W Z S h w:Nat):Prop where
 z1:1<=Z
 z3:Z<=3
 s2:S<=2
 hh:h*S+Z<=H
 ww:w*S+Z<=W
def iT (W C:Nat) (xs:List Int) (Z S h w c:Nat):List Int:=
 (List.range Z).flatMap λi=>(List.range Z).flatMap λj=>[atN W C xs (h*S+i) (w*S+j) c]
def Pv (W C:Nat) (xs:List Int) (Z S h w:Nat):List Int:=
 (List.range Z).flatMap λi=>(List.range Z).flatMap λj=>(List.range C).map λc=>atN W C xs (h*S+i) (w*S+j) c
theorem ER (W C:Nat) (xs:List Int) (Z S h w c:Nat):(iT W C xs Z S h w c).length=Z*(Z*1):=
 gG _ _ _ λi hi=>gG _ _ _ λj hj=>rfl
theorem CO (W C:Nat) (xs:List Int) (Z S h w:Nat):(Pv W C xs Z S h w).length=Z*(Z*C):=
 gG _ _ _ λi hi=>gG _ _ _ λj hj=>by simp
theorem ES {k:Nat} {H W C:Nat} {xs:List Int} (r:kR H W C xs) (hk:512<k) {l:aj} {Z S h w c:Nat} (hz:l.size=Z) (hs:l.step=S) (v:LS H W Z S h w) (hc:c<C):
  lD k (vn H W C xs) l h w c=some (iT W C xs Z S h w c):=by
 have hM:=aq;have hv:=v;obtain⟨z1,z3,s2,hh,ww⟩:=hv;have:=r.h8;have:=r.w8;unfold lD
 refine(ft Z 3 (λi=>(List.range Z).flatMap λj=>[atN W C xs (h*S+i) (w*S+j) c]) [] (fin:=some) (λi hi=>by
   have:=kQ (λj=>[atN W C xs (h*S+i) (w*S+j) c]) 1 Z (λ_ _=>RJ _);omega) (λi ys next hi hy=>?_) (λys next=>?_) (by omega)).trans (by rw[SQ];rfl)
 ·simp only[mg,hz,hs];rw[ab,if_pos (by omega),ay hi (by omega)];refine ft Z 1 (λj=>[atN W C xs (h*S+i) (w*S+j) c]) ys (fin:=λy=>next (((i+1:Nat):Int),y)) (λ_ _=>RJ _) (λj zs next2 hj hz2=>?_) (λzs next2=>?_) (by omega)
  ·simp only[mf,hz,hs]
   have e1:h*S+i<H:=by omega
   have e2:w*S+j<W:=by omega
   have e:=sr (k:=k) r hk e1 e2 hc;unfold vn at e;simp only[R6]at hy;rw[ab,if_pos (by omega)];simp only[vn];rw[EP (by omega),Fo (by omega),EP (by omega),Fo (by omega),e,aa,cw (by simp;omega),ay hj (by omega)]
  ·simp only[mf];rw[ab,if_neg (by omega)]
 ·simp only[mg];rw[ab,if_neg (by omega)]
theorem ET {α:Type} {ws:List α} {a q i:Nat} (hi:i<q):((ws.take (a+q)).drop a)[i]? =ws[a+i]? :=by
 rw[RF,R3,if_pos (by omega)]
theorem LU {ws:List Int} {a q:Nat} (h:a+q<=ws.length):(ws.take (a+q)).drop a=(List.range q).map λc=>ws.getD (a+c) 0:=by
 apply List.ext_getElem?;intro i;by_cases c:i<q
 ·rw[ET c,Sa,List.getElem?_range c,SL,ag (by omega),bJ (by omega)]
 ·rw[RR (by simp;omega),RR (by simp;omega)]
theorem ze {k:Nat} {H W C:Nat} {xs:List Int} (r:kR H W C xs) (hk:512<k) {l:aj} {Z S h w c:Nat} (hz:l.size=Z) (hs:l.step=S) (v:LS H W Z S h w) (hc:c<C):
  cz k l (vn H W C xs) h w c=some (iT W C xs Z S h w c):=by
 have hM:=aq;have hv:=v;obtain⟨z1,z3,s2,hh,ww⟩:=hv;have:=r.h8;have:=r.w8;have:=r.c8;have hcu:=r.PK;have hlen:=r.len;unfold cz
 refine(ft Z 3 (λi=>(List.range Z).flatMap λj=>[atN W C xs (h*S+i) (w*S+j) c]) [] (fin:=some) (λi hi=>by
   have:=kQ (λj=>[atN W C xs (h*S+i) (w*S+j) c]) 1 Z (λ_ _=>RJ _);omega) (λi ys next hi hy=>?_) (λys next=>?_) (by omega)).trans (by rw[SQ];rfl)
 ·simp only[dG,hz,hs];rw[ab,if_pos (by omega),ay hi (by omega)];refine ft Z 1 (λj=>[atN W C xs (h*S+i) (w*S+j) c]) ys (fin:=λy=>next (((i+1:Nat):Int),y)) (λ_ _=>RJ _) (λj zs next2 hj hz2=>?_) (λzs next2=>?_) (by omega)
  ·simp only[dF,hz,hs]
   have e1:h*S+i<H:=by omega
   have e2:w*S+j<W:=by omega
   have e:=su (k:=k) (c:=0) r e1 e2 (by omega);have hp:=tW e1 e2 hc;simp only[R6]at hy;rw[ab,if_pos (by omega)];simp only[vn];rw[EP (by omega),Fo (by omega),EP (by omega),Fo (by omega)];refine(congrArg (λo:Option Int=>o.bind _) e).trans ?_;rw[aa,ab,if_neg (by omega),RZ,Fo (by omega),aC,GV r e1 e2 hc,aa,cw (by simp;omega),ay hj (by omega)]
  ·simp only[dF];rw[ab,if_neg (by omega)]
 ·simp only[dG];rw[ab,if_neg (by omega)]
theorem EU {k:Nat} {H W C:Nat} {xs:List Int} (r:kR H W C xs) (hk:512<k) {l:aj} {Z S h w:Nat} (hz:l.size=Z) (hs:l.step=S) (v:LS H W Z S h w):
  cz k l (vn H W C xs) h w (-1)=some (Pv W C xs Z S h w):=by
 have hM:=aq;have hv:=v;obtain⟨z1,z3,s2,hh,ww⟩:=hv;have:=r.h8;have:=r.w8;have:=r.c8;have hc1:=r.c1;have hcu:=r.PK;have hlen:=r.len;unfold cz
 refine(ft Z 24 (λi=>(List.range Z).flatMap λj=>(List.range C).map λc=>atN W C xs (h*S+i) (w*S+j) c) [] (fin:=some) (λi hi=>by
   have:=kQ (λj=>(List.range C).map λc=>atN W C xs (h*S+i) (w*S+j) c) 8 Z (λ_ _=>by simp;omega);omega) (λi ys next hi hy=>?_) (λys next=>?_) (by omega)).trans (by rw[SQ];rfl)
 ·simp only[dG,hz,hs];rw[ab,if_pos (by omega),ay hi (by omega)];refine ft Z 8 (λj=>(List.range C).map λc=>atN W C xs (h*S+i) (w*S+j) c) ys (fin:=λy=>next (((i+1:Nat):Int),y)) (λ_ _=>by simp;omega) (λj zs next2 hj hz2=>?_) (λzs next2=>?_) (by omega)
  ·simp only[dF,hz,hs]
   have e1:h*S+i<H:=by omega
   have e2:w*S+j<W:=by omega
   have e:=su (k:=k) (c:=0) r e1 e2 (by omega);have hp:=tW (C:=C) (c:=C-1) e1 e2 (by omega);simp only[R6]at hy;rw[ab,if_pos (by omega)];simp only[vn];rw[EP (by omega),Fo (by omega),EP (by omega),Fo (by omega)];refine(congrArg (λo:Option Int=>o.bind _) e).trans ?_;have e3:=LU (ws:=xs) (a:=((h*S+i)*W+(w*S+j))*C) (q:=C) (by omega);have ew:IntKind.i64.wrap (((((h*S+i)*W+(w*S+j))*C:Nat):Int)+(C:Int))=((((h*S+i)*W+(w*S+j))*C+C:Nat):Int):=Fo (by omega);rw[aa,LR (by omega),RZ];refine(LR (by rw[ew];omega) _ _).trans ?_;refine(LR (by rw[ew];omega) _ _).trans ?_;rw[ew,Rr,Rr,e3,cw (by simp;omega),ay hj (by omega)];rfl
  ·simp only[dF];rw[ab,if_neg (by omega)]
 ·simp only[dG];rw[ab,if_neg (by omega)]
end
end Go.Proofs.Ev
