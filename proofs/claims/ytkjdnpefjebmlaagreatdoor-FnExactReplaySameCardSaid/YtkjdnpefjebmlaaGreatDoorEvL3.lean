/- Typed functions and what holds of them: part 3. -/
import Derived.Test.YtkjdnpefjebmlaaGreatDoorEvL2
import Derived.Test.YtkjdnpefjebmlaaGreatDoorEvK8
import Derived.KernelRfl
set_option linter.unusedVariables false
set_option linter.unusedSimpArgs false
set_option linter.unusedSectionVars false
namespace Go.Proofs.Ev
open IntKind(i64 u8 u64)
section
theorem J4 (k:Nat) (xs:List Int) (n:Int) (hn:0<=n/\n<=1048576) (hx:xs.length<=pK):vB k xs n=some (if n<xs.length then -1 else n-xs.length):=by
 unfold pK at hx;unfold vB;rw[aL (by omega) (by omega),ab];by_cases h:n<xs.length
 ·rw[if_pos (by omega),if_pos h]
 ·rw[if_neg (by omega),if_neg h]
theorem HA (k:Nat) (xs:List Int) (n:Int) (hn:0<=n/\n<=1048576) (hx:xs.length<=pK):rO k xs n=some (if n<xs.length then -1 else n-xs.length):=by
 unfold pK at hx;unfold rO;rw[aL (by omega) (by omega),ab];by_cases h:n<xs.length
 ·rw[if_pos (by omega),if_pos h]
 ·rw[if_neg (by omega),if_neg h]
theorem J5 {k:Nat} {xs:List Int} (hk:xs.length<k) (hx:xs.length<=aG):vC k xs=some xs:=by
 rw[aj]at hx;unfold vC;rw[ab,if_pos (by rw[aj];omega)]
 exact Bu xs 0 (fin:=some) (λi ys hi next hl=>by
  simp only[qj,ab];rw[if_pos (by omega),aD,ag hi,XC,if_pos (by omega),al hi (by omega)]
  simp) (λys next=>by simp only[qj,ab];rw[if_neg (by omega)]) hk
theorem HB {k:Nat} {xs:List Int} (hk:xs.length<k) (hx:xs.length<=aG):rP k xs=some xs:=by
 rw[aj]at hx;unfold rP;rw[ab,if_pos (by rw[aj];omega)]
 exact Bu xs 0 (fin:=some) (λi ys hi next hl=>by
  simp only[nL,ab];rw[if_pos (by omega),aD,ag hi,XC,if_pos (by omega),al hi (by omega)]
  simp) (λys next=>by simp only[nL,ab];rw[if_neg (by omega)]) hk
theorem T7 (a b:Nat):((a:Int) !=(b:Int))=decide (a≠b):=by
 rw[PE];congr 1;rw[eq_iff_iff];omega
theorem v7 {R:Type} {xs ys:List Int} {i:Nat} (hi:i<xs.length) (hi':i<ys.length) (hx:xs.length<=pK) (next:Int->Option R) (no yes:Option R):
  (cond (decide ((i:Int)<(xs.length:Int))) ((idx xs i).bind λe1=>(idx ys i).bind λe2=>cond (e1 !=e2) no (next (i64.wrap ((i:Int)+(1:Int))))) yes)=if xs[i]=ys[i]then next ((i+1:Nat):Int)else no:=by
 unfold pK at hx;rw[ab,if_pos (by omega),aD,aD,ag hi,ag hi',XC,XC,al hi (by omega)];rw[fk]
theorem BM {R:Type} {xs:List Int} (a:Option R) (yes:Option R):(cond (decide ((xs.length:Int)<(xs.length:Int))) a yes)=yes:=by
 rw[ab,if_neg (by omega)]
theorem BN {xs ys:List Int} {r:Option Bool} (h:xs.length=ys.length->r=if xs=ys then some true else some false):(cond ((xs.length:Int) !=(ys.length:Int)) (some false) r)=some (decide (xs=ys)):=by
 rw[T7,ab];by_cases c:xs.length=ys.length
 ·rw[if_neg (by simp[c]),h c];split<;>simp[*]
 ·rw[if_pos c,decide_eq_false (λe=>c (by rw[e]))]
theorem J6 {k:Nat} {xs ys:List Int} (hk:xs.length<k) (hx:xs.length<=pK):zS k xs ys=some (decide (xs=ys)):=
 BN λc=>pg xs ys c (λi hi hi' next=>v7 hi hi' hx next _ _) (λnext=>BM _ _) hk
theorem HC {k:Nat} {xs ys:List Int} (hk:xs.length<k) (hx:xs.length<=pK):vE k xs ys=some (decide (xs=ys)):=
 BN λc=>pg xs ys c (λi hi hi' next=>v7 hi hi' hx next _ _) (λnext=>BM _ _) hk
theorem HD {k:Nat} {xs ys:List Int} (hk:xs.length<k) (hx:xs.length<=pK):Bz k xs ys=some (decide (xs=ys)):=
 BN λc=>pg xs ys c (λi hi hi' next=>v7 hi hi' hx next _ _) (λnext=>BM _ _) hk
theorem HE {k:Nat} {xs ys:List Int} (hk:xs.length<k) (hx:xs.length<=pK):BA k xs ys=some (decide (xs=ys)):=
 BN λc=>pg xs ys c (λi hi hi' next=>v7 hi hi' hx next _ _) (λnext=>BM _ _) hk
theorem M5 {R:Type} {xs ys:List Int} {i n:Nat} (hi:i<xs.length) (hi':i<ys.length) (hn:i<n) (hx:xs.length<=pK) (next:Int->Option R) (no yes:Option R):
  (cond (decide ((i:Int)<(n:Int))) ((idx xs i).bind λe1=>(idx ys i).bind λe2=>cond (e1 !=e2) no (next (i64.wrap ((i:Int)+(1:Int))))) yes)=if xs[i]=ys[i]then next ((i+1:Nat):Int)else no:=by
 unfold pK at hx;rw[ab,if_pos (by omega),aD,aD,ag hi,ag hi',XC,XC,al hi (by omega)];rw[fk]
theorem pD {k:Nat} {xs ys:List Int} (hk:xs.length<k) (hx:xs.length<=pK):gA k xs ys=some (decide (xs=ys)):=
 BN λc=>pg xs ys c (λi hi hi' next=>M5 hi hi' hi hx next _ _) (λnext=>BM _ _) hk
theorem J7 {xs ys:List Int} (hx:∀x∈xs,okB x) (hy:∀x∈ys,okB x):bytesOf xs=bytesOf ys↔xs=ys:=by
 refine⟨λh=>?_,λh=>by rw[h]⟩;unfold bytesOf at h
 induction xs generalizing ys with
 |nil=>cases ys<;>simp_all
 |cons x xs ih=>
  cases ys with
  |nil=>simp at h
  |cons y ys=>
   simp only[Yp,YD]at h;have h1:=hx x (by simp);have h2:=hy y (by simp);unfold okB at h1 h2
   have e:x=y:=by
    have:=congrArg UInt8.toNat h.1;simp at this;omega
   rw[e,ih (λz hz=>hx z (by simp[hz])) (λz hz=>hy z (by simp[hz])) h.2]
theorem oS {k:Nat} {xs ys:List Int} (hx:∀x∈xs,okB x) (hy:∀x∈ys,okB x):mU k xs ys=some (decide (xs=ys)):=by
 unfold mU
 congr 1
 rw[ZH];simp[J7 hx hy]
theorem zB {k:Nat} {a b:az} (hk:a.data.length<k) (ha:a.data.length<=pK):lQ k a b=some (decide (a=b)):=by
 obtain⟨⟨s1,s2,s3⟩,d⟩:=a;obtain⟨⟨t1,t2,t3⟩,d'⟩:=b;simp only at hk ha;unfold lQ;simp only[XC,pD hk ha];by_cases h1:s1=t1<;>by_cases h2:s2=t2<;>by_cases h3:s3=t3<;>by_cases h4:d=d'<;>simp[h1,h2,h3,h4,fk,cO]
theorem FC {k:Nat} {a b:Step} (hk:a.input.data.length<k) (ha:a.Ok) (hb:b.Ok):sO k a b=some (decide (a=b)):=by
 have h2:=ha.2.2.2.2.2.1;have h3:=ha.2.2.2.1.2;have h4:=hb.2.2.2.1.2;obtain⟨a1,a2,a3,a4,a5⟩:=a;obtain⟨b1,b2,b3,b4,b5⟩:=b;simp only at hk h2 h3 h4;unfold sO;simp only[oS h3 h4,XC,zB hk h2];by_cases h1:a1=b1<;>by_cases h2:a2=b2<;>by_cases h3:a3=b3<;>by_cases h4:a4=b4<;>by_cases h5:a5=b5<;>simp[h1,h2,h3,h4,h5,fk,cO]
theorem FD {k:Nat} {a b:Step} (hk:a.data.length<k/\a.input.data.length<k) (ha:a.Ok):sN k a b=some (decide (a=b)):=by
 have h2:=ha.2.2.2.2.2.1;have h3:=ha.2.2.2.1.1;obtain⟨a1,a2,a3,a4,⟨s1,s2,s3⟩,d⟩:=a;obtain⟨b1,b2,b3,b4,⟨t1,t2,t3⟩,d'⟩:=b;simp only at hk h2 h3;unfold sN;simp only[XC,HD hk.1 h3,HE hk.2 h2];by_cases e1:a1=b1<;>by_cases e2:a2=b2<;>by_cases e3:a3=b3<;>by_cases e4:a4=b4<;>by_cases h1:s1=t1<;>by_cases h2:s2=t2<;>by_cases h3:s3=t3<;>by_cases h4:d=d'<;>simp[h1,h2,h3,h4,e1,e2,e3,e4,fk,cO]
end
section
def marked (m:Int) (n:Nat):List Int:=(List.range n).map λ(i:Nat)=>m+(i:Int)
@[simp] theorem RL (m:Int) (n:Nat):(marked m n).length=n:=by simp[marked]
def inB (x a b:Int):Bool:=decide (a<=x/\x<=b)
theorem bN (k:Nat) (x a b:Int):bO k x a b=some (inB x a b):=by
 unfold bO inB;rw[ab];by_cases h:a<=x<;>simp[h]
theorem gn (k:Nat) (x a b:Int):tP k x a b=some (inB x a b):=by
 unfold tP inB;rw[ab];by_cases h:a<=x<;>simp[h]
def Shape.okB (s:Shape):Bool:=inB s.h 1 8&&(inB s.w 1 8&&inB s.c 1 8)
theorem lk (k:Nat) (s:Shape):kW k s=some s.okB:=by
 unfold kW Shape.okB;simp only[bN,aa];cases inB s.h 1 8<;>cases inB s.w 1 8<;>rfl
theorem rX (k:Nat) (s:Shape):ph k s=some s.okB:=by
 unfold ph Shape.okB;simp only[gn,aa];cases inB s.h 1 8<;>cases inB s.w 1 8<;>rfl
theorem Shape.tc {s:Shape} (h:s.okB=true):1<=s.h/\s.h<=8/\1<=s.w/\s.w<=8/\1<=s.c/\s.c<=8:=by
 simp only[Shape.okB,inB,XB,decide_eq_true_eq]at h;omega
def Shape.size (s:Shape):Int:=cond s.okB (s.h*s.w*s.c) 0
theorem Shape.J8 (s:Shape):0<=s.size/\s.size<=512:=by
 unfold Shape.size;cases h:s.okB
 ·simp
 ·obtain⟨h1,h2,h3,h4,h5,h6⟩:=Shape.tc h;have:=rM (show 0<=s.h by omega) h2 (show 0<=s.w by omega) h4;have:=rM this.1 this.2 (show 0<=s.c by omega) h6;simpa using this
theorem HF {s:Shape} (h:s.okB=true):i64.wrap (i64.wrap (s.h*s.w)*s.c)=s.h*s.w*s.c:=by
 obtain⟨h1,h2,h3,h4,h5,h6⟩:=Shape.tc h;have a:=rM (show 0<=s.h by omega) h2 (show 0<=s.w by omega) h4;have b:=rM a.1 a.2 (show 0<=s.c by omega) h6;rw[aL (n:=s.h*s.w) (by omega) (by omega),aL (by omega) (by omega)]
theorem qB (k:Nat) (s:Shape):ed k s=some s.size:=by
 unfold ed Shape.size;simp only[lk,aa,cond_not];cases h:s.okB
 ·rfl
 ·simp only[cond_true,HF h]
theorem uC (k:Nat) (s:Shape):ku k s=some s.size:=by
 unfold ku Shape.size;simp only[rX,aa,cond_not];cases h:s.okB
 ·rfl
 ·simp only[cond_true,HF h]
def v8 (xs:List Int):Bool:=xs.all λx=>inB x (-128) 127
def az.okB (t:az):Bool:=t.sh.okB&&(decide ((t.data.length:Int)=t.sh.size)&&v8 t.data)
theorem md {k:Nat} {t:az} (hk:t.data.length<k) (hx:t.data.length<=pK):j9 k t=some t.okB:=by
 unfold pK at hx;unfold j9 az.okB;simp only[lk,qB,aa,cond_not,fk];cases t.sh.okB
 ·rfl
 simp only[cond_true,XM];by_cases h:(t.data.length:Int)=t.sh.size
 ·rw[if_pos h,decide_eq_true h,XM]
  rw[kt t.data (λx=>inB x (-128) 127) (λi hi next=>by
   simp only[lP,ab,iv,bN,aa,cond_not]
   rw[if_pos (by omega),aD,ag hi,aa,al hi (by omega)]) (λnext=>by
   simp only[lP,ab];rw[if_neg (by omega)]) hk]
  show _=some (t.data.all _);cases t.data.all λx=>inB x (-128) 127<;>rfl
 ·rw[if_neg h,decide_eq_false h];rfl
theorem cQ {α:Type} {p:α->Bool} (xs:List α):((xs.findIdx? p).elim (some (-1:Int)) λi=>some (i:Int))=some ((xs.findIdx? p).elim (-1) λi=>(i:Int)):=by
 cases xs.findIdx? p<;>rfl
theorem mB {α:Type} {p:α->Bool} (xs:List α):decide (((xs.findIdx? p).elim (-1:Int) λi=>(i:Int))>=0)=xs.any p:=by
 cases h:xs.findIdx? p with
 |none=>
  rw[YS]at h
  have:xs.any p=false:=by simpa using h
  rw[this];rfl
 |some i=>
  have:xs.any p=true:=by
   have:=YL.1 h;obtain⟨hi,hp,_⟩:=this;exact List.any_eq_true.2 ⟨_,XH hi,hp⟩
  rw[this];simp
theorem wc {k:Nat} {xs:List Int} (hk:xs.length<k) (hx:xs.length<=pK):pj k xs=some (v8 xs):=by
 unfold pK at hx;unfold pj b6 cq
 rw[dX xs (λx=>!inB x (-128) 127) (λi hi next=>by
  simp only[bm,ab,qk,gn,aa]
  rw[if_pos (by omega),aD,ag hi,aa,al hi (by omega)]) (λnext=>by
  simp only[bm,ab];rw[if_neg (by omega)]) hk]
 rw[cQ];simp only[aa,mB];unfold v8;rw[YZ];simp
theorem qC {k:Nat} {t:az} (hk:t.data.length<k) (hx:t.data.length<=pK):mx k t=some t.okB:=by
 unfold mx az.okB;simp only[rX,uC,aa,cO,wc hk hx];cases t.sh.okB
 ·rfl
 simp only[cond_true,XM];by_cases h:(t.data.length:Int)=t.sh.size
 ·rw[if_pos h,decide_eq_true h,XM]
 ·rw[if_neg h,decide_eq_false h];rfl
theorem bR {a b:Nat} {α:Type} {x y:α} (h:a<=b):cond (Nat.ble a b) x y=x:=by rw[YV h];rfl
theorem ln {k:Nat} {xs:List Int} (hk:xs.length<k) (hx:xs.length<=aG):kV k xs=some xs:=by
 rw[aj]at hx;unfold kV
 have:=sL xs (λx=>x) (g:=λu next=>kU k xs u next (λy=>some y)) (fin:=some) (λi ys hi next hl=>by
  simp only[kU,ab]
  rw[if_pos (by omega),aD,ag hi,aa,bR (by rw[aj,hl];simp;omega),al hi (by omega)]) (λys next=>by
  simp only[kU,ab];rw[if_neg (by omega)]) hk
 simpa using this
theorem we {ρ:Type} (x:Option ρ):both x x=x:=by unfold both;simp
theorem dc {k:Nat} {xs:List Int} (hx:xs.length<=aG):bY k xs=some xs:=by
 unfold bY;rw[bR (by simpa using hx)]
 cases xs with
 |nil=>simp only[isNil,cond_true,XY];exact we _
 |cons x l=>rfl
theorem wg {k:Nat} {t:az} (hx:t.data.length<=aG):jv k t=some t:=by
 unfold jv;rw[dc hx];rfl
theorem yY {k:Nat} {t:az} (hk:t.data.length<k) (hx:t.data.length<=aG):rN k t=some t:=by
 unfold rN;rw[ln hk hx];rfl
end
section
def az.tot (x:az):Nat:=x.data.length+(0)
def aA.tot (x:aA):Nat:=x.weights.length+(x.pN.length+(0))
def Model.tot (x:Model):Nat:=fI aA.tot x.aF+(0)
def Job.tot (x:Job):Nat:=x.model.tot+(x.act.tot+(0))
def Task.tot (x:Task):Nat:=x.av.length+(0)
def ak.tot (x:ak):Nat:=fI Task.tot x.tasks+(0)
def Request.tot (x:Request):Nat:=x.job.tot+(0)
def Runtime.tot (x:Runtime):Nat:=x.sched.tot+(fI Model.tot x.ao+(x.aq.length+(fI Request.tot x.ae+(0))))
def Step.tot (x:Step):Nat:=x.data.length+(x.input.tot+(0))
def Event.tot (x:Event):Nat:=x.out.tot+(0)
def Entry.tot (x:Entry):Nat:=x.model.tot+(x.input.tot+(0))
theorem M6 {k:Nat} {xs:List Int} {n:Int} (hx:xs.length<=pK) (h1:0<=n) (h2:n<=1048576):Sz (vB k xs n) n xs.length:=J4 k xs n ⟨h1,h2⟩ hx
theorem M7 {k:Nat} {xs:List Int} (hk:xs.length<k) (hN:xs.length<=aG):vC k xs=some xs:=J5 hk hN
theorem M8 {k:Nat} {xs ys:List Int} (hk:xs.length<k) (hN:xs.length<=aG):zS k xs ys=some (decide (xs=ys)):=J6 hk (by unfold pK;rw[aj]at hN;omega)
theorem J9 {k:Nat} {xs:List Int} {n:Int} (hx:xs.length<=pK) (h1:0<=n) (h2:n<=1048576):Sz (rO k xs n) n xs.length:=HA k xs n ⟨h1,h2⟩ hx
theorem Ka {k:Nat} {xs:List Int} (hk:xs.length<k) (hN:xs.length<=aG):rP k xs=some xs:=HB hk hN
theorem Kb {k:Nat} {xs ys:List Int} (hk:xs.length<k) (hN:xs.length<=aG):vE k xs ys=some (decide (xs=ys)):=HC hk (by unfold pK;rw[aj]at hN;omega)
theorem Kc {k:Nat} {x:Shape}:Bv k x=some x:=rfl
theorem Kd {k:Nat} {x y:Shape}:Bw k x y=some (decide (x=y)):=by
 refine(Uy (Uy (Uy (PI)))).trans ?_
 congr 1
 rw[decide_eq_decide];cases x;cases y;simp only[Shape.mk.injEq,and_true]
theorem HG {k:Nat} {x:az} {n:Int} (hx:x.Ok) (hk:x.tot<k) (h1:0<=n) (h2:n<=1048576):Sz (xC k x n) n x.tot:=by
 unfold az.tot at hk;exact PF h1 (M6 hx.2.1 h1 h2) λc0=>SK (by omega)
theorem HH {k:Nat} {x:az} (hk:x.tot<k) (hN:x.tot<=aG):sM k x=some x:=by
 unfold az.tot at hk hN;have e0:=Kc (k:=k) (x:=x.sh);have e1:=M7 (k:=k) (xs:=x.data) (by omega) (by omega);unfold sM;simp only[e0,e1,aa]
theorem HI {k:Nat} {x y:az} (hk:x.tot<k) (hN:x.tot<=aG):xD k x y=some (decide (x=y)):=by
 unfold az.tot at hk hN;refine(VY Kd (VY (M8 (by omega) (by omega)) (PI))).trans ?_
 congr 1
 rw[decide_eq_decide];cases x;cases y;simp only[az.mk.injEq,and_true]
theorem M9 {k:Nat} {x:Step} {n:Int} (hx:x.Ok) (hk:x.tot<k) (h1:0<=n) (h2:n<=1048576):Sz (zT k x n) n x.tot:=by
 unfold Step.tot at hk;exact PF h1 (J9 hx.2.2.2.1.1 h1 h2) λc0=>PF (by omega) (HG hx.2.2.2.2 (by omega) (by omega) (by omega)) λc1=>SK (by omega)
theorem Na {k:Nat} {x:Step} (hk:x.tot<k) (hN:x.tot<=aG):vD k x=some x:=by
 unfold Step.tot at hk hN;have e0:=Ka (k:=k) (xs:=x.data) (by omega) (by omega);have e1:=HH (k:=k) (x:=x.input) (by omega) (by omega);unfold vD;simp only[e0,e1,aa]
theorem Nb {k:Nat} {x y:Step} (hk:x.tot<k) (hN:x.tot<=aG):zU k x y=some (decide (x=y)):=by
 unfold Step.tot at hk hN;refine(Uy (Uy (Uy (VY (Kb (by omega) (by omega)) (VY (HI (by omega) (by omega)) (PI)))))).trans ?_
 congr 1
 rw[decide_eq_decide];cases x;cases y;simp only[Step.mk.injEq,and_true]
theorem Ke {k:Nat} {xs:List Step} {n:Int} (hx:okS Step.Ok xs) (hk:fI Step.tot xs<k) (h1:0<=n) (h2:n<=1048576):Sz (BB k xs n) n (fI Step.tot xs):=
 TY (f:=λx n=>zT k x n) (g:=λu next=>kX k xs u next (λy=>some y) (λy=>some y)) hx.1 (λx hm n a b=>M9 (hx.2 x hm) (by have:=fl Step.tot hm;omega) a b)
  (λi left hi next=>by simp only[kX];rw[ab,if_pos (by omega),aD,ag hi,aa]) (λleft next=>by simp only[kX];rw[ab,if_neg (by omega)]) (by have:=br Step.tot xs;omega) h1 h2
theorem Kf {k:Nat} {xs:List Step} (hk:fI Step.tot xs<k) (hN:fI Step.tot xs<=aG):rQ k xs=some xs:=by
 have hl:xs.length<=fI Step.tot xs:=br _ _
 exact TZ xs _ (f:=λx=>vD k x) (g:=λu next=>kY k xs u next (λy=>some y)) (by omega) (λx hm=>Na (by have:=fl Step.tot hm;omega) (by have:=fl Step.tot hm;omega))
  (λi ys hi next=>by simp only[kY];rw[ab,if_pos (by omega),aD,ag hi,aa]) (λys next=>by simp only[kY];rw[ab,if_neg (by omega)]) (by omega)
theorem Kg {k:Nat} {xs ys:List Step} (hk:fI Step.tot xs<k) (hN:fI Step.tot xs<=aG):BC k xs ys=some (decide (xs=ys)):=by
 have hl:xs.length<=fI Step.tot xs:=br _ _;have h2:=aj
 exact T1 (f:=λx y=>zU k x y) (g:=λu next=>kZ k (xs,ys) u next (λy=>some true) (λy=>some y)) (by omega) (λx hm y=>Nb (by have:=fl Step.tot hm;omega) (by have:=fl Step.tot hm;omega))
  (λi hi hi' next=>by simp only[kZ];rw[ab,if_pos (by omega),aD,aD,ag hi,ag hi',aa,aa]) (λnext=>by simp only[kZ];rw[ab,if_neg (by omega)]) (by omega)
end
section
theorem HJ {α β R:Type} (xs:List α) (f:α->β) (acc:List β) {g:Int× List β->(Int× List β->Option R)->Option R} {fin:List β->Option R}
  (h:∀(i:Nat) (ys:List β) (hi:i<xs.length) (next:Int× List β->Option R),ys.length=acc.length+i->g ((i:Int),ys) next=next (((i+1:Nat):Int),ys++[f xs[i]]))
  (hn:∀ys next,g ((xs.length:Int),ys) next=fin ys) {k:Nat} (hk:xs.length<k):iter g k (0,acc)=fin (acc++xs.map f):=by
 have:=eG (g:=g) (st:=λi=>((i:Int),acc++(xs.take i).map f)) (n:=xs.length) (r:=fin (acc++xs.map f)) (λi hi next=>by
  rw[h i _ hi next (by simp;omega),cR hi,YJ,XP];rfl) (λnext=>by rw[Yj];exact hn _ _) hk
 simpa using this
end
section
theorem PL {β R:Type} (n:Nat) (f:Nat->β) {g:Int× List β->(Int× List β->Option R)->Option R} {fin:List β->Option R}
  (h:∀(i:Nat) (ys:List β) (hi:i<n) (next:Int× List β->Option R),ys.length=i->g ((i:Int),ys) next=next (((i+1:Nat):Int),ys++[f i]))
  (hn:∀ys next,g ((n:Int),ys) next=fin ys) {k:Nat} (hk:n<k):iter g k (0,[])=fin ((List.range n).map f):=by
 have:=eG (g:=g) (st:=λi=>((i:Int),(List.range i).map f)) (n:=n) (r:=fin ((List.range n).map f)) (λi hi next=>by
  rw[h i _ hi next (by simp),Y4,YJ];rfl) (λnext=>hn _ _) hk
 simpa using this
def takes (x:Step):Int:=cond (inB x.kind 4 5&&inB x.a 0 200) x.a 0
theorem wi {k:Nat} {xs:List Int} (hk:xs.length<k) (hx:xs.length<=aG):pk k xs=some xs:=by
 rw[aj]at hx;unfold pk
 have:=sL xs (λx=>x) (g:=λu next=>jx k xs u next (λy=>some y)) (fin:=some) (λi ys hi next hl=>by
  simp only[jx,ab]
  rw[if_pos (by omega),aD,ag hi,aa,bR (by rw[aj,hl];simp;omega),al hi (by omega)]) (λys next=>by
  simp only[jx,ab];rw[if_neg (by omega)]) hk
 simpa using this
theorem nv {k:Nat} {xs:List Int} (hx:xs.length<=aG):eg k xs=some xs:=by
 unfold eg;rw[bR (by simpa using hx)]
 cases xs with
 |nil=>simp only[isNil,cond_true,XY];exact we _
 |cons x l=>rfl
end
section
theorem BO {b c:Bool}:cond b (some c) (some false)=some (b&&c):=by cases b<;>rfl
theorem dM {α:Type} {b:Bool} {x y:α}:cond (!b) x y=cond b y x:=by cases b<;>rfl
theorem pE {α:Type} (a b:Int) (x y:α):cond (a !=b) x y=cond (decide (a=b)) y x:=by rw[PE];by_cases h:a=b<;>simp[h]
theorem Kh (a b:Int):(a==b)=decide (a=b):=TX a b
def LC (l:aA):Bool:=inB l.out 1 8&&(inB l.mult 0 2147483647&&(inB l.shift 0 31&&(inB l.zero (-128) 127&&(decide ((l.pN.length:Int)=l.out)&&(l.pN.all (λx=>inB x (-1000000) 1000000)&&v8 l.weights)))))
def uD (l:aA):Bool:=decide (l.out=0)&&(decide (l.mult=0)&&(decide (l.shift=0)&&(decide ((l.weights.length:Int)=0)&&decide ((l.pN.length:Int)=0))))
def qX (l:aA):Bool:=decide (l.size=0)&&decide (l.step=0)
def PM (s:Shape) (l:aA):Bool:=inB l.size 1 3&&(inB l.step 1 2&&(decide (l.size<=s.h)&&decide (l.size<=s.w)))
def jL (s:Shape) (l:aA):Bool:=s.okB&&
 (cond (decide (l.kind=0)) (qX l&&(LC l&&(decide (s.size<=64)&&decide ((l.weights.length:Int)=l.out*s.size))))
 (cond (decide (l.kind=1)) (PM s l&&(LC l&&(decide ((l.weights.length:Int)=l.out*l.size*l.size*s.c)&&decide ((l.weights.length:Int)<=600))))
 (cond (decide (l.kind=2)||decide (l.kind=3)) (PM s l&&(uD l&&decide (l.zero=0)))
 (cond (decide (l.kind=4)) (qX l&&(uD l&&inB l.zero (-128) 127))
 (cond (decide (l.kind=5)) (qX l&&(uD l&&(decide (l.zero=0)&&decide (s.size<=8)))) false)))))
def tf (s:Shape) (l:aA) (c:Int):Shape:=
 ⟨i64.wrap ((i64.wrap ((i64.wrap (s.h-l.size)).tdiv l.step))+1),i64.wrap ((i64.wrap ((i64.wrap (s.w-l.size)).tdiv l.step))+1),c⟩
def shapeOf (s:Shape) (l:aA):Shape:=
 cond (decide (l.kind=0)) ⟨1,1,l.out⟩ (cond (decide (l.kind=1)) (tf s l l.out) (cond (decide (l.kind=4)) s (cond (decide (l.kind=5)) ⟨1,1,s.size⟩ (tf s l s.c))))
def kh:Shape:=⟨0,0,0⟩
def kI (s:Shape) (l:aA):Shape× Bool:=cond (jL s l) (shapeOf s l,true) (kh,false)
theorem yZ (k:Nat) (x:Int):iv k x=some (inB x (-128) 127):=by unfold iv;rw[bN,aa]
theorem Ki {k:Nat} {l:aA} (hk:l.tot<k) (hN:l.tot<=aG) (fin:Option Bool):
    (iter (λu16 n16=>gY k (l.kind,l.out,l.size,l.step,l.mult,l.shift,l.zero,l.weights,l.pN) u16 n16 (λy9=>iter (λu14 n14=>gZ k (l.kind,l.out,l.size,l.step,l.mult,l.shift,l.zero,l.weights,l.pN) u14 n14 (λy12=>fin) (λy13=>some y13)) k (0:Int)) (λy15=>some y15)) k (0:Int))
      =cond (l.pN.all (λx=>inB x (-1000000) 1000000)) (cond (v8 l.weights) fin (some false)) (some false):=by
  have hM:=aj;unfold aA.tot at hk hN
  rw [kt l.pN (λ x => inB x (-1000000) 1000000) (yes := cond (v8 l.weights) fin (some false)) (no := some false) (λ i hi next => by
    simp only[gY]
    rw[ab,if_pos (by omega),aD,ag hi,aa,bN,aa,cond_not,al hi (by omega)]) (λnext=>by
    simp only[gY];rw[ab,if_neg (by omega)]
    exact kt l.weights (λx=>inB x (-128) 127) (λi hi next=>by
      simp only[gZ]
      rw[ab,if_pos (by omega),aD,ag hi,aa,yZ,aa,cond_not,al hi (by omega)]) (λnext=>by
      simp only[gZ];rw[ab,if_neg (by omega)]) (by omega)) (by omega)]
def BP (l:aA) (window weighs:Bool):Bool:=
 cond window (inB l.size 1 3&&inB l.step 1 2) (qX l)&&cond weighs (LC l) (uD l&&cond (decide (l.kind=4)) (inB l.zero (-128) 127) (decide (l.zero=0)))
theorem T8 (n:Nat):decide ((n:Int)>0)=!decide ((n:Int)=0):=by
 grind
theorem FE {k:Nat} {l:aA} (hk:l.tot<k) (hN:l.tot<=aG) (a b:Bool):sP k l a b=some (BP l a b):=by
 unfold sP BP LC uD qX;simp only[bN,yZ,aa,dM,pE,Ki hk hN,T8,Kh];grind
theorem bd {x a b:Int}:inB x a b=true↔a<=x/\x<=b:=by unfold inB;simp
theorem rY {s:Shape} {l:aA} (h:PM s l=true):1<=l.size/\l.size<=3/\1<=l.step/\l.step<=2/\l.size<=s.h/\l.size<=s.w:=by
 simp only[PM,XB,bd,decide_eq_true_eq]at h;omega
theorem Ac {l:aA} (h:LC l=true):1<=l.out/\l.out<=8:=by
 simp only[LC,XB,bd]at h;omega
theorem HK {o z c:Int} (h1:1<=o) (h2:o<=8) (h3:1<=z) (h4:z<=3) (h5:1<=c) (h6:c<=8):
  i64.wrap (i64.wrap (i64.wrap (o*z)*z)*c)=o*z*z*c/\i64.wrap (o*i64.wrap (i64.wrap (z*z)*c))=o*z*z*c:=by
 have a1:=rM (show 0<=o by omega) h2 (show 0<=z by omega) h4;have a2:=rM a1.1 a1.2 (show 0<=z by omega) h4;have a3:=rM a2.1 a2.2 (show 0<=c by omega) h6;have b1:=rM (show 0<=z by omega) h4 (show 0<=z by omega) h4;have b2:=rM b1.1 b1.2 (show 0<=c by omega) h6;have b3:=rM (show 0<=o by omega) h2 b2.1 b2.2;refine⟨?_,?_⟩
 ·rw[aL (n:=o*z) (by omega) (by omega),aL (n:=o*z*z) (by omega) (by omega),aL (by omega) (by omega)]
 ·rw[aL (n:=z*z) (by omega) (by omega),aL (n:=z*z*c) (by omega) (by omega),aL (by omega) (by omega),<-Z1,<-Z1]
theorem D9 {o:Int} {s:Shape} (h1:1<=o) (h2:o<=8):i64.wrap (o*s.size)=o*s.size:=by
 have h:=Shape.J8 s;have a1:=rM (show 0<=o by omega) h2 h.1 h.2;exact aL (by omega) (by omega)
theorem qD {k:Nat} {s:Shape} {l:aA} (hk:l.tot<k) (hN:l.tot<=aG):my k s l=some (kI s l):=by
  unfold my kI jL;simp only[lk,bN,qB,FE hk hN,aa,dM,pE,Kh];cases hs:s.okB
  · rfl
  obtain⟨c1,c2,c3,c4,c5,c6⟩:=Shape.tc hs;simp only[cond_true,XM];by_cases k0:l.kind=0
  · have e1:inB l.kind 0 5=true:=by rw[bd];omega
    have e2:inB l.kind 1 3=false:=by rw[<-Bool.not_eq_true,bd];omega
    simp only[k0,e1,e2,cond_true,cond_false,BP,shapeOf,decide_true];simp only[k0]at e1 e2;simp only[e1,e2,cond_true,cond_false,show decide ((0:Int)<=1)=true from rfl];cases qX l
    · rfl
    cases T9:LC l
    · rfl
    obtain⟨o1,o2⟩:=Ac T9;simp only[D9 o1 o2,XM,cond_true];by_cases z:s.size<=64
    · rw[decide_eq_true z,decide_eq_false (by omega)];cases decide ((l.weights.length:Int)=l.out*s.size)<;>rfl
    · rw[decide_eq_false z,decide_eq_true (by omega)];rfl
  by_cases k1:l.kind=1
  · simp only[k1,BP,shapeOf,show inB 1 0 5=true from rfl,show inB 1 1 3=true from rfl,decide_true,cond_true,cond_false,show decide ((1:Int)=0)=false from rfl,show decide ((1:Int)<=1)=true from rfl];unfold PM;cases hz:inB l.size 1 3
    · rfl
    cases ht:inB l.step 1 2
    · rfl
    rw[bd]at hz ht;simp only[XM,cond_true];cases T9:LC l
    · simp only[cond_false,Yy,Zc];rfl
    obtain⟨o1,o2⟩:=Ac T9;simp only[cond_true,XM,(HK o1 o2 hz.1 hz.2 c5 c6).1];rw[decide_eq_false (show¬l.step=0 by omega)];simp only[cond_false];by_cases w1:l.size<=s.h
    · rw [decide_eq_true w1, decide_eq_false (show ¬ l.size > s.h by omega)];by_cases w2:l.size<=s.w
      · rw[decide_eq_true w2,decide_eq_false (show¬l.size>s.w by omega)];simp only[cond_false,XM];cases decide ((l.weights.length:Int)=l.out*l.size*l.size*s.c)
        · rfl
        · by_cases w3:(l.weights.length:Int)<=600
          · rw[decide_eq_true w3,decide_eq_false (by omega)];rfl
          · rw[decide_eq_false w3,decide_eq_true (by omega)];rfl
      · rw[decide_eq_false w2,decide_eq_true (show l.size>s.w by omega)];rfl
    · rw[decide_eq_false w1,decide_eq_true (show l.size>s.h by omega)];rfl
  have win:l.kind=2\/l.kind=3->_:=λh23=>by
    have e1:inB l.kind 0 5=true:=by rw[bd];omega
    have e2:inB l.kind 1 3=true:=by rw[bd];omega
    have e3:decide (l.kind<=1)=false:=decide_eq_false (by omega)
    have e4:(decide (l.kind=2)||decide (l.kind=3))=true:=by simpa using h23
    have e5:decide (l.kind=4)=false:=decide_eq_false (by omega);have e6:decide (l.kind=5)=false:=decide_eq_false (by omega);exact And.intro e1 (And.intro e2 (And.intro e3 (And.intro e4 (And.intro e5 e6))))
  by_cases h23:l.kind=2\/l.kind=3
  · obtain⟨e1,e2,e3,e4,e5,e6⟩:=win h23;simp only[e1,e2,e3,e4,e5,e6,decide_eq_false k0,decide_eq_false k1,BP,shapeOf,cond_true,cond_false];unfold PM;cases hz:inB l.size 1 3
    · rfl
    cases ht:inB l.step 1 2
    · rfl
    rw[bd]at hz ht;simp only[XM,cond_true];rw[decide_eq_false (show¬l.step=0 by omega)];cases uD l
    · simp only[Yy,Zc,cond_false];rfl
    cases decide (l.zero=0)
    · simp only[Yy,Zc,cond_false];rfl
    simp only[cond_false,cond_true,Zw,XM];by_cases w1:l.size<=s.h
    · rw[decide_eq_true w1,decide_eq_false (show¬l.size>s.h by omega)];by_cases w2:l.size<=s.w
      · rw[decide_eq_true w2,decide_eq_false (show¬l.size>s.w by omega)];rfl
      · rw[decide_eq_false w2,decide_eq_true (show l.size>s.w by omega)];rfl
    · rw[decide_eq_false w1,decide_eq_true (show l.size>s.h by omega)];rfl
  have e4:(decide (l.kind=2)||decide (l.kind=3))=false:=by simpa using h23
  by_cases k4:l.kind=4
  · simp only[k4,e4,BP,shapeOf,show inB 4 0 5=true from rfl,show inB 4 1 3=false from rfl,decide_true,cond_true,cond_false,show decide ((4:Int)=0)=false from rfl,show decide ((4:Int)=1)=false from rfl,show decide ((4:Int)<=1)=false from rfl,
      show(decide ((4:Int)=2)||decide ((4:Int)=3))=false from rfl,show decide ((4:Int)=5)=false from rfl]
    cases qX l<;>cases uD l<;>cases inB l.zero (-128) 127<;>rfl
  by_cases k5:l.kind=5
  · simp only[k5,BP,shapeOf,show inB 5 0 5=true from rfl,show inB 5 1 3=false from rfl,decide_true,cond_true,cond_false,show decide ((5:Int)=0)=false from rfl,show decide ((5:Int)=1)=false from rfl,show decide ((5:Int)<=1)=false from rfl,
      show(decide ((5:Int)=2)||decide ((5:Int)=3))=false from rfl,show decide ((5:Int)=4)=false from rfl]
    by_cases z:s.size<=8
    · rw[decide_eq_true z,decide_eq_false (show¬s.size>8 by omega)];cases qX l<;>cases uD l<;>cases decide (l.zero=0)<;>rfl
    · rw[decide_eq_false z,decide_eq_true (show s.size>8 by omega)];cases qX l<;>cases uD l<;>cases decide (l.zero=0)<;>rfl
  · have e1:inB l.kind 0 5=false:=by rw[<-Bool.not_eq_true,bd];omega
    simp only[e1,e4,decide_eq_false k0,decide_eq_false k1,decide_eq_false k4,decide_eq_false k5,cond_false];rfl
theorem wj (k:Nat) (l:aA):fv k l=some (qX l):=by
 unfold fv qX;grind
theorem xG (k:Nat) (l:aA):fc k l=some (uD l):=by
 unfold fc uD;grind
theorem uE (k:Nat) (s:Shape) (l:aA):eN k l s=some (PM s l):=by
 unfold eN PM;simp only[gn,aa,BO]
 congr 1
 rw[ZH];simp only[XB,bd,decide_eq_true_eq];grind
theorem Kj {k:Nat} {xs:List Int} (hk:xs.length<k) (hx:xs.length<=pK):aV k xs=some (!xs.all (λx=>inB x (-1000000) 1000000)):=by
 unfold pK at hx;unfold aV bP
 rw[dX xs (λx=>!inB x (-1000000) 1000000) (λi hi next=>by
  simp only[aU,ab,iK,gn,aa]
  rw[if_pos (by omega),aD,ag hi,aa,al hi (by omega)]) (λnext=>by
  simp only[aU,ab];rw[if_neg (by omega)]) hk]
 rw[cQ];simp only[aa,mB];rw[YZ];simp
theorem uF {k:Nat} {l:aA} {n:Int} (hk:l.tot<k) (hN:l.tot<=aG):fY k l n=some (LC l&&decide ((l.weights.length:Int)=i64.wrap (l.out*n))):=by
 have hM:=aj;unfold aA.tot at hk hN;unfold fY LC;simp only[gn,aa,wc (xs:=l.weights) (k:=k) (by omega) (by unfold pK;omega),Kj (xs:=l.pN) (k:=k) (by omega) (by unfold pK;omega),Kh,ZT,BO];grind
theorem jM (k:Nat) {s:Shape} {l:aA} (c:Int) (h:1<=l.step):fw k l s c=some (tf s l c):=by
 unfold fw tf;grind
theorem qE {k:Nat} {s:Shape} {l:aA} (hk:l.tot<k) (hN:l.tot<=aG):mz k s l=some (kI s l):=by
 unfold mz kI jL;simp only[rX,gn,uC,wj,xG,uE,uF hk hN,aa,dM,Kh];cases hs:s.okB
 ·rfl
 obtain⟨c1,c2,c3,c4,c5,c6⟩:=Shape.tc hs;simp only[cond_true,XM];by_cases k0:l.kind=0
 ·simp only[k0,shapeOf,decide_true,cond_true];cases T9:LC l
  ·cases decide (s.size<=64)<;>cases qX l<;>rfl
  obtain⟨o1,o2⟩:=Ac T9;simp only[D9 o1 o2];cases decide (s.size<=64)<;>cases qX l<;>cases decide ((l.weights.length:Int)=l.out*s.size)<;>rfl
 by_cases k1:l.kind=1
 ·simp only[k1,shapeOf,show decide ((1:Int)=0)=false from rfl,decide_true,cond_true,cond_false];cases hw:PM s l
  ·rfl
  have hw:=rY hw;cases T9:LC l
  ·cases decide ((l.weights.length:Int)<=600)<;>rfl
  obtain⟨o1,o2⟩:=Ac T9;simp only[(HK o1 o2 hw.1 hw.2.1 c5 c6).2,jM k _ hw.2.2.1,aa];cases decide ((l.weights.length:Int)<=600)<;>cases decide ((l.weights.length:Int)=l.out*l.size*l.size*s.c)<;>rfl
 simp only[decide_eq_false k0,decide_eq_false k1,cond_false];by_cases k2:l.kind=2
 ·simp only[k2,shapeOf,decide_true,Bool.true_or,cond_true,cond_false,show decide ((2:Int)=0)=false from rfl,show decide ((2:Int)=1)=false from rfl,show decide ((2:Int)=4)=false from rfl,show decide ((2:Int)=5)=false from rfl];cases hw:PM s l
  ·rfl
  have hw:=rY hw;simp only[jM k _ hw.2.2.1,aa];cases uD l<;>cases decide (l.zero=0)<;>rfl
 by_cases k3:l.kind=3
 ·simp only[k3,shapeOf,decide_true,Y7,cond_true,cond_false,show decide ((3:Int)=0)=false from rfl,show decide ((3:Int)=1)=false from rfl,show decide ((3:Int)=2)=false from rfl,show decide ((3:Int)=4)=false from rfl,show decide ((3:Int)=5)=false from rfl];cases hw:PM s l
  ·rfl
  have hw:=rY hw;simp only[jM k _ hw.2.2.1,aa];cases uD l<;>cases decide (l.zero=0)<;>rfl
 simp only[decide_eq_false k2,decide_eq_false k3,Bool.or_self,cond_false];by_cases k4:l.kind=4
 ·simp only[k4,shapeOf,decide_true,cond_true,cond_false,show decide ((4:Int)=0)=false from rfl,show decide ((4:Int)=1)=false from rfl];cases qX l<;>cases uD l<;>cases inB l.zero (-128) 127<;>rfl
 by_cases k5:l.kind=5
 ·simp only[k5,shapeOf,decide_true,cond_true,cond_false,show decide ((5:Int)=0)=false from rfl,show decide ((5:Int)=1)=false from rfl,show decide ((5:Int)=4)=false from rfl];cases qX l<;>cases uD l<;>cases decide (l.zero=0)<;>cases decide (s.size<=8)<;>rfl
 simp only[decide_eq_false k4,decide_eq_false k5,cond_false];rfl
def de:Shape->List aA->Option (List Shape)
 |_,[]=>some []
 |s,l::ls=>cond (jL s l) ((de (shapeOf s l) ls).map (shapeOf s l::·)) none
theorem tQ:∀(ls:List aA) (s:Shape) (t:List Shape),de s ls=some t->t.length=ls.length
 |[],s,t,h=>by cases h;rfl
 |l::ls,s,t,h=>by
  simp only[de]at h;cases hb:jL s l<;>simp only[hb,cond_true,cond_false]at h
  ·grind
  ·obtain⟨t',h1,rfl⟩:=XK.1 h;simp[tQ ls _ _ h1]
theorem uG {R:Type} {aF:List aA} {V:Type} {st:Nat->List Shape->Shape->V} {g:V->(V->Option R)->Option R} {fin:List Shape->Option R} {bad:Option R}
    (h:∀(i:Nat) (ys:List Shape) (s:Shape) (hi:i<aF.length) (next:V->Option R),ys.length=i+1->ys[i]? =some s->g (st i ys s) next=cond (jL s aF[i]) (next (st (i+1) (ys++[shapeOf s aF[i]]) (shapeOf s aF[i]))) bad)
    (hn:∀ys s next,g (st aF.length ys s) next=fin ys):∀(rest:List aA) (i:Nat) (ys:List Shape) (s:Shape) (k:Nat),i<=aF.length->aF.drop i=rest->ys.length=i+1->ys[i]? =some s->rest.length<k->
      iter g k (st i ys s)=(de s rest).elim bad λt=>fin (ys++t)
  |[],i,ys,s,0,hle,hd,hl,hs,hk=>by omega
  |_::_,i,ys,s,0,hle,hd,hl,hs,hk=>by omega
  | [], i, ys, s, k + 1, hle, hd, hl, hs, hk => by
    have h1:=congrArg List.length hd;simp only[YE,X2]at h1;rw[aI]
    have c:i=aF.length:=by omega
    subst c;rw[hn];simp[de]
  | l :: ls, i, ys, s, k + 1, hle, hd, hl, hs, hk => by
    have hi:i<aF.length:=by
      grind
    rw[iu hi]at hd
    injection hd with h1 h2
    rw[aI,h i ys s hi _ hl hs,h1];simp only[de];cases hb:jL s l
    · rfl
    · simp only[cond_true];rw[uG h hn ls (i+1) (ys++[shapeOf s l]) (shapeOf s l) k (by omega) h2 (by simp[hl]) (by rw[XL (by omega),hl];simp) (by simpa using hk)]
      cases de (shapeOf s l) ls with
      |none=>rfl
      |some t=>simp
def eE (m:Model):List Shape× Bool:=cond (m.inp.okB&&inB (m.aF.length:Int) 1 6) ((de m.inp m.aF).elim ([],false) λt=>(m.inp::t,true)) ([],false)
theorem wm {m:Model} {k:Nat} (hk:m.tot<k) (hN:m.tot<=aG) {l:aA} (h:l∈m.aF):l.tot<k/\l.tot<=aG:=by
 have:=fl aA.tot h;unfold Model.tot at hk hN;omega
theorem ib {m:Model} {k:Nat} (hk:m.tot<k) (hN:m.tot<=aG):m.aF.length<k/\m.aF.length<=aG:=by
 have:=br aA.tot m.aF;unfold Model.tot at hk hN;omega
theorem oT {k:Nat} {m:Model} (hk:m.tot<k) (hN:m.tot<=aG):ka k m=some (eE m):=by
  have hM:=aj;obtain⟨hlk,hlN⟩:=ib hk hN;unfold ka eE;simp only[lk,bN,aa,dM];cases m.inp.okB
  · rfl
  cases hlen:inB (m.aF.length:Int) 1 6
  · rfl
  rw[bd]at hlen;simp only[cond_true,XM]
  have:=uG (aF:=m.aF) (V:=Int× List Shape) (st:=λi ys s=>((i:Int),ys)) (fin:=λy=>some (y,true)) (bad:=some (([]:List Shape),false))
    (g:=λu next=>iw k (m.inp.h,m.inp.w,m.inp.c,m.aF) u next (λy6=>some (y6,true)) (λy7=>some (([]:List Shape),y7))) (λi ys s hi next hl hs=>by
      obtain⟨a1,a2⟩:=wm hk hN (XH hi);simp only[iw];rw[ab,if_pos (by omega),ab,if_pos (by omega),XE,hs,aa,aD,ag hi,aa,qD a1 a2,aa,al hi (by omega),bR (by simp;omega)];unfold kI
      cases jL s m.aF[i]<;>rfl) (λys s next=>by
      simp only[iw];rw[ab,if_neg (by omega)]) m.aF 0 [m.inp] m.inp k (by omega) rfl rfl rfl hlk
  refine this.trans ?_;cases de m.inp m.aF<;>rfl
def wo (m:Model):List Shape× Bool:=(de m.inp m.aF).elim ([],false) λt=>(m.inp::t,true)
theorem pF {k:Nat} {m:Model} (hk:m.tot<k) (hN:m.tot<aG):iy k m=some (wo m):=by
  have hM:=aj;obtain⟨hlk,hlN⟩:=ib hk (ZU hN)
  have hb:m.aF.length+1<=aG:=by have:=br aA.tot m.aF;unfold Model.tot at hN;omega
  unfold iy wo
  have := uG (aF := m.aF) (V := Int × List Shape × Int × Int × Int) (st := λ i ys s => ((i : Int), ys, s.h, s.w, s.c)) (fin := λ y => some (y, true)) (bad := some (([] : List Shape), false))
      (g:=λu next=>fx k (m.aF,(m.aF.length:Int)) u next (λy3=>some (y3,true)) (λy4=>some (([]:List Shape),y4))) (λi ys s hi next hl hs=>by
        obtain⟨a1,a2⟩:=wm hk (ZU hN) (XH hi);simp only[fx];rw[ab,if_pos (by omega),aD,ag hi,aa,qE a1 a2,aa,al hi (by omega),bR (by simp;omega)];unfold kI
        cases jL s m.aF[i]<;>rfl) (λys s next=>by
        simp only[fx];rw[ab,if_neg (by omega)]) m.aF 0 [m.inp] m.inp k (by omega) rfl rfl rfl hlk
  refine this.trans ?_;cases de m.inp m.aF<;>rfl
theorem Nc {s:Shape} {ls:List aA} (hs:s.okB=false) (hl:ls≠[]):de s ls=none:=by
 cases ls with
 |nil=>grind
 |cons l ls=>simp[de,jL,hs]
def fi (m:Model):Bool:=(eE m).2
theorem za {m:Model} (h:inB (m.aF.length:Int) 1 6=true):wo m=eE m:=by
 unfold wo eE;rw[h,Zw];cases hs:m.inp.okB
 ·rw[Nc hs (λe=>by rw[e]at h;exact nomatch h)];rfl
 ·rfl
theorem Ea {m:Model} (h:inB (m.aF.length:Int) 1 6=false):fi m=false:=by
 unfold fi eE;rw[h,Zc];rfl
theorem zb {k:Nat} {m:Model} (hk:m.tot<k) (hN:m.tot<=aG):rR k m=some (fi m):=by
 unfold rR;rw[oT hk hN];rfl
theorem rZ {k:Nat} {m:Model} (hk:m.tot<k) (hN:m.tot<aG):mV k m=some (fi m):=by
 unfold mV;rw[gn,aa,dM,pF hk hN];cases h:inB (m.aF.length:Int) 1 6
 ·rw[Ea h];rfl
 ·rw[za h];rfl
def cp (m:Model):List Shape:=cond (fi m) (eE m).1 []
theorem wq {k:Nat} {m:Model} (hk:m.tot<k) (hN:m.tot<aG):pn k m=some (cp m):=by
 unfold pn cp;rw[rZ hk hN,aa,dM,pF hk hN];cases h:fi m
 ·rfl
 ·have:inB (m.aF.length:Int) 1 6=true:=by
   cases h2:inB (m.aF.length:Int) 1 6
   ·rw[Ea h2]at h;exact nomatch h
   ·rfl
  rw[za this];rfl
theorem oB {m:Model} (h:fi m=true):(cp m).length=m.aF.length+1:=by
 unfold cp;rw[h,cond_true];unfold fi at h;unfold eE at h⊢;cases h1:(m.inp.okB&&inB (m.aF.length:Int) 1 6)<;>rw[h1]at h
 ·grind
 ·simp only[cond_true]at h⊢
  cases h2:de m.inp m.aF with
  |none=>grind
  |some t=>simp[tQ _ _ _ h2]
def PN (s t:Shape) (l:aA):Int:=
  cond (decide (l.kind=0)) (i64.wrap (1+(i64.wrap ((i64.wrap (t.size*s.size)).tdiv 16))))
  (cond (decide (l.kind=1)) (i64.wrap (1+(i64.wrap ((i64.wrap ((i64.wrap ((i64.wrap (t.size*l.size))*l.size))*s.c)).tdiv 16))))
  (cond (decide (l.kind=2)) (i64.wrap (1+(i64.wrap ((i64.wrap ((i64.wrap (t.size*l.size))*l.size)).tdiv 16))))
  (cond (decide (l.kind=3)) (i64.wrap (1+(i64.wrap ((i64.wrap ((i64.wrap (t.size*l.size))*l.size)).tdiv 16))))
   (i64.wrap (1+(i64.wrap (s.size.tdiv 16)))))))
def BQ (s:Shape) (l:aA):Int:=cond (kI s l).2 (PN s (kI s l).1 l) 0
theorem Kk {k:Nat} {s:Shape} {l:aA} (hk:l.tot<k) (hN:l.tot<=aG):zV k s l=some (BQ s l):=by
 unfold zV BQ PN;simp only[qD hk hN,qB,aa,dM,Kh];grind
theorem Kl {k:Nat} {s:Shape} {l:aA} (hk:l.tot<k) (hN:l.tot<=aG):zW k s l=some (BQ s l):=by
 unfold zW BQ PN;simp only[qE hk hN,uC,aa,dM,Kh];grind
def bC (m:Model):List Int:=cond (fi m) ((List.range m.aF.length).map λi=>BQ ((cp m).getD i kh) (m.aF.getD i ⟨0,0,0,0,0,0,0,[],[]⟩)) []
theorem dj {α:Type} {xs:List α} {i:Nat} (h:i<xs.length) (d:α):xs.getD i d=xs[i]:=by rw[Ys,ag h];rfl
theorem lq {k:Nat} {m:Model} (hk:m.tot<k) (hN:m.tot<=aG):k7 k m=some (bC m):=by
 have hM:=aj;obtain⟨hlk,hlN⟩:=ib hk hN;unfold k7 bC;rw[oT hk hN,aa,dM];show cond (fi m) _ _=_;cases h:fi m
 ·rfl
 have hsl:=oB h
 have e:(eE m).1=cp m:=by unfold cp;rw[h];rfl
 simp only[cond_true,e]
 exact PL m.aF.length _ (g:=λu next=>k6 k (m.inp.h,m.inp.w,m.inp.c,m.aF,cp m) u next (λy5=>some y5)) (fin:=some) (λi ys hi next hl=>by
  obtain⟨a1,a2⟩:=wm hk hN (XH hi);simp only[k6]
  rw[ab,if_pos (by omega),ab,if_pos (by omega),XE,ag (show i<(cp m).length by omega),aa,aD,ag hi,aa,Kk a1 a2,aa,bR (by simp;omega),al hi (by omega),dj (show i<(cp m).length by omega),dj hi]) (λys next=>by
  simp only[k6];rw[ab,if_neg (by omega)]) hlk
theorem lr {k:Nat} {m:Model} (hk:m.tot+1<k) (hN:m.tot<aG):k9 k m=some (bC m):=by
  have hM:=aj;obtain⟨hlk,hlN⟩:=ib (show m.tot<k-1 by omega) (ZU hN);unfold k9 bC;rw[wq (by omega) hN,aa];cases h:fi m
  · have:cp m=[]:=by unfold cp;rw[h];rfl
    rw[this]
    cases k with
    |zero=>omega
    |succ k=>rfl
  have hsl:=oB h;simp only[cond_true];rw[hsl]
  have := eG (R := List Int) (g := λ u next => k8 k (((m.aF.length + 1 : Nat) : Int), m.inp.h, m.inp.w, m.inp.c, m.aF, cp m) u next (λ y5 => some y5)) (n := m.aF.length + 1)
    (st:=λi=>((i:Int),(List.range (min i m.aF.length)).map λi=>BQ ((cp m).getD i kh) (m.aF.getD i ⟨0,0,0,0,0,0,0,[],[]⟩)))
    (r := some ((List.range m.aF.length).map λ i => BQ ((cp m).getD i kh) (m.aF.getD i ⟨0, 0, 0, 0, 0, 0, 0, [], []⟩))) (λ i hi next => by
      simp only[k8];rw[ab,if_pos (by omega),ab,if_pos (by omega),XE,ag (show i<(cp m).length by omega),aa,al hi (by omega),ab];by_cases c:i<m.aF.length
      · obtain⟨a1,a2⟩:=wm (show m.tot<k by omega) (ZU hN) (XH c);rw[if_pos (by omega),aD,ag c,aa,Kl a1 a2,aa,bR (by simp;omega),Zh (by omega),Zh (by omega),Y4,YJ,List.map_singleton,dj (show i<(cp m).length by omega),dj c]
      · rw[if_neg (by omega),Nat.min_eq_right (by omega),Nat.min_eq_right (by omega)]) (λnext=>by
      simp only[k8]
      rw[ab,if_neg (by omega),Nat.min_eq_right (by omega)]) (k:=k) (by omega)
  simpa using this
def sa (m:Model):Int:=(bC m).foldl (λs x=>i64.wrap (s+x)) 0
theorem ki (m:Model):(bC m).length<=m.aF.length:=by
 unfold bC;grind
theorem Dc {k:Nat} {m:Model} (hk:m.tot<k) (hN:m.tot<=aG):ql k m=some (sa m):=by
 have hM:=aj;obtain⟨hlk,hlN⟩:=ib hk hN;have hc:=ki m;unfold ql;rw[lq hk hN,aa]
 exact rL (bC m) (λs x=>i64.wrap (s+x)) (g:=λu next=>ix k (bC m) u next (λy3=>some y3)) (fin:=some) 0 (λi s hi next _=>by
  simp only[ix]
  rw[ab,if_pos (by omega),ab,if_pos (by omega),XE,ag hi,aa,al hi (by omega)]) (λnext=>by
  simp only[ix];rw[ab,if_neg (by omega)]) (by omega)
theorem FF {k:Nat} {xs:List Int} (hk:xs.length<k) (hN:xs.length<=aG):PK k xs=some (xs.foldl (λs x=>i64.wrap (s+x)) 0):=by
 have hM:=aj
 exact rL xs (λs x=>i64.wrap (s+x)) (g:=λu next=>vF k (xs,(xs.length:Int)) u next (λy2=>some y2)) (fin:=some) 0 (λi s hi next _=>by
  simp only[vF]
  rw[ab,if_pos (by omega),aD,ag hi,aa,al hi (by omega)]) (λnext=>by
  simp only[vF];rw[ab,if_neg (by omega)]) hk
theorem Dd {k:Nat} {m:Model} (hk:m.tot+1<k) (hN:m.tot<aG):qm k m=some (sa m):=by
 obtain⟨hlk,hlN⟩:=ib (show m.tot<k by omega) (ZU hN);have hc:=ki m;unfold qm;rw[lr hk hN,aa,FF (by omega) (by omega)];rfl
end
section
end
section
end
section
theorem HL {k:Nat} {l:aA} (hk:l.tot<k) (hN:l.tot<=aG):vK k l=some l:=by
 unfold aA.tot at hk hN;unfold vK;rw[ln (by omega) (by omega),aa,ln (by omega) (by omega)];rfl
theorem xH {k:Nat} {l:aA} (hN:l.tot<=aG):kD k l=some l:=by
 unfold aA.tot at hN;unfold kD;rw[dc (by omega),aa,dc (by omega)];rfl
theorem xI {k:Nat} {xs:List aA} (hk:fI aA.tot xs<k) (hN:fI aA.tot xs<=aG):oO k xs=some xs:=by
 have hM:=aj;have hl:=br aA.tot xs
 have:=sL xs (λx=>x) (g:=λu next=>fy k (xs,(xs.length:Int)) u next (λy3=>some y3)) (fin:=some) (λi ys hi next hys=>by
  have hm:=fl aA.tot (XH hi);simp only[fy]
  rw[ab,if_pos (by omega),aD,ag hi,aa,xH (by omega),aa,bR (by omega),al hi (by omega)]) (λys next=>by
  simp only[fy];rw[ab,if_neg (by omega)]) (k:=k) (by omega)
 rw[ZV]at this;exact this
theorem xJ {k:Nat} {m:Model} (hk:m.tot<k) (hN:m.tot<=aG):kE k m=some m:=by
 unfold Model.tot at hk hN;unfold kE;rw[xI (by omega) (by omega)];rfl
theorem zc {k:Nat} {m:Model} (hk:m.tot<k) (hN:m.tot<=aG):vL k m=some m:=by
 have hM:=aj;obtain⟨hlk,hlN⟩:=ib hk hN
 have:=sL m.aF (λx=>x) (g:=λu next=>la k (m.inp.h,m.inp.w,m.inp.c,m.aF,(0:Int),(0:Int),(0:Int),m.inp.h,m.inp.w,m.inp.c) u next (λy3=>some (⟨m.inp,y3⟩:Model))) (fin:=λy3=>some (⟨m.inp,y3⟩:Model)) (λi ys hi next hys=>by
  obtain⟨a1,a2⟩:=wm hk hN (XH hi);simp only[la]
  rw[ab,if_pos (by omega),aD,ag hi,aa,HL a1 a2,aa,bR (by omega),al hi (by omega)]) (λys next=>by
  simp only[la];rw[ab,if_neg (by omega)]) (k:=k) hlk
 rw[ZV]at this;exact this
theorem BR {k:Nat} {j:Job} (hk:j.tot<k) (hN:j.tot<=aG):nR k j=some j:=by
 unfold Job.tot az.tot at hk hN;unfold nR;rw[xJ (by omega) (by omega),aa,wg (by omega)];rfl
def en:Model:=⟨⟨0,0,0⟩,[]⟩
end
section
def WB (xs:List Int):Int:=xs.foldl (λs x=>i64.wrap (s+x)) 0
theorem PO (a b:Shape):(cond (a.h==b.h) (cond (a.w==b.w) (cond (a.c==b.c) (true) false) false) false)=decide (a=b):=by
 obtain⟨a1,a2,a3⟩:=a;obtain⟨b1,b2,b3⟩:=b;by_cases h1:a1=b1<;>by_cases h2:a2=b2<;>by_cases h3:a3=b3<;>simp[h1,h2,h3]
def wJ (j:Job):Bool:=fi j.model&&(inB j.at_ 0 j.model.aF.length&&(j.act.okB&&(decide (j.act.sh=(cp j.model).getD j.at_.toNat kh)&&decide (j.jQ=WB ((bC j.model).take j.at_.toNat)))))
theorem iZ {m:Model} (h:fi m=true):(bC m).length=m.aF.length:=by
 unfold bC;rw[h];simp
theorem Eb {k:Nat} {j:Job} (hk:j.tot+1<k) (hN:j.tot<aG):BD k j=some (wJ j):=by
 have hM:=aj;unfold Job.tot az.tot at hk hN
 have hmk:j.model.tot+1<k:=by omega
 have hmN:j.model.tot<aG:=by omega
 obtain⟨hlk,hlN⟩:=ib (show j.model.tot<k by omega) (ZU hmN);unfold BD wJ;rw[rZ (by omega) hmN,aa];cases hm:fi j.model
 ·rfl
 have hsl:=oB hm;have hcl:=iZ hm;simp only[cond_true,XM,gn,aa];cases hin:inB j.at_ 0 j.model.aF.length
 ·rfl
 rw[bd]at hin;simp only[cond_true,XM];rw[qC (by omega) (by unfold pK;omega),aa];cases j.act.okB
 ·rfl
 have hi:j.at_.toNat<(cp j.model).length:=by omega
 simp only[cond_true,XM];rw[wq (by omega) hmN,aa,ab,if_pos (by omega),ag hi,aa,PO,dj hi];cases decide (j.act.sh=(cp j.model)[j.at_.toNat])
 ·rfl
 simp only[cond_true,XM]
 have htl:(((bC j.model).drop 0).take (j.at_.toNat-0)).length<=(bC j.model).length:=by simp;omega
 rw[lr hmk hmN,aa,ab,if_pos (by omega),FF (by omega) (by omega),aa,Kh,Zt,Yt];rfl
theorem tj {k:Nat} {j:Job} (hk:j.tot<k) (hN:j.tot<=aG):uw k j=some (wJ j):=by
  have hM:=aj;unfold Job.tot az.tot at hk hN
  have hmk:j.model.tot<k:=by omega
  have hmN:j.model.tot<=aG:=by omega
  obtain⟨hlk,hlN⟩:=ib hmk hmN;unfold uw wJ;rw[oT hmk hmN,aa,dM];show cond (fi j.model) _ _=_;cases hm:fi j.model
  · rfl
  have hsl:=oB hm;have hcl:=iZ hm
  have e:(eE j.model).1=cp j.model:=by unfold cp;rw[hm];rfl
  simp only[cond_true,XM,bN,aa,dM,e];cases hin:inB j.at_ 0 j.model.aF.length
  · rfl
  rw[bd]at hin;simp only[cond_true,XM];rw[md (by omega) (by unfold pK;omega),aa];cases j.act.okB
  · rfl
  have hi:j.at_.toNat<(cp j.model).length:=by omega
  simp only[cond_true,XM];rw[ab,if_pos (by omega),ag hi,aa,PO,dj hi];cases decide (j.act.sh=(cp j.model)[j.at_.toNat])
  · rfl
  simp only[cond_true,XM];rw[lq hmk hmN,aa]
  have htl:((bC j.model).take j.at_.toNat).length=j.at_.toNat:=by simp;omega
  have:=rL ((bC j.model).take j.at_.toNat) (λs x=>i64.wrap (s+x)) (R:=Bool)
    (g:=λu next=>py k (j.model.inp.h,j.model.inp.w,j.model.inp.c,j.model.aF,j.at_,j.act.sh.h,j.act.sh.w,j.act.sh.c,j.act.data,j.jQ,bC j.model) u next (λy7=>some (j.jQ==y7))) (fin:=λy7=>some (j.jQ==y7)) 0 (λi s hi next _=>by
      rw[htl]at hi
      have hi2:i<(bC j.model).length:=by omega
      simp only[py]
      rw[ab,if_pos (by omega),ab,if_pos (by omega),XE,ag hi2,aa,al hi2 (by omega),List.getElem_take]) (λnext=>by
      simp only[py];rw[ab,if_neg (by omega)]) (k:=k) (by omega)
  rw[this,Kh];rfl
def WC:Job:=⟨⟨⟨0,0,0⟩,[]⟩,0,⟨⟨0,0,0⟩,[]⟩,0⟩
def dw (m:Model) (t:az):Job× Bool:=cond (wJ ⟨m,0,t,0⟩) (⟨m,0,t,0⟩,true) (WC,false)
theorem FG {k:Nat} {m:Model} {t:az} (hk:m.tot+t.tot<k) (hN:m.tot+t.tot<=aG):sS k m t=some (dw m t):=by
 have ht:t.tot=t.data.length:=rfl;unfold sS dw;rw[zc (by omega) (by omega),aa,yY (by omega) (by omega),aa,tj (by simp only[Job.tot];omega) (by simp only[Job.tot];omega),aa,dM];cases wJ ⟨m,0,t,0⟩<;>rfl
theorem FH {k:Nat} {m:Model} {t:az} (hk:m.tot+t.tot+1<k) (hN:m.tot+t.tot<aG):sT k m t=some (dw m t):=by
 unfold sT dw;rw[Eb (by simp only[Job.tot];omega) (by simp only[Job.tot];omega),aa,dM];cases wJ ⟨m,0,t,0⟩
 ·rfl
 ·simp only[cond_true];rw[BR (by simp only[Job.tot];omega) (by simp only[Job.tot];omega)];rfl
theorem zd (m:Model) (t:az):(dw m t).1.tot<=m.tot+t.tot:=by
 unfold dw;cases wJ ⟨m,0,t,0⟩
 ·exact Ya _
 ·simp only[cond_true,Job.tot];omega
end
section
theorem wu (w a:Nat):(BitVec.ofInt w (a:Int)).toNat=a %2^w:=by
 simp
theorem Vm {a b n:Nat} (ha:a<2^n) (hb:b*2^n+a<9223372036854775808):
  i64.wrap (((BitVec.ofInt i64.bits (a:Int)||| BitVec.ofInt i64.bits ((b*2^n:Nat):Int)).toNat:Nat):Int)=((a+b*2^n:Nat):Int):=by
 have h1:a %2^64=a:=Yq (by omega);have h2:(b*2^n) %2^64=b*2^n:=Yq (by omega)
 have h3:a||| b*2^n=a+b*2^n:=by
  have:=Nat.two_pow_add_eq_or_of_lt ha b;rw[Nat.or_comm,Ye b,<-this,Nat.add_comm]
 have e:(BitVec.ofInt i64.bits (a:Int)||| BitVec.ofInt i64.bits ((b*2^n:Nat):Int)).toNat=a+b*2^n:=by
  rw[BitVec.toNat_or,wu,wu];show a %2^64||| (b*2^n) %2^64=_;rw[h1,h2,h3]
 rw[e,aL (by omega) (by omega)]
theorem Ua {c:Nat} (h:c<256):i64.wrap (u8.wrap (((BitVec.ofInt u8.bits (c:Int)&&& BitVec.ofInt u8.bits (127:Int)).toNat:Nat):Int))=((c %128:Nat):Int):=by
 have e:(BitVec.ofInt u8.bits (c:Int)&&& BitVec.ofInt u8.bits (127:Int)).toNat=c %128:=by
  rw[BitVec.toNat_and,wu];show c %2^8&&& 127=_;rw[Yq (by omega)];exact Nat.and_two_pow_sub_one_eq_mod c 7
 rw[e,Hx (by omega) (by omega),aL (by omega) (by omega)]
def oC (b:List Int) (at_:Nat):Nat->Nat->Nat->Int× Int
  |0,_,_=>(0,-1)
  | f + 1, i, u =>
    match b[at_+i]? with
    |none=>(0,-1)
    | some c =>
      cond (decide (128<=c.toNat)) (oC b at_ f (i+1) (u+c.toNat %128*2^(7*i)))
        (cond ((decide (0<i)&&decide (c.toNat=0))||decide (2199023255551<u+c.toNat %128*2^(7*i))) (0,-1)
          (cond (decide ((u+c.toNat %128*2^(7*i)) %2=1)) (-(((u+c.toNat %128*2^(7*i)+1)/2:Nat):Int)) (((u+c.toNat %128*2^(7*i))/2:Nat):Int),((at_+i+1:Nat):Int)))
def cI (b:List Int) (at_:Int):Int× Int:=cond (decide (0<=at_)) (oC b at_.toNat 6 0 0) (0,-1)
theorem Ec {i:Nat} (hi:i<6):(2:Int)^(min (u64.wrap (i64.wrap ((7:Int)*(i:Int)))).toNat i64.bits)=((2^(7*i):Nat):Int)/\
  (2:Int)^(min (i64.wrap ((7:Int)*(i:Int))).toNat i64.bits)=((2^(7*i):Nat):Int):=by
 have:i=0\/i=1\/i=2\/i=3\/i=4\/i=5:=by omega
 rcases this with rfl|rfl|rfl|rfl|rfl|rfl<;>exact⟨by kernel_rfl,by kernel_rfl⟩
theorem FI {i u c:Nat} (hi:i<6) (hu:u<2^(7*i)):u+c %128*2^(7*i)<2^(7*(i+1))/\2^(7*(i+1))<=4398046511104:=by
 have h1:2^(7*(i+1))=128*2^(7*i):=by rw[show 7*(i+1)=7*i+7 from by omega,Nat.pow_add];omega
 have h2:c %128*2^(7*i)<=127*2^(7*i):=XZ _ (by omega);refine⟨by omega,?_⟩
 have:i=0\/i=1\/i=2\/i=3\/i=4\/i=5:=by omega
 rcases this with rfl|rfl|rfl|rfl|rfl|rfl<;>decide
theorem RM {i u n:Nat} (hi:i<6) (hu:u<2^(7*i)) (hn:n<256):
  i64.wrap ((u:Int)+(i64.wrap (((i64.wrap (n:Int)).tmod (128:Int))*2^(min (u64.wrap (i64.wrap ((7:Int)*(i:Int)))).toNat i64.bits))))=((u+n %128*2^(7*i):Nat):Int):=by
 have h:=FI (c:=n) hi hu;have e:((n:Int).tmod 128)=((n %128:Nat):Int):=rfl;rw[aL (n:=(n:Int)) (by omega) (by omega),(Ec hi).1,e,<-YK,aL (n:=((n %128*2^(7*i):Nat):Int)) (by omega) (by omega),<-Int.natCast_add,aL (by omega) (by omega)]
theorem RN {U:Nat} (h:U<4398046511104):i64.wrap ((i64.wrap (0-(i64.wrap ((U:Int)+(1:Int))))).tdiv (2:Int))=-(((U+1)/2:Nat):Int):=by
 have e:(-(((U+1:Nat):Int))).tdiv 2=-(((U+1)/2:Nat):Int):=by rw[Int.neg_tdiv];rfl
 rw[aL (n:=(U:Int)+1) (by omega) (by omega),aL (n:=0-((U:Int)+1)) (by omega) (by omega),show(0:Int)-((U:Int)+1)=-((U+1:Nat):Int)from by omega,e,aL (by omega) (by omega)]
theorem BS {U:Nat} (h:U<4398046511104):i64.wrap ((U:Int).tdiv (2:Int))=((U/2:Nat):Int):=by
 have e:(U:Int).tdiv 2=((U/2:Nat):Int):=rfl;rw[e,aL (by omega) (by omega)]
theorem LD (U:Nat):((U:Int).tmod 2==(1:Int))=decide (U %2=1):=by
 have e:(U:Int).tmod 2=((U %2:Nat):Int):=rfl;rw[Kh,e]
 congr 1
 rw[eq_iff_iff];omega
theorem BT {b:List Int} {a kk:Nat} (hb:∀x∈b,okB x) (hl:b.length<=aG):∀(f i u k:Nat),i+f=6->u<2^(7*i)->f<k->
  iter (λu4 n4=>hJ kk (b,(a:Int)) u4 n4 (λy2=>some ((0:Int),(-1:Int))) (λy3=>some (y3.1,y3.2))) k ((u:Int),(i:Int))=some (oC b a f i u)
 |f,i,u,0,_,_,hk=>by omega
 |0,i,u,k+1,hi,_,_=>by
  rw[aI];simp only[hJ]
  rw[ab,if_neg (by omega)];rfl
 |f+1,i,u,k+1,hi,hu,hk=>by
  have hM:=aj
  have hi6:i<6:=by omega
  rw[aI];simp only[hJ,oC];rw[ab,if_pos (by omega),ab,if_neg (by omega),aL (n:=(b.length:Int)-(i:Int)) (by omega) (by omega),ab];by_cases hin:a+i<b.length
  ·rw[if_neg (by omega),aL (n:=(a:Int)+(i:Int)) (by omega) (by omega),show(a:Int)+(i:Int)=((a+i:Nat):Int)from by omega,aD,ag hin,aa];have hc:=hb b[a+i] (XH hin);unfold okB at hc;obtain⟨n,hn⟩:∃n:Nat,b[a+i]=(n:Int):=⟨b[a+i].toNat,by omega⟩;rw[hn]at hc⊢
   have hn256:n<256:=by omega
   obtain⟨w1,w2⟩:=FI (c:=n) hi6 hu
   have hU:u+n %128*2^(7*i)<4398046511104:=by omega
   simp only[RM hi6 hu hn256,RN hU,BS hU,LD,XE]
   have hsh:u64.wrap (i64.wrap ((7:Int)*(i:Int)))=((7*i:Nat):Int):=by
    have:i=0\/i=1\/i=2\/i=3\/i=4\/i=5:=by omega
    rcases this with rfl|rfl|rfl|rfl|rfl|rfl<;>decide
   rw[hsh,ab,if_neg (by omega),aL (n:=(n:Int)) (by omega) (by omega),aL (n:=((a+i:Nat):Int)+1) (by omega) (by omega),aL (n:=(i:Int)+1) (by omega) (by omega),ab];by_cases h128:128<=n
   ·rw[if_neg (by omega),decide_eq_true h128,cond_true];exact BT (kk:=kk) hb hl f (i+1) _ k (by omega) w1 (by omega)
   ·rw[if_pos (by omega),decide_eq_false h128,cond_false,Kh]
    have e1:decide ((n:Int)=0)=decide (n=0):=by congr 1;rw[eq_iff_iff];omega
    have e2:decide ((i:Int)>0)=decide (0<i):=by congr 1;rw[eq_iff_iff];omega
    have e3:((a+i:Nat):Int)+1=((a+i+1:Nat):Int):=by omega
    have e4:decide ((((u+n %128*2^(7*i)):Nat):Int)>2199023255551)=decide (2199023255551<(u+n %128*2^(7*i))):=by congr 1;rw[eq_iff_iff];omega
    rw[e1,e2,e3,e4];cases decide (2199023255551<(u+n %128*2^(7*i)))<;>cases decide (n=0)<;>cases decide (0<i)<;>cases decide ((u+n %128*2^(7*i)) %2=1)<;>rfl
  ·rw[if_pos (by omega),Yb (by omega)]
theorem qF {k:Nat} {b:List Int} {a:Int} (hk:7<=k) (hb:∀x∈b,okB x) (hl:b.length<=aG):mA k b a=some (cI b a):=by
 unfold mA cI;by_cases h:0<=a
 ·rw[decide_eq_true h,cond_true];have:=BT (kk:=k) (a:=a.toNat) hb hl 6 0 0 k rfl (by decide) (by omega);rw[Int.toNat_of_nonneg h]at this;exact this
 ·rw[decide_eq_false h,cond_false];obtain⟨k,rfl⟩:∃k',k=k'+1:=⟨k-1,by omega⟩;rw[aI];simp only[hJ];rw[ab,if_pos (by omega),ab,if_pos (by omega)]
theorem Ub {i u n:Nat} (hi:i<6) (hu:u<2^(7*i)) (hn:n<256):
  i64.wrap (((BitVec.ofInt i64.bits (u:Int)||| BitVec.ofInt i64.bits (i64.wrap ((i64.wrap (u8.wrap (((BitVec.ofInt u8.bits (n:Int)&&& BitVec.ofInt u8.bits (127:Int)).toNat:Int))))*2^(min (i64.wrap ((7:Int)*(i:Int))).toNat i64.bits)))).toNat:Int))=((u+n %128*2^(7*i):Nat):Int):=by
 have h:=FI (c:=n) hi hu;rw[Ua hn,(Ec hi).2,<-YK,aL (n:=((n %128*2^(7*i):Nat):Int)) (by omega) (by omega),Vm hu (by omega)]
theorem PQ {U:Nat} (h:U<4398046511104) (ho:U %2=1):i64.wrap ((i64.wrap (0-(i64.wrap ((U:Int).tdiv (2:Int)))))-(1:Int))=-(((U+1)/2:Nat):Int):=by
 rw[BS h,aL (n:=0-((U/2:Nat):Int)) (by omega) (by omega),aL (by omega) (by omega)];omega
theorem BU (k:Nat) (x:Int):nQ k x=some (inB x (-1099511627776) 1099511627775):=by unfold nQ;rw[gn];rfl
theorem BV {b l:List Int} {a kk:Nat} (hb:∀x∈b,okB x) (hlN:b.length<=aG) (hl:l=(b.take (min (a+6) b.length)).drop a) (ha:a<=b.length):∀(f i u k:Nat),i+f=6->u<2^(7*i)->f<k->
    iter (λu9 n9=>jy kk ((a:Int),l,(l.length:Int)) u9 n9 (λy7=>some ((0:Int),(-1:Int))) (λy8=>some (y8.1,y8.2))) k ((u:Int),(i:Int))=some (oC b a f i u)
  |f,i,u,0,_,_,hk=>by omega
  | 0, i, u, k + 1, hi, _, _ => by
    have hll:l.length<=6:=by rw[hl];simp;omega
    rw[aI];simp only[jy]
    rw[ab,if_neg (by omega)];rfl
  | f + 1, i, u, k + 1, hi, hu, hk => by
    have hM:=aj
    have hi6:i<6:=by omega
    have hll:l.length=min 6 (b.length-a):=by rw[hl];simp;omega
    rw[aI];generalize hnx:iter _ k=nx;simp only[jy,oC];by_cases hin:a+i<b.length
    · have hli:i<l.length:=by omega
      have AJ:l[i]=b[a+i]:=by subst hl;simp
      rw[ab,if_pos (by omega),aD,ag hli,aa,ag hin,AJ];have hc:=hb b[a+i] (XH hin);unfold okB at hc;obtain⟨n,hn⟩:∃n:Nat,b[a+i]=(n:Int):=⟨b[a+i].toNat,by omega⟩;rw[hn]at hc⊢
      have hn256:n<256:=by omega
      obtain⟨w1,w2⟩:=FI (c:=n) hi6 hu
      have hU:u+n %128*2^(7*i)<4398046511104:=by omega
      have hsh:i64.wrap ((7:Int)*(i:Int))=((7*i:Nat):Int):=by
        rw[aL (by omega) (by omega)];omega
      have hnn:¬(i64.wrap ((7:Int)*(i:Int))<0):=by rw[hsh];omega
      rw[decide_eq_false hnn,cond_false];simp only[Ub hi6 hu hn256,LD,XE,BU,aa,dM];rw[aL (n:=(a:Int)+(i:Int)) (by omega) (by omega),show(a:Int)+(i:Int)=((a+i:Nat):Int)from by omega,aL (n:=((a+i:Nat):Int)+1) (by omega) (by omega),aL (n:=(i:Int)+1) (by omega) (by omega),ab];by_cases h128:128<=n
      · rw[if_pos (by omega),decide_eq_true h128,cond_true];rw[<-hnx];exact BV (kk:=kk) hb hlN hl ha f (i+1) _ k (by omega) w1 (by omega)
      · rw [if_neg (by omega), decide_eq_false h128, cond_false, Kh]
        have e1:decide ((n:Int)=0)=decide (n=0):=by congr 1;rw[eq_iff_iff];omega
        have e2:decide ((i:Int)>0)=decide (0<i):=by congr 1;rw[eq_iff_iff];omega
        have e3:((a+i:Nat):Int)+1=((a+i+1:Nat):Int):=by omega
        rw[e1,e2,e3];by_cases ho:(u+n %128*2^(7*i)) %2=1
        · rw[decide_eq_true ho,PQ hU ho]
          have e4:inB (-(((u+n %128*2^(7*i)+1)/2:Nat):Int)) (-1099511627776) 1099511627775=!decide (2199023255551<(u+n %128*2^(7*i))):=by
            rw[ZH,bd,Zz,decide_eq_false_iff_not];constructor<;>intro h<;>omega
          rw[e4];cases decide (2199023255551<(u+n %128*2^(7*i)))<;>cases decide (n=0)<;>cases decide (0<i)<;>rfl
        · rw[decide_eq_false ho,BS hU]
          have e4:inB (((u+n %128*2^(7*i))/2:Nat):Int) (-1099511627776) 1099511627775=!decide (2199023255551<(u+n %128*2^(7*i))):=by
            rw[ZH,bd,Zz,decide_eq_false_iff_not];constructor<;>intro h<;>omega
          rw[e4];cases decide (2199023255551<(u+n %128*2^(7*i)))<;>cases decide (n=0)<;>cases decide (0<i)<;>rfl
    · rw[ab,if_neg (by omega),Yb (by omega)]
theorem FJ {k:Nat} {b:List Int} {a:Int} (hk:7<=k) (hb:∀x∈b,okB x) (hl:b.length<=aG):sR k b a=some (cI b a):=by
  have hM:=aj;unfold sR cI;rw[gn,aa,dM,aL (n:=(b.length:Int)-1) (by omega) (by omega)];by_cases h:0<=a
  · rw [decide_eq_true h, cond_true];by_cases h2:a<b.length
    · have e:inB a 0 ((b.length:Int)-1)=true:=bd.2 (by omega)
      have e6:(if i64.wrap (a+6)<(b.length:Int)then i64.wrap (a+6)else(b.length:Int))=((min (a.toNat+6) b.length:Nat):Int):=by
        rw[aL (by omega) (by omega)];split<;>omega
      rw[e,cond_true,e6,ab,if_pos (by omega),ab,if_pos (by omega),XE];have:=BV (kk:=k) (l:=(b.take (min (a.toNat+6) b.length)).drop a.toNat) (a:=a.toNat) hb hl rfl (by omega) 6 0 0 k rfl (by decide) (by omega);rw[Int.toNat_of_nonneg h]at this;exact this
    · have e:inB a 0 ((b.length:Int)-1)=false:=by rw[<-Bool.not_eq_true,bd];omega
      rw[e,cond_false];simp only[oC];rw[Yb (by omega)]
  · have e:inB a 0 ((b.length:Int)-1)=false:=by rw[<-Bool.not_eq_true,bd];omega
    rw[decide_eq_false h,cond_false,e];rfl
end
section
def aR (b:List Int) (at_:Int) (bad:Bool):Int× Int× Bool:=
 cond bad (0,at_,true) (cond (decide ((cI b at_).2<0)) (0,at_,true) ((cI b at_).1,(cI b at_).2,false))
theorem bg {k:Nat} {b:List Int} {a:Int} {bad:Bool} (hk:7<=k) (hb:∀x∈b,okB x) (hl:b.length<=aG):bf k b a bad=some (aR b a bad):=by
 unfold bf aR;simp only[qF hk hb hl,aa,decide_true,cond_true];cases bad<;>cases decide ((cI b a).2<0)<;>rfl
theorem cl {k:Nat} {b:List Int} {a:Int} {bad:Bool} (hk:7<=k) (hb:∀x∈b,okB x) (hl:b.length<=aG):au k ⟨b,a,bad⟩=some (aR b a bad):=by
 unfold au aR;simp only[FJ hk hb hl,aa,decide_true,cond_true];cases bad<;>cases decide ((cI b a).2<0)<;>rfl
end
section
theorem Ed {b:List Int} {a:Nat}:∀(f i u:Nat),(oC b a f i u).2=-1\/((a:Int)<(oC b a f i u).2/\(oC b a f i u).2<=b.length)
 |0,i,u=>.inl rfl
 |f+1,i,u=>by
  simp only[oC]
  cases hc:b[a+i]? with
  |none=>exact .inl rfl
  |some c=>
   have hlt:=(Of.1 hc).1;simp only;cases decide (128<=c.toNat)
   ·simp only[cond_false];cases((decide (0<i)&&decide (c.toNat=0))||decide (2199023255551<u+c.toNat %128*2^(7*i)))
    ·simp only[cond_false];right;omega
    ·exact .inl rfl
   ·exact Ed f (i+1) _
theorem HM (b:List Int) (a:Int):(cI b a).2=-1\/(0<=a/\a<(cI b a).2/\(cI b a).2<=b.length):=by
 unfold cI;by_cases h:0<=a
 ·rw[decide_eq_true h,cond_true]
  rcases Ed (b:=b) (a:=a.toNat) 6 0 0 with h1|h1
  ·exact .inl h1
  ·right;omega
 ·rw[decide_eq_false h];exact .inl rfl
def nq (b:List Int) (a:Int):Option (Int× Int):=cond (decide ((cI b a).2<0)) none (some (cI b a))
theorem fS {b:List Int} {a x p:Int} (h:nq b a=some (x,p)):0<=a/\a<p/\p<=b.length:=by
 unfold nq at h
 rcases HM b a with h1|h1
 ·rw[h1]at h;exact nomatch h
 ·rw[decide_eq_false (by omega),cond_false,It]at h;rw[h]at h1;exact h1
theorem aX (b:List Int) (a:Int):aR b a false=(nq b a).elim (0,a,true) λq=>(q.1,q.2,false):=by
 unfold aR nq;cases decide ((cI b a).2<0)<;>rfl
theorem bq (b:List Int) (a:Int):aR b a true=(0,a,true):=rfl
def aY (b:List Int) (a:Int) (bad:Bool) (most:Int):Int× Int× Bool:=cond (inB (aR b a bad).1 0 most) (aR b a bad) (0,(aR b a bad).2.1,true)
theorem eQ {k:Nat} {b:List Int} {a most:Int} {bad:Bool} (hk:7<=k) (hb:∀x∈b,okB x) (hl:b.length<=aG):cz k ⟨b,a,bad⟩ most=some (aY b a bad most):=by
 unfold cz aY;simp only[cl hk hb hl,gn,aa,decide_true,cond_true,dM];cases inB (aR b a bad).1 0 most<;>rfl
theorem ja {k:Nat} {b:List Int} {a:Int} {bad:Bool} (hk:7<=k) (hb:∀x∈b,okB x) (hl:b.length<=aG):dJ k ⟨b,a,bad⟩=
  some (let r1:=aR b a bad;let r2:=aR b r1.2.1 r1.2.2;let r3:=aR b r2.2.1 r2.2.2;(⟨r1.1,r2.1,r3.1⟩,r3.2.1,r3.2.2)):=by
 unfold dJ;simp only[cl hk hb hl,aa,decide_true,cond_true]
theorem jb (k:Nat) (b:List Int) (a n:Int):db k ⟨b,a,true⟩ n=some ([],a,true):=by
 unfold db;simp only[decide_true,cond_true]
theorem FK {k:Nat} {b:List Int} {a n:Int} (hl:b.length<=aG) (ha:0<=a/\a<=b.length) (hn:0<=n/\n<=6000):db k ⟨b,a,false⟩ n=
  some (cond (decide (n>(b.length:Int)-a)) ([],a,true) ((b.take (a+n).toNat).drop a.toNat,a+n,false)):=by
 have hM:=aj;unfold db;simp only[decide_true,cond_true,cond_false];rw[aL (n:=(b.length:Int)-a) (by omega) (by omega)];by_cases h:n>(b.length:Int)-a
 ·rw[decide_eq_true h];rfl
 ·rw[decide_eq_false h,cond_false,cond_false,aL (n:=a+n) (by omega) (by omega),aL (n:=a+n-n) (by omega) (by omega),show a+n-n=a from by omega,ab,if_pos (by omega),ab,if_pos (by omega),
   nv (by simp;omega),aa]
def qG (b:List Int):Nat->Int->Option (List Int× Int)
 |0,a=>some ([],a)
 |n+1,a=>(nq b a).bind λq=>(qG b n q.2).bind λr=>some (q.1::r.1,r.2)
theorem FL {k:Nat} {b:List Int} {n a:Int} {acc:List Int} {fin:List Int× Int× Bool->Option (List Int× Int× Bool)} (hk:1<=k):
  iter (λu4 n4=>aH k b u4 n4 fin) k (n,a,true,acc)=fin (acc,a,true):=by
 obtain⟨k',hk'⟩:∃k',k=k'+1:=⟨k-1,by omega⟩
 conv=>lhs;arg 2;rw[hk']
 rw[aI];simp only[aH];cases decide (n>0)<;>rfl
theorem HN {k:Nat} {b:List Int} {fin:List Int× Int× Bool->Option (List Int× Int× Bool)} (hk:7<=k) (hb:∀x∈b,okB x) (hl:b.length<=aG):∀(n:Nat) (a:Int) (acc:List Int) (kf:Nat),n<kf->acc.length+n<=aG->
  (∃xs p,qG b n a=some (xs,p)/\iter (λu4 n4=>aH k b u4 n4 fin) kf ((n:Int),a,false,acc)=fin (acc++xs,p,false))\/
  (qG b n a=none/\∃ys p,iter (λu4 n4=>aH k b u4 n4 fin) kf ((n:Int),a,false,acc)=fin (ys,p,true))
 |n,a,acc,0,hk',_=>by omega
 |0,a,acc,kf+1,_,_=>by
  refine .inl ⟨[],a,rfl,?_⟩;rw[aI,XY]
  rfl
 |n+1,a,acc,kf+1,hk',hN=>by
  have hM:=aj
  have e:iter (λu4 n4=>aH k b u4 n4 fin) (kf+1) (((n+1:Nat):Int),a,false,acc)=
    iter (λu4 n4=>aH k b u4 n4 fin) kf ((n:Int),(aR b a false).2.1,(aR b a false).2.2,acc++[(aR b a false).1]):=by
   rw[aI];generalize iter _ kf=nx;simp only[aH];rw[decide_eq_true (show((n+1:Nat):Int)>0 by omega),cond_true,cl hk hb hl,aa,bR (by simp;omega),aL (by omega) (by omega),show((n+1:Nat):Int)-1=(n:Int)from by omega];rfl
  rw[e,aX];simp only[qG]
  cases hq:nq b a with
  |none=>
   refine .inr ⟨rfl,?_⟩;simp only[X5];obtain⟨kf,rfl⟩:∃k',kf=k'+1:=⟨kf-1,by omega⟩;refine⟨acc++[0],a,?_⟩;rw[aI];simp only[aH]
   cases decide ((n:Int)>0)<;>rfl
  |some q=>
   simp only[XD,XC]
   rcases HN hk hb hl n q.2 (acc++[q.1]) kf (by omega) (by simp;omega)with⟨xs,p,h1,h2⟩|⟨h1,ys,p,h2⟩
   ·exact .inl ⟨q.1::xs,p,by rw[h1];rfl,by rw[h2];simp⟩
   ·exact .inr ⟨by rw[h1];rfl,ys,p,h2⟩
end
section
section
variable {R:Type} {k:Nat} {b:List Int} {m:Int} {q1 q2 q3 q4 q5 q6 q7 q8 q9 q10 q11 q12:Int} {d:List Int} {fin:Int× Bool× List Int->Option R}
theorem LF (hk:7<=k) (hb:∀x∈b,okB x) (hl:b.length<=aG) (hm:m<=aG):∀(n i:Nat) (a:Int) (acc:List Int) (kf:Nat),(i:Int)+n=m->n<kf->acc.length+n<=aG->
  ∃ys,iter (λu14 n14=>dr k (m,q1,q2,q3,q4,q5,q6,b,q7,q8,q9,q10,q11,q12,d) u14 n14 fin) kf ((i:Int),a,true,acc)=fin (a,true,ys)
 |n,i,a,acc,0,_,h,_=>by omega
 |0,i,a,acc,kf+1,hi,_,_=>by
  refine⟨acc,?_⟩;rw[aI];simp only[dr]
  rw[ab,if_neg (by omega)]
 |n+1,i,a,acc,kf+1,hi,h,hN=>by
  have hM:=aj;obtain⟨ys,e⟩:=LF hk hb hl hm n (i+1) a (acc++[0]) kf (by omega) (by omega) (by simp;omega);refine⟨ys,?_⟩;rw[<-e,aI];generalize iter _ kf=nx;simp only[dr];rw[ab,if_pos (by omega),bg hk hb hl,aa,bq,bR (by simp;omega),aL (by omega) (by omega),show(i:Int)+1=((i+1:Nat):Int)from by omega]
end
end
section
section
variable {R:Type} {k:Nat} {b:List Int} {m:Int} {q1 q2 q3 q4 q5 q6 q7 q8 q9 q10 q11 q12:Int} {d:List Int} {fin:Int× Bool× List Int->Option R}
theorem HO (hk:7<=k) (hb:∀x∈b,okB x) (hl:b.length<=aG) (hm:m<=aG):∀(n i:Nat) (a:Int) (acc:List Int) (kf:Nat),(i:Int)+n=m->n<kf->acc.length+n<=aG->
  (∃xs p,qG b n a=some (xs,p)/\iter (λu14 n14=>dr k (m,q1,q2,q3,q4,q5,q6,b,q7,q8,q9,q10,q11,q12,d) u14 n14 fin) kf ((i:Int),a,false,acc)=fin (p,false,acc++xs))\/
  (qG b n a=none/\∃ys p,iter (λu14 n14=>dr k (m,q1,q2,q3,q4,q5,q6,b,q7,q8,q9,q10,q11,q12,d) u14 n14 fin) kf ((i:Int),a,false,acc)=fin (p,true,ys))
 |n,i,a,acc,0,_,h,_=>by omega
 |0,i,a,acc,kf+1,hi,_,_=>by
  refine .inl ⟨[],a,rfl,?_⟩;rw[aI,XY];simp only[dr]
  rw[ab,if_neg (by omega)]
 |n+1,i,a,acc,kf+1,hi,h,hN=>by
  have hM:=aj
  have e:iter (λu14 n14=>dr k (m,q1,q2,q3,q4,q5,q6,b,q7,q8,q9,q10,q11,q12,d) u14 n14 fin) (kf+1) ((i:Int),a,false,acc)=
    iter (λu14 n14=>dr k (m,q1,q2,q3,q4,q5,q6,b,q7,q8,q9,q10,q11,q12,d) u14 n14 fin) kf (((i+1:Nat):Int),(aR b a false).2.1,(aR b a false).2.2,acc++[(aR b a false).1]):=by
   rw[aI];generalize iter _ kf=nx;simp only[dr];rw[ab,if_pos (by omega),bg hk hb hl,aa,bR (by simp;omega),aL (by omega) (by omega),show(i:Int)+1=((i+1:Nat):Int)from by omega]
  rw[e,aX];simp only[qG]
  cases hq:nq b a with
  |none=>
   refine .inr ⟨rfl,?_⟩;simp only[X5];obtain⟨ys,e⟩:=LF (q1:=q1) (q2:=q2) (q3:=q3) (q4:=q4) (q5:=q5) (q6:=q6) (q7:=q7) (q8:=q8) (q9:=q9) (q10:=q10) (q11:=q11) (q12:=q12) (d:=d) (fin:=fin) hk hb hl hm n (i+1) a (acc++[0]) kf (by omega) (by omega) (by simp;omega)
   exact⟨ys,a,e⟩
  |some q=>
   simp only[XD,XC]
   rcases HO hk hb hl hm n (i+1) q.2 (acc++[q.1]) kf (by omega) (by omega) (by simp;omega)with⟨xs,p,h1,h2⟩|⟨h1,ys,p,h2⟩
   ·exact .inl ⟨q.1::xs,p,by rw[h1];rfl,by rw[h2];simp⟩
   ·exact .inr ⟨by rw[h1];rfl,ys,p,h2⟩
end
def LG:Step:=⟨0,0,0,[],⟨⟨0,0,0⟩,[]⟩⟩
def BW (b:List Int) (a:Int):Option (List Int× Int):=(nq b a).bind λq=>cond (inB q.1 0 512) (qG b q.1.toNat q.2) none
def eX (b:List Int) (a:Int):Option (Step× Int):=
  (nq b a).bind λp1=>(nq b p1.2).bind λp2=>(nq b p2.2).bind λp3=>(nq b p3.2).bind λp4=>
    cond (inB p4.1 0 6000) (cond (decide (p4.1>(b.length:Int)-p4.2)) none
      ((nq b (p4.2+p4.1)).bind λp5=>(nq b p5.2).bind λp6=>(nq b p6.2).bind λp7=>(BW b p7.2).bind λr=>
        some (⟨p1.1,p2.1,p3.1,(b.take (p4.2+p4.1).toNat).drop p4.2.toNat,⟨⟨p5.1,p6.1,p7.1⟩,r.1⟩⟩,r.2))) none
def FM (b:List Int) (a:Int):Step× Int:=(eX b a).getD (LG,-1)
theorem HP {b:List Int}:∀{n:Nat} {a:Int} {xs:List Int} {p:Int},qG b n a=some (xs,p)->xs.length=n
 |0,a,xs,p,h=>by simp only[qG,It,XO]at h;rw[<-h.1];rfl
 |n+1,a,xs,p,h=>by
  simp only[qG]at h
  cases hq:nq b a with
  |none=>rw[hq]at h;exact nomatch h
  |some q=>
   rw[hq,XC]at h
   cases hr:qG b n q.2 with
   |none=>rw[hr]at h;exact nomatch h
   |some r=>
    rw[hr,XC,It,XO]at h;rw[<-h.1,XI,HP (xs:=r.1) (p:=r.2) hr]
theorem HQ {b:List Int}:∀{n:Nat} {a:Int} {xs:List Int} {p:Int},qG b n a=some (xs,p)->0<=a->a<=b.length->a<=p/\p<=b.length
 |0,a,xs,p,h,_,_=>by simp only[qG,It,XO]at h;omega
 |n+1,a,xs,p,h,_,_=>by
  simp only[qG]at h
  cases hq:nq b a with
  |none=>rw[hq]at h;exact nomatch h
  |some q=>
   rw[hq,XC]at h;have:=fS (x:=q.1) (p:=q.2) hq
   cases hr:qG b n q.2 with
   |none=>rw[hr]at h;exact nomatch h
   |some r=>
    rw[hr,XC,It,XO]at h;have h2:=HQ (xs:=r.1) (p:=r.2) hr (by omega) (by omega);omega
theorem tR {b:List Int} {a:Int} {x:Step} {p:Int} (h:eX b a=some (x,p)):0<=a/\a<p/\p<=b.length/\x.tot<=6512:=by
 unfold eX BW at h;simp only[An]at h;obtain⟨p1,h1,p2,h2,p3,h3,p4,h4,h⟩:=h;cases c4:inB p4.1 0 6000
 ·rw[c4]at h;exact nomatch h
 rw[c4,cond_true]at h;cases c5:decide (p4.1>(b.length:Int)-p4.2)
 case true=>rw[c5]at h;exact nomatch h
 rw[c5,cond_false]at h;simp only[An]at h;obtain⟨p5,h5,p6,h6,p7,h7,r,⟨p8,h8,hr⟩,h⟩:=h;cases c8:inB p8.1 0 512
 ·rw[c8]at hr;exact nomatch hr
 rw[c8,cond_true]at hr;rw[It,XO]at h;have g1:=fS (x:=p1.1) (p:=p1.2) h1;have g2:=fS (x:=p2.1) (p:=p2.2) h2;have g3:=fS (x:=p3.1) (p:=p3.2) h3;have g4:=fS (x:=p4.1) (p:=p4.2) h4;have g5:=fS (x:=p5.1) (p:=p5.2) h5;have g6:=fS (x:=p6.1) (p:=p6.2) h6;have g7:=fS (x:=p7.1) (p:=p7.2) h7;have g8:=fS (x:=p8.1) (p:=p8.2) h8;have g9:=HQ (xs:=r.1) (p:=r.2) hr (by omega) (by omega);have g10:=HP (xs:=r.1) (p:=r.2) hr;have c4':=of_decide_eq_true c4;have c8':=of_decide_eq_true c8;refine⟨by omega,by omega,by omega,?_⟩;rw[<-h.1];simp only[Step.tot,az.tot,YE,X9];omega
theorem FN {k:Nat} {b:List Int} {a:Int} (hk:6001<=k) (hb:∀x∈b,okB x) (hl:b.length<=aG):sQ k b a=some (FM b a):=by
 have hM:=aj
 have h7:7<=k:=by omega
 unfold sQ FM eX BW;rw[bg h7 hb hl,aX]
 cases h1:nq b a with
 |none=>simp only[X5,Yg,aa,bg h7 hb hl,bq,cond_true];rfl
 |some p1=>
 simp only[XD,XC];rw[bg h7 hb hl,aX]
 cases h2:nq b p1.2 with
 |none=>simp only[X5,Yg,aa,bg h7 hb hl,bq,cond_true];rfl
 |some p2=>
 simp only[XD,XC];rw[bg h7 hb hl,aX]
 cases h3:nq b p2.2 with
 |none=>simp only[X5,Yg,aa,bg h7 hb hl,bq,cond_true];rfl
 |some p3=>
 simp only[XD,XC];rw[bg h7 hb hl,aX]
 cases h4:nq b p3.2 with
 |none=>simp only[X5,Yg,aa,bg h7 hb hl,bq,cond_true];rfl
 |some p4=>
 simp only[XD,XC,cond_false];rw[bN,aa];have g4:=fS (x:=p4.1) (p:=p4.2) h4;cases c4:inB p4.1 0 6000
 ·rfl
 have c4':=of_decide_eq_true c4;simp only[XJ,cond_true,cond_false];rw[aL (n:=(b.length:Int)-p4.2) (by omega) (by omega)];by_cases c5:p4.1>(b.length:Int)-p4.2
 ·rw[decide_eq_true c5];rfl
 rw[decide_eq_false c5];simp only[cond_false];rw[aL (n:=p4.2+p4.1) (by omega) (by omega),ab,if_pos (by omega),ab,if_pos (by omega),wi (by simp;omega) (by simp;omega),aa,bg h7 hb hl,aX]
 cases h5:nq b (p4.2+p4.1)with
 |none=>simp only[X5,Yg,aa,bg h7 hb hl,bq,cond_true];rfl
 |some p5=>
 simp only[XD,XC];rw[bg h7 hb hl,aX]
 cases h6:nq b p5.2 with
 |none=>simp only[X5,Yg,aa,bg h7 hb hl,bq,cond_true];rfl
 |some p6=>
 simp only[XD,XC];rw[bg h7 hb hl,aX]
 cases h7':nq b p6.2 with
 |none=>simp only[X5,Yg,aa,bg h7 hb hl,bq,cond_true];rfl
 |some p7=>
 simp only[XD,XC];rw[bg h7 hb hl,aX]
 cases h8:nq b p7.2 with
 |none=>simp only[X5,Yg,aa,bg h7 hb hl,bq,cond_true];rfl
 |some p8=>
 simp only[XD,XC,cond_false];rw[bN,aa];cases c8:inB p8.1 0 512
 ·rfl
 have c8':=of_decide_eq_true c8;simp only[XJ,cond_true,cond_false]
 have e8:((p8.1.toNat:Nat):Int)=p8.1:=by omega
 rcases HO (R:=Step× Int) (k:=k) (b:=b) (m:=p8.1) (q1:=0) (q2:=0) (q3:=0) (q4:=0) (q5:=0) (q6:=0) (q7:=p1.1) (q8:=p2.1) (q9:=p3.1) (q10:=p5.1) (q11:=p6.1) (q12:=p7.1) (d:=(b.take (p4.2+p4.1).toNat).drop p4.2.toNat)
  (fin:=λy13=>cond (y13.2.1) (some (LG,(-1:Int))) (some ((⟨p1.1,p2.1,p3.1,(b.take (p4.2+p4.1).toNat).drop p4.2.toNat,(⟨(⟨p5.1,p6.1,p7.1⟩:Shape),y13.2.2⟩:az)⟩:Step),y13.1)))
  h7 hb hl (by omega) p8.1.toNat 0 p8.2 [] k (by omega) (by omega) (by simp;omega)with⟨xs,p,e1,e2⟩|⟨e1,ys,p,e2⟩
 ·rw[e1];exact e2
 ·rw[e1];exact e2
theorem fT {k:Nat} {b:List Int} {a:Int} (hk:7<=k) (hb:∀x∈b,okB x) (hl:b.length<=aG):bj k ⟨b,a,true⟩ 512=some ([],a,true):=by
 unfold bj;rw[eQ hk hb hl,aa];unfold aY;rw[bq];simp only[show inB (0:Int) 0 512=true from rfl,cond_true];rw[FL (by omega)];simp
theorem PR {k:Nat} {b:List Int} {a:Int} (hk:6001<=k) (hb:∀x∈b,okB x) (hl:b.length<=aG):
  (∃xs p,BW b a=some (xs,p)/\bj k ⟨b,a,false⟩ 512=some (xs,p,false))\/(BW b a=none/\∃ys p,bj k ⟨b,a,false⟩ 512=some (ys,p,true)):=by
 have hM:=aj;unfold bj BW;rw[eQ (by omega) hb hl,aa];unfold aY;rw[aX]
 cases h1:nq b a with
 |none=>
  refine .inr ⟨rfl,?_⟩;simp only[X5,show inB (0:Int) 0 512=true from rfl,cond_true];rw[FL (by omega)]
  exact⟨[],a,by simp⟩
 |some q=>
  simp only[XD,XC];cases c:inB q.1 0 512
  ·refine .inr ⟨rfl,?_⟩;simp only[cond_false];rw[FL (by omega)];exact⟨[],q.2,by simp⟩
  have c':=of_decide_eq_true c;simp only[cond_true];rw[show q.1=((q.1.toNat:Nat):Int)from by omega,XE]
  rcases HN (k:=k) (fin:=λy3=>cond (decide (b=b)) (some (y3.1,y3.2.1,y3.2.2)) none) (by omega) hb hl q.1.toNat q.2 [] k (by omega) (by simp;omega)with⟨xs,p,e1,e2⟩|⟨e1,ys,p,e2⟩
  ·exact .inl ⟨xs,p,e1,by simpa using e2⟩
  ·exact .inr ⟨e1,ys,p,by simpa using e2⟩
theorem PS {k:Nat} {b:List Int} {a:Int} (hk:6001<=k) (hb:∀x∈b,okB x) (hl:b.length<=aG):
  (∃x p,eX b a=some (x,p)/\dx k ⟨b,a,false⟩=some (x,p,false))\/(eX b a=none/\∃x p,dx k ⟨b,a,false⟩=some (x,p,true)):=by
 have hM:=aj
 have h7:7<=k:=by omega
 unfold eX dx;rw[cl h7 hb hl,aX]
 cases h1:nq b a with
 |none=>
  refine .inr ⟨rfl,?_⟩;simp only[X5,cl h7 hb hl,eQ h7 hb hl,ja h7 hb hl,aY,bq,aa,show inB (0:Int) 0 6000=true from rfl,cond_true,jb,fT h7 hb hl,decide_true]
  exact⟨_,_,rfl⟩
 |some p1=>
 simp only[XD,XC];rw[cl h7 hb hl,aX]
 cases h2:nq b p1.2 with
 |none=>
  refine .inr ⟨rfl,?_⟩;simp only[X5,cl h7 hb hl,eQ h7 hb hl,ja h7 hb hl,aY,bq,aa,show inB (0:Int) 0 6000=true from rfl,cond_true,jb,fT h7 hb hl,decide_true]
  exact⟨_,_,rfl⟩
 |some p2=>
 simp only[XD,XC];rw[cl h7 hb hl,aX]
 cases h3:nq b p2.2 with
 |none=>
  refine .inr ⟨rfl,?_⟩;simp only[X5,cl h7 hb hl,eQ h7 hb hl,ja h7 hb hl,aY,bq,aa,show inB (0:Int) 0 6000=true from rfl,cond_true,jb,fT h7 hb hl,decide_true]
  exact⟨_,_,rfl⟩
 |some p3=>
 simp only[XD,XC];rw[eQ h7 hb hl];unfold aY;rw[aX]
 cases h4:nq b p3.2 with
 |none=>
  refine .inr ⟨rfl,?_⟩;simp only[X5,cl h7 hb hl,eQ h7 hb hl,ja h7 hb hl,aY,bq,aa,show inB (0:Int) 0 6000=true from rfl,cond_true,jb,fT h7 hb hl,decide_true]
  exact⟨_,_,rfl⟩
 |some p4=>
 simp only[XD,XC];have g4:=fS (x:=p4.1) (p:=p4.2) h4;cases c4:inB p4.1 0 6000
 ·refine .inr ⟨rfl,?_⟩;simp only[cond_false,cl h7 hb hl,eQ h7 hb hl,ja h7 hb hl,aY,bq,aa,cond_true,jb,fT h7 hb hl,decide_true];exact⟨_,_,rfl⟩
 have c4':=of_decide_eq_true c4;simp only[cond_true];rw[FK hl (by omega) (by omega)];by_cases c5:p4.1>(b.length:Int)-p4.2
 ·refine .inr ⟨by rw[decide_eq_true c5];rfl,?_⟩;rw[decide_eq_true c5];simp only[cond_false,cl h7 hb hl,eQ h7 hb hl,ja h7 hb hl,aY,bq,aa,cond_true,jb,fT h7 hb hl,decide_true];exact⟨_,_,rfl⟩
 rw[decide_eq_false c5];simp only[cond_false,aa,ja h7 hb hl];rw[aX]
 cases h5:nq b (p4.2+p4.1)with
 |none=>
  refine .inr ⟨rfl,?_⟩;simp only[X5,bq,aa,cond_true,fT h7 hb hl,decide_true]
  exact⟨_,_,rfl⟩
 |some p5=>
 simp only[XD,XC];rw[aX]
 cases h6:nq b p5.2 with
 |none=>
  refine .inr ⟨rfl,?_⟩;simp only[X5,bq,aa,cond_true,fT h7 hb hl,decide_true]
  exact⟨_,_,rfl⟩
 |some p6=>
 simp only[XD,XC];rw[aX]
 cases h7':nq b p6.2 with
 |none=>
  refine .inr ⟨rfl,?_⟩;simp only[X5,bq,aa,cond_true,fT h7 hb hl,decide_true]
  exact⟨_,_,rfl⟩
 |some p7=>
 simp only[XD,XC]
 rcases PR (a:=p7.2) hk hb hl with⟨xs,p,e1,e2⟩|⟨e1,ys,p,e2⟩
 ·refine .inl ⟨_,_,by rw[e1];rfl,?_⟩;rw[e2];simp only[aa,decide_true,cond_true]
 ·refine .inr ⟨by rw[e1];rfl,?_⟩;rw[e2];simp only[aa,decide_true,cond_true];exact⟨_,_,rfl⟩
end
section
def xK (s x:Int):Int:=(i64.wrap ((i64.wrap ((i64.wrap ((257:Int)*s))+(i64.wrap x)))+(1:Int))).tmod (1000003:Int)
def nw (b:List Int):Int:=b.foldl xK 1
theorem xL {k:Nat} {b:List Int} (hk:b.length<k) (hl:b.length<=aG):qn k b=some (nw b):=by
 have hM:=aj;unfold qn
 exact rL b xK (g:=λu next=>pw k b u next (λy2=>some y2)) (fin:=some) 1 (λi s hi next _=>by
  simp only[pw]
  rw[ab,if_pos (by omega),aD,ag hi,aa,al hi (by omega)];rfl) (λnext=>by
  simp only[pw];rw[ab,if_neg (by omega)]) hk
theorem xM {k:Nat} {b:List Int} (hk:b.length<k) (hl:b.length<=aG):lK k b=some (nw b):=by
 have hM:=aj;unfold lK
 exact rL b xK (g:=λu next=>px k (b,(b.length:Int)) u next (λy2=>some y2)) (fin:=some) 1 (λi s hi next _=>by
  simp only[px]
  rw[ab,if_pos (by omega),aD,ag hi,aa,al hi (by omega),Int.mul_comm s 257];rfl) (λnext=>by
  simp only[px];rw[ab,if_neg (by omega)]) hk
def lu (b:List Int):Nat->Int->Option (List Step× Int)
 |0,a=>some ([],a)
 |n+1,a=>(eX b a).bind λq=>(lu b n q.2).bind λr=>some (q.1::r.1,r.2)
def ni (b:List Int):List Step× Int:=
  cond (decide ((b.length:Int)>20000)) ([],4) (cond (decide (b.take 2=[84,49]))
    ((nq b 2).elim ([],2) λq=>cond (inB q.1 0 200) ((lu b q.1.toNat q.2).elim ([],2) λr=>(nq b r.2).elim ([],2) λe=>
      cond (decide (e.1=nw (b.take r.2.toNat)/\e.2=(b.length:Int))) (r.1,0) ([],3)) ([],2)) ([],1))
theorem uH {b:List Int}:∀{n:Nat} {a:Int} {xs:List Step} {p:Int},lu b n a=some (xs,p)->0<=a->a<=b.length->a<=p/\p<=b.length/\xs.length=n/\fI Step.tot xs<=6513*n
 |0,a,xs,p,h,_,_=>by
  simp only[lu,It,XO]at h;rw[<-h.1]
  exact⟨by omega,by omega,rfl,Ya _⟩
 |n+1,a,xs,p,h,_,_=>by
  simp only[lu]at h
  cases hq:eX b a with
  |none=>rw[hq]at h;exact nomatch h
  |some q=>
   rw[hq,XC]at h;have h0:=tR (x:=q.1) (p:=q.2) hq
   cases hr:lu b n q.2 with
   |none=>rw[hr]at h;exact nomatch h
   |some r=>
    rw[hr,XC,It,XO]at h;have h2:=uH (xs:=r.1) (p:=r.2) hr (by omega) (by omega);rw[<-h.1,vz,XI];exact⟨by omega,by omega,by omega,by omega⟩
section
variable {R:Type} {k:Nat} {b:List Int} {m:Int}
theorem ze {fin:Int× List Step->Option R} {ret:Int->Option R} (hk:6001<=k) (hb:∀x∈b,okB x) (hl:b.length<=aG) (hm:m<=aG):∀(n i:Nat) (a:Int) (acc:List Step) (kf:Nat),(i:Int)+n=m->n<kf->acc.length+n<=aG->
  iter (λu n=>ff k (b,m) u n fin ret) kf (a,(i:Int),acc)=(lu b n a).elim (ret 2) λr=>fin (r.2,acc++r.1)
 |n,i,a,acc,0,_,h,_=>by omega
 |0,i,a,acc,kf+1,hi,_,_=>by
  rw[aI];simp only[ff,lu,XD,XY]
  rw[ab,if_neg (by omega)]
 |n+1,i,a,acc,kf+1,hi,h,hN=>by
  have hM:=aj
  have e:iter (λu n=>ff k (b,m) u n fin ret) (kf+1) (a,(i:Int),acc)=(eX b a).elim (ret 2) λq=>iter (λu n=>ff k (b,m) u n fin ret) kf (q.2,((i+1:Nat):Int),acc++[q.1]):=by
   rw[aI];generalize iter _ kf=nx;simp only[ff];rw[ab,if_pos (by omega),FN hk hb hl,aa];unfold FM
   cases hq:eX b a with
   |none=>rfl
   |some q=>
    have h0:=tR (x:=q.1) (p:=q.2) hq;simp only[YP,XD];rw[ab,if_neg (by omega),bR (by omega),aL (by omega) (by omega),show(i:Int)+1=((i+1:Nat):Int)from by omega]
  rw[e];simp only[lu]
  cases hq:eX b a with
  |none=>rfl
  |some q=>
   simp only[XD,XC];rw[ze hk hb hl hm n (i+1) q.2 (acc++[q.1]) kf (by omega) (by omega) (by simp;omega)]
   cases lu b n q.2 with
   |none=>rfl
   |some r=>simp
theorem zf {fin:Int× Bool× List Step->Option R} {l:List Int} (hk:6001<=k) (hb:∀x∈b,okB x) (hl:b.length<=aG):∀(n:Nat) (a:Int) (acc:List Step) (kf:Nat),n<kf->acc.length+n<=aG->
  (∃xs p,lu b n a=some (xs,p)/\iter (λu n=>dk k (l,b) u n fin) kf ((n:Int),a,false,acc)=fin (p,false,acc++xs))\/
  (lu b n a=none/\∃ys p,iter (λu n=>dk k (l,b) u n fin) kf ((n:Int),a,false,acc)=fin (p,true,ys))
 |n,a,acc,0,h,_=>by omega
 |0,a,acc,kf+1,_,_=>by
  refine .inl ⟨[],a,rfl,?_⟩;rw[aI,XY]
  rfl
 |n+1,a,acc,kf+1,h,hN=>by
  have hM:=aj
  have e:iter (λu n=>dk k (l,b) u n fin) (kf+1) (((n+1:Nat):Int),a,false,acc)=(dx k (⟨b,a,false⟩:Reader)).bind λr3=>iter (λu n=>dk k (l,b) u n fin) kf ((n:Int),r3.2.1,r3.2.2,acc++[r3.1]):=by
   rw[aI];generalize iter _ kf=nx;simp only[dk];rw[decide_eq_true (show((n+1:Nat):Int)>0 by omega),cond_true,aL (by omega) (by omega),show((n+1:Nat):Int)-1=(n:Int)from by omega];simp only[bR (show acc.length+1<=aG by omega)];rfl
  rw[e];simp only[lu]
  rcases PS (a:=a) hk hb hl with⟨x,p,e1,e2⟩|⟨e1,x,p,e2⟩
  ·rw[e1,e2,aa,aa]
   rcases zf (fin:=fin) (l:=l) hk hb hl n p (acc++[x]) kf (by omega) (by simp;omega)with⟨xs,q,h1,h2⟩|⟨h1,ys,q,h2⟩
   ·exact .inl ⟨x::xs,q,by rw[h1];rfl,by rw[h2];simp⟩
   ·exact .inr ⟨by rw[h1];rfl,ys,q,h2⟩
  ·rw[e1,e2,aa];refine .inr ⟨rfl,?_⟩;obtain⟨kf,rfl⟩:∃k',kf=k'+1:=⟨kf-1,by omega⟩;refine⟨acc++[x],p,?_⟩;rw[aI];simp only[dk];cases decide ((n:Int)>0)<;>rfl
end
theorem Vn (b:List Int):decide (b.take 2=[84,49])=cond (decide ((b.length:Int)<2)) false ((b[0]?).elim false λx=>(b[1]?).elim false λy=>decide (x=84)&&decide (y=49)):=by
 match b with
 |[]=>simp
 |[x]=>simp
 |x::y::l=>
  rw[decide_eq_false (show¬(((x::y::l).length:Nat):Int)<2 by simp;omega)];simp
theorem HR {R:Type} {b:List Int} {k:Nat} {p:Int} {G:Int->Option R} {S:Nat->List Int->Option Int} (hS:∀l:List Int,l.length<=b.length->S k l=some (nw l)) (h:0<=p/\p<=b.length):
  cond (decide (0<=p/\p<=(b.length:Int))) ((S k ((b.take p.toNat).drop 0)).bind G) none=G (nw (b.take p.toNat)):=by
 rw[decide_eq_true h,cond_true,Zt,hS _ (by simp;omega),aa]
theorem De {k:Nat} {b:List Int} (hk:20100<=k) (hb:∀x∈b,okB x) (hl:b.length<=aG):qq k b=some (ni b):=by
 have hM:=aj;unfold qq ni;rw[Vn];by_cases c:(b.length:Int)>20000
 ·rw[decide_eq_true c];rfl
 rw[decide_eq_false c];simp only[cond_false];by_cases c2:(b.length:Int)<2
 ·rw[decide_eq_true c2];rfl
 rw[decide_eq_false c2];simp only[cond_false];rw[vx,TW,ag (show 0<b.length by omega),ag (show 1<b.length by omega)];simp only[aa,XD];by_cases h0:b[0]=84
 case neg=>rw[fk,if_neg h0,decide_eq_false h0];rfl
 rw[fk,if_pos h0,decide_eq_true h0];by_cases h1:b[1]=49
 case neg=>rw[fk,if_neg h1,decide_eq_false h1];rfl
 rw[fk,if_pos h1,decide_eq_true h1];simp only[cond_false,Zw,cond_true];rw[qF (by omega) hb hl,aa]
 cases hn:nq b 2 with
 |none=>
  have hw:decide ((cI b 2).2<0)=true:=by
   unfold nq at hn;cases hw:decide ((cI b 2).2<0)
   ·rw[hw]at hn;exact nomatch hn
   ·rfl
  rw[hw];rfl
 |some q=>
  have hp:=fS (x:=q.1) (p:=q.2) hn
  have hw:cI b 2=q/\decide ((cI b 2).2<0)=false:=by
   unfold nq at hn;cases hw:decide ((cI b 2).2<0)
   ·rw[hw,cond_false,It]at hn;exact⟨hn,rfl⟩
   ·rw[hw]at hn;exact nomatch hn
  rw[hw.2,hw.1];simp only[cond_false,XD];rw[bN,aa];cases c4:inB q.1 0 200
  ·rfl
  have c4':=of_decide_eq_true c4;simp only[XJ,cond_false,cond_true]
  have hq1:((q.1.toNat:Nat):Int)=q.1:=by omega
  refine(ze (m:=q.1) (by omega) hb hl (by omega) q.1.toNat 0 q.2 [] k (by omega) (by omega) (by simp;omega)).trans ?_
  cases hr:lu b q.1.toNat q.2 with
  |none=>rfl
  |some r=>
   have hrp:=uH (xs:=r.1) (p:=r.2) hr (by omega) (by omega);simp only[XD,YC];rw[qF (by omega) hb hl,aa]
   cases hn:nq b r.2 with
   |none=>
    have hw:decide ((cI b r.2).2<0)=true:=by
     unfold nq at hn;cases hw:decide ((cI b r.2).2<0)
     ·rw[hw]at hn;exact nomatch hn
     ·rfl
    rw[hw];rfl
   |some e=>
    have hw:cI b r.2=e/\decide ((cI b r.2).2<0)=false:=by
     unfold nq at hn;cases hw:decide ((cI b r.2).2<0)
     ·rw[hw,cond_false,It]at hn;exact⟨hn,rfl⟩
     ·rw[hw]at hn;exact nomatch hn
    rw[hw.2,hw.1];simp only[cond_false,XD];rw[HR (S:=qn) (λl h=>xL (by omega) (by omega)) ⟨by omega,hrp.2.1⟩];rw[fk,fk];by_cases g1:e.1=nw (b.take r.2.toNat)
    ·rw[if_pos g1];by_cases g2:e.2=(b.length:Int)
     ·rw[if_pos g2,decide_eq_true ⟨g1,g2⟩];rfl
     ·rw[if_neg g2,decide_eq_false (λh=>g2 h.2)];rfl
    ·rw[if_neg g1,decide_eq_false (λh=>g1 h.1)];rfl
theorem wv {k:Nat} {b:List Int} (hb:∀x∈b,okB x) (hl:b.length<=aG):eA k b [84,49]=some (decide (b.take 2=[84,49])):=by
 have hM:=aj;unfold eA;rw[ab];by_cases h:(b.length:Int)>=(([84,49]:List Int).length:Int)
 ·have h':2<=b.length:=by simp at h;omega
  rw[if_pos h,decide_eq_true (show 0<=((([84,49]:List Int).length:Nat):Int)/\((([84,49]:List Int).length:Nat):Int)<=(b.length:Int) by simp;omega),cond_true,Zt];rw[show((([84,49]:List Int).length:Nat):Int).toNat=2 from rfl];rw[oS (λx hx=>hb x (Zb hx)) (λx hx=>by simp at hx;rcases hx with rfl|rfl<;>exact⟨by omega,by omega⟩),aa]
 ·rw[if_neg h,Vn,decide_eq_true (show(b.length:Int)<2 by simp at h;omega)];rfl
theorem Df {k:Nat} {b:List Int} (hk:20100<=k) (hb:∀x∈b,okB x) (hl:b.length<=aG):qt k b=some (ni b):=by
  have hM:=aj;unfold qt ni;by_cases c:(b.length:Int)>20000
  · rw[decide_eq_true c];rfl
  rw[decide_eq_false c];simp only[cond_false];rw[wv hb hl,aa];cases c2:decide (b.take 2=[84,49])
  · rfl
  simp only[XJ,cond_false,cond_true];rw[eQ (by omega) hb hl,aa];unfold aY;rw[aX]
  have bad:∀(n a:Int) (acc:List Step),iter (λu7 n7=>dk k (b,b) u7 n7 (λy4=>(au k (⟨b,y4.1,y4.2.1⟩:Reader)).bind λr5=>cond (r5.2.2) (some (([]:List Step),(2:Int))) (cond (decide (0<=y4.1/\y4.1<=(b.length:Int))) ((lK k ((b.take y4.1.toNat).drop 0)).bind λr6=>cond (r5.1 !=r6) (some (([]:List Step),(3:Int))) (cond (r5.2.1 !=(b.length:Int)) (some (([]:List Step),(3:Int))) (some (y4.2.2,(0:Int))))) none))) k (n,a,true,acc)=some ([],2):=by
    intro n a acc;obtain⟨k',hk'⟩:∃k',k=k'+1:=⟨k-1,by omega⟩
    conv=>lhs;arg 2;rw[hk']
    rw[aI];simp only[dk,cl (show 7<=k by omega) hb hl,bq,aa];cases decide (n>0)<;>rfl
  cases hn:nq b 2 with
  | none =>
    simp only[X5,show inB (0:Int) 0 200=true from rfl,cond_true]
    rw[bad]
  | some q =>
    have hp:=fS (x:=q.1) (p:=q.2) hn;simp only[XD];cases c4:inB q.1 0 200
    · simp only[cond_false];rw[bad]
    have c4':=of_decide_eq_true c4;simp only[cond_true]
    have hq1:q.1=((q.1.toNat:Nat):Int):=by omega
    rw[hq1,XE]
    rcases zf (R:=List Step× Int) (k:=k) (b:=b) (l:=b) (fin:=λy4=>(au k (⟨b,y4.1,y4.2.1⟩:Reader)).bind λr5=>cond (r5.2.2) (some (([]:List Step),(2:Int))) (cond (decide (0<=y4.1/\y4.1<=(b.length:Int))) ((lK k ((b.take y4.1.toNat).drop 0)).bind λr6=>cond (r5.1 !=r6) (some (([]:List Step),(3:Int))) (cond (r5.2.1 !=(b.length:Int)) (some (([]:List Step),(3:Int))) (some (y4.2.2,(0:Int))))) none))
      (by omega) hb hl q.1.toNat q.2 [] k (by omega) (by simp;omega)with⟨xs,p,h1,h2⟩|⟨h1,ys,p,h2⟩
    · rw [h2, h1];have hrp:=uH (xs:=xs) (p:=p) h1 (by omega) (by omega);simp only[XD,YC];rw[cl (by omega) hb hl,aa,aX]
      cases hn:nq b p with
      |none=>rfl
      | some e =>
        simp only[XD,cond_false];rw[HR (S:=lK) (λl h=>xM (by omega) (by omega)) ⟨by omega,hrp.2.1⟩];rw[fk,fk];by_cases g1:e.1=nw (b.take p.toNat)
        · rw[if_pos g1];by_cases g2:e.2=(b.length:Int)
          · rw[if_pos g2,decide_eq_true ⟨g1,g2⟩];rfl
          · rw[if_neg g2,decide_eq_false (λh=>g2 h.2)];rfl
        · rw[if_neg g1,decide_eq_false (λh=>g1 h.1)];rfl
    · rw[h2,h1];simp only[X5];rw[cl (by omega) hb hl,aa,bq];rfl
end
end Go.Proofs.Ev
