/- Typed functions and what holds of them: part 4. -/
import Derived.Test.YtpiopmjbcadfbaaGreatEvL3
set_option linter.unusedVariables false
set_option linter.unusedSimpArgs false
set_option linter.unusedSectionVars false
namespace Go.Proofs.Ev
open IntKind(i64 u8 u64)
section
def Ss (xs ws:List Int):Int:=(List.range xs.length).foldl (λs i=>qO s (Bm (xs.getD i 0)*Bm (ws.getD i 0))) 0
theorem TL (a b:Int):i64.wrap (Bm a*Bm b)=Bm a*Bm b:=by
 have h1:=Bn a;have h2:=Bn b;have:=Sq (A:=128) (B:=128) (x:=Bm a) (y:=Bm b) (by omega) (by omega);exact aE (by omega) (by omega)
theorem LQ {k:Nat} {xs ws:List Int} (hk:xs.length<k) (hl:ws.length=xs.length) (hN:xs.length<=aU):ES k xs ws=some (Ss xs ws):=by
 have hM:=al;unfold ES Ss
 exact pE xs.length (λs i=>qO s (Bm (xs.getD i 0)*Bm (ws.getD i 0))) 0 (fin:=some) (λi a next hi=>by
  simp only[sV,G1,qz]
  rw[ab,if_pos (by omega),ab,if_pos (by omega),aL,aj hi,aa,aa,aL,aj (by omega),aa,aa,aa,TL,aq hi (by omega),bT hi,bT (by omega)]) (λa next=>by
  simp only[sV]
  rw[ab,if_neg (by omega)]) hk
theorem LR {k:Nat} {xs ws:List Int} (hk:xs.length<k) (hl:ws.length=xs.length) (hN:xs.length<=aU):ET k xs ws=some (Ss xs ws):=by
 have hM:=al;unfold ET Ss;rw[if_neg (by omega)]
 exact pE xs.length (λs i=>qO s (Bm (xs.getD i 0)*Bm (ws.getD i 0))) 0 (fin:=some) (λi a next hi=>by
  simp only[sZ,G2,Bo]
  rw[ab,if_pos (by omega),aL,aj hi,aa,aa,aL,aj (by omega),aa,aa,aa,TL,aq hi (by omega),bT hi,bT (by omega)]) (λa next=>by
  simp only[sZ]
  rw[ab,if_neg (by omega)]) hk
def uK (l:av) (xs:List Int) (o:Nat):Int:=
 Bs (qO (Ss xs ((l.weights.take (o*xs.length+xs.length)).drop (o*xs.length))) (l.ny.getD o 0)) l.mult l.shift l.zero
theorem Bu {k:Nat} {l:av} {xs:List Int} {o:Nat} (hk:xs.length<k) (hN:xs.length<=aU) (hw:o*xs.length+xs.length<=l.weights.length) (hwN:l.weights.length<=aU) (hb:o<l.ny.length) (ho:o<8):
  gv k l xs o=some (uK l xs o):=by
 have hM:=al
 have e:(o+1)*xs.length=o*xs.length+xs.length:=by rw[Wk,Nat.one_mul]
 have e1:i64.wrap (i64.wrap ((o:Int)+1)*(xs.length:Int))=((o*xs.length+xs.length:Nat):Int):=by
  rw[aq ho (by omega),G7 (by omega),e]
 have e2:i64.wrap ((o:Int)*(xs.length:Int))=((o*xs.length:Nat):Int):=G7 (by omega);unfold gv uK;rw[e1,e2,ab,if_pos (by omega),ab,if_pos (by omega),VQ,VQ,LR hk (by simp;omega) hN,aa,aL,aj hb,aa,Bo,aa,G6,aa,bT hb]
def mC:List Int->Int
 |[]=>0
 |x::xs=>xs.foldl (λm y=>if y>m then y else m) x
theorem Ko {R:Type} {xs:List Int} {x:Int} {g:Int× Int->(Int× Int->Option R)->Option R} {fin:Int->Option R} {k:Nat}
  (h:∀(i:Nat) a next (hi:i<xs.length),g (a,((i+1:Nat):Int)) next=next (if xs[i]>a then xs[i]else a,((i+1+1:Nat):Int))) (hn:∀a next,g (a,((xs.length+1:Nat):Int)) next=fin a) (hk:xs.length<k):
  iter g k (x,(1:Int))=fin (mC (x::xs)):=by
 have:=eW (g:=g) (st:=λi=>((xs.take i).foldl (λm y=>if y>m then y else m) x,((i+1:Nat):Int))) (n:=xs.length) (r:=fin (mC (x::xs))) (λi hi next=>by
  rw[h i _ next hi,dy hi,WM];rfl) (λnext=>by rw[hn,WH];rfl) hk
 exact this
theorem sa:∀(xs:List Int) (x:Int),mC (x::xs)∈x::xs
 |[],x=>by simp[mC]
 |y::xs,x=>by
  show xs.foldl _ (if y>x then y else x)∈_;by_cases c:y>x
  ·rw[if_pos c];exact VY _ (sa xs y)
  ·rw[if_neg c]
   rcases V0.1 (sa xs x)with h|h
   ·have h:xs.foldl (λm y=>if y>m then y else m) x=x:=h;rw[h];simp
   ·exact VY _ (VY _ h)
theorem Bv:∀{xs:List Int},(∀x∈xs,-128<=x/\x<=127)->-128*(xs.length:Int)<=xs.sum/\xs.sum<=127*(xs.length:Int)
 |[],_=>by simp
 |x::xs,h=>by
  have h1:=Bv λy hy=>h y (VY _ hy);have h2:=h x (by simp);rw[W3,VS];omega
theorem Hc {R:Type} {xs:List Int} {g:Int× Int->(Int× Int->Option R)->Option R} {fin:Int->Option R} {k:Nat} (hx:∀x∈xs,-128<=x/\x<=127) (hN:xs.length<=aU)
  (h:∀(i:Nat) a next (hi:i<xs.length),g (a,(i:Int)) next=next (i64.wrap (a+xs[i]),((i+1:Nat):Int))) (hn:∀a next,g (a,(xs.length:Int)) next=fin a) (hk:xs.length<k):
  iter g k ((0:Int),(0:Int))=fin xs.sum:=by
 have hM:=al
 have:=eW (g:=g) (st:=λi=>((xs.take i).sum,(i:Int))) (n:=xs.length) (r:=fin xs.sum) (λi hi next=>by
  have hb:=Bv (xs:=xs.take (i+1)) λx hm=>hx x (XH hm)
  have e:(xs.take (i+1)).sum=(xs.take i).sum+xs[i]:=by rw[dy hi,Xn];simp
  rw[e]at hb;simp only[Wn]at hb
  rw[h i _ next hi,e,aE (by omega) (by omega)]) (λnext=>by rw[hn,WH]) hk
 exact this
def nE (W C:Nat) (xs:List Int) (l:av) (Z S h w o:Nat):Int:=
  cond (l.kind==0) (uK l xs o) (cond (l.kind==1) (uK l (Sr W C xs Z S h w) o)
    (cond (l.kind==2) (mC (j7 W C xs Z S h w o)) (cond (l.kind==3) (ir (j7 W C xs Z S h w o).sum ((Z*Z:Nat):Int))
      (cond (l.kind==4) (if atN W C xs h w o<l.zero then l.zero else atN W C xs h w o) (xs.getD o 0)))))
inductive Fits (H W C:Nat) (xs:List Int) (l:av) (Z S h w o:Nat):Prop
 |Qq (h0:l.kind=0) (hb:o<l.ny.length) (h8:o<8) (hw:o*xs.length+xs.length<=l.weights.length)
 |conv (h0:l.kind=1) (hb:o<l.ny.length) (h8:o<8) (hw:o*(Z*(Z*C))+Z*(Z*C)<=l.weights.length) (v:Oh H W Z S h w) (hi:∀x∈l.weights,-128<=x/\x<=127)
 |max (h0:l.kind=2) (v:Oh H W Z S h w) (ho:o<C)
 |avg (h0:l.kind=3) (v:Oh H W Z S h w) (ho:o<C)
 |Uc (h0:l.kind=4) (h1:h<H) (h2:w<W) (h3:o<C) (hz:-128<=l.zero/\l.zero<=127)
 |flat (h0:l.kind=5) (ho:o<xs.length)
theorem zH {H W C:Nat} {xs:List Int} (r:mB H W C xs) {Z S h w o:Nat} (v:Oh H W Z S h w) (ho:o<C):∀x∈j7 W C xs Z S h w o,-128<=x/\x<=127:=by
 intro x hx;obtain⟨z1,z3,s2,hh,ww⟩:=v;unfold j7 at hx;rw[XL]at hx;obtain⟨i,hi,hx⟩:=hx;rw[XL]at hx;obtain⟨j,hj,hx⟩:=hx;rw[List.mem_range]at hi hj;rw[WD]at hx;rw[hx];exact Kn r (by omega) (by omega) ho
theorem Bw {H W C:Nat} {xs:List Int} {Z S h w o:Nat} (v:Oh H W Z S h w):∃x ys,j7 W C xs Z S h w o=x::ys:=by
 have hl:=G8 W C xs Z S h w o;have:=v.z1
 have hp:1<=Z*(Z*1):=by rw[Nat.mul_one];exact WK this this
 cases hc:j7 W C xs Z S h w o with
 |nil=>rw[hc]at hl;simp only[V5]at hl;omega
 |cons x ys=>exact⟨x,ys,rfl⟩
theorem pF {H W C:Nat} {xs:List Int} {Z S h w o:Nat} (v:Oh H W Z S h w):(j7 W C xs Z S h w o).length=Z*Z/\1<=Z*Z/\Z*Z<=9:=by
 have hl:=G8 W C xs Z S h w o;rw[Nat.mul_one]at hl;exact⟨hl,WK v.z1 v.z1,WK v.z3 v.z3⟩
theorem Oj {k:Nat} {H W C:Nat} {xs:List Int} (r:mB H W C xs) {l:av} {Z S h w o:Nat} (hk:512<k) (hwN:l.weights.length<=aU) (hz:l.size=Z) (hs:l.step=S) (f:Fits H W C xs l Z S h w o):
  oo k l (xC H W C xs) h w o=some (nE W C xs l Z S h w o):=by
 have hM:=al;have hcu:=r.SR;have hlen:=r.len;unfold oo nE
 cases f with
 |Qq h0 hb h8 hw=>
  rw[h0];show(gv k l xs o).bind _=_
  rw[Bu (by omega) (by omega) hw hwN hb h8];rfl
 |conv h0 hb h8 hw v hi=>
  have hl:=Fb W C xs Z S h w;have:Z*(Z*C)<=3*(3*8):=WK v.z3 (WK v.z3 r.c8);rw[h0];show(cW k l (xC H W C xs) h w (-1)).bind _=_
  rw[Hb r hk hz hs v,aa,Bu (by omega) (by omega) (by rw[hl];exact hw) hwN hb h8];rfl
 |max h0 v ho=>
  rw[h0];show(cW k l (xC H W C xs) h w o).bind _=_;rw[Bt r hk hz hs v ho,aa];have hl:=pF (xs:=xs) (C:=C) (o:=o) v;obtain⟨x,ys,e⟩:=Bw (xs:=xs) (C:=C) (o:=o) v;rw[e]at hl;simp only[VS]at hl;show(fR k (j7 W C xs Z S h w o)).bind _=some (mC (j7 W C xs Z S h w o));rw[e];unfold fR
  rw[ab,if_neg (by simp only[VS];omega),zv,XK,aa,Ko (xs:=ys) (x:=x) (fin:=some) (λi a next hi=>by
   simp only[eJ]
   rw[ab,if_pos (by simp only[VS];omega),aL,Xv,aj hi,aa,aq (show i+1<ys.length+1 by omega) (by omega)]) (λa next=>by
   simp only[eJ]
   rw[ab,if_neg (by simp only[VS];omega)]) (by omega)]
  rfl
 |avg h0 v ho=>
  rw[h0];show(cW k l (xC H W C xs) h w o).bind _=_;rw[Bt r hk hz hs v ho,aa];have hl:=pF (xs:=xs) (C:=C) (o:=o) v;have hm:=zH r v ho;have hb:=Bv hm;show _=some (ir (j7 W C xs Z S h w o).sum ((Z*Z:Nat):Int))
  rw[Hc (xs:=j7 W C xs Z S h w o) (fin:=λy=>(px k y (i64.wrap (l.size*l.size))).bind λr9=>some r9) hm (by omega) (λi a next hi=>by
   simp only[jR]
   rw[ab,if_pos (by omega),ab,if_pos (by omega),VQ,aj hi,aa,aq hi (by omega)]) (λa next=>by
   simp only[jR]
   rw[ab,if_neg (by omega)]) (by omega)]
  rw[hz,G7 (by omega),yI (by omega) (by omega),aa]
 |Uc h0 h1 h2 h3 hz=>
  simp only[h0,show((4:Int)==0)=false from rfl,show((4:Int)==1)=false from rfl,show((4:Int)==2)=false from rfl,show((4:Int)==3)=false from rfl,beq_self_eq_true,cond_true,cond_false];refine(congrArg (λo:Option Int=>o.bind _) (uJ (k:=k) r h1 h2 h3)).trans ?_;rw[aa];show(idx xs _).bind _=_;rw[aL,Jb r h1 h2 h3]
  rfl
 |flat h0 ho=>
  rw[h0];show(idx xs (o:Int)).bind _=_;rw[aL,aj ho];show _=some (xs.getD o 0);rw[bT ho];rfl
theorem Su {W C:Nat} {xs:List Int} {Z S h w i j c:Nat} (hi:i<Z) (hj:j<Z) (hc:c<C):(Sr W C xs Z S h w)[i*(Z*C)+(j*C+c)]? =some (atN W C xs (h*S+i) (w*S+j) c):=by
 have hb:j*C+c<Z*C:=by
  have:(j+1)*C<=Z*C:=V9 _ hj;rw[Wk]at this;omega
 unfold Sr;rw[E8 _ (Z*C) Z (λi hi=>iH _ C Z λj hj=>by simp) i (j*C+c) hi hb,E8 _ C Z (λj hj=>by simp) j c hj hc,WB,List.getElem?_range hc];rfl
theorem DC {o Z i j C c:Nat}:((o*Z+i)*Z+j)*C+c=o*(Z*(Z*C))+(i*(Z*C)+(j*C+c)):=by
 simp only[Wk,Nat.mul_assoc,WT]
theorem Qr {H W C:Nat} {xs:List Int} (r:mB H W C xs) {ws:List Int} (hi:∀x∈ws,-128<=x/\x<=127) {Z S h w o:Nat} (v:Oh H W Z S h w) (hw:o*(Z*(Z*C))+Z*(Z*C)<=ws.length):
  Ss (Sr W C xs Z S h w) ((ws.take (o*(Z*(Z*C))+Z*(Z*C))).drop (o*(Z*(Z*C))))=
   (List.range Z).foldl (λs i=>(List.range Z).foldl (λs j=>(List.range C).foldl (λs c=>qO s (atN W C xs (h*S+i) (w*S+j) c*ws.getD (((o*Z+i)*Z+j)*C+c) 0)) s) s) 0:=by
 obtain⟨z1,z3,s2,hh,ww⟩:=v;unfold Ss;rw[Fb,E9];refine fold_congr Z _ λs i hi2=>?_;rw[E9];refine fold_congr Z _ λs j hj=>?_;refine fold_congr C _ λs c hc=>?_
 have hb:j*C+c<Z*C:=by
  have:(j+1)*C<=Z*C:=V9 _ hj;rw[Wk]at this;omega
 have hb2:i*(Z*C)+(j*C+c)<Z*(Z*C):=by
  have:(i+1)*(Z*C)<=Z*(Z*C):=V9 _ hi2;rw[Wk]at this;omega
 have a1:=Kn r (show h*S+i<H by omega) (show w*S+j<W by omega) hc;have a2:=hi _ (zG (xs:=ws) (i:=o*(Z*(Z*C))+(i*(Z*C)+(j*C+c))) (by omega));rw[Wp,Su hi2 hj hc,Xg,Wp,Ha hb2,<-Wp,DC];unfold Bm;rw[Q8 (by omega) (by omega),Q8 (by omega) (by omega)]
theorem Ok {k:Nat} {H W C:Nat} {xs:List Int} (r:mB H W C xs) {l:av} {Z S h w o:Nat} (hk:512<k) (hwN:l.weights.length<=aU) (hz:l.size=Z) (hs:l.step=S) (f:Fits H W C xs l Z S h w o):
  vN k (xC H W C xs) l h w o=some (nE W C xs l Z S h w o):=by
 have hM:=al;have hcu:=r.SR;have hlen:=r.len;unfold vN nE
 cases f with
 |Qq h0 hb h8 hw=>
  rw[h0];simp only[beq_self_eq_true,cond_true]
  rw[jd,aa,show(xC H W C xs).sh.size=((xs.length:Nat):Int)from by rw[hlen];exact r.size,G7 (by omega),HH (by omega),ab,if_pos (by omega),ab,if_pos (by omega),VQ,VQ,
   show(xC H W C xs).data=xs from rfl,LQ (by omega) (by simp;omega) (by omega),aa,aL,aj hb,aa,qz,aa,yK,aa]
  unfold uK
  rw[bT hb]
 |conv h0 hb h8 hw v hi=>
  have hl:=Fb W C xs Z S h w;have hvv:=v;obtain⟨z1,z3,s2,hh,ww⟩:=hvv;have:=r.h8;have:=r.w8;have hc8:=r.c8;have hq:Z*(Z*C)<=3*(3*8):=WK v.z3 (WK v.z3 r.c8);rw[h0];show iter _ k _=some (uK l (Sr W C xs Z S h w) o)
  refine(pE Z (λs i=>(List.range Z).foldl (λs j=>(List.range C).foldl (λs c=>qO s (atN W C xs (h*S+i) (w*S+j) c*l.weights.getD (((o*Z+i)*Z+j)*C+c) 0)) s) s) 0
   (fin:=λy=>(idx l.ny (o:Int)).bind λe14=>(nW k y e14).bind λr15=>(pw k r15 l.mult l.shift l.zero).bind λr16=>some r16) (λi a next hi2=>?_) (λa next=>?_) (by omega)).trans ?_
  ·simp only[od,hz,hs];rw[ab,if_pos (by omega),aq hi2 (by omega)];refine pE Z (λs j=>(List.range C).foldl (λs c=>qO s (atN W C xs (h*S+i) (w*S+j) c*l.weights.getD (((o*Z+i)*Z+j)*C+c) 0)) s) a (fin:=λy=>next (y,((i+1:Nat):Int))) (λj a2 wj hj=>?_) (λa2 wj=>?_) (by omega)
   ·simp only[oc,hz,hs];rw[ab,if_pos (by omega),aq hj (by omega)];refine pE C (λs c=>qO s (atN W C xs (h*S+i) (w*S+j) c*l.weights.getD (((o*Z+i)*Z+j)*C+c) 0)) a2 (fin:=λy=>wj (y,((j+1:Nat):Int))) (λc a3 next3 hc=>?_) (λa3 next3=>?_) (by omega)
    ·have e1:h*S+i<H:=by omega
     have e2:w*S+j<W:=by omega
     have e:=uI (k:=k) r hk e1 e2 hc;have o1:o*Z<=7*3:=WK (by omega) z3;have o2:(o*Z+i)*Z<=23*3:=WK (by omega) z3;have o3:((o*Z+i)*Z+j)*C<=71*8:=WK (by omega) hc8
     have hb:j*C+c<Z*C:=by
      have:(j+1)*C<=Z*C:=V9 _ hj;rw[Wk]at this;omega
     have hb2:i*(Z*C)+(j*C+c)<Z*(Z*C):=by
      have:(i+1)*(Z*C)<=Z*(Z*C):=V9 _ hi2;rw[Wk]at this;omega
     have hx:((o*Z+i)*Z+j)*C+c<l.weights.length:=by rw[DC];omega
     have a1:=Kn r e1 e2 hc;have a2:=hi _ (zG hx);have a3:=Sq (A:=128) (B:=128) (x:=atN W C xs (h*S+i) (w*S+j) c) (y:=l.weights.getD (((o*Z+i)*Z+j)*C+c) 0) (by omega) (by omega);unfold xC at e;simp only[oa,hz,hs,xC];refine(Og (by omega) _ _).trans ?_;rw[G7 (a:=h) (by omega),HH (b:=i) (by omega),G7 (a:=w) (by omega),HH (b:=j) (by omega),e,aa,G7 (a:=o) (by omega),HH (b:=i) (by omega),G7 (by omega),HH (b:=j) (by omega),G7 (by omega),HH (b:=c) (by omega),aL,aj hx,aa,<-bT hx 0,aE (n:=atN W C xs (h*S+i) (w*S+j) c*l.weights.getD (((o*Z+i)*Z+j)*C+c) 0) (by omega) (by omega),qz,aa,aq hc (by omega)]
    ·simp only[oa,xC];exact UP (by omega) _ _
   ·simp only[oc,hz];rw[ab,if_neg (by omega)]
  ·simp only[od,hz];rw[ab,if_neg (by omega)]
  ·rw[aL,aj hb,aa,qz,aa,yK,aa];unfold uK
   rw[hl,Qr r hi v hw,bT hb]
 |max h0 v ho=>
  rw[h0];show(nj k (xC H W C xs) l h w o).bind _=_;rw[G9 r hk hz hs v ho,aa];have hl:=pF (xs:=xs) (C:=C) (o:=o) v;obtain⟨x,ys,e⟩:=Bw (xs:=xs) (C:=C) (o:=o) v;rw[e]at hl;simp only[VS]at hl;show _=some (mC (j7 W C xs Z S h w o));rw[e,ab,if_pos (by simp only[VS];omega)];show(some x).bind _=_
  rw[aa,Ko (xs:=ys) (x:=x) (fin:=some) (λi a next hi=>by
   simp only[oe];rw[ab,if_pos (by simp only[VS];omega),ab,if_pos (by simp only[VS];omega),VQ,Xv,aj hi,aa,aq (show i+1<ys.length+1 by omega) (by omega)]
   have hlt:0<=((i+1:Nat):Int)/\((i+1:Nat):Int)<(((x::ys).length:Nat):Int):=by rw[VS];omega
   rw[Og hlt,aa,ab];by_cases c:ys[i]>a
   ·rw[if_pos c,if_pos c]
   ·rw[if_neg c,if_neg c]) (λa next=>by
   simp only[oe]
   rw[ab,if_neg (by simp only[VS];omega)]) (by omega)]
 |avg h0 v ho=>
  rw[h0];show(nj k (xC H W C xs) l h w o).bind _=_;rw[G9 r hk hz hs v ho,aa];have hl:=pF (xs:=xs) (C:=C) (o:=o) v;have hm:=zH r v ho;have hb:=Bv hm;show _=some (ir (j7 W C xs Z S h w o).sum ((Z*Z:Nat):Int))
  rw[Hc (xs:=j7 W C xs Z S h w o) (fin:=λy26=>(cond (decide (y26<(0:Int))) (cond (decide ((i64.wrap ((2:Int)*((j7 W C xs Z S h w o).length:Int)))=0)) none (some (i64.wrap (0-(i64.wrap ((i64.wrap ((i64.wrap ((-2:Int)*y26))+((j7 W C xs Z S h w o).length:Int))).tdiv (i64.wrap ((2:Int)*((j7 W C xs Z S h w o).length:Int))))))))) (cond (decide ((i64.wrap ((2:Int)*((j7 W C xs Z S h w o).length:Int)))=0)) none (some (i64.wrap ((i64.wrap ((i64.wrap ((2:Int)*y26))+((j7 W C xs Z S h w o).length:Int))).tdiv (i64.wrap ((2:Int)*((j7 W C xs Z S h w o).length:Int))))))))) hm (by omega) (λi a next hi=>by
   simp only[oh]
   rw[ab,if_pos (by omega),ab,if_pos (by omega),VQ,aj hi,aa,aq hi (by omega)]) (λa next=>by
   simp only[oh]
   rw[ab,if_neg (by omega)]) (by omega)]
  rw[hl.1]at hb⊢;generalize (j7 W C xs Z S h w o).sum=y at hb⊢;obtain⟨n,hn⟩:∃n:Nat,n=Z*Z:=⟨_,rfl⟩;rw[<-hn]at hb hl⊢;unfold ir;rw[aE (n:=2*(n:Int)) (by omega) (by omega),ab];by_cases c:y<0
  ·rw[if_pos c,if_pos c,ab,if_neg (by omega),aE (n:=-2*y) (by omega) (by omega),aE (n:=-2*y+(n:Int)) (by omega) (by omega),WG (by omega),show 2*-y+(n:Int)=-2*y+(n:Int)from by omega];have h:=DA (a:=-2*y+(n:Int)) (b:=2*(n:Int)) (by omega) (by omega);generalize (-2*y+(n:Int))/(2*(n:Int))=q at h;rw[aE (n:=q) (by omega) (by omega),aE (by omega) (by omega)]
   congr 1;omega
  ·rw[if_neg c,if_neg c,ab,if_neg (by omega),aE (n:=2*y) (by omega) (by omega),aE (n:=2*y+(n:Int)) (by omega) (by omega),WG (by omega)];have h:=DA (a:=2*y+(n:Int)) (b:=2*(n:Int)) (by omega) (by omega)
   rw[aE (by omega) (by omega)]
 |Uc h0 h1 h2 h3 hz=>
  rw[h0];show(ql k (xC H W C xs) h w o).bind _=_;rw[uI r hk h1 h2 h3,aa];show cond (decide (atN W C xs h w o<l.zero)) _ _=some (if atN W C xs h w o<l.zero then l.zero else atN W C xs h w o);rw[ab];by_cases c:atN W C xs h w o<l.zero
  ·rw[if_pos c,if_pos c]
  ·rw[if_neg c,if_neg c]
 |flat h0 ho=>
  rw[h0];show(idx xs (o:Int)).bind _=_;rw[aL,aj ho];show _=some (xs.getD o 0);rw[bT ho];rfl
end
section
theorem xD {a b:Int} {x:Int} (h:a<=x/\x<=b) (h0:0<=a):∃n:Nat,x=n:=⟨x.toNat,by omega⟩
theorem yL {H W C Z S:Nat} {l:av} {c:Int} (hz:l.size=Z) (hs:l.step=S) (s1:1<=S) (h8:H<=8) (w8:W<=8) (hzH:Z<=H) (hzW:Z<=W):
  tb ⟨H,W,C⟩ l c=⟨((H-Z)/S+1:Nat),((W-Z)/S+1:Nat),c⟩:=by
 have key:∀n:Nat,n<=8->Z<=n->i64.wrap ((i64.wrap ((i64.wrap ((n:Int)-(Z:Int))).tdiv (S:Int)))+1)=(((n-Z)/S+1:Nat):Int):=λn h1 h2=>by
  have e1:((n:Int)-(Z:Int))=((n-Z:Nat):Int):=by omega
  have e2:(((n-Z:Nat):Int)).tdiv (S:Int)=(((n-Z)/S:Nat):Int):=rfl;have e3:(n-Z)/S<=n-Z:=Nat.div_le_self _ _;rw[e1,aE (n:=((n-Z:Nat):Int)) (by omega) (by omega),e2];generalize (n-Z)/S=q at e3;rw[aE (n:=((q:Nat):Int)) (by omega) (by omega),aE (by omega) (by omega)];omega
 unfold tb;rw[hz,hs];simp only[key H h8 hzH,key W w8 hzW]
theorem Fc {n Z S:Nat} (h:n<=8) (h1:1<=Z) (h2:Z<=n):1<=(n-Z)/S+1/\(n-Z)/S+1<=8:=by
 have e3:(n-Z)/S<=n-Z:=Nat.div_le_self _ _;generalize (n-Z)/S=q at e3;omega
theorem Ol {H W Z S h w:Nat} (z1:1<=Z) (z3:Z<=3) (s1:1<=S) (s2:S<=2) (hzH:Z<=H) (hzW:Z<=W) (hh:h<(H-Z)/S+1) (hw:w<(W-Z)/S+1):Oh H W Z S h w:=by
 have a1:h*S<=H-Z:=(Nat.le_div_iff_mul_le (by omega)).1 (by omega);have a2:w*S<=W-Z:=(Nat.le_div_iff_mul_le (by omega)).1 (by omega);exact⟨z1,z3,s2,by omega,by omega⟩
theorem Hd {l:av} (h:HG l=true):(1<=l.out/\l.out<=8)/\(l.ny.length:Int)=l.out/\∀x∈l.weights,-128<=x/\x<=127:=by
 simp only[HG,VP,cd,decide_eq_true_eq]at h;obtain⟨h1,h2,h3,h4,h5,h6,h7⟩:=h;unfold qN at h7;rw[Wo]at h7;exact⟨h1,h5,λx hx=>cd.1 (h7 x hx)⟩
theorem xE {H W C:Nat} {xs:List Int} (r:mB H W C xs) {l:av} (hl:fN ⟨H,W,C⟩ l=true):
  ∃Z S H' W' C':Nat,l.size=Z/\l.step=S/\shapeOf ⟨H,W,C⟩ l=⟨H',W',C'⟩/\(1<=H'/\H'<=8)/\(1<=W'/\W'<=8)/\(1<=C'/\C'<=8)/\
   ∀h w o,h<H'->w<W'->o<C'->Fits H W C xs l Z S h w o:=by
 have hr:=r;obtain⟨h1,h8,w1,w8,c1,c8,hlen,FE⟩:=hr;have hsz:=r.size;unfold fN at hl;rw[VP]at hl;obtain⟨-,hl⟩:=hl;unfold shapeOf;by_cases k0:l.kind=0
 ·rw[decide_eq_true k0]at hl⊢;simp only[cond_true,VP,decide_eq_true_eq,oT]at hl;obtain⟨⟨z0,s0⟩,hn,hs,hw⟩:=hl;obtain⟨ho,hb,hi⟩:=Hd hn;obtain⟨O,hO⟩:=xD ho (by omega);rw[hO]at ho hb;refine⟨0,0,1,1,O,by omega,by omega,by rw[cond_true,hO];rfl,by omega,by omega,by omega,λh w o _ _ hlt=>.Qq k0 (by omega) (by omega) ?_⟩;rw[hO,hsz]at hw;have:((O:Int)*((H*W*C:Nat):Int))=((O*(H*W*C):Nat):Int):=(W0 _ _).symm;rw[this]at hw;have:(o+1)*(H*W*C)<=O*(H*W*C):=V9 _ hlt;rw[Wk,Nat.one_mul]at this;rw[hlen];omega
 rw[decide_eq_false k0]at hl⊢;simp only[cond_false]at hl⊢;by_cases k1:l.kind=1
 ·rw[decide_eq_true k1]at hl⊢;simp only[cond_true,VP,decide_eq_true_eq]at hl⊢;obtain⟨UQ,hn,hw,hw6⟩:=hl;obtain⟨z1,z3,s1,s2,zh,zw⟩:=rS UQ;obtain⟨ho,hb,hi⟩:=Hd hn;obtain⟨O,hO⟩:=xD ho (by omega);obtain⟨Z,hZ⟩:=xD ⟨z1,z3⟩ (by omega);obtain⟨S,hS⟩:=xD ⟨s1,s2⟩ (by omega);rw[hO]at ho hb;rw[hZ]at z1 z3 zh zw;rw[hS]at s1 s2
  have zh:Z<=H:=by have:((Z:Nat):Int)<=(H:Int):=zh;omega
  have zw:Z<=W:=by have:((Z:Nat):Int)<=(W:Int):=zw;omega
  have d1:=Fc (S:=S) h8 (show 1<=Z by omega) zh;have d2:=Fc (S:=S) w8 (show 1<=Z by omega) zw;refine⟨Z,S,(H-Z)/S+1,(W-Z)/S+1,O,hZ,hS,by rw[yL hZ hS (by omega) h8 w8 zh zw,hO],d1,d2,by omega,λh w o hh hw2 hlt=>.conv k1 (by omega) (by omega) ?_ (Ol (by omega) (by omega) (by omega) (by omega) zh zw hh hw2) hi⟩;rw[hO,hZ]at hw
  have:((O:Int)*(Z:Int)*(Z:Int)*(C:Int))=((O*(Z*(Z*C)):Nat):Int):=by
   rw[W0,W0,W0,Yl,Yl]
  have hw:(l.weights.length:Int)=(O:Int)*(Z:Int)*(Z:Int)*(C:Int):=hw;rw[this]at hw;have:(o+1)*(Z*(Z*C))<=O*(Z*(Z*C)):=V9 _ hlt;rw[Wk,Nat.one_mul]at this;omega
 rw[decide_eq_false k1]at hl⊢;simp only[cond_false]at hl⊢;by_cases k2:l.kind=2\/l.kind=3
 ·have hk:(decide (l.kind=2)||decide (l.kind=3))=true:=by simpa using k2
  rw[hk]at hl;simp only[cond_true,VP,decide_eq_true_eq]at hl;obtain⟨UQ,hn,hw⟩:=hl;obtain⟨z1,z3,s1,s2,zh,zw⟩:=rS UQ;obtain⟨Z,hZ⟩:=xD ⟨z1,z3⟩ (by omega);obtain⟨S,hS⟩:=xD ⟨s1,s2⟩ (by omega);rw[hZ]at z1 z3 zh zw;rw[hS]at s1 s2
  have zh:Z<=H:=by have:((Z:Nat):Int)<=(H:Int):=zh;omega
  have zw:Z<=W:=by have:((Z:Nat):Int)<=(W:Int):=zw;omega
  have d1:=Fc (S:=S) h8 (show 1<=Z by omega) zh;have d2:=Fc (S:=S) w8 (show 1<=Z by omega) zw;rw[decide_eq_false (show¬l.kind=4 by omega),decide_eq_false (show¬l.kind=5 by omega)];simp only[cond_false];refine⟨Z,S,(H-Z)/S+1,(W-Z)/S+1,C,hZ,hS,yL hZ hS (by omega) h8 w8 zh zw,d1,d2,by omega,λh w o hh hw2 hlt=>?_⟩;have v:=Ol (by omega) (by omega) (by omega) (by omega) zh zw hh hw2
  rcases k2 with k2|k2
  ·exact .max k2 v hlt
  ·exact .avg k2 v hlt
 have hk:(decide (l.kind=2)||decide (l.kind=3))=false:=by simpa using k2
 rw[hk]at hl;simp only[cond_false]at hl;by_cases k4:l.kind=4
 ·rw[decide_eq_true k4]at hl⊢;simp only[cond_true,VP,decide_eq_true_eq,oT,cd]at hl⊢;obtain⟨⟨z0,s0⟩,hn,hz⟩:=hl;exact⟨0,0,H,W,C,by omega,by omega,rfl,by omega,by omega,by omega,λh w o a b c=>.Uc k4 a b c hz⟩
 rw[decide_eq_false k4]at hl⊢;simp only[cond_false]at hl⊢;by_cases k5:l.kind=5
 ·rw[decide_eq_true k5]at hl⊢;simp only[cond_true,VP,decide_eq_true_eq,oT]at hl⊢;obtain⟨⟨z0,s0⟩,hn,hz,hs⟩:=hl;have p1:1<=H*W:=WK h1 w1;have p2:1<=H*W*C:=WK p1 c1;rw[hsz]at hs⊢;exact⟨0,0,1,1,H*W*C,by omega,by omega,rfl,by omega,by omega,by omega,λh w o a b c=>.flat k5 (by rw[hlen];exact c)⟩
 rw[decide_eq_false k5]at hl;exact nomatch hl
theorem LS {x d:Int} (hd:1<=d) (h1:-128*d<=x) (h2:x<=127*d):-128<=ir x d/\ir x d<=127:=by
 unfold ir;by_cases c:x<0
 ·rw[if_pos c];have a1:0<=(2*-x+d)/(2*d):=Int.ediv_nonneg (by omega) (by omega);have a2:(2*-x+d)/(2*d)<129:=Int.ediv_lt_of_lt_mul (by omega) (by omega);omega
 ·rw[if_neg c];have a1:0<=(2*x+d)/(2*d):=Int.ediv_nonneg (by omega) (by omega);have a2:(2*x+d)/(2*d)<128:=Int.ediv_lt_of_lt_mul (by omega) (by omega);omega
theorem Qs {H W C:Nat} {xs:List Int} (r:mB H W C xs) {l:av} {Z S h w o:Nat} (f:Fits H W C xs l Z S h w o):-128<=nE W C xs l Z S h w o/\nE W C xs l Z S h w o<=127:=by
 unfold nE
 cases f with
 |Qq h0 hb h8 hw=>rw[h0];exact Bn _
 |conv h0 hb h8 hw v hi=>rw[h0];exact Bn _
 |max h0 v ho=>
  rw[h0];obtain⟨x,ys,e⟩:=Bw (xs:=xs) (C:=C) (o:=o) v;show -128<=mC (j7 W C xs Z S h w o)/\mC (j7 W C xs Z S h w o)<=127;have:=zH r v ho;rw[e]at this⊢
  exact this _ (sa ys x)
 |avg h0 v ho=>
  rw[h0];have hl:=pF (xs:=xs) (C:=C) (o:=o) v;have hb:=Bv (zH r v ho);rw[hl.1]at hb;show -128<=ir (j7 W C xs Z S h w o).sum ((Z*Z:Nat):Int)/\ir (j7 W C xs Z S h w o).sum ((Z*Z:Nat):Int)<=127
  exact LS (by omega) hb.1 hb.2
 |Uc h0 h1 h2 h3 hz=>
  rw[h0];have:=Kn r h1 h2 h3;show -128<=(if atN W C xs h w o<l.zero then l.zero else atN W C xs h w o)/\(if atN W C xs h w o<l.zero then l.zero else atN W C xs h w o)<=127;by_cases c:atN W C xs h w o<l.zero
  ·rw[if_pos c];exact hz
  ·rw[if_neg c];exact this
 |flat h0 ho=>rw[h0];exact r.mem _ (zG ho)
def runN (W C:Nat) (xs:List Int) (l:av) (Z S H' W' C':Nat):List Int:=
 (List.range H').flatMap λh=>(List.range W').flatMap λw=>(List.range C').flatMap λo=>[nE W C xs l Z S h w o]
def Om (t:aF) (l:av):aF× Bool:=
 cond (t.okB&&fN t.sh l) (⟨shapeOf t.sh l,runN t.sh.w.toNat t.sh.c.toNat t.data l l.size.toNat l.step.toNat (shapeOf t.sh l).h.toNat (shapeOf t.sh l).w.toNat (shapeOf t.sh l).c.toNat⟩,true) (⟨kG,[]⟩,false)
theorem Qt (W C:Nat) (xs:List Int) (l:av) (Z S H' W' C':Nat):(runN W C xs l Z S H' W' C').length=H'*(W'*(C'*1)):=
 iH _ _ _ λi hi=>iH _ _ _ λj hj=>iH _ _ _ λo ho=>rfl
theorem DD {t:aF} {l:av} (h1:t.okB=true) (h2:fN t.sh l=true):(Om t l).1.okB=true/\(Om t l).1.sh=shapeOf t.sh l/\(Om t l).2=true:=by
 obtain⟨H,W,C,r,e⟩:=Fa h1
 have e2:t.sh=⟨H,W,C⟩:=by rw[e];rfl
 have h2':=h2;rw[e2]at h2';obtain⟨Z,S,H',W',C',hz,hs,hsh,a1,a2,a3,hf⟩:=xE r h2';unfold Om;rw[h1,h2];simp only[Bool.and_self,cond_true];refine And.intro ?_ (by simp);rw[e2,hsh,show l.size.toNat=Z from by omega,show l.step.toNat=S from by omega];simp only[VQ];refine mB.ok (H:=H') (W:=W') (C:=C') ⟨a1.1,a1.2,a2.1,a2.2,a3.1,a3.2,by rw[Qt,Nat.mul_one,Nat.mul_assoc],λx hx=>?_⟩;unfold runN at hx;rw[XL]at hx;obtain⟨i,hi,hx⟩:=hx;rw[XL]at hx;obtain⟨j,hj,hx⟩:=hx;rw[XL]at hx;obtain⟨o,ho,hx⟩:=hx;rw[List.mem_range]at hi hj ho;rw[WD]at hx;rw[hx];exact Qs r (hf i j o hi hj ho)
theorem Fe {k:Nat} {t:aF} {l:av} (hk:512<k) (hd:t.data.length<k) (hdN:t.data.length<=aU) (hl:l.tot<k) (hlN:l.tot<=aU):sW k t l=some (Om t l):=by
 have hM:=al;unfold sW Om;rw[qx hd (by unfold HF;omega),aa];cases h1:t.okB
 ·rfl
 simp only[VT,cond_false,VZ];rw[my hl hlN,aa];unfold jY;cases h2:fN t.sh l
 ·rfl
 obtain⟨H,W,C,r,e⟩:=Fa h1;obtain⟨sh,xs⟩:=t;have e2:sh=⟨H,W,C⟩:=congrArg aF.sh e;subst e2;obtain⟨Z,S,H',W',C',hz,hs,hsh,a1,a2,a3,hf⟩:=xE r h2
 have hwN:l.weights.length<=aU:=by unfold av.tot at hlN;omega
 simp only[cond_true,VT,cond_false];rw[hsh,show l.size.toNat=Z from by omega,show l.step.toNat=S from by omega];simp only[VQ]
 have m1:∀w:Nat,∀h:Nat,((List.range C').flatMap λo=>[nE W C xs l Z S h w o]).length<=8:=λw h=>by
  have:=mA (λo=>[nE W C xs l Z S h w o]) 1 C' (λ_ _=>Wc _);omega
 have m2:∀h:Nat,((List.range W').flatMap λw=>(List.range C').flatMap λo=>[nE W C xs l Z S h w o]).length<=64:=λh=>by
  have:=mA (λw=>(List.range C').flatMap λo=>[nE W C xs l Z S h w o]) 8 W' (λw _=>m1 w h);omega
 refine(gq H' 64 (λh=>(List.range W').flatMap λw=>(List.range C').flatMap λo=>[nE W C xs l Z S h w o]) [] (fin:=λy=>some ((⟨⟨H',W',C'⟩,y⟩:aF),true)) (λh _=>m2 h) (λh ys next hi hy=>?_) (λys next=>?_) (by omega)).trans (by rw[Xe];rfl)
 ·simp only[mg];rw[ab,if_pos (by omega),aq hi (by omega)];refine gq W' 8 (λw=>(List.range C').flatMap λo=>[nE W C xs l Z S h w o]) ys (fin:=λy=>next (((h+1:Nat):Int),y)) (λw _=>m1 w h) (λw zs wj hj hz2=>?_) (λzs wj=>?_) (by omega)
  ·simp only[mf];rw[ab,if_pos (by omega),aq hj (by omega)];refine gq C' 1 (λo=>[nE W C xs l Z S h w o]) zs (fin:=λy=>wj (((w+1:Nat):Int),y)) (λ_ _=>Wc _) (λo us next3 ho hz3=>?_) (λus next3=>?_) (by omega)
   ·simp only[md];simp only[V5]at hy;have eq:=Ok (k:=k) r (l:=l) hk hwN hz hs (hf h w o hi hj ho);rw[ab,if_pos (by omega)];refine(congrArg (λo:Option Int=>o.bind _) eq).trans ?_;rw[aa,bJ (by simp;omega),aq ho (by omega)]
   ·simp only[md];rw[ab,if_neg (by omega)]
  ·simp only[mf];rw[ab,if_neg (by omega)]
 ·simp only[mg];rw[ab,if_neg (by omega)]
theorem Ff {k:Nat} {t:aF} {l:av} (hk:512<k) (hd:t.data.length<k) (hdN:t.data.length<=aU) (hl:l.tot<k) (hlN:l.tot<=aU):s5 k t l=some (Om t l):=by
 have hM:=al;unfold s5 Om;rw[qy hl hlN,aa,vX hd (by unfold HF;omega)];unfold jY;cases h2:fN t.sh l
 ·cases t.okB<;>rfl
 simp only[cond_true,VT,cond_false,aa];cases h1:t.okB
 ·rfl
 simp only[VT,cond_false,Bool.and_self,cond_true];obtain⟨H,W,C,r,e⟩:=Fa h1;obtain⟨sh,xs⟩:=t;have e2:sh=⟨H,W,C⟩:=congrArg aF.sh e;subst e2;obtain⟨Z,S,H',W',C',hz,hs,hsh,a1,a2,a3,hf⟩:=xE r h2
 have hwN:l.weights.length<=aU:=by unfold av.tot at hlN;omega
 rw[hsh,show l.size.toNat=Z from by omega,show l.step.toNat=S from by omega];simp only[VQ]
 have m1:∀w:Nat,∀h:Nat,((List.range C').flatMap λo=>[nE W C xs l Z S h w o]).length<=8:=λw h=>by
  have:=mA (λo=>[nE W C xs l Z S h w o]) 1 C' (λ_ _=>Wc _);omega
 have m2:∀h:Nat,((List.range W').flatMap λw=>(List.range C').flatMap λo=>[nE W C xs l Z S h w o]).length<=64:=λh=>by
  have:=mA (λw=>(List.range C').flatMap λo=>[nE W C xs l Z S h w o]) 8 W' (λw _=>m1 w h);omega
 refine(gq H' 64 (λh=>(List.range W').flatMap λw=>(List.range C').flatMap λo=>[nE W C xs l Z S h w o]) [] (fin:=λy=>some ((⟨⟨H',W',C'⟩,y⟩:aF),true)) (λh _=>m2 h) (λh ys next hi hy=>?_) (λys next=>?_) (by omega)).trans (by rw[Xe];rfl)
 ·simp only[mm];rw[ab,if_pos (by omega),aq hi (by omega)];refine gq W' 8 (λw=>(List.range C').flatMap λo=>[nE W C xs l Z S h w o]) ys (fin:=λy=>next (((h+1:Nat):Int),y)) (λw _=>m1 w h) (λw zs wj hj hz2=>?_) (λzs wj=>?_) (by omega)
  ·simp only[mj];rw[ab,if_pos (by omega),aq hj (by omega)];refine gq C' 1 (λo=>[nE W C xs l Z S h w o]) zs (fin:=λy=>wj (((w+1:Nat):Int),y)) (λ_ _=>Wc _) (λo us next3 ho hz3=>?_) (λus next3=>?_) (by omega)
   ·simp only[mi];simp only[V5]at hy;have eq:=Oj (k:=k) r (l:=l) hk hwN hz hs (hf h w o hi hj ho);rw[ab,if_pos (by omega)];refine(congrArg (λo:Option Int=>o.bind _) eq).trans ?_;rw[aa,bJ (by simp;omega),aq ho (by omega)]
   ·simp only[mi];rw[ab,if_neg (by omega)]
  ·simp only[mj];rw[ab,if_neg (by omega)]
 ·simp only[mm];rw[ab,if_neg (by omega)]
end
section
end
section
end
section
def Bx:av:=⟨0,0,0,0,0,0,0,[],[]⟩
theorem DE:∀(ls:List av) (s:Shape) (t:List Shape),cq s ls=some t->∀i,i<ls.length->fN ((s::t).getD i kG) (ls.getD i Bx)=true/\(s::t).getD (i+1) kG=shapeOf ((s::t).getD i kG) (ls.getD i Bx)
 |[],s,t,h,i,hi=>by simp at hi
 |l::ls,s,t,h,i,hi=>by
  simp only[cq]at h;cases hb:fN s l<;>simp only[hb,cond_true,cond_false]at h
  ·exact nomatch h
  ·obtain⟨t',h1,rfl⟩:=VW.1 h
   cases i with
   |zero=>exact⟨hb,rfl⟩
   |succ i=>exact DE ls (shapeOf s l) t' h1 i (by simpa using hi)
theorem tn {m:Model} (h:eH m=true):(1<=m.aC.length/\m.aC.length<=6)/\∀i,i<m.aC.length->fN ((cw m).getD i kG) (m.aC.getD i Bx)=true/\(cw m).getD (i+1) kG=shapeOf ((cw m).getD i kG) (m.aC.getD i Bx):=by
 unfold cw;rw[h,cond_true];unfold eH at h;unfold dT at h⊢;cases h1:(m.inp.okB&&inB (m.aC.length:Int) 1 6)<;>rw[h1]at h
 ·exact nomatch h
 ·simp only[cond_true]at h⊢;rw[VP,cd]at h1
  cases h2:cq m.inp m.aC with
  |none=>rw[h2]at h;exact nomatch h
  |some t=>exact⟨by omega,DE m.aC m.inp t h2⟩
theorem j3 {j:Job} (h:wF j=true):eH j.model=true/\(0<=j.at_/\j.at_<=j.model.aC.length)/\j.act.okB=true/\j.act.sh=(cw j.model).getD j.at_.toNat kG/\j.ke=UN ((bB j.model).take j.at_.toNat):=by
 unfold wF at h;simp only[VP,cd,decide_eq_true_eq]at h;exact h
theorem Oo {j:Job} (h:wF j=true):j.act.data.length<=512/\j.tot<=j.model.tot+512:=by
 have h1:=(j3 h).2.2.1;unfold aF.okB at h1;simp only[VP,decide_eq_true_eq]at h1;have:=Shape.EU j.act.sh;unfold Job.tot aF.tot;omega
def Bz (j:Job):av:=j.model.aC.getD j.at_.toNat Bx
def LU (j:Job):Int:=(bB j.model).getD j.at_.toNat 0
def xF (j:Job):Job:=⟨j.model,j.at_+1,(Om j.act (Bz j)).1,i64.wrap (j.ke+LU j)⟩
theorem Oq {j:Job} (h:wF j=true) (hd:j.at_≠(j.model.aC.length:Int)):wF (xF j)=true:=by
 obtain⟨hm,hat,hok,hsh,hsp⟩:=j3 h;obtain⟨hlen,hg⟩:=tn hm;obtain⟨hl,hs⟩:=hg j.at_.toNat (by omega);rw[<-hsh]at hl hs;obtain⟨r1,r2,r3⟩:=DD hok hl;have hcl:=jo hm
 have hi:j.at_.toNat<(bB j.model).length:=by omega
 have e:(j.at_+1).toNat=j.at_.toNat+1:=by omega
 unfold wF xF;simp only[VP,cd,decide_eq_true_eq,hm,true_and,e];refine⟨by omega,r1,?_,?_⟩
 ·show(Om j.act (Bz j)).1.sh=_;rw[hs];exact r2
 ·unfold UN LU;rw[dy hi,WM,bT hi,hsp];rfl
theorem Sv {V R:Type} {g:V->(V->Option R)->Option R} {fin:V->Option R} {st:Nat->V} {n:Nat} {k:Nat} (h:∀i,i<n->∀next,g (st i) next=next (st (i+1))) (hn:∀next,g (st n) next=fin (st n)) (hk:n<k):iter g k (st 0)=fin (st n):=
 eW (g:=g) (st:=st) (n:=n) (r:=fin (st n)) h hn hk
theorem Jc {k:Nat} {j:Job} (hk:j.tot+8<k) (hN:j.tot<=aU) (h:wF j=true):zC k j=some ((bB j.model).drop j.at_.toNat):=by
 have hM:=al;obtain⟨hm,hat,hok,hsh,hsp⟩:=j3 h;obtain⟨hlen,hg⟩:=tn hm;have hcl:=jo hm;have ht:j.tot=j.model.tot+(j.act.tot+0):=rfl;unfold zC;rw[tc (by omega) hN,aa,h];simp only[VT,cond_false];rw[lI (by omega) (by omega),aa]
 have e0:(j.at_,([]:List Int))=(((j.at_.toNat+0:Nat):Int),((bB j.model).drop j.at_.toNat).take 0):=by
  rw[List.take_zero];congr 1;omega
 rw[e0];refine(Sv (g:=λu5 n5=>nk k (bB j.model) u5 n5 (λy4=>some y4)) (fin:=λv=>some v.2) (st:=λi=>(((j.at_.toNat+i:Nat):Int),((bB j.model).drop j.at_.toNat).take i)) (n:=(bB j.model).length-j.at_.toNat) (λi hi next=>?_) (λnext=>?_) (by omega)).trans ?_
 ·have hi2:j.at_.toNat+i<(bB j.model).length:=by omega
  have hi3:i<((bB j.model).drop j.at_.toNat).length:=by simp;omega
  simp only[nk];rw[ab,if_pos (by omega),ab,if_pos (by omega),VQ,aj hi2,aa,bJ (by simp;omega),aq hi2 (by omega),dy hi3,List.getElem_drop];rfl
 ·simp only[nk];rw[ab,if_neg (by omega)]
 ·rw[Xk (by simp)]
theorem Jd {k:Nat} {j:Job} (hk:j.tot+8<k) (hN:j.tot<aU) (h:wF j=true):zD k j=some ((bB j.model).drop j.at_.toNat):=by
 obtain⟨hm,hat,hok,hsh,hsp⟩:=j3 h;have hcl:=jo hm;have ht:j.tot=j.model.tot+(j.act.tot+0):=rfl;unfold zD;rw[Dt (by omega) hN,aa,h];simp only[VT,cond_false];rw[lJ (by omega) (by omega),aa,ab,if_pos (by omega),Xk (by simp)]
theorem Ot (xs:List Int) (n:Nat):(xs.drop n)[0]? =if n<xs.length then some (xs.getD n 0)else none:=by
 rw[V7,Wq];by_cases c:n<xs.length
 ·rw[if_pos c,aj c,bT c]
 ·rw[if_neg c,Wl (by omega)]
theorem He {xs:List Int} {n:Nat} (h:¬n<xs.length):xs.getD n 0=0:=by
 rw[Wp,Wl (by omega)];rfl
theorem Fg {k:Nat} {j:Job} (hk:j.tot+8<k) (hN:j.tot<=aU) (h:wF j=true):sX k j=some (LU j):=by
 unfold sX LU;rw[Jc hk hN h,aa,I5,ab,W9];by_cases c:j.at_.toNat<(bB j.model).length
 ·rw[if_neg (by omega),ab,if_pos (by omega)];show(((bB j.model).drop j.at_.toNat)[0]?).bind _=_;rw[Ot,if_pos c,aa]
 ·rw[if_pos (by omega),He c]
theorem Fh {k:Nat} {j:Job} (hk:j.tot+8<k) (hN:j.tot<aU) (h:wF j=true):sY k j=some (LU j):=by
 unfold sY LU;rw[Jd hk hN h,aa,I5,ab,W9];by_cases c:j.at_.toNat<(bB j.model).length
 ·rw[if_neg (by omega),zv,Ot,if_pos c,aa]
 ·rw[if_pos (by omega),He c]
theorem Hf {k:Nat} {j:Job} (hk:j.tot<k) (hN:j.tot<=aU):vJ k j=some j:=by
 have ht:j.tot=j.model.tot+(j.act.data.length+0+0):=rfl;unfold vJ;rw[rV (by omega) (by omega),aa,rR (by omega) (by omega),aa]
def Qu (j:Job):Job× Bool:=cond (wF j&&!(j.at_==(j.model.aC.length:Int))) (xF j,true) (j,false)
theorem Hg {k:Nat} {j:Job} (hk:j.tot<k) (hN:j.tot<=aU) (h:wF j=true):vK k j=some (j.at_==(j.model.aC.length:Int)):=by
 unfold vK;rw[tc hk hN,aa,h];rfl
theorem Hh {j:Job} (h:wF j=true) (hd:j.at_≠(j.model.aC.length:Int)):j.model.aC[j.at_.toNat]? =some (Bz j)/\(Bz j).tot<=j.model.tot:=by
 obtain⟨hm,hat,hok,hsh,hsp⟩:=j3 h
 have hi:j.at_.toNat<j.model.aC.length:=by omega
 unfold Bz;rw[bT hi];have:=kO av.tot (VV hi);exact⟨aj hi,by unfold Model.tot;omega⟩
theorem yM {k:Nat} {j:Job} (hk:j.tot+513<k) (hN:j.tot<=aU):vO k j=some (Qu j):=by
 have hM:=al;have ht:j.tot=j.model.tot+(j.act.data.length+0+0):=rfl;unfold vO Qu;rw[Hf (by omega) hN,aa,tc (by omega) hN,aa];cases h:wF j
 ·rfl
 simp only[VT,cond_false,VZ];rw[Hg (by omega) hN h,aa,I5];obtain⟨hm,hat,hok,hsh,hsp⟩:=j3 h;obtain⟨hlen,_⟩:=tn hm;by_cases c:j.at_=(j.model.aC.length:Int)
 ·rw[decide_eq_true c];rfl
 rw[decide_eq_false c];simp only[cond_false,Wj,cond_true];obtain⟨hl,hlt⟩:=Hh h c;rw[nc _ hat.1,hl,aa,Fe (by omega) (by omega) (by omega) (by omega) (by omega),aa,Fg (by omega) hN h,aa,aE (n:=j.at_+1) (by omega) (by omega)];rfl
end
section
end
section
theorem qB (b c:Bool):cond b (some c) (some false)=some (b&&c):=by cases b<;>rfl
theorem Ra (a b:Int):decide (a>=b)=!decide (a<b):=by rw[<-decide_not];exact decide_eq_decide.2 (by omega)
theorem Ou (a b:Int):decide (a>b)=!decide (a<=b):=by rw[<-decide_not];exact decide_eq_decide.2 (by omega)
theorem Hi {R:Type} (n:Nat) (p:Nat->Bool) {g:Int->(Int->Option R)->Option R} {yes no:Option R}
  (h:∀(i:Nat) (hi:i<n) (next:Int->Option R),g (i:Int) next=cond (p i) (next ((i+1:Nat):Int)) no)
  (hn:∀next,g (n:Int) next=yes) {k:Nat} (hk:n<k):iter g k 0=cond ((List.range n).all p) yes no:=
 kN (List.range n) p (g:=g) (yes:=yes) (no:=no) (λi hi next=>by rw[h i (by simpa using hi)];simp) (λnext=>by simpa using hn next) (by simpa using hk)
theorem fk {α β R:Type} (xs:List α) (p:α->Bool) (f:α->β) {g:Int× List β->(Int× List β->Option R)->Option R} {fin:List β->Option R}
  (h:∀(i:Nat) (ys:List β) (hi:i<xs.length) (next:Int× List β->Option R),ys.length<=i->g ((i:Int),ys) next=cond (p xs[i]) (next (((i+1:Nat):Int),ys++[f xs[i]])) (next (((i+1:Nat):Int),ys)))
  (hn:∀ys next,g ((xs.length:Int),ys) next=fin ys) {k:Nat} (hk:xs.length<k):iter g k (0,[])=fin ((xs.filter p).map f):=by
 have:=eW (g:=g) (st:=λi=>((i:Int),((xs.take i).filter p).map f)) (n:=xs.length) (r:=fin ((xs.filter p).map f)) (λi hi next=>by
  rw[h i _ hi next (by simp only[Xz];exact W8 (WJ _ _) (by simp;omega)),dy hi,XC,WL];cases hp:p xs[i]
  ·simp[hp]
  ·simp[hp]) (λnext=>by rw[WH];exact hn _ _) hk
 simpa using this
theorem uL {α:Type} {f:α->Int} {B:Int}:∀(xs:List α) (hf:∀x∈xs,0<=f x/\f x<=B),0<=(xs.map f).sum/\(xs.map f).sum<=B*xs.length
 |[],_=>by simp
 |x::xs,hf=>by
  have:=uL xs λy hy=>hf y (by simp[hy]);have h2:=hf x (by simp);simp only[Wm,W3,VS];rw[Int.natCast_add,Int.mul_add];omega
theorem Kp {α R:Type} (xs:List α) (f:α->Int) {B:Int} (hf:∀x∈xs,0<=f x/\f x<=B) {g:Int× Int->(Int× Int->Option R)->Option R} {fin:Int->Option R}
  (h:∀(i:Nat) (s:Int) (hi:i<xs.length) (next:Int× Int->Option R),0<=s->s<=B*i->g (s,(i:Int)) next=next (s+f xs[i],((i+1:Nat):Int)))
  (hn:∀s next,g (s,(xs.length:Int)) next=fin s) {k:Nat} (hk:xs.length<k):iter g k (0,0)=fin ((xs.map f).sum):=by
 have:=eW (g:=g) (st:=λi=>(((xs.take i).map f).sum,(i:Int))) (n:=xs.length) (r:=fin ((xs.map f).sum)) (λi hi next=>by
  have hb:=uL (f:=f) (B:=B) (xs.take i) (λx hx=>hf x (XH hx));rw[Wn,XE (by omega)]at hb;rw[h i _ hi next hb.1 hb.2,dy hi,WL,Xn]
  simp) (λnext=>by rw[WH];exact hn _ _) hk
 simpa using this
theorem Hj {R:Type} (xs:List Int) (a:Nat) (ha:a<=xs.length) {B:Int} (hB:0<=B) (hf:∀x∈xs,0<=x/\x<=B) {g:Int× Int->(Int× Int->Option R)->Option R} {fin:Int->Option R}
  (h:∀(i:Nat) (s:Int) (hi:i<xs.length) (next:Int× Int->Option R),0<=s->s<=B*i->g (s,(i:Int)) next=next (s+xs[i],((i+1:Nat):Int)))
  (hn:∀s next,g (s,(xs.length:Int)) next=fin s) {k:Nat} (hk:xs.length<k):iter g k (0,(a:Int))=fin ((xs.drop a).sum):=by
 have:=eW (g:=g) (st:=λi=>(((xs.drop a).take i).sum,((a+i:Nat):Int))) (n:=xs.length-a) (r:=fin ((xs.drop a).sum)) (λi hi next=>by
  have hb:=uL (f:=λx:Int=>x) (B:=B) ((xs.drop a).take i) (λx hx=>hf x (XV (XH hx)));rw[Wn,W9,XE (by omega),Yd]at hb;have hle:B*(i:Int)<=B*((a+i:Nat):Int):=Int.mul_le_mul_of_nonneg_left (by omega) hB;rw[h (a+i) _ (by omega) next hb.1 (by omega),dy (show i<(xs.drop a).length by simp;omega),Xn]
  simp[WT]) (λnext=>by
   rw[show a+(xs.length-a)=xs.length by omega,Xk (by simp)];exact hn _ _) (k:=k) (by omega)
 simpa using this
def jf (t:Task):Bool:=inB t.id 1 1000000&&(inB (t.ay.length:Int) 1 6&&(inB t.at_ 0 ((t.ay.length:Int)-1)&&(inB t.due 0 1000000&&(inB t.born 0 1000000&&t.ay.all λx=>inB x 1 1000))))
theorem bI {t:Task} (h:jf t=true):(1<=t.id/\t.id<=1000000)/\(1<=t.ay.length/\t.ay.length<=6)/\(0<=t.at_/\t.at_<t.ay.length)/\(0<=t.due/\t.due<=1000000)/\(0<=t.born/\t.born<=1000000)/\∀x∈t.ay,1<=x/\x<=1000:=by
 unfold jf inB at h;simp only[VP,decide_eq_true_eq,Wo]at h;obtain⟨h1,h2,h3,h4,h5,h6⟩:=h;exact⟨h1,by omega,by omega,h4,h5,h6⟩
theorem sb (k:Nat) (x:Int):lx k x=some (inB x 0 1000000):=by unfold lx;rw[cp];rfl
theorem uM (k:Nat) (x:Int):nT k x=some (inB x 0 1000000):=by unfold nT;rw[fV];rfl
theorem BA {k:Nat} {t:Task} (hk:t.ay.length<k) (hN:t.ay.length<=aU):vD k t=some (jf t):=by
 have hM:=al;unfold vD jf;simp only[cp,sb,aa,cond_not]
 rw[aE (by omega) (by omega),kN t.ay (λx=>inB x 1 1000) (yes:=some true) (no:=some false) (λi hi next=>by
  simp only[qh]
  rw[ab,if_pos (by omega),aL,aj hi,aa,cp,aa,cond_not,aq hi (by omega)]) (λnext=>by
  simp only[qh];rw[ab,if_neg (by omega)]) hk]
 simp only[qB,Ym]
theorem BB {k:Nat} {t:Task} (hk:t.ay.length<k) (hN:t.ay.length<=aU):vF k t=some (jf t):=by
 have hM:=al;unfold vF cr cL jf
 rw[fA t.ay (λx=>!inB x 1 1000) (λi hi next=>by
  simp only[br,ab,uz,fV,aa]
  rw[if_pos (by omega),aL,aj hi,aa,aq hi (by omega)]) (λnext=>by
  simp only[br,ab];rw[if_neg (by omega)]) hk]
 rw[dg];simp only[fV,uM,aa,pA];rw[aE (by omega) (by omega),Xw];simp only[Yb,qB]
 congr 1
 generalize inB t.id 1 1000000=a;generalize inB (t.ay.length:Int) 1 6=b;generalize inB t.at_ 0 ((t.ay.length:Int)-1)=c;generalize inB t.due 0 1000000=d;generalize inB t.born 0 1000000=e;generalize (t.ay.all λx=>inB x 1 1000)=f;cases a<;>cases b<;>cases c<;>cases d<;>cases e<;>cases f<;>rfl
def lK (ts:List Task) (id:Int):Int:=(ts.findIdx? λt=>t.id==id).elim (-1) λi=>(i:Int)
theorem mM {k:Nat} {s:ak} {id:Int} (hk:s.tasks.length<k) (hN:s.tasks.length<=aU):lU k s id=some (lK s.tasks id):=by
 have hM:=al;unfold lU lK
 rw[fA s.tasks (λt=>t.id==id) (yes:=some (-1)) (no:=some) (λi hi next=>by
  simp only[sM]
  rw[ab,if_pos (by omega),aL,aj hi,aa,aq hi (by omega)]) (λnext=>by
  simp only[sM];rw[ab,if_neg (by omega)]) hk]
 exact dg _
theorem wm {k:Nat} {s:ak} {id:Int} (hk:s.tasks.length<k) (hN:s.tasks.length<=aU):dw k s id=some (lK s.tasks id):=by
 have hM:=al;unfold dw dq lK
 rw[fA s.tasks (λt=>t.id==id) (yes:=some (-1)) (no:=some) (λi hi next=>by
  simp only[bV,kB,decide_true,cond_true,aa]
  rw[ab,if_pos (by omega),aL,aj hi,aa,aq hi (by omega)]) (λnext=>by
  simp only[bV,decide_true,cond_true];rw[ab,if_neg (by omega)]) hk]
 rw[dg];rfl
def ic (s:ak):Bool:=(List.range s.tasks.length).all λi=>(s.tasks[i]?).elim false λt=>jf t&&(decide (t.id<s.next)&&(decide (t.born<=s.now)&&(cond (decide (0<i)) ((s.tasks[i-1]?).elim false λu=>decide (u.id<t.id)) true)))
def Mt (s:ak):Bool:=cond (s.run==0) (s.left==0) ((s.tasks.findIdx? λt=>t.id==s.run).elim false λi=>(s.tasks[i]?).elim false λt=>(idx t.ay t.at_).elim false λc=>inB s.left 1 c)
def bf (s:ak):Bool:=inB s.now 0 1000000&&(inB s.ai 0 1000&&(inB s.age 0 20&&(decide ((s.tasks.length:Int)<=12)&&(inB s.turns 0 1000000&&(inB s.next 1 1000000&&(ic s&&Mt s))))))
theorem cf {s:ak} (h:ic s=true) {i:Nat} (hi:i<s.tasks.length):jf s.tasks[i]=true/\s.tasks[i].id<s.next/\s.tasks[i].born<=s.now/\∀j,(hj:j+1=i)->s.tasks[j].id<s.tasks[i].id:=by
 unfold ic at h;rw[Wo]at h;have:=h i (by simpa using hi);rw[aj hi,VX]at this;simp only[VP,decide_eq_true_eq]at this;obtain⟨h1,h2,h3,h4⟩:=this;refine⟨h1,h2,h3,λj hj=>?_⟩;subst hj;rw[decide_eq_true (by omega),cond_true,Nat.add_sub_cancel,aj (show j<s.tasks.length by omega),VX]at h4;exact of_decide_eq_true h4
theorem Kq {s:ak} (h:ic s=true):∀(d i:Nat) (hd:i+d+1<s.tasks.length),s.tasks[i].id<s.tasks[i+d+1].id
 |0,i,hd=>(cf h hd).2.2.2 i rfl
 |d+1,i,hd=>Int.lt_trans (Kq h d i (by omega)) ((cf h (i:=i+(d+1)+1) hd).2.2.2 (i+d+1) (by omega))
theorem Ov {s:ak} (h:ic s=true) {i j:Nat} (hi:i<s.tasks.length) (hj:j<s.tasks.length) (e:s.tasks[i].id=s.tasks[j].id):i=j:=by
 rcases XR i j with c|c|c
 ·obtain⟨d,rfl⟩:∃d,j=i+d+1:=⟨j-i-1,by omega⟩;have:=Kq h d i hj;omega
 ·exact c
 ·obtain⟨d,rfl⟩:∃d,i=j+d+1:=⟨i-j-1,by omega⟩;have:=Kq h d j hi;omega
theorem BC {s:ak} (h:ic s=true) {i:Nat} (hi:i<s.tasks.length):(s.tasks.findIdx? λt=>t.id==s.tasks[i].id)=some i:=by
 cases e:s.tasks.findIdx? λt=>t.id==s.tasks[i].id with
 |none=>
  rw[Xb]at e;have:=e _ (VV hi)
  simp at this
 |some j=>
  obtain⟨hj,hp,_⟩:=W1.1 e;rw[Ov h hj hi (by simpa using hp)]
theorem sd {ts:List Task} {id:Int} {i:Nat} (h:(ts.findIdx? λt=>t.id==id)=some i):∃hi:i<ts.length,ts[i].id=id:=by
 obtain⟨hi,hp,_⟩:=W1.1 h;exact⟨hi,by simpa using hp⟩
theorem Kr {s:ak} (h:ic s=true) (i:Nat) (hi:(s.tasks.findIdx? λt=>t.id==s.run)=some i):
  ((idx s.tasks (i:Int)).bind λe8=>(idx s.tasks (i:Int)).bind λe9=>(idx e8.ay e9.at_).bind λe10=>some (inB s.left (1:Int) e10))=
  some ((s.tasks[i]?).elim false λt=>(idx t.ay t.at_).elim false λc=>inB s.left 1 c):=by
 obtain⟨hl,_⟩:=sd hi;have ht:=bI (cf h hl).1;rw[aL,aj hl,aa,aa,VX]
 have:idx s.tasks[i].ay s.tasks[i].at_=some (s.tasks[i].ay[s.tasks[i].at_.toNat]'(by omega)):=by
  rw[nc _ ht.2.2.1.1];exact aj _
 rw[this,aa,VX]
theorem jr {ts:List Task} {id:Int} {i:Nat} (h:(ts.findIdx? λt=>t.id==id)=some i):lK ts id=(i:Int):=by unfold lK;rw[h];rfl
theorem xG {ts:List Task} {id:Int} (h:(ts.findIdx? λt=>t.id==id)=none):lK ts id=-1:=by unfold lK;rw[h];rfl
theorem DF {R:Type} {s:ak} {i:Nat} (hi:i<s.tasks.length) (hN:s.tasks.length<=aU) {next no:Option R}:
  (cond (!jf s.tasks[i]) no (cond (decide (s.tasks[i].id>=s.next)) no (cond (decide (s.tasks[i].born>s.now)) no (cond (decide ((i:Int)>(0:Int))) ((idx s.tasks (i64.wrap ((i:Int)-(1:Int)))).bind λe8=>cond (decide (e8.id>=s.tasks[i].id)) no next) next))))=
  cond ((s.tasks[i]?).elim false λt=>jf t&&(decide (t.id<s.next)&&(decide (t.born<=s.now)&&(cond (decide (0<i)) ((s.tasks[i-1]?).elim false λu=>decide (u.id<t.id)) true)))) next no:=by
 have hM:=al;rw[aj hi,VX,Ra s.tasks[i].id s.next,Ou s.tasks[i].born s.now];simp only[cond_not]
 cases i with
 |zero=>
  rw[decide_eq_false (show¬(((0:Nat):Int)>0) by omega),decide_eq_false (show¬(0<0) by omega)];simp only[cond_false,Ym]
  cases jf s.tasks[0]<;>cases decide (s.tasks[0].id<s.next)<;>cases decide (s.tasks[0].born<=s.now)<;>rfl
 |succ j=>
  rw[decide_eq_true (show(((j+1:Nat):Int)>0) by omega),decide_eq_true (show(0<j+1) by omega),aE (by omega) (by omega),show((j+1:Nat):Int)-1=(j:Int)from by omega,aL,Nat.add_sub_cancel,aj (show j<s.tasks.length by omega),aa,VX,Ra s.tasks[j].id];simp only[cond_true,cond_not];cases jf s.tasks[j+1]<;>cases decide (s.tasks[j+1].id<s.next)<;>cases decide (s.tasks[j+1].born<=s.now)<;>cases decide (s.tasks[j].id<s.tasks[j+1].id)<;>rfl
theorem eo {k:Nat} {s:ak} (hk:s.tot<k) (hN:s.tot<=aU):fE k s=some (bf s):=by
 have hM:=al;unfold ak.tot at hk hN;have hlen:=bU Task.tot s.tasks;unfold fE bf;rw[Ou (s.tasks.length:Int) 12];simp only[cp,sb,aa,cond_not]
 rw[Hi s.tasks.length (λi=>(s.tasks[i]?).elim false λt=>jf t&&(decide (t.id<s.next)&&(decide (t.born<=s.now)&&(cond (decide (0<i)) ((s.tasks[i-1]?).elim false λu=>decide (u.id<t.id)) true)))) (λi hi next=>by
  have hm:=kO Task.tot (VV hi);have hm0:s.tasks[i].tot=s.tasks[i].ay.length+0:=rfl;simp only[nS];rw[ab,if_pos (by omega),aL,aj hi,aa,BA (by omega) (by omega),aa,aq hi (by omega)]
  exact(DF hi (by omega)).trans (by rw[aj hi])) (λnext=>by
  simp only[nS];rw[ab,if_neg (by omega)]) (by omega)]
 rw[show((List.range s.tasks.length).all λi=>(s.tasks[i]?).elim false λt=>jf t&&(decide (t.id<s.next)&&(decide (t.born<=s.now)&&(cond (decide (0<i)) ((s.tasks[i-1]?).elim false λu=>decide (u.id<t.id)) true))))=ic s from rfl]
 have hr:ic s=true->cond (s.run==(0:Int)) (some (s.left==(0:Int))) (cond (decide (lK s.tasks s.run>=(0:Int))) ((idx s.tasks (lK s.tasks s.run)).bind λe11=>(idx s.tasks (lK s.tasks s.run)).bind λe12=>(idx e11.ay e12.at_).bind λe13=>some (inB s.left (1:Int) e13)) (some false))=some (Mt s):=by
  intro h;unfold Mt;cases s.run==0
  ·simp only[cond_false]
   cases hf:s.tasks.findIdx? λt=>t.id==s.run with
   |none=>rw[xG hf];rfl
   |some i=>rw[jr hf,ab,if_pos (by omega),Kr h i hf];rfl
  ·rfl
 simp only[mM (s:=s) (id:=s.run) (k:=k) (by omega) (by omega),aa];cases h:ic s
 ·simp only[cond_false,WZ];simp only[qB,XU]
 ·simp only[cond_true,VZ,hr h,qB]
theorem Fi {k:Nat} {s:ak} (hk:s.tot<k) (hN:s.tot<=aU):iJ k s=some (ic s&&decide ((s.tasks.length:Int)<=12)):=by
 have hM:=al;unfold ak.tot at hk hN;have hlen:=bU Task.tot s.tasks;unfold iJ
 rw[Hi s.tasks.length (λi=>(s.tasks[i]?).elim false λt=>jf t&&(decide (t.id<s.next)&&(decide (t.born<=s.now)&&(cond (decide (0<i)) ((s.tasks[i-1]?).elim false λu=>decide (u.id<t.id)) true)))) (λi hi next=>by
  have hm:=kO Task.tot (VV hi);have hm0:s.tasks[i].tot=s.tasks[i].ay.length+0:=rfl;simp only[fQ];rw[ab,if_pos (by omega),aL,aj hi,aa,BB (by omega) (by omega),aa,aq hi (by omega)]
  exact(DF hi (by omega)).trans (by rw[aj hi])) (λnext=>by
  simp only[fQ];rw[ab,if_neg (by omega)]) (by omega)]
 exact qB _ _
theorem lL {k:Nat} {s:ak} (hk:s.tot<k) (hN:s.tot<=aU):ni k s=some (bf s):=by
 have hM:=al;have hk2:=hk;have hN2:=hN;unfold ak.tot at hk hN;have hlen:=bU Task.tot s.tasks;unfold ni bf;simp only[fV,uM,aa,cond_not,Fi hk2 hN2,wm (s:=s) (id:=s.run) (k:=k) (by omega) (by omega)]
 have hr:ic s=true->cond (s.run==(0:Int)) (cond (s.run==(0:Int)) (some (s.left==(0:Int))) (some false)) (cond (decide (lK s.tasks s.run<(0:Int))) (cond (s.run==(0:Int)) (some (s.left==(0:Int))) (some false)) ((idx s.tasks (lK s.tasks s.run)).bind λe8=>(idx s.tasks (lK s.tasks s.run)).bind λe9=>(idx e8.ay e9.at_).bind λe10=>some (inB s.left (1:Int) e10)))=some (Mt s):=by
  intro h;unfold Mt;cases s.run==0
  ·simp only[cond_false]
   cases hf:s.tasks.findIdx? λt=>t.id==s.run with
   |none=>rw[xG hf];rfl
   |some i=>rw[jr hf,ab,if_neg (by omega),Kr h i hf];rfl
  ·rfl
 cases h:ic s
 ·simp only[cond_false,WZ];simp only[qB,XU]
 ·rw[hr h];simp only[VZ,qB]
  congr 1
  generalize inB s.now 0 1000000=a;generalize inB s.ai 0 1000=b;generalize inB s.age 0 20=c;generalize decide ((s.tasks.length:Int)<=12)=d;generalize inB s.turns 0 1000000=e;generalize inB s.next 1 1000000=f;generalize Mt s=g;cases a<;>cases b<;>cases c<;>cases d<;>cases e<;>cases f<;>cases g<;>rfl
theorem bF {s:ak} (h:bf s=true):(0<=s.now/\s.now<=1000000)/\(0<=s.ai/\s.ai<=1000)/\(0<=s.age/\s.age<=20)/\s.tasks.length<=12/\(0<=s.turns/\s.turns<=1000000)/\(1<=s.next/\s.next<=1000000)/\ic s=true/\Mt s=true:=by
 unfold bf inB at h;simp only[VP,decide_eq_true_eq]at h;obtain⟨h1,h2,h3,h4,h5,h6,h7,h8⟩:=h;exact⟨h1,h2,h3,by omega,h5,h6,h7,h8⟩
end
section
theorem se {k:Nat} {s:ak} (hk:s.tot<k) (hN:s.tot<=aU):ng k s=some s:=by
 have hM:=al;unfold ak.tot at hk hN;have hlen:=bU Task.tot s.tasks;unfold ng
 refine(qb s.tasks (λt=>t) (g:=λu4 n4=>lu k (s.now,s.ai,s.age,s.tasks,s.run,s.left,s.turns,s.next,(0:Int),(0:Int),(0:Int),(0:Int),(0:Int),(0:Int),(0:Int),s.now,s.ai,s.age,s.run,s.left,s.turns,s.next) u4 n4 (λy3=>some (⟨s.now,s.ai,s.age,y3,s.run,s.left,s.turns,s.next⟩:ak)))
  (fin:=λy3=>some (⟨s.now,s.ai,s.age,y3,s.run,s.left,s.turns,s.next⟩:ak)) (λi ys hi next hl=>by
  have hm:=kO Task.tot (VV hi);have hm0:s.tasks[i].tot=s.tasks[i].ay.length+0:=rfl;simp only[lu]
  rw[ab,if_pos (by omega),aL,aj hi,aa,lH (by omega) (by omega),aa,bJ (by omega),aq hi (by omega)]) (λys next=>by
  simp only[lu];rw[ab,if_neg (by omega)]) (by omega)).trans ?_
 simp
theorem kI {k:Nat} {s:ak} (hk:s.tot<k) (hN:s.tot<=aU):gu k s=some s:=by
 have hM:=al;unfold ak.tot at hk hN;have hlen:=bU Task.tot s.tasks;unfold gu
 refine(qb s.tasks (λt=>t) (g:=λu4 n4=>fF k (s.tasks,(s.tasks.length:Int),s.now,s.ai,s.age,s.run,s.left,s.turns,s.next,(0:Int),(0:Int),(0:Int),(0:Int),(0:Int),(0:Int),(0:Int)) u4 n4 (λy3=>some (⟨s.now,s.ai,s.age,y3,s.run,s.left,s.turns,s.next⟩:ak)))
  (fin:=λy3=>some (⟨s.now,s.ai,s.age,y3,s.run,s.left,s.turns,s.next⟩:ak)) (λi ys hi next hl=>by
  have hm:=kO Task.tot (VV hi);have hm0:s.tasks[i].tot=s.tasks[i].ay.length+0:=rfl;simp only[fF]
  rw[ab,if_pos (by omega),aL,aj hi,aa,dh (by omega),aa,bJ (by omega),aq hi (by omega)]) (λys next=>by
  simp only[fF];rw[ab,if_neg (by omega)]) (by omega)).trans ?_
 simp
def ie (t:Task):Int:=(t.ay.drop t.at_.toNat).sum
def fL (t:Task):Int:=(idx t.ay t.at_).getD 0
def cS (s:ak) (t:Task):Int:=cond (s.run==t.id) (ie t-fL t+s.left) (ie t)
theorem eR {t:Task} (h:jf t=true):idx t.ay t.at_=some (fL t)/\1<=fL t/\fL t<=1000:=by
 have ht:=bI h
 have hlt:t.at_.toNat<t.ay.length:=by omega
 have e:idx t.ay t.at_=some t.ay[t.at_.toNat]:=by rw[nc _ ht.2.2.1.1];exact aj hlt
 unfold fL;rw[e,Xg];exact⟨rfl,ht.2.2.2.2.2 _ (VV hlt)⟩
theorem wo {t:Task} (h:jf t=true):fL t<=ie t/\ie t-fL t<=5000/\0<=ie t-fL t:=by
 have ht:=bI h
 have hlt:t.at_.toNat<t.ay.length:=by omega
 have e:idx t.ay t.at_=some t.ay[t.at_.toNat]:=by rw[nc _ ht.2.2.1.1];exact aj hlt
 have hc:fL t=t.ay[t.at_.toNat]:=by unfold fL;rw[e];rfl
 have hb:=uL (f:=λx:Int=>x) (B:=1000) (t.ay.drop (t.at_.toNat+1)) (λx hx=>by have:=ht.2.2.2.2.2 x (XV hx);omega);rw[Yd,W9]at hb;unfold ie;rw[iw hlt,W3,hc];omega
theorem qC {s:ak} (h:bf s=true) {t:Task} (hm:t∈s.tasks) (hr:s.run=t.id):1<=s.left/\s.left<=fL t:=by
 have hs:=bF h;obtain⟨i,hi,rfl⟩:=V8.1 hm;have hT:=(cf hs.2.2.2.2.2.2.1 hi).1;have ht:=bI hT;have lY:=hs.2.2.2.2.2.2.2;unfold Mt at lY
 have h0:(s.run==0)=false:=by rw[hr];simp;omega
 rw[h0,cond_false,hr,BC hs.2.2.2.2.2.2.1 hi,VX,aj hi,VX,(eR hT).1,VX]at lY;exact of_decide_eq_true lY
theorem BD {s:ak} (h:bf s=true) {t:Task} (hm:t∈s.tasks):0<=cS s t/\cS s t<=6000:=by
 have hs:=bF h;obtain⟨i,hi,e⟩:=V8.1 hm;have hT:jf t=true:=e▸(cf hs.2.2.2.2.2.2.1 hi).1;have hc:=eR hT;have hb:=wo hT;unfold cS;cases hr:s.run==t.id
 ·simp only[cond_false];omega
 ·have:=qC h hm (by simpa using hr);simp only[cond_true];omega
theorem Fj {k:Nat} {s:ak} (hk:s.tot<k) (hN:s.tot<=aU) (h:bf s=true) {t:Task} (hm:t∈s.tasks):sN k s t.id=some (cS s t):=by
  have hM:=al;have hs:=bF h;obtain⟨i,hi,rfl⟩:=V8.1 hm;have hT:=(cf hs.2.2.2.2.2.2.1 hi).1;have ht:=bI hT;have hlen:=bU Task.tot s.tasks;have htm:=kO Task.tot hm;have hm0:s.tasks[i].tot=s.tasks[i].ay.length+0:=rfl;have hst:s.tot=jj Task.tot s.tasks+0:=rfl;have hc:=eR hT;have hb:=wo hT;unfold sN;rw[mM (by omega) (by omega),aa,eo hk hN,aa,h,jr (BC hs.2.2.2.2.2.2.1 hi)];simp only[VT,cond_false];rw[ab,if_neg (by omega),aL,aj hi,aa]
  have hat:s.tasks[i].at_=((s.tasks[i].at_.toNat:Nat):Int):=by omega
  have e:=Hj (R:=Int) s.tasks[i].ay s.tasks[i].at_.toNat (by omega) (B:=1000) (by omega) (λx hx=>by have:=ht.2.2.2.2.2 x hx;omega)
    (g:=λu7 n7=>jJ k (s.tasks[i].id,s.now,s.ai,s.age,s.tasks,s.run,s.left,s.turns,s.next,s.tasks[i].id,s.tasks[i].ay,s.tasks[i].at_,s.tasks[i].due,s.tasks[i].born) u7 n7 (λy5=>cond (s.run==s.tasks[i].id) ((idx s.tasks[i].ay s.tasks[i].at_).bind λe6=>some (i64.wrap ((i64.wrap (y5-e6))+s.left))) (some y5)))
    (fin:=λy5=>cond (s.run==s.tasks[i].id) ((idx s.tasks[i].ay s.tasks[i].at_).bind λe6=>some (i64.wrap ((i64.wrap (y5-e6))+s.left))) (some y5))
    (λj z hj next h0 h1=>by
      have:=ht.2.2.2.2.2 _ (VV hj);simp only[jJ]
      rw[ab,if_pos (by omega),aL,aj hj,aa,aE (by omega) (by omega),aq hj (by omega)])
    (λz next=>by simp only[jJ];rw[ab,if_neg (by omega)]) (k:=k) (by omega)
  rw[<-hat]at e;refine e.trans ?_;show cond _ _ _=some (cS s s.tasks[i]);unfold cS;rw[hc.1,aa];cases hr:s.run==s.tasks[i].id
  · rfl
  · have:=qC h hm (by simpa using hr);simp only[cond_true];have e2:(s.tasks[i].ay.drop s.tasks[i].at_.toNat).sum=ie s.tasks[i]:=rfl;rw[e2,aE (n:=ie s.tasks[i]-fL s.tasks[i]) (by omega) (by omega),aE (by omega) (by omega)]
theorem Ks {B:Int}:∀(xs:List Int) (s:Int) (hf:∀x∈xs,0<=x/\x<=B) (h0:0<=s) (h1:s+B*xs.length<=9223372036854775807),xs.foldl (λs x=>i64.wrap (s+x)) s=s+xs.sum
 |[],s,_,_,_=>by simp
 |x::xs,s,hf,h0,h1=>by
  have hx:=hf x (by simp);rw[VS,Int.natCast_add,Int.mul_add]at h1;have h2:0<=B*(xs.length:Int):=WY (by omega) (by omega);rw[Wr,W3,aE (by omega) (by omega),Ks xs (s+x) (λy hy=>hf y (by simp[hy])) (by omega) (by omega)];omega
theorem Je {k:Nat} {s:ak} (hk:s.tot<k) (hN:s.tot<=aU) (h:bf s=true) {t:Task} (hm:t∈s.tasks):kQ k s t=some (cS s t):=by
 have hM:=al;have hs:=bF h;obtain⟨i,hi,rfl⟩:=V8.1 hm;have hT:=(cf hs.2.2.2.2.2.2.1 hi).1;have ht:=bI hT;have htm:=kO Task.tot hm;have hm0:s.tasks[i].tot=s.tasks[i].ay.length+0:=rfl;have hst:s.tot=jj Task.tot s.tasks+0:=rfl;have hc:=eR hT;have hb:=wo hT;unfold kQ;rw[ab,if_pos (by omega),Xk (Wc _),EW (by simp;omega) (by simp;omega),aa,Ks (B:=1000) _ 0 (λx hx=>by have:=ht.2.2.2.2.2 x (XV hx);omega) (by omega) (by simp;omega),hc.1,aa,Int.zero_add];have e2:(s.tasks[i].ay.drop s.tasks[i].at_.toNat).sum=ie s.tasks[i]:=rfl;rw[e2];unfold cS;cases hr:s.run==s.tasks[i].id
 ·rfl
 ·have:=qC h hm (by simpa using hr);simp only[cond_true];rw[aE (n:=s.left-fL s.tasks[i]) (by omega) (by omega),aE (by omega) (by omega)]
  congr 1;omega
def ig (s:ak) (d:Int):Int:=(s.tasks.map λt=>cond (decide (t.due<=d)) (cS s t) 0).sum
def block (s:ak) (d:Int):Int:=(s.tasks.findIdx? λt=>t.id==s.run).elim 0 λi=>(s.tasks[i]?).elim 0 λt=>cond (decide (t.due>d)) s.left 0
theorem mN {s:ak} (h:bf s=true) (d:Int):∀t∈s.tasks,0<=cond (decide (t.due<=d)) (cS s t) 0/\cond (decide (t.due<=d)) (cS s t) 0<=6000:=λt ht=>by
 have:=BD h ht;cases decide (t.due<=d)
 ·simp
 ·simpa using this
theorem Ow {s:ak} (h:bf s=true) (d:Int):0<=ig s d/\ig s d<=72000:=by
 have hs:=bF h;have:=uL (B:=6000) s.tasks (mN h d);unfold ig;omega
theorem Fk {k:Nat} {s:ak} {d:Int} (hk:s.tot<k) (hN:s.tot<=aU) (h:bf s=true):sO k s d=some (ig s d):=by
  have hM:=al;have hs:=bF h;have hlen:=bU Task.tot s.tasks;have hst:s.tot=jj Task.tot s.tasks+0:=rfl;unfold sO;rw[eo hk hN,aa,h];simp only[VT,cond_false]
  exact Kp s.tasks (λt=>cond (decide (t.due<=d)) (cS s t) 0) (B:=6000) (mN h d) (g:=λu6 n6=>jK k (d,s.now,s.ai,s.age,s.tasks,s.run,s.left,s.turns,s.next) u6 n6 (λy5=>some y5)) (fin:=some)
    (λi z hi next h0 h1=>by
      have hr:=BD h (VV hi);have e:=Fj hk hN h (VV hi);simp only[jK];rw[ab,if_pos (by omega),aL,aj hi,aa,aq hi (by omega),aa];by_cases c:s.tasks[i].due<=d
      · rw[decide_eq_true c,cond_true,cond_true,show(⟨s.now,s.ai,s.age,s.tasks,s.run,s.left,s.turns,s.next⟩:ak)=s from rfl,e,aa,aE (by omega) (by omega)]
      · rw[decide_eq_false c,cond_false,cond_false,XI])
    (λz next=>by simp only[jK];rw[ab,if_neg (by omega)]) (by omega)
theorem Jf {k:Nat} {s:ak} {d:Int} (hk:s.tot<k) (hN:s.tot<=aU) (h:bf s=true):kR k s d=some (ig s d):=by
  have hM:=al;have hs:=bF h;have hlen:=bU Task.tot s.tasks;have hst:s.tot=jj Task.tot s.tasks+0:=rfl;unfold kR
  exact Kp s.tasks (λt=>cond (decide (t.due<=d)) (cS s t) 0) (B:=6000) (mN h d) (g:=λu4 n4=>fG k (d,s.tasks,(s.tasks.length:Int),s.now,s.ai,s.age,s.tasks,s.run,s.left,s.turns,s.next) u4 n4 (λy3=>some y3)) (fin:=some)
    (λi z hi next h0 h1=>by
      have hr:=BD h (VV hi);have e:=Je hk hN h (VV hi);simp only[fG];rw[ab,if_pos (by omega),aL,aj hi,aa,aq hi (by omega)];by_cases c:s.tasks[i].due<=d
      · rw[decide_eq_true c,cond_true,cond_true,show(⟨s.now,s.ai,s.age,s.tasks,s.run,s.left,s.turns,s.next⟩:ak)=s from rfl,e,aa,aE (by omega) (by omega)]
      · rw[decide_eq_false c,cond_false,cond_false,XI])
    (λz next=>by simp only[fG];rw[ab,if_neg (by omega)]) (by omega)
theorem Fl {s:ak} (h:bf s=true) (d:Int):0<=block s d/\block s d<=1000:=by
 have hs:=bF h;unfold block
 cases hf:s.tasks.findIdx? λt=>t.id==s.run with
 |none=>exact⟨XB _,by show(0:Int)<=1000;omega⟩
 |some i=>
  obtain⟨hi,hid⟩:=sd hf;have hT:=(cf hs.2.2.2.2.2.2.1 hi).1;have:=qC h (VV hi) hid.symm;have:=eR hT;rw[VX,aj hi,VX];cases decide (s.tasks[i].due>d)
  ·exact⟨XB _,by show(0:Int)<=1000;omega⟩
  ·simp only[cond_true];omega
theorem DG {s:ak} {d:Int} (h:bf s=true):cond (decide (lK s.tasks s.run>=(0:Int))) ((idx s.tasks (lK s.tasks s.run)).bind λe3=>cond (decide (e3.due>d)) (some s.left) (some (0:Int))) (some (0:Int))=some (block s d):=by
 unfold block
 cases hf:s.tasks.findIdx? λt=>t.id==s.run with
 |none=>rw[xG hf];rfl
 |some i=>
  obtain⟨hi,_⟩:=sd hf;rw[jr hf,ab,if_pos (by omega),aL,aj hi,aa,VX,aj hi,VX];cases decide (s.tasks[i].due>d)<;>rfl
theorem Hk {k:Nat} {s:ak} {d:Int} (hk:s.tot<k) (hN:s.tot<=aU) (h:bf s=true):vE k s d=some (block s d):=by
 have hlen:=bU Task.tot s.tasks;have hst:s.tot=jj Task.tot s.tasks+0:=rfl;unfold vE;rw[eo hk hN,aa,h];simp only[VT,cond_false];rw[mM (by omega) (by omega),aa,DG h]
theorem LV {k:Nat} {s:ak} {d:Int} (hk:s.tot<k) (hN:s.tot<=aU) (h:bf s=true):l7 k s d=some (block s d):=by
 have hlen:=bU Task.tot s.tasks;have hst:s.tot=jj Task.tot s.tasks+0:=rfl;unfold l7;rw[wm (by omega) (by omega),aa,DG h]
def eK (s:ak) (t:Task):Bool:=decide (t.due<=s.now)
def Jg (s:ak) (t:Task):Bool:=decide (ig s t.due+block s t.due+s.ai<=t.due-s.now)
def BF (s:ak):Bool:=bf s&&s.tasks.all λt=>!eK s t&&Jg s t
theorem Ox {α:Type} (p q:α->Bool):∀xs:List α,(xs.all p&&xs.all q)=xs.all λx=>p x&&q x
 |[]=>rfl
 |x::xs=>by
  rw[Yk,Yk,Yk,<-Ox p q xs];cases p x<;>cases q x<;>cases xs.all p<;>cases xs.all q<;>rfl
theorem Jh {k:Nat} {s:ak} (hk:s.tot<k) (hN:s.tot<=aU) (h:bf s=true):zz k s=some ((s.tasks.filter (eK s)).map (·.id)):=by
  have hM:=al;have hlen:=bU Task.tot s.tasks;have hst:s.tot=jj Task.tot s.tasks+0:=rfl;unfold zz;rw[eo hk hN,aa,h];simp only[VT,cond_false]
  exact fk s.tasks (eK s) (·.id) (g:=λu5 n5=>nh k (s.now,s.ai,s.age,s.tasks,s.run,s.left,s.turns,s.next) u5 n5 (λy4=>some y4)) (fin:=some)
    (λi ys hi next hl=>by
      simp only[nh];rw[ab,if_pos (by omega),aL,aj hi,aa,aq hi (by omega),aa,bJ (by simp;omega)]
      rfl)
    (λys next=>by simp only[nh];rw[ab,if_neg (by omega)]) (by omega)
theorem Oy {s:ak} (h:bf s=true) {t:Task} (hm:t∈s.tasks):decide ((i64.wrap ((i64.wrap (ig s t.due+block s t.due))+s.ai))>(i64.wrap (t.due-s.now)))=!Jg s t:=by
 have hs:=bF h;have hd:=Ow h t.due;have hb:=Fl h t.due;obtain⟨i,hi,e⟩:=V8.1 hm;have ht:=bI (t:=t) (e▸(cf hs.2.2.2.2.2.2.1 hi).1);rw[aE (n:=ig s t.due+block s t.due) (by omega) (by omega),aE (n:=ig s t.due+block s t.due+s.ai) (by omega) (by omega),aE (by omega) (by omega),Ou];rfl
theorem Ji {k:Nat} {s:ak} (hk:s.tot<k) (hN:s.tot<=aU):zA k s=some (BF s):=by
 have hM:=al;have hlen:=bU Task.tot s.tasks;have hst:s.tot=jj Task.tot s.tasks+0:=rfl;unfold zA BF;rw[eo hk hN,aa];cases h:bf s
 ·rfl
 simp only[VT,cond_false,VZ]
 rw[Jh hk hN h,aa,kN s.tasks (Jg s) (yes:=some true) (no:=some false) (λi hi next=>by
  simp only[qi]
  rw[ab,if_pos (by omega),aL,aj hi,aa,show(⟨s.now,s.ai,s.age,s.tasks,s.run,s.left,s.turns,s.next⟩:ak)=s from rfl,Fk hk hN h,aa,Hk hk hN h,aa,Oy h (VV hi),cond_not,aq hi (by omega)]) (λnext=>by
  simp only[qi];rw[ab,if_neg (by omega)]) (by omega)]
 rw[<-Ox,Xz]
 have hz:decide (((s.tasks.filter (eK s)).length:Int)>0)=!(s.tasks.all λt=>!eK s t):=by
  cases ha:s.tasks.all λt=>!eK s t
  ·rw[List.all_eq_false]at ha;obtain⟨t,ht,hl⟩:=ha;have:0<(s.tasks.filter (eK s)).length:=List.length_pos_of_mem (Wz.2 ⟨ht,by simpa using hl⟩);rw[decide_eq_true (by omega)];rfl
  ·rw[Wo]at ha
   have:s.tasks.filter (eK s)=[]:=List.filter_eq_nil_iff.2 λt ht=>by simpa using ha t ht
   rw[this];rfl
 rw[hz];cases s.tasks.all λt=>!eK s t
 ·rfl
 ·simp only[VT,cond_false,VZ];cases s.tasks.all (Jg s)<;>rfl
theorem Jj {k:Nat} {s:ak} (hk:s.tot<k) (hN:s.tot<=aU):zB k s=some (BF s):=by
  have hM:=al;have hlen:=bU Task.tot s.tasks;have hst:s.tot=jj Task.tot s.tasks+0:=rfl;unfold zB BF;rw[lL hk hN,aa];cases h:bf s
  · rfl
  simp only[cond_true,VZ];unfold cU dj;simp only[decide_true,cond_true]
  rw [fA s.tasks (λ t => !(!eK s t && Jg s t)) (yes := some (-1)) (no := some) (λ i hi next => by
    simp only[bN,decide_true,cond_true];rw[ab,if_pos (by omega),aL,aj hi,aa,show(⟨s.now,s.ai,s.age,s.tasks,s.run,s.left,s.turns,s.next⟩:ak)=s from rfl]
    have e:l9 k s.tasks[i] s=some (!(!eK s s.tasks[i]&&Jg s s.tasks[i])):=by
      unfold l9 dm;rw[aa,Jf hk hN h,LV hk hN h];simp only[decide_true,cond_true,aa,Oy h (VV hi)];unfold eK;cases decide (s.tasks[i].due<=s.now)<;>cases Jg s s.tasks[i]<;>rfl
    rw[e,aa,aq hi (by omega)]) (λnext=>by
    simp only[bN,decide_true,cond_true];rw[ab,if_neg (by omega)]) (by omega)]
  rw[dg];simp only[aa,pA];rw[Xw];simp only[Yb]
def fo (s:ak) (ay:List Int) (due:Int):ak× Int× Int:=
  cond (bf s&&jf ⟨s.next,ay,0,due,s.now⟩)
    (cond ((s.tasks.length:Int)==12||s.next==1000000) (s,0,2)
      (cond (BF ⟨s.now,s.ai,s.age,s.tasks++[⟨s.next,ay,0,due,s.now⟩],s.run,s.left,s.turns,s.next+1⟩)
        (⟨s.now,s.ai,s.age,s.tasks++[⟨s.next,ay,0,due,s.now⟩],s.run,s.left,s.turns,s.next+1⟩,s.next,0) (s,0,3))) (s,0,1)
theorem LW {k:Nat} {s:ak} {ay:List Int} {due:Int} (hk:s.tot+ay.length+1<k) (hN:s.tot+ay.length+1<=aU):EN k s ay due=some (fo s ay due):=by
 have hM:=al;have hlen:=bU Task.tot s.tasks;have hst:s.tot=jj Task.tot s.tasks+0:=rfl;have hT:Task.tot ⟨s.next,ay,0,due,s.now⟩=ay.length+0:=rfl;unfold EN fo;rw[se (by omega) (by omega),aa,lH (by omega) (by omega),aa,eo (by omega) (by omega),aa,BA (t:=⟨s.next,ay,0,due,s.now⟩) (by show ay.length<k;omega) (by show ay.length<=aU;omega),aa];cases h:bf s
 ·rfl
 have hs:=bF h;simp only[VT,cond_false,VZ];cases jf ⟨s.next,ay,0,due,s.now⟩
 ·rfl
 simp only[VT,cond_false,cond_true];cases((s.tasks.length:Int)==12)
 case true=>rfl
 cases(s.next==(1000000:Int))
 case true=>rfl
 simp only[cond_false,Bool.or_false]
 have ht2:ak.tot ⟨s.now,s.ai,s.age,s.tasks++[⟨s.next,ay,0,due,s.now⟩],s.run,s.left,s.turns,s.next+1⟩=s.tot+(ay.length+1):=by
  unfold ak.tot;simp only[qc,vB,hT];simp[jj]
 rw[bJ (by omega),aE (by omega) (by omega),Ji (by omega) (by omega),aa,cond_not];cases BF _<;>rfl
theorem LY {k:Nat} {s:ak} {ay:List Int} {due:Int} (hk:s.tot+ay.length+1<k) (hN:s.tot+ay.length+1<=aU):EP k s ay due=some (fo s ay due):=by
 have hM:=al;have hlen:=bU Task.tot s.tasks;have hst:s.tot=jj Task.tot s.tasks+0:=rfl;have hT:Task.tot ⟨s.next,ay,0,due,s.now⟩=ay.length+0:=rfl;unfold EP fo;rw[dh (by omega),aa,kI (by omega) (by omega),aa,lL (by omega) (by omega),aa,BB (t:=⟨s.next,ay,0,due,s.now⟩) (by show ay.length<k;omega) (by show ay.length<=aU;omega),aa];cases h:bf s
 ·rfl
 have hs:=bF h;simp only[VT,cond_false,VZ];cases jf ⟨s.next,ay,0,due,s.now⟩
 ·rfl
 simp only[VT,cond_false,cond_true];cases((s.tasks.length:Int)==12)
 case true=>rfl
 cases(s.next==(1000000:Int))
 case true=>rfl
 simp only[cond_false,Bool.or_false]
 have ht2:ak.tot ⟨s.now,s.ai,s.age,s.tasks++[⟨s.next,ay,0,due,s.now⟩],s.run,s.left,s.turns,s.next+1⟩=s.tot+(ay.length+1):=by
  unfold ak.tot;simp only[qc,vB,hT];simp[jj]
 rw[aa,bJ (by omega),aE (by omega) (by omega),Jj (by omega) (by omega),aa,cond_not];cases BF _<;>rfl
end
section
def SS (n:Nat) (t:Task):dY:=⟨t.id,n+1,t.at_,t.due,t.born⟩
def sf:Nat->List Task->List dY
 |_,[]=>[]
 |n,t::l=>SS n t::sf (n+5) l
theorem BG:∀(ts:List Task) (n:Nat),xZ .task .dn n ts=some (sf n ts)
 |[],n=>rfl
 |t::l,n=>by
  have ih:=BG l (n+5);show((S.dn.fc (nO n (Pg t))).bind λy=>(xZ .task .dn (n+S.task.sz) l).bind λys=>some (y::ys))=_;rw[show S.task.sz=5 from rfl,ih];rfl
theorem fb:∀(ts:List Task) (n:Nat),(sf n ts).length=ts.length
 |[],n=>rfl
 |t::l,n=>by simp[sf,fb l]
theorem DH:∀zs:List dY,FF (dF .dn zs)=zs.map (·.ay)
 |[]=>rfl
 |z::l=>by
  show FF (CC z++dF .dn l)=_;rw[Wm,<-DH l];rfl
theorem Hl:∀{l:List Nat},l.Nodup->iu l=true
 |[],_=>rfl
 |x::l,h=>by
  rw[WX]at h;simp only[iu];cases hm:mem x l
  ·exact Hl h.2
  ·exact(h.1 ((mem_iff x l).1 hm)).elim
theorem DI:∀(ts:List Task) (n:Nat),(∀z∈sf n ts,n<z.ay)/\(sf n ts).Pairwise λa b=>a.ay<b.ay
 |[],n=>⟨(λz hz=>by simp[sf]at hz),List.Pairwise.nil⟩
 |t::l,n=>by
  obtain⟨h1,h2⟩:=DI l (n+5);refine⟨λz hz=>?_,List.Pairwise.cons (λz hz=>?_) h2⟩
  ·rcases V0.1 hz with rfl|hz
   ·show n<n+1;omega
   ·have:=h1 z hz;omega
  ·have:=h1 z hz;show n+1<z.ay;omega
theorem oz {ts:List Task} {n:Nat} (q:dY->Bool):ky ((sf n ts).filter q)=true:=by
 have h:=((DI ts n).2.filter q)
 have h2:iu (((sf n ts).filter q).map (·.ay))=true:=by
  refine Hl ?_;rw[List.Nodup,List.pairwise_map]
  exact h.imp λh e=>by omega
 unfold ky;exact(congrArg iu (DH ((sf n ts).filter q))).trans h2
theorem LZ (C:List R) (y:dY) (l:List dY):yY .task .dn C (y::l)=(xk C (CC y)).bind λc=>(S.task.fc c).bind λx=>(yY .task .dn C l).bind λxs=>some (x::xs):=rfl
theorem DJ (p:Task->Bool) (q:dY->Bool) (hq:∀n t,q (SS n t)=p t) (C:List R):∀(ts:List Task) (n:Nat),(∀(i:Nat) (h:i<ts.length),C[n+5*i]? =some (.ints ts[i].ay))->
  yY .task .dn C ((sf n ts).filter q)=some (ts.filter p)
 |[],n,_=>rfl
 |t::l,n,hC=>by
  have ih:=DJ p q hq C l (n+5) λi hi=>by
   have:=hC (i+1) (by simpa using hi);rw[show n+5+5*i=n+5*(i+1)from by omega,this];rfl
  have h0:C[n]? =some (.ints t.ay):=by
   have:=hC 0 (by simp);simpa using this
  have e1:(sf n (t::l)).filter q=cond (p t) (SS n t::(sf (n+5) l).filter q) ((sf (n+5) l).filter q):=by
   simp only[sf,Xq,hq];cases p t<;>rfl
  have e2:(t::l).filter p=cond (p t) (t::l.filter p) (l.filter p):=by
   rw[Xq];cases p t<;>rfl
  refine(congrArg (yY .task .dn C) e1).trans (Eq.trans ?_ (congrArg some e2.symm));clear e1 e2;cases p t
  ·exact ih
  ·have hc:xk C (CC (SS n t))=some (Pg t):=by
    have hu:rF C (.tok (n+1))=some (.ints t.ay):=by
     show(match C[n]? with|some (.sl t xs)=>some (R.sl t xs)|_=>none)=_;rw[h0]
    show((rF C (.i t.id)).bind λx=>((rF C (.tok (n+1))).bind λx=>((rF C (.i t.at_)).bind λx=>((rF C (.i t.due)).bind λx=>((rF C (.i t.born)).bind λx=>(some []).bind λxs=>some (x::xs)).bind λxs=>some (x::xs)).bind λxs=>some (x::xs)).bind λxs=>some (x::xs)).bind λxs=>some (x::xs))=_;rw[hu];rfl
   refine(LZ C (SS n t) _).trans ?_;rw[hc];exact congrArg (λr:Option (List Task)=>r.bind λxs=>some (t::xs)) ih
theorem Fm (ts:List Task) (i:Nat) (h:i<ts.length):(dF .task ts)[1+5*i]? =some (.ints ts[i].ay):=by
 have:=p7 (s:=.task) (xs:=ts) (i:=i) (j:=1) (r:=.ints ts[i].ay) ⟨ts[i],aj h,rfl⟩;rw[show S.task.sz=5 from rfl]at this;rw[show 1+5*i=i*5+1 from by omega];exact this
theorem tp (ts:List Task):lT ts=some (sf 1 ts):=BG ts 1
theorem qD (ts:List Task) (p:Task->Bool) (q:dY->Bool) (hq:∀n t,q (SS n t)=p t):qM ts ((sf 1 ts).filter q)=some (ts.filter p):=
 DJ p q hq _ ts 1 λi hi=>Fm ts i hi
theorem kJ {α R:Type} (xs:List α) (p:α->Bool) {g:Int× Int× List α->(Int× Int× List α->Option R)->Option R} {fin:Int× List α->Option R}
    (h:∀(i j:Nat) (ys:List α) (hj:j<xs.length) (next:Int× Int× List α->Option R),i<=j->ys.length=xs.length->ys[j]? =some xs[j]->
      g ((i:Int),(j:Int),ys) next=cond (p xs[j]) (next ((i:Int),((j+1:Nat):Int),ys)) (next (((i+1:Nat):Int),((j+1:Nat):Int),ys.set i xs[j])))
    (hn:∀(i:Nat) (ys:List α) next,ys.length=xs.length->g ((i:Int),(xs.length:Int),ys) next=fin ((i:Int),ys)):
    ∀ (d i j : Nat) (ys : List α) (k : Nat), j + d = xs.length -> d < k -> i <= j -> ys.length = xs.length -> ys.drop j = xs.drop j -> ys.take i = (xs.take j).filter (λ x => !p x) ->
      ∃(i':Nat) (ys':List α),i'<=xs.length/\ys'.length=xs.length/\ys'.take i'=xs.filter (λx=>!p x)/\iter g k ((i:Int),(j:Int),ys)=fin ((i':Int),ys')
  |d,i,j,ys,0,_,h2,_,_,_,_=>by omega
  | 0, i, j, ys, k + 1, h1, _, h3, h4, _, h6 => by
    have hj:j=xs.length:=by omega
    subst hj;refine⟨i,ys,h3,h4,by rw[h6,WH],?_⟩
    rw[aI];exact hn i ys _ h4
  | d + 1, i, j, ys, k + 1, h1, h2, h3, h4, h5, h6 => by
    have hj:j<xs.length:=by omega
    have hg:ys[j]? =some xs[j]:=by
      have:(ys.drop j)[0]? =(xs.drop j)[0]? :=by rw[h5]
      rw[V7,V7,Wq]at this;rw[this];exact aj hj
    rw[aI,h i j ys hj _ h3 h4 hg]
    have TM:∀zs:List α,(∀m,j<m->zs[m]? =ys[m]?)->zs.drop (j+1)=xs.drop (j+1):=λzs hz=>by
      apply List.ext_getElem?;intro m;rw[V7,V7,hz _ (by omega)]
      have:(ys.drop j)[m+1]? =(xs.drop j)[m+1]? :=by rw[h5]
      rw[V7,V7]at this;rw[show j+1+m=j+(m+1)from by omega];exact this
    cases hp:p xs[j]
    · simp only[cond_false];refine kJ xs p h hn d (i+1) (j+1) (ys.set i xs[j]) k (by omega) (by omega) (by omega) (by simp[h4]) (TM _ λm hm=>Xh (by omega)) ?_;rw[dy hj,XC,<-h6]
      have hi:i<ys.length:=by omega
      rw[dy (show i<(ys.set i xs[j]).length by simp;omega),List.take_set_of_le (Wc _)];simp[hp]
    · simp only[cond_true];refine kJ xs p h hn d i (j+1) ys k (by omega) (by omega) (by omega) h4 (TM _ λm hm=>rfl) ?_;rw[dy hj,XC,<-h6];simp[hp]
theorem filter_none {α:Type} {p:α->Bool} {xs:List α} (h:xs.findIdx? p=none):xs.filter (λx=>!p x)=xs:=by
 rw[Xb]at h
 exact W4.2 λx hx=>by rw[h x hx];rfl
theorem oA {α:Type} {p:α->Bool} {xs:List α} {i:Nat} (h:xs.findIdx? p=some i):i<xs.length/\xs.take i=(xs.take (i+1)).filter (λx=>!p x):=by
 obtain⟨hi,hp,hlt⟩:=W1.1 h;refine⟨hi,?_⟩;rw[dy hi,XC]
 have h1:(xs.take i).filter (λx=>!p x)=xs.take i:=W4.2 λx hx=>by
  obtain⟨j,hj,rfl⟩:=V8.1 hx
  have hj':j<i:=by simp at hj;omega
  rw[List.getElem_take];have:=hlt j hj';simpa using this
 rw[h1];simp[hp]
theorem tq {α:Type} {ys:List α} {i n:Nat} (z:α) (hi:i<=n) (hy:ys.length=n):((ys.take i++List.replicate (n-i) z++ys.drop (i+(n-i))).take (i-0))=ys.take i/\(ys.take i++List.replicate (n-i) z++ys.drop (i+(n-i))).length=n:=by
 refine⟨?_,by simp;omega⟩;rw[WI,Wd,Xc (by simp;omega),List.take_take,Nat.min_self]
theorem BH {k:Nat} {zs:List dY} {id:Int} (hk:zs.length<k) (hN:zs.length<=aU):cj k zs id=some ((zs.findIdx? λz=>z.id==id).elim (-1) λi=>(i:Int)):=by
 have hM:=al;unfold cj
 rw[fA zs (λt=>t.id==id) (yes:=some (-1)) (no:=some) (λi hi next=>by
  simp only[bO,eD,decide_true,cond_true,aa]
  rw[ab,if_pos (by omega),aL,aj hi,aa,aq hi (by omega)]) (λnext=>by
  simp only[bO,decide_true,cond_true];rw[ab,if_neg (by omega)]) hk]
 exact dg _
theorem qP {k:Nat} {zs:List dY} {id:Int} (hk:zs.length<k) (hN:zs.length<=aU):bo k zs id=some (zs.filter λz=>!(z.id==id)):=by
  have hM:=al;unfold bo;rw[BH hk hN,aa]
  cases hf:zs.findIdx? λz=>z.id==id with
  | none =>
    rw[Option.elim_none,filter_none hf]
    simp
  | some i =>
    obtain⟨hi,hfi⟩:=oA hf;rw[VX,bM,if_neg (by omega),aq hi (by omega)];simp only[decide_true,cond_true]
    obtain⟨i',ys',h1,h2,h3,h4⟩:=kJ zs (λz=>z.id==id) (R:=List dY) (g:=λu5 n5=>ba k id u5 n5 (λy4=>cond (decide (0<=y4.1/\y4.1<=(y4.2.length:Int))) (cond (decide (0<=y4.1/\y4.1<=(((y4.2).take y4.1.toNat++List.replicate (y4.2.length-y4.1.toNat) (⟨(0:Int),(0:Nat),(0:Int),(0:Int),(0:Int)⟩:dY)++(y4.2).drop (y4.1.toNat+(y4.2.length-y4.1.toNat))).length:Int))) (some (((y4.2).take y4.1.toNat++List.replicate (y4.2.length-y4.1.toNat) (⟨(0:Int),(0:Nat),(0:Int),(0:Int),(0:Int)⟩:dY)++(y4.2).drop (y4.1.toNat+(y4.2.length-y4.1.toNat))).take (y4.1.toNat-0))) none) none))
      (fin:=λy4=>cond (decide (0<=y4.1/\y4.1<=(y4.2.length:Int))) (cond (decide (0<=y4.1/\y4.1<=(((y4.2).take y4.1.toNat++List.replicate (y4.2.length-y4.1.toNat) (⟨(0:Int),(0:Nat),(0:Int),(0:Int),(0:Int)⟩:dY)++(y4.2).drop (y4.1.toNat+(y4.2.length-y4.1.toNat))).length:Int))) (some (((y4.2).take y4.1.toNat++List.replicate (y4.2.length-y4.1.toNat) (⟨(0:Int),(0:Nat),(0:Int),(0:Int),(0:Int)⟩:dY)++(y4.2).drop (y4.1.toNat+(y4.2.length-y4.1.toNat))).take (y4.1.toNat-0))) none) none)
      (λi j ys hj next hij hl hg=>by
        simp only[ba,eD,decide_true,cond_true,aa,hl]
        rw[ab,if_pos (by omega),ab,if_pos (by omega),VQ,hg,aa,cond_not,ab,if_pos (by omega),aq hj (by omega),aq (show i<zs.length by omega) (by omega),VQ])
      (λi ys next hl=>by simp only[ba,hl];rw[ab,if_neg (by omega)])
      (zs.length-(i+1)) i (i+1) zs k (by omega) (by omega) (by omega) rfl rfl hfi
    refine h4.trans ?_;obtain⟨c1,c2⟩:=tq (⟨0,0,0,0,0⟩:dY) h1 h2;simp only[VQ,h2];rw[c2,c1,ab,if_pos (by omega),ab,if_pos (by omega),h3]
theorem yN {k:Nat} {zs:List dY} {a b c d e f g id:Int} (hk:zs.length<k) (hN:zs.length<=aU):gF k a b c zs d e f g id=some (zs.filter λz=>!(z.id==id)):=by
 have hM:=al;unfold gF;simp only[decide_true,cond_true]
 refine(fk zs (λz=>!(z.id==id)) (λz=>z) (g:=λu4 n4=>iB k (id,a,b,c,d,e,f,g,zs) u4 n4 (λy3=>some y3)) (fin:=some) (λi ys hi next hl=>by
  simp only[iB];rw[ab,if_pos (by omega),ab,if_pos (by omega),VQ,aj hi,aa,ab,if_pos (by omega),aa,bJ (by simp;omega),aq hi (by omega)]
  rfl) (λys next=>by
  simp only[iB];rw[ab,if_neg (by omega)]) hk).trans ?_
 simp
def HI (ts:List Task) (id:Int):List Task:=ts.filter λt=>!(t.id==id)
def sg (s:ak) (id:Int):ak× Bool:=
 cond (bf s&&decide (0<=lK s.tasks id)) (⟨s.now,s.ai,s.age,HI s.tasks id,cond (s.run==id) 0 s.run,cond (s.run==id) 0 s.left,s.turns,s.next⟩,true) (s,false)
theorem L0 {k:Nat} {zs:List dY} {a b c d e f g id:Int} (hk:zs.length<k) (hN:zs.length<=aU):dP k a b c zs d e f g id=some (zs.filter λz=>!(z.id==id),cond (d==id) 0 d,cond (d==id) 0 e):=by
 unfold dP;rw[qP hk hN,aa];simp only[decide_true,cond_true];cases d==id<;>rfl
theorem si {k:Nat} {s:ak} {id:Int} (hk:s.tot<k) (hN:s.tot<=aU):ly k s id=some (sg s id):=by
 have hlen:=bU Task.tot s.tasks;have hst:s.tot=jj Task.tot s.tasks+0:=rfl;unfold ly sg;rw[se hk hN,aa,eo hk hN,aa];cases bf s
 ·rfl
 simp only[VT,cond_false,VZ];rw[mM (by omega) (by omega),aa];by_cases c:lK s.tasks id<0
 ·rw[decide_eq_true c,decide_eq_false (by omega)];rfl
 rw[decide_eq_false c,decide_eq_true (by omega)];simp only[cond_false,cond_true];rw[tp,aa,yN (by rw[fb];omega) (by rw[fb];omega),aa,oz,cond_true,qD s.tasks (λt=>!(t.id==id)) (λz=>!(z.id==id)) (λn t=>rfl),aa];unfold HI;cases s.run==id<;>rfl
end
end Go.Proofs.Ev
