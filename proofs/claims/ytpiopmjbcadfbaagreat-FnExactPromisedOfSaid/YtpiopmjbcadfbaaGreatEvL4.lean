/- Typed functions and what holds of them: part 4. -/
import Derived.Test.YtpiopmjbcadfbaaGreatEvL3
set_option linter.unusedVariables false
set_option linter.unusedSimpArgs false
set_option linter.unusedSectionVars false
namespace Go.Proofs.Ev
section
def Po (xs ws:List Int):Int:=(List.range xs.length).foldl (λs i=>o7 s (yV (xs.getD i 0)*yV (ws.getD i 0))) 0
theorem Ql (a b:Int):IntKind.i64.wrap (yV a*yV b)=yV a*yV b:=by
 have h1:=yW a;have h2:=yW b;have:=Pm (A:=128) (B:=128) (x:=yV a) (y:=yV b) (by omega) (by omega);exact aH (by omega) (by omega)
theorem JB {k:Nat} {xs ws:List Int} (hk:xs.length<k) (hl:ws.length=xs.length) (hN:xs.length<=aT):Cz k xs ws=some (Po xs ws):=by
 have hM:=al;unfold Cz Po
 exact nM xs.length (λs i=>o7 s (yV (xs.getD i 0)*yV (ws.getD i 0))) 0 (fin:=some) (λi a next hi=>by
  simp only[qN,EI,oS]
  rw[ab,if_pos (by omega),ab,if_pos (by omega),aE,ai hi,aa,aa,aE,ai (by omega),aa,aa,aa,Ql,au hi (by omega),b8 hi,b8 (by omega)]) (λa next=>by
  simp only[qN]
  rw[ab,if_neg (by omega)]) hk
theorem JC {k:Nat} {xs ws:List Int} (hk:xs.length<k) (hl:ws.length=xs.length) (hN:xs.length<=aT):CA k xs ws=some (Po xs ws):=by
 have hM:=al;unfold CA Po;rw[if_neg (by omega)]
 exact nM xs.length (λs i=>o7 s (yV (xs.getD i 0)*yV (ws.getD i 0))) 0 (fin:=some) (λi a next hi=>by
  simp only[qR,EJ,yX]
  rw[ab,if_pos (by omega),aE,ai hi,aa,aa,aE,ai (by omega),aa,aa,aa,Ql,au hi (by omega),b8 hi,b8 (by omega)]) (λa next=>by
  simp only[qR]
  rw[ab,if_neg (by omega)]) hk
def sx (l:ax) (xs:List Int) (o:Nat):Int:=
 zb (o7 (Po xs ((l.weights.take (o*xs.length+xs.length)).drop (o*xs.length))) (l.m9.getD o 0)) l.mult l.shift l.zero
theorem zd {k:Nat} {l:ax} {xs:List Int} {o:Nat} (hk:xs.length<k) (hN:xs.length<=aT) (hw:o*xs.length+xs.length<=l.weights.length) (hwN:l.weights.length<=aT) (hb:o<l.m9.length) (ho:o<8):
  fK k l xs o=some (sx l xs o):=by
 have hM:=al
 have e:(o+1)*xs.length=o*xs.length+xs.length:=by rw[RH,Nat.one_mul]
 have e1:IntKind.i64.wrap (IntKind.i64.wrap ((o:Int)+1)*(xs.length:Int))=((o*xs.length+xs.length:Nat):Int):=by
  rw[au ho (by omega),EO (by omega),e]
 have e2:IntKind.i64.wrap ((o:Int)*(xs.length:Int))=((o*xs.length:Nat):Int):=EO (by omega);unfold fK sx;rw[e1,e2,ab,if_pos (by omega),ab,if_pos (by omega),Rg,Rg,JC hk (by simp;omega) hN,aa,aE,ai hb,aa,yX,aa,EN,aa,b8 hb]
def k7:List Int->Int
 |[]=>0
 |x::xs=>xs.foldl (λm y=>if y>m then y else m) x
theorem H8 {R:Type} {xs:List Int} {x:Int} {g:Int× Int->(Int× Int->Option R)->Option R} {fin:Int->Option R} {k:Nat}
  (h:∀(i:Nat) a next (hi:i<xs.length),g (a,((i+1:Nat):Int)) next=next (if xs[i]>a then xs[i]else a,((i+1+1:Nat):Int))) (hn:∀a next,g (a,((xs.length+1:Nat):Int)) next=fin a) (hk:xs.length<k):
  iter g k (x,(1:Int))=fin (k7 (x::xs)):=by
 have:=fo (g:=g) (st:=λi=>((xs.take i).foldl (λm y=>if y>m then y else m) x,((i+1:Nat):Int))) (n:=xs.length) (r:=fin (k7 (x::xs))) (λi hi next=>by
  rw[h i _ next hi,dA hi,Sq];rfl) (λnext=>by rw[hn,Sc];rfl) hk
 exact this
theorem qg:∀(xs:List Int) (x:Int),k7 (x::xs)∈x::xs
 |[],x=>by simp[k7]
 |y::xs,x=>by
  show xs.foldl _ (if y>x then y else x)∈_;by_cases c:y>x
  ·rw[if_pos c];exact RA _ (qg xs y)
  ·rw[if_neg c]
   rcases RD.1 (qg xs x)with h|h
   ·have h:xs.foldl (λm y=>if y>m then y else m) x=x:=h;rw[h];simp
   ·exact RA _ (RA _ h)
theorem ze:∀{xs:List Int},(∀x∈xs,-128<=x/\x<=127)->-128*(xs.length:Int)<=xs.sum/\xs.sum<=127*(xs.length:Int)
 |[],_=>by simp
 |x::xs,h=>by
  have h1:=ze λy hy=>h y (RA _ hy);have h2:=h x (by simp);rw[SJ,Rm];omega
theorem EU {R:Type} {xs:List Int} {g:Int× Int->(Int× Int->Option R)->Option R} {fin:Int->Option R} {k:Nat} (hx:∀x∈xs,-128<=x/\x<=127) (hN:xs.length<=aT)
  (h:∀(i:Nat) a next (hi:i<xs.length),g (a,(i:Int)) next=next (IntKind.i64.wrap (a+xs[i]),((i+1:Nat):Int))) (hn:∀a next,g (a,(xs.length:Int)) next=fin a) (hk:xs.length<k):
  iter g k ((0:Int),(0:Int))=fin xs.sum:=by
 have hM:=al
 have:=fo (g:=g) (st:=λi=>((xs.take i).sum,(i:Int))) (n:=xs.length) (r:=fin xs.sum) (λi hi next=>by
  have hb:=ze (xs:=xs.take (i+1)) λx hm=>hx x (Ti hm)
  have e:(xs.take (i+1)).sum=(xs.take i).sum+xs[i]:=by rw[dA hi,S7];simp
  rw[e]at hb;simp only[RV]at hb
  rw[h i _ next hi,e,aH (by omega) (by omega)]) (λnext=>by rw[hn,Sc]) hk
 exact this
def lX (W C:Nat) (xs:List Int) (l:ax) (Z S h w o:Nat):Int:=
  cond (l.kind==0) (sx l xs o) (cond (l.kind==1) (sx l (Pn W C xs Z S h w) o)
    (cond (l.kind==2) (k7 (iY W C xs Z S h w o)) (cond (l.kind==3) (gD (iY W C xs Z S h w o).sum ((Z*Z:Nat):Int))
      (cond (l.kind==4) (if atN W C xs h w o<l.zero then l.zero else atN W C xs h w o) (xs.getD o 0)))))
inductive Fits (H W C:Nat) (xs:List Int) (l:ax) (Z S h w o:Nat):Prop
 |NA (h0:l.kind=0) (hb:o<l.m9.length) (h8:o<8) (hw:o*xs.length+xs.length<=l.weights.length)
 |conv (h0:l.kind=1) (hb:o<l.m9.length) (h8:o<8) (hw:o*(Z*(Z*C))+Z*(Z*C)<=l.weights.length) (v:LM H W Z S h w) (hi:∀x∈l.weights,-128<=x/\x<=127)
 |max (h0:l.kind=2) (v:LM H W Z S h w) (ho:o<C)
 |avg (h0:l.kind=3) (v:LM H W Z S h w) (ho:o<C)
 |QF (h0:l.kind=4) (h1:h<H) (h2:w<W) (h3:o<C) (hz:-128<=l.zero/\l.zero<=127)
 |flat (h0:l.kind=5) (ho:o<xs.length)
theorem wT {H W C:Nat} {xs:List Int} (r:k6 H W C xs) {Z S h w o:Nat} (v:LM H W Z S h w) (ho:o<C):∀x∈iY W C xs Z S h w o,-128<=x/\x<=127:=by
 intro x hx;obtain⟨z1,z3,s2,hh,ww⟩:=v;unfold iY at hx;rw[Tk]at hx;obtain⟨i,hi,hx⟩:=hx;rw[Tk]at hx;obtain⟨j,hj,hx⟩:=hx;rw[List.mem_range]at hi hj;rw[List.mem_singleton]at hx;rw[hx];exact H7 r (by omega) (by omega) ho
theorem zf {H W C:Nat} {xs:List Int} {Z S h w o:Nat} (v:LM H W Z S h w):∃x ys,iY W C xs Z S h w o=x::ys:=by
 have hl:=EP W C xs Z S h w o;have:=v.z1
 have hp:1<=Z*(Z*1):=by rw[Nat.mul_one];exact R2 this this
 cases hc:iY W C xs Z S h w o with
 |nil=>rw[hc]at hl;simp only[RK]at hl;omega
 |cons x ys=>exact⟨x,ys,rfl⟩
theorem nN {H W C:Nat} {xs:List Int} {Z S h w o:Nat} (v:LM H W Z S h w):(iY W C xs Z S h w o).length=Z*Z/\1<=Z*Z/\Z*Z<=9:=by
 have hl:=EP W C xs Z S h w o;rw[Nat.mul_one]at hl;exact⟨hl,R2 v.z1 v.z1,R2 v.z3 v.z3⟩
theorem LO {k:Nat} {H W C:Nat} {xs:List Int} (r:k6 H W C xs) {l:ax} {Z S h w o:Nat} (hk:512<k) (hwN:l.weights.length<=aT) (hz:l.size=Z) (hs:l.step=S) (f:Fits H W C xs l Z S h w o):
  mA k l (vk H W C xs) h w o=some (lX W C xs l Z S h w o):=by
 have hM:=al;have hcu:=r.PI;have hlen:=r.len;unfold mA lX
 cases f with
 |NA h0 hb h8 hw=>
  rw[h0];show(fK k l xs o).bind _=_
  rw[zd (by omega) (by omega) hw hwN hb h8];rfl
 |conv h0 hb h8 hw v hi=>
  have hl:=CU W C xs Z S h w;have:Z*(Z*C)<=3*(3*8):=R2 v.z3 (R2 v.z3 r.c8);rw[h0];show(cE k l (vk H W C xs) h w (-1)).bind _=_
  rw[ET r hk hz hs v,aa,zd (by omega) (by omega) (by rw[hl];exact hw) hwN hb h8];rfl
 |max h0 v ho=>
  rw[h0];show(cE k l (vk H W C xs) h w o).bind _=_;rw[zc r hk hz hs v ho,aa];have hl:=nN (xs:=xs) (C:=C) (o:=o) v;obtain⟨x,ys,e⟩:=zf (xs:=xs) (C:=C) (o:=o) v;rw[e]at hl;simp only[Rm]at hl;show(fq k (iY W C xs Z S h w o)).bind _=some (k7 (iY W C xs Z S h w o));rw[e];unfold fq
  rw[ab,if_neg (by simp only[Rm];omega),wH,S8,aa,H8 (xs:=ys) (x:=x) (fin:=some) (λi a next hi=>by
   simp only[dW]
   rw[ab,if_pos (by simp only[Rm];omega),aE,SX,ai hi,aa,au (show i+1<ys.length+1 by omega) (by omega)]) (λa next=>by
   simp only[dW]
   rw[ab,if_neg (by simp only[Rm];omega)]) (by omega)]
  rfl
 |avg h0 v ho=>
  rw[h0];show(cE k l (vk H W C xs) h w o).bind _=_;rw[zc r hk hz hs v ho,aa];have hl:=nN (xs:=xs) (C:=C) (o:=o) v;have hm:=wT r v ho;have hb:=ze hm;show _=some (gD (iY W C xs Z S h w o).sum ((Z*Z:Nat):Int))
  rw[EU (xs:=iY W C xs Z S h w o) (fin:=λy=>(nD k y (IntKind.i64.wrap (l.size*l.size))).bind λr9=>some r9) hm (by omega) (λi a next hi=>by
   simp only[iG]
   rw[ab,if_pos (by omega),ab,if_pos (by omega),Rg,ai hi,aa,au hi (by omega)]) (λa next=>by
   simp only[iG]
   rw[ab,if_neg (by omega)]) (by omega)]
  rw[hz,EO (by omega),vQ (by omega) (by omega),aa]
 |QF h0 h1 h2 h3 hz=>
  simp only[h0,show((4:Int)==0)=false from rfl,show((4:Int)==1)=false from rfl,show((4:Int)==2)=false from rfl,show((4:Int)==3)=false from rfl,beq_self_eq_true,cond_true,cond_false];refine(congrArg (λo:Option Int=>o.bind _) (sw (k:=k) r h1 h2 h3)).trans ?_;rw[aa];show(idx xs _).bind _=_;rw[aE,GQ r h1 h2 h3]
  rfl
 |flat h0 ho=>
  rw[h0];show(idx xs (o:Int)).bind _=_;rw[aE,ai ho];show _=some (xs.getD o 0);rw[b8 ho];rfl
theorem Pp {W C:Nat} {xs:List Int} {Z S h w i j c:Nat} (hi:i<Z) (hj:j<Z) (hc:c<C):(Pn W C xs Z S h w)[i*(Z*C)+(j*C+c)]? =some (atN W C xs (h*S+i) (w*S+j) c):=by
 have hb:j*C+c<Z*C:=by
  have:(j+1)*C<=Z*C:=Rz _ hj;rw[RH]at this;omega
 unfold Pn;rw[CQ _ (Z*C) Z (λi hi=>gQ _ C Z λj hj=>by simp) i (j*C+c) hi hb,CQ _ C Z (λj hj=>by simp) j c hj hc,RX,List.getElem?_range hc];rfl
theorem Bo {o Z i j C c:Nat}:((o*Z+i)*Z+j)*C+c=o*(Z*(Z*C))+(i*(Z*C)+(j*C+c)):=by
 simp only[RH,Nat.mul_assoc,Sf]
theorem NB {H W C:Nat} {xs:List Int} (r:k6 H W C xs) {ws:List Int} (hi:∀x∈ws,-128<=x/\x<=127) {Z S h w o:Nat} (v:LM H W Z S h w) (hw:o*(Z*(Z*C))+Z*(Z*C)<=ws.length):
  Po (Pn W C xs Z S h w) ((ws.take (o*(Z*(Z*C))+Z*(Z*C))).drop (o*(Z*(Z*C))))=
   (List.range Z).foldl (λs i=>(List.range Z).foldl (λs j=>(List.range C).foldl (λs c=>o7 s (atN W C xs (h*S+i) (w*S+j) c*ws.getD (((o*Z+i)*Z+j)*C+c) 0)) s) s) 0:=by
 obtain⟨z1,z3,s2,hh,ww⟩:=v;unfold Po;rw[CU,CS];refine fold_congr Z _ λs i hi2=>?_;rw[CS];refine fold_congr Z _ λs j hj=>?_;refine fold_congr C _ λs c hc=>?_
 have hb:j*C+c<Z*C:=by
  have:(j+1)*C<=Z*C:=Rz _ hj;rw[RH]at this;omega
 have hb2:i*(Z*C)+(j*C+c)<Z*(Z*C):=by
  have:(i+1)*(Z*C)<=Z*(Z*C):=Rz _ hi2;rw[RH]at this;omega
 have a1:=H7 r (show h*S+i<H by omega) (show w*S+j<W by omega) hc;have a2:=hi _ (wS (xs:=ws) (i:=o*(Z*(Z*C))+(i*(Z*C)+(j*C+c))) (by omega));rw[RL,Pp hi2 hj hc,SG,RL,ES hb2,<-RL,Bo];unfold yV;rw[Oa (by omega) (by omega),Oa (by omega) (by omega)]
theorem LQ {k:Nat} {H W C:Nat} {xs:List Int} (r:k6 H W C xs) {l:ax} {Z S h w o:Nat} (hk:512<k) (hwN:l.weights.length<=aT) (hz:l.size=Z) (hs:l.step=S) (f:Fits H W C xs l Z S h w o):
  tz k (vk H W C xs) l h w o=some (lX W C xs l Z S h w o):=by
 have hM:=al;have hcu:=r.PI;have hlen:=r.len;unfold tz lX
 cases f with
 |NA h0 hb h8 hw=>
  rw[h0];simp only[beq_self_eq_true,cond_true]
  rw[oN,aa,show(vk H W C xs).sh.size=((xs.length:Nat):Int)from by rw[hlen];exact r.size,EO (by omega),Fl (by omega),ab,if_pos (by omega),ab,if_pos (by omega),Rg,Rg,
   show(vk H W C xs).data=xs from rfl,JB (by omega) (by simp;omega) (by omega),aa,aE,ai hb,aa,oS,aa,vS,aa]
  unfold sx
  rw[b8 hb]
 |conv h0 hb h8 hw v hi=>
  have hl:=CU W C xs Z S h w;have hvv:=v;obtain⟨z1,z3,s2,hh,ww⟩:=hvv;have:=r.h8;have:=r.w8;have hc8:=r.c8;have hq:Z*(Z*C)<=3*(3*8):=R2 v.z3 (R2 v.z3 r.c8);rw[h0];show iter _ k _=some (sx l (Pn W C xs Z S h w) o)
  refine(nM Z (λs i=>(List.range Z).foldl (λs j=>(List.range C).foldl (λs c=>o7 s (atN W C xs (h*S+i) (w*S+j) c*l.weights.getD (((o*Z+i)*Z+j)*C+c) 0)) s) s) 0
   (fin:=λy=>(idx l.m9 (o:Int)).bind λe14=>(mm k y e14).bind λr15=>(nC k r15 l.mult l.shift l.zero).bind λr16=>some r16) (λi a next hi2=>?_) (λa next=>?_) (by omega)).trans ?_
  ·simp only[mv,hz,hs];rw[ab,if_pos (by omega),au hi2 (by omega)];refine nM Z (λs j=>(List.range C).foldl (λs c=>o7 s (atN W C xs (h*S+i) (w*S+j) c*l.weights.getD (((o*Z+i)*Z+j)*C+c) 0)) s) a (fin:=λy=>next (y,((i+1:Nat):Int))) (λj a2 next2 hj=>?_) (λa2 next2=>?_) (by omega)
   ·simp only[mu,hz,hs];rw[ab,if_pos (by omega),au hj (by omega)];refine nM C (λs c=>o7 s (atN W C xs (h*S+i) (w*S+j) c*l.weights.getD (((o*Z+i)*Z+j)*C+c) 0)) a2 (fin:=λy=>next2 (y,((j+1:Nat):Int))) (λc a3 next3 hc=>?_) (λa3 next3=>?_) (by omega)
    ·have e1:h*S+i<H:=by omega
     have e2:w*S+j<W:=by omega
     have e:=su (k:=k) r hk e1 e2 hc;have o1:o*Z<=7*3:=R2 (by omega) z3;have o2:(o*Z+i)*Z<=23*3:=R2 (by omega) z3;have o3:((o*Z+i)*Z+j)*C<=71*8:=R2 (by omega) hc8
     have hb:j*C+c<Z*C:=by
      have:(j+1)*C<=Z*C:=Rz _ hj;rw[RH]at this;omega
     have hb2:i*(Z*C)+(j*C+c)<Z*(Z*C):=by
      have:(i+1)*(Z*C)<=Z*(Z*C):=Rz _ hi2;rw[RH]at this;omega
     have hx:((o*Z+i)*Z+j)*C+c<l.weights.length:=by rw[Bo];omega
     have a1:=H7 r e1 e2 hc;have a2:=hi _ (wS hx);have a3:=Pm (A:=128) (B:=128) (x:=atN W C xs (h*S+i) (w*S+j) c) (y:=l.weights.getD (((o*Z+i)*Z+j)*C+c) 0) (by omega) (by omega);unfold vk at e;simp only[mr,hz,hs,vk];refine(LK (by omega) _ _).trans ?_;rw[EO (a:=h) (by omega),Fl (b:=i) (by omega),EO (a:=w) (by omega),Fl (b:=j) (by omega),e,aa,EO (a:=o) (by omega),Fl (b:=i) (by omega),EO (by omega),Fl (b:=j) (by omega),EO (by omega),Fl (b:=c) (by omega),aE,ai hx,aa,<-b8 hx 0,aH (n:=atN W C xs (h*S+i) (w*S+j) c*l.weights.getD (((o*Z+i)*Z+j)*C+c) 0) (by omega) (by omega),oS,aa,au hc (by omega)]
    ·simp only[mr,vk];exact QZ (by omega) _ _
   ·simp only[mu,hz];rw[ab,if_neg (by omega)]
  ·simp only[mv,hz];rw[ab,if_neg (by omega)]
  ·rw[aE,ai hb,aa,oS,aa,vS,aa];unfold sx
   rw[hl,NB r hi v hw,b8 hb]
 |max h0 v ho=>
  rw[h0];show(lJ k (vk H W C xs) l h w o).bind _=_;rw[ER r hk hz hs v ho,aa];have hl:=nN (xs:=xs) (C:=C) (o:=o) v;obtain⟨x,ys,e⟩:=zf (xs:=xs) (C:=C) (o:=o) v;rw[e]at hl;simp only[Rm]at hl;show _=some (k7 (iY W C xs Z S h w o));rw[e,ab,if_pos (by simp only[Rm];omega)];show(some x).bind _=_
  rw[aa,H8 (xs:=ys) (x:=x) (fin:=some) (λi a next hi=>by
   simp only[mx];rw[ab,if_pos (by simp only[Rm];omega),ab,if_pos (by simp only[Rm];omega),Rg,SX,ai hi,aa,au (show i+1<ys.length+1 by omega) (by omega)]
   have hlt:0<=((i+1:Nat):Int)/\((i+1:Nat):Int)<(((x::ys).length:Nat):Int):=by rw[Rm];omega
   rw[LK hlt,aa,ab];by_cases c:ys[i]>a
   ·rw[if_pos c,if_pos c]
   ·rw[if_neg c,if_neg c]) (λa next=>by
   simp only[mx]
   rw[ab,if_neg (by simp only[Rm];omega)]) (by omega)]
 |avg h0 v ho=>
  rw[h0];show(lJ k (vk H W C xs) l h w o).bind _=_;rw[ER r hk hz hs v ho,aa];have hl:=nN (xs:=xs) (C:=C) (o:=o) v;have hm:=wT r v ho;have hb:=ze hm;show _=some (gD (iY W C xs Z S h w o).sum ((Z*Z:Nat):Int))
  rw[EU (xs:=iY W C xs Z S h w o) (fin:=λy26=>(cond (decide (y26<(0:Int))) (cond (decide ((IntKind.i64.wrap ((2:Int)*((iY W C xs Z S h w o).length:Int)))=0)) none (some (IntKind.i64.wrap (0-(IntKind.i64.wrap ((IntKind.i64.wrap ((IntKind.i64.wrap ((-2:Int)*y26))+((iY W C xs Z S h w o).length:Int))).tdiv (IntKind.i64.wrap ((2:Int)*((iY W C xs Z S h w o).length:Int))))))))) (cond (decide ((IntKind.i64.wrap ((2:Int)*((iY W C xs Z S h w o).length:Int)))=0)) none (some (IntKind.i64.wrap ((IntKind.i64.wrap ((IntKind.i64.wrap ((2:Int)*y26))+((iY W C xs Z S h w o).length:Int))).tdiv (IntKind.i64.wrap ((2:Int)*((iY W C xs Z S h w o).length:Int))))))))) hm (by omega) (λi a next hi=>by
   simp only[my]
   rw[ab,if_pos (by omega),ab,if_pos (by omega),Rg,ai hi,aa,au hi (by omega)]) (λa next=>by
   simp only[my]
   rw[ab,if_neg (by omega)]) (by omega)]
  rw[hl.1]at hb⊢;generalize (iY W C xs Z S h w o).sum=y at hb⊢;obtain⟨n,hn⟩:∃n:Nat,n=Z*Z:=⟨_,rfl⟩;rw[<-hn]at hb hl⊢;unfold gD;rw[aH (n:=2*(n:Int)) (by omega) (by omega),ab];by_cases c:y<0
  ·rw[if_pos c,if_pos c,ab,if_neg (by omega),aH (n:=-2*y) (by omega) (by omega),aH (n:=-2*y+(n:Int)) (by omega) (by omega),Se (by omega),show 2*-y+(n:Int)=-2*y+(n:Int)from by omega];have h:=Bm (a:=-2*y+(n:Int)) (b:=2*(n:Int)) (by omega) (by omega);generalize (-2*y+(n:Int))/(2*(n:Int))=q at h;rw[aH (n:=q) (by omega) (by omega),aH (by omega) (by omega)]
   congr 1;omega
  ·rw[if_neg c,if_neg c,ab,if_neg (by omega),aH (n:=2*y) (by omega) (by omega),aH (n:=2*y+(n:Int)) (by omega) (by omega),Se (by omega)];have h:=Bm (a:=2*y+(n:Int)) (b:=2*(n:Int)) (by omega) (by omega)
   rw[aH (by omega) (by omega)]
 |QF h0 h1 h2 h3 hz=>
  rw[h0];show(oE k (vk H W C xs) h w o).bind _=_;rw[su r hk h1 h2 h3,aa];show cond (decide (atN W C xs h w o<l.zero)) _ _=some (if atN W C xs h w o<l.zero then l.zero else atN W C xs h w o);rw[ab];by_cases c:atN W C xs h w o<l.zero
  ·rw[if_pos c,if_pos c]
  ·rw[if_neg c,if_neg c]
 |flat h0 ho=>
  rw[h0];show(idx xs (o:Int)).bind _=_;rw[aE,ai ho];show _=some (xs.getD o 0);rw[b8 ho];rfl
end
section
theorem vl {a b:Int} {x:Int} (h:a<=x/\x<=b) (h0:0<=a):∃n:Nat,x=n:=⟨x.toNat,by omega⟩
theorem vT {H W C Z S:Nat} {l:ax} {c:Int} (hz:l.size=Z) (hs:l.step=S) (s1:1<=S) (h8:H<=8) (w8:W<=8) (hzH:Z<=H) (hzW:Z<=W):
  rf ⟨H,W,C⟩ l c=⟨((H-Z)/S+1:Nat),((W-Z)/S+1:Nat),c⟩:=by
 have key:∀n:Nat,n<=8->Z<=n->IntKind.i64.wrap ((IntKind.i64.wrap ((IntKind.i64.wrap ((n:Int)-(Z:Int))).tdiv (S:Int)))+1)=(((n-Z)/S+1:Nat):Int):=λn h1 h2=>by
  have e1:((n:Int)-(Z:Int))=((n-Z:Nat):Int):=by omega
  have e2:(((n-Z:Nat):Int)).tdiv (S:Int)=(((n-Z)/S:Nat):Int):=rfl;have e3:(n-Z)/S<=n-Z:=Nat.div_le_self _ _;rw[e1,aH (n:=((n-Z:Nat):Int)) (by omega) (by omega),e2];generalize (n-Z)/S=q at e3;rw[aH (n:=((q:Nat):Int)) (by omega) (by omega),aH (by omega) (by omega)];omega
 unfold rf;rw[hz,hs];simp only[key H h8 hzH,key W w8 hzW]
theorem CV {n Z S:Nat} (h:n<=8) (h1:1<=Z) (h2:Z<=n):1<=(n-Z)/S+1/\(n-Z)/S+1<=8:=by
 have e3:(n-Z)/S<=n-Z:=Nat.div_le_self _ _;generalize (n-Z)/S=q at e3;omega
theorem LR {H W Z S h w:Nat} (z1:1<=Z) (z3:Z<=3) (s1:1<=S) (s2:S<=2) (hzH:Z<=H) (hzW:Z<=W) (hh:h<(H-Z)/S+1) (hw:w<(W-Z)/S+1):LM H W Z S h w:=by
 have a1:h*S<=H-Z:=(Nat.le_div_iff_mul_le (by omega)).1 (by omega);have a2:w*S<=W-Z:=(Nat.le_div_iff_mul_le (by omega)).1 (by omega);exact⟨z1,z3,s2,by omega,by omega⟩
theorem EV {l:ax} (h:H4 l=true):(1<=l.out/\l.out<=8)/\(l.m9.length:Int)=l.out/\∀x∈l.weights,-128<=x/\x<=127:=by
 simp only[H4,Rf,cn,decide_eq_true_eq]at h;obtain⟨h1,h2,h3,h4,h5,h6,h7⟩:=h;unfold rI at h7;rw[SQ]at h7;exact⟨h1,h5,λx hx=>cn.1 (h7 x hx)⟩
theorem vm {H W C:Nat} {xs:List Int} (r:k6 H W C xs) {l:ax} (hl:iR ⟨H,W,C⟩ l=true):
  ∃Z S H' W' C':Nat,l.size=Z/\l.step=S/\shapeOf ⟨H,W,C⟩ l=⟨H',W',C'⟩/\(1<=H'/\H'<=8)/\(1<=W'/\W'<=8)/\(1<=C'/\C'<=8)/\
   ∀h w o,h<H'->w<W'->o<C'->Fits H W C xs l Z S h w o:=by
 have hr:=r;obtain⟨h1,h8,w1,w8,c1,c8,hlen,hmem⟩:=hr;have hsz:=r.size;unfold iR at hl;rw[Rf]at hl;obtain⟨-,hl⟩:=hl;unfold shapeOf;by_cases k0:l.kind=0
 ·rw[decide_eq_true k0]at hl⊢;simp only[cond_true,Rf,decide_eq_true_eq,pb]at hl;obtain⟨⟨z0,s0⟩,hn,hs,hw⟩:=hl;obtain⟨ho,hb,hi⟩:=EV hn;obtain⟨O,hO⟩:=vl ho (by omega);rw[hO]at ho hb;refine⟨0,0,1,1,O,by omega,by omega,by rw[cond_true,hO];rfl,by omega,by omega,by omega,λh w o _ _ hlt=>.NA k0 (by omega) (by omega) ?_⟩;rw[hO,hsz]at hw;have:((O:Int)*((H*W*C:Nat):Int))=((O*(H*W*C):Nat):Int):=(Sn _ _).symm;rw[this]at hw;have:(o+1)*(H*W*C)<=O*(H*W*C):=Rz _ hlt;rw[RH,Nat.one_mul]at this;rw[hlen];omega
 rw[decide_eq_false k0]at hl⊢;simp only[cond_false]at hl⊢;by_cases k1:l.kind=1
 ·rw[decide_eq_true k1]at hl⊢;simp only[cond_true,Rf,decide_eq_true_eq]at hl⊢;obtain⟨hwin,hn,hw,hw6⟩:=hl;obtain⟨z1,z3,s1,s2,zh,zw⟩:=qa hwin;obtain⟨ho,hb,hi⟩:=EV hn;obtain⟨O,hO⟩:=vl ho (by omega);obtain⟨Z,hZ⟩:=vl ⟨z1,z3⟩ (by omega);obtain⟨S,hS⟩:=vl ⟨s1,s2⟩ (by omega);rw[hO]at ho hb;rw[hZ]at z1 z3 zh zw;rw[hS]at s1 s2
  have zh:Z<=H:=by have:((Z:Nat):Int)<=(H:Int):=zh;omega
  have zw:Z<=W:=by have:((Z:Nat):Int)<=(W:Int):=zw;omega
  have d1:=CV (S:=S) h8 (show 1<=Z by omega) zh;have d2:=CV (S:=S) w8 (show 1<=Z by omega) zw;refine⟨Z,S,(H-Z)/S+1,(W-Z)/S+1,O,hZ,hS,by rw[vT hZ hS (by omega) h8 w8 zh zw,hO],d1,d2,by omega,λh w o hh hw2 hlt=>.conv k1 (by omega) (by omega) ?_ (LR (by omega) (by omega) (by omega) (by omega) zh zw hh hw2) hi⟩;rw[hO,hZ]at hw
  have:((O:Int)*(Z:Int)*(Z:Int)*(C:Int))=((O*(Z*(Z*C)):Nat):Int):=by
   rw[Sn,Sn,Sn,TP,TP]
  have hw:(l.weights.length:Int)=(O:Int)*(Z:Int)*(Z:Int)*(C:Int):=hw;rw[this]at hw;have:(o+1)*(Z*(Z*C))<=O*(Z*(Z*C)):=Rz _ hlt;rw[RH,Nat.one_mul]at this;omega
 rw[decide_eq_false k1]at hl⊢;simp only[cond_false]at hl⊢;by_cases k2:l.kind=2\/l.kind=3
 ·have hk:(decide (l.kind=2)||decide (l.kind=3))=true:=by simpa using k2
  rw[hk]at hl;simp only[cond_true,Rf,decide_eq_true_eq]at hl;obtain⟨hwin,hn,hw⟩:=hl;obtain⟨z1,z3,s1,s2,zh,zw⟩:=qa hwin;obtain⟨Z,hZ⟩:=vl ⟨z1,z3⟩ (by omega);obtain⟨S,hS⟩:=vl ⟨s1,s2⟩ (by omega);rw[hZ]at z1 z3 zh zw;rw[hS]at s1 s2
  have zh:Z<=H:=by have:((Z:Nat):Int)<=(H:Int):=zh;omega
  have zw:Z<=W:=by have:((Z:Nat):Int)<=(W:Int):=zw;omega
  have d1:=CV (S:=S) h8 (show 1<=Z by omega) zh;have d2:=CV (S:=S) w8 (show 1<=Z by omega) zw;rw[decide_eq_false (show¬l.kind=4 by omega),decide_eq_false (show¬l.kind=5 by omega)];simp only[cond_false];refine⟨Z,S,(H-Z)/S+1,(W-Z)/S+1,C,hZ,hS,vT hZ hS (by omega) h8 w8 zh zw,d1,d2,by omega,λh w o hh hw2 hlt=>?_⟩;have v:=LR (by omega) (by omega) (by omega) (by omega) zh zw hh hw2
  rcases k2 with k2|k2
  ·exact .max k2 v hlt
  ·exact .avg k2 v hlt
 have hk:(decide (l.kind=2)||decide (l.kind=3))=false:=by simpa using k2
 rw[hk]at hl;simp only[cond_false]at hl;by_cases k4:l.kind=4
 ·rw[decide_eq_true k4]at hl⊢;simp only[cond_true,Rf,decide_eq_true_eq,pb,cn]at hl⊢;obtain⟨⟨z0,s0⟩,hn,hz⟩:=hl;exact⟨0,0,H,W,C,by omega,by omega,rfl,by omega,by omega,by omega,λh w o a b c=>.QF k4 a b c hz⟩
 rw[decide_eq_false k4]at hl⊢;simp only[cond_false]at hl⊢;by_cases k5:l.kind=5
 ·rw[decide_eq_true k5]at hl⊢;simp only[cond_true,Rf,decide_eq_true_eq,pb]at hl⊢;obtain⟨⟨z0,s0⟩,hn,hz,hs⟩:=hl;have p1:1<=H*W:=R2 h1 w1;have p2:1<=H*W*C:=R2 p1 c1;rw[hsz]at hs⊢;exact⟨0,0,1,1,H*W*C,by omega,by omega,rfl,by omega,by omega,by omega,λh w o a b c=>.flat k5 (by rw[hlen];exact c)⟩
 rw[decide_eq_false k5]at hl;exact nomatch hl
theorem JD {x d:Int} (hd:1<=d) (h1:-128*d<=x) (h2:x<=127*d):-128<=gD x d/\gD x d<=127:=by
 unfold gD;by_cases c:x<0
 ·rw[if_pos c];have a1:0<=(2*-x+d)/(2*d):=Int.ediv_nonneg (by omega) (by omega);have a2:(2*-x+d)/(2*d)<129:=Int.ediv_lt_of_lt_mul (by omega) (by omega);omega
 ·rw[if_neg c];have a1:0<=(2*x+d)/(2*d):=Int.ediv_nonneg (by omega) (by omega);have a2:(2*x+d)/(2*d)<128:=Int.ediv_lt_of_lt_mul (by omega) (by omega);omega
theorem NC {H W C:Nat} {xs:List Int} (r:k6 H W C xs) {l:ax} {Z S h w o:Nat} (f:Fits H W C xs l Z S h w o):-128<=lX W C xs l Z S h w o/\lX W C xs l Z S h w o<=127:=by
 unfold lX
 cases f with
 |NA h0 hb h8 hw=>rw[h0];exact yW _
 |conv h0 hb h8 hw v hi=>rw[h0];exact yW _
 |max h0 v ho=>
  rw[h0];obtain⟨x,ys,e⟩:=zf (xs:=xs) (C:=C) (o:=o) v;show -128<=k7 (iY W C xs Z S h w o)/\k7 (iY W C xs Z S h w o)<=127;have:=wT r v ho;rw[e]at this⊢
  exact this _ (qg ys x)
 |avg h0 v ho=>
  rw[h0];have hl:=nN (xs:=xs) (C:=C) (o:=o) v;have hb:=ze (wT r v ho);rw[hl.1]at hb;show -128<=gD (iY W C xs Z S h w o).sum ((Z*Z:Nat):Int)/\gD (iY W C xs Z S h w o).sum ((Z*Z:Nat):Int)<=127
  exact JD (by omega) hb.1 hb.2
 |QF h0 h1 h2 h3 hz=>
  rw[h0];have:=H7 r h1 h2 h3;show -128<=(if atN W C xs h w o<l.zero then l.zero else atN W C xs h w o)/\(if atN W C xs h w o<l.zero then l.zero else atN W C xs h w o)<=127;by_cases c:atN W C xs h w o<l.zero
  ·rw[if_pos c];exact hz
  ·rw[if_neg c];exact this
 |flat h0 ho=>rw[h0];exact r.mem _ (wS ho)
def runN (W C:Nat) (xs:List Int) (l:ax) (Z S H' W' C':Nat):List Int:=
 (List.range H').flatMap λh=>(List.range W').flatMap λw=>(List.range C').flatMap λo=>[lX W C xs l Z S h w o]
def Mr (t:av) (l:ax):av× Bool:=
 cond (t.okB&&iR t.sh l) (⟨shapeOf t.sh l,runN t.sh.w.toNat t.sh.c.toNat t.data l l.size.toNat l.step.toNat (shapeOf t.sh l).h.toNat (shapeOf t.sh l).w.toNat (shapeOf t.sh l).c.toNat⟩,true) (⟨jt,[]⟩,false)
theorem ND (W C:Nat) (xs:List Int) (l:ax) (Z S H' W' C':Nat):(runN W C xs l Z S H' W' C').length=H'*(W'*(C'*1)):=
 gQ _ _ _ λi hi=>gQ _ _ _ λj hj=>gQ _ _ _ λo ho=>rfl
theorem JE {t:av} {l:ax} (h1:t.okB=true) (h2:iR t.sh l=true):(Mr t l).1.okB=true/\(Mr t l).1.sh=shapeOf t.sh l/\(Mr t l).2=true:=by
 obtain⟨H,W,C,r,e⟩:=CT h1
 have e2:t.sh=⟨H,W,C⟩:=by rw[e];rfl
 have h2':=h2;rw[e2]at h2';obtain⟨Z,S,H',W',C',hz,hs,hsh,a1,a2,a3,hf⟩:=vm r h2';unfold Mr;rw[h1,h2];simp only[Bool.and_self,cond_true];refine And.intro ?_ (by simp);rw[e2,hsh,show l.size.toNat=Z from by omega,show l.step.toNat=S from by omega];simp only[Rg];refine k6.ok (H:=H') (W:=W') (C:=C') ⟨a1.1,a1.2,a2.1,a2.2,a3.1,a3.2,by rw[ND,Nat.mul_one,Nat.mul_assoc],λx hx=>?_⟩;unfold runN at hx;rw[Tk]at hx;obtain⟨i,hi,hx⟩:=hx;rw[Tk]at hx;obtain⟨j,hj,hx⟩:=hx;rw[Tk]at hx;obtain⟨o,ho,hx⟩:=hx;rw[List.mem_range]at hi hj ho;rw[List.mem_singleton]at hx;rw[hx];exact NC r (hf i j o hi hj ho)
theorem CW {k:Nat} {t:av} {l:ax} (hk:512<k) (hd:t.data.length<k) (hdN:t.data.length<=aT) (hl:l.tot<k) (hlN:l.tot<=aT):qO k t l=some (Mr t l):=by
 have hM:=al;unfold qO Mr;rw[oO hd (by unfold ue;omega),aa];cases h1:t.okB
 ·rfl
 simp only[Rn,cond_false,Rp];rw[oQ hl hlN,aa];unfold gS;cases h2:iR t.sh l
 ·rfl
 obtain⟨H,W,C,r,e⟩:=CT h1;obtain⟨sh,xs⟩:=t;have e2:sh=⟨H,W,C⟩:=congrArg av.sh e;subst e2;obtain⟨Z,S,H',W',C',hz,hs,hsh,a1,a2,a3,hf⟩:=vm r h2
 have hwN:l.weights.length<=aT:=by unfold ax.tot at hlN;omega
 simp only[cond_true,Rn,cond_false];rw[hsh,show l.size.toNat=Z from by omega,show l.step.toNat=S from by omega];simp only[Rg]
 have m1:∀w:Nat,∀h:Nat,((List.range C').flatMap λo=>[lX W C xs l Z S h w o]).length<=8:=λw h=>by
  have:=kZ (λo=>[lX W C xs l Z S h w o]) 1 C' (λ_ _=>Rw _);omega
 have m2:∀h:Nat,((List.range W').flatMap λw=>(List.range C').flatMap λo=>[lX W C xs l Z S h w o]).length<=64:=λh=>by
  have:=kZ (λw=>(List.range C').flatMap λo=>[lX W C xs l Z S h w o]) 8 W' (λw _=>m1 w h);omega
 refine(fJ H' 64 (λh=>(List.range W').flatMap λw=>(List.range C').flatMap λo=>[lX W C xs l Z S h w o]) [] (fin:=λy=>some ((⟨⟨H',W',C'⟩,y⟩:av),true)) (λh _=>m2 h) (λh ys next hi hy=>?_) (λys next=>?_) (by omega)).trans (by rw[SD];rfl)
 ·simp only[kJ];rw[ab,if_pos (by omega),au hi (by omega)];refine fJ W' 8 (λw=>(List.range C').flatMap λo=>[lX W C xs l Z S h w o]) ys (fin:=λy=>next (((h+1:Nat):Int),y)) (λw _=>m1 w h) (λw zs next2 hj hz2=>?_) (λzs next2=>?_) (by omega)
  ·simp only[kI];rw[ab,if_pos (by omega),au hj (by omega)];refine fJ C' 1 (λo=>[lX W C xs l Z S h w o]) zs (fin:=λy=>next2 (((w+1:Nat):Int),y)) (λ_ _=>Rw _) (λo us next3 ho hz3=>?_) (λus next3=>?_) (by omega)
   ·simp only[kH];simp only[RK]at hy;have eq:=LQ (k:=k) r (l:=l) hk hwN hz hs (hf h w o hi hj ho);rw[ab,if_pos (by omega)];refine(congrArg (λo:Option Int=>o.bind _) eq).trans ?_;rw[aa,cr (by simp;omega),au ho (by omega)]
   ·simp only[kH];rw[ab,if_neg (by omega)]
  ·simp only[kI];rw[ab,if_neg (by omega)]
 ·simp only[kJ];rw[ab,if_neg (by omega)]
theorem CX {k:Nat} {t:av} {l:ax} (hk:512<k) (hd:t.data.length<k) (hdN:t.data.length<=aT) (hl:l.tot<k) (hlN:l.tot<=aT):qS k t l=some (Mr t l):=by
 have hM:=al;unfold qS Mr;rw[oR hl hlN,aa,tM hd (by unfold ue;omega)];unfold gS;cases h2:iR t.sh l
 ·cases t.okB<;>rfl
 simp only[cond_true,Rn,cond_false,aa];cases h1:t.okB
 ·rfl
 simp only[Rn,cond_false,Bool.and_self,cond_true];obtain⟨H,W,C,r,e⟩:=CT h1;obtain⟨sh,xs⟩:=t;have e2:sh=⟨H,W,C⟩:=congrArg av.sh e;subst e2;obtain⟨Z,S,H',W',C',hz,hs,hsh,a1,a2,a3,hf⟩:=vm r h2
 have hwN:l.weights.length<=aT:=by unfold ax.tot at hlN;omega
 rw[hsh,show l.size.toNat=Z from by omega,show l.step.toNat=S from by omega];simp only[Rg]
 have m1:∀w:Nat,∀h:Nat,((List.range C').flatMap λo=>[lX W C xs l Z S h w o]).length<=8:=λw h=>by
  have:=kZ (λo=>[lX W C xs l Z S h w o]) 1 C' (λ_ _=>Rw _);omega
 have m2:∀h:Nat,((List.range W').flatMap λw=>(List.range C').flatMap λo=>[lX W C xs l Z S h w o]).length<=64:=λh=>by
  have:=kZ (λw=>(List.range C').flatMap λo=>[lX W C xs l Z S h w o]) 8 W' (λw _=>m1 w h);omega
 refine(fJ H' 64 (λh=>(List.range W').flatMap λw=>(List.range C').flatMap λo=>[lX W C xs l Z S h w o]) [] (fin:=λy=>some ((⟨⟨H',W',C'⟩,y⟩:av),true)) (λh _=>m2 h) (λh ys next hi hy=>?_) (λys next=>?_) (by omega)).trans (by rw[SD];rfl)
 ·simp only[kM];rw[ab,if_pos (by omega),au hi (by omega)];refine fJ W' 8 (λw=>(List.range C').flatMap λo=>[lX W C xs l Z S h w o]) ys (fin:=λy=>next (((h+1:Nat):Int),y)) (λw _=>m1 w h) (λw zs next2 hj hz2=>?_) (λzs next2=>?_) (by omega)
  ·simp only[kL];rw[ab,if_pos (by omega),au hj (by omega)];refine fJ C' 1 (λo=>[lX W C xs l Z S h w o]) zs (fin:=λy=>next2 (((w+1:Nat):Int),y)) (λ_ _=>Rw _) (λo us next3 ho hz3=>?_) (λus next3=>?_) (by omega)
   ·simp only[kK];simp only[RK]at hy;have eq:=LO (k:=k) r (l:=l) hk hwN hz hs (hf h w o hi hj ho);rw[ab,if_pos (by omega)];refine(congrArg (λo:Option Int=>o.bind _) eq).trans ?_;rw[aa,cr (by simp;omega),au ho (by omega)]
   ·simp only[kK];rw[ab,if_neg (by omega)]
  ·simp only[kL];rw[ab,if_neg (by omega)]
 ·simp only[kM];rw[ab,if_neg (by omega)]
end
section
end
section
end
section
def zg:ax:=⟨0,0,0,0,0,0,0,[],[]⟩
theorem Bp:∀(ls:List ax) (s:Shape) (t:List Shape),cT s ls=some t->∀i,i<ls.length->iR ((s::t).getD i jt) (ls.getD i zg)=true/\(s::t).getD (i+1) jt=shapeOf ((s::t).getD i jt) (ls.getD i zg)
 |[],s,t,h,i,hi=>by simp at hi
 |l::ls,s,t,h,i,hi=>by
  simp only[cT]at h;cases hb:iR s l<;>simp only[hb,cond_true,cond_false]at h
  ·exact nomatch h
  ·obtain⟨t',h1,rfl⟩:=Rk.1 h
   cases i with
   |zero=>exact⟨hb,rfl⟩
   |succ i=>exact Bp ls (shapeOf s l) t' h1 i (by simpa using hi)
theorem rl {m:Model} (h:ey m=true):(1<=m.aB.length/\m.aB.length<=6)/\∀i,i<m.aB.length->iR ((ch m).getD i jt) (m.aB.getD i zg)=true/\(ch m).getD (i+1) jt=shapeOf ((ch m).getD i jt) (m.aB.getD i zg):=by
 unfold ch;rw[h,cond_true];unfold ey at h;unfold dU at h⊢;cases h1:(m.inp.okB&&inB (m.aB.length:Int) 1 6)<;>rw[h1]at h
 ·exact nomatch h
 ·simp only[cond_true]at h⊢;rw[Rf,cn]at h1
  cases h2:cT m.inp m.aB with
  |none=>rw[h2]at h;exact nomatch h
  |some t=>exact⟨by omega,Bp m.aB m.inp t h2⟩
theorem kj {j:Job} (h:uf j=true):ey j.model=true/\(0<=j.at_/\j.at_<=j.model.aB.length)/\j.act.okB=true/\j.act.sh=(ch j.model).getD j.at_.toNat jt/\j.iW=QX ((bC j.model).take j.at_.toNat):=by
 unfold uf at h;simp only[Rf,cn,decide_eq_true_eq]at h;exact h
theorem LS {j:Job} (h:uf j=true):j.act.data.length<=512/\j.tot<=j.model.tot+512:=by
 have h1:=(kj h).2.2.1;unfold av.okB at h1;simp only[Rf,decide_eq_true_eq]at h1;have:=Shape.LB j.act.sh;unfold Job.tot av.tot;omega
def zi (j:Job):ax:=j.model.aB.getD j.at_.toNat zg
def JF (j:Job):Int:=(bC j.model).getD j.at_.toNat 0
def wq (j:Job):Job:=⟨j.model,j.at_+1,(Mr j.act (zi j)).1,IntKind.i64.wrap (j.iW+JF j)⟩
theorem LU {j:Job} (h:uf j=true) (hd:j.at_≠(j.model.aB.length:Int)):uf (wq j)=true:=by
 obtain⟨hm,hat,hok,hsh,hsp⟩:=kj h;obtain⟨hlen,hg⟩:=rl hm;obtain⟨hl,hs⟩:=hg j.at_.toNat (by omega);rw[<-hsh]at hl hs;obtain⟨r1,r2,r3⟩:=JE hok hl;have hcl:=il hm
 have hi:j.at_.toNat<(bC j.model).length:=by omega
 have e:(j.at_+1).toNat=j.at_.toNat+1:=by omega
 unfold uf wq;simp only[Rf,cn,decide_eq_true_eq,hm,true_and,e];refine⟨by omega,r1,?_,?_⟩
 ·show(Mr j.act (zi j)).1.sh=_;rw[hs];exact r2
 ·unfold QX JF;rw[dA hi,Sq,b8 hi,hsp];rfl
theorem Pq {V R:Type} {g:V->(V->Option R)->Option R} {fin:V->Option R} {st:Nat->V} {n:Nat} {k:Nat} (h:∀i,i<n->∀next,g (st i) next=next (st (i+1))) (hn:∀next,g (st n) next=fin (st n)) (hk:n<k):iter g k (st 0)=fin (st n):=
 fo (g:=g) (st:=st) (n:=n) (r:=fin (st n)) h hn hk
theorem GR {k:Nat} {j:Job} (hk:j.tot+8<k) (hN:j.tot<=aT) (h:uf j=true):wM k j=some ((bC j.model).drop j.at_.toNat):=by
 have hM:=al;obtain⟨hm,hat,hok,hsh,hsp⟩:=kj h;obtain⟨hlen,hg⟩:=rl hm;have hcl:=il hm;have ht:j.tot=j.model.tot+(j.act.tot+0):=rfl;unfold wM;rw[rh (by omega) hN,aa,h];simp only[Rn,cond_false];rw[kh (by omega) (by omega),aa]
 have e0:(j.at_,([]:List Int))=(((j.at_.toNat+0:Nat):Int),((bC j.model).drop j.at_.toNat).take 0):=by
  rw[List.take_zero];congr 1;omega
 rw[e0];refine(Pq (g:=λu5 n5=>lK k (bC j.model) u5 n5 (λy4=>some y4)) (fin:=λv=>some v.2) (st:=λi=>(((j.at_.toNat+i:Nat):Int),((bC j.model).drop j.at_.toNat).take i)) (n:=(bC j.model).length-j.at_.toNat) (λi hi next=>?_) (λnext=>?_) (by omega)).trans ?_
 ·have hi2:j.at_.toNat+i<(bC j.model).length:=by omega
  have hi3:i<((bC j.model).drop j.at_.toNat).length:=by simp;omega
  simp only[lK];rw[ab,if_pos (by omega),ab,if_pos (by omega),Rg,ai hi2,aa,cr (by simp;omega),au hi2 (by omega),dA hi3,List.getElem_drop];rfl
 ·simp only[lK];rw[ab,if_neg (by omega)]
 ·rw[SK (by simp)]
theorem GS {k:Nat} {j:Job} (hk:j.tot+8<k) (hN:j.tot<aT) (h:uf j=true):wN k j=some ((bC j.model).drop j.at_.toNat):=by
 obtain⟨hm,hat,hok,hsh,hsp⟩:=kj h;have hcl:=il hm;have ht:j.tot=j.model.tot+(j.act.tot+0):=rfl;unfold wN;rw[Bf (by omega) hN,aa,h];simp only[Rn,cond_false];rw[ki (by omega) (by omega),aa,ab,if_pos (by omega),SK (by simp)]
theorem LV (xs:List Int) (n:Nat):(xs.drop n)[0]? =if n<xs.length then some (xs.getD n 0)else none:=by
 rw[Rv,RP];by_cases c:n<xs.length
 ·rw[if_pos c,ai c,b8 c]
 ·rw[if_neg c,RI (by omega)]
theorem EW {xs:List Int} {n:Nat} (h:¬n<xs.length):xs.getD n 0=0:=by
 rw[RL,RI (by omega)];rfl
theorem CY {k:Nat} {j:Job} (hk:j.tot+8<k) (hN:j.tot<=aT) (h:uf j=true):qP k j=some (JF j):=by
 unfold qP JF;rw[GR hk hN h,aa,EC,ab,Sp];by_cases c:j.at_.toNat<(bC j.model).length
 ·rw[if_neg (by omega),ab,if_pos (by omega)];show(((bC j.model).drop j.at_.toNat)[0]?).bind _=_;rw[LV,if_pos c,aa]
 ·rw[if_pos (by omega),EW c]
theorem CZ {k:Nat} {j:Job} (hk:j.tot+8<k) (hN:j.tot<aT) (h:uf j=true):qQ k j=some (JF j):=by
 unfold qQ JF;rw[GS hk hN h,aa,EC,ab,Sp];by_cases c:j.at_.toNat<(bC j.model).length
 ·rw[if_neg (by omega),wH,LV,if_pos c,aa]
 ·rw[if_pos (by omega),EW c]
theorem EX {k:Nat} {j:Job} (hk:j.tot<k) (hN:j.tot<=aT):tu k j=some j:=by
 have ht:j.tot=j.model.tot+(j.act.data.length+0+0):=rfl;unfold tu;rw[qc (by omega) (by omega),aa,p7 (by omega) (by omega),aa]
def NG (j:Job):Job× Bool:=cond (uf j&&!(j.at_==(j.model.aB.length:Int))) (wq j,true) (j,false)
theorem EY {k:Nat} {j:Job} (hk:j.tot<k) (hN:j.tot<=aT) (h:uf j=true):tv k j=some (j.at_==(j.model.aB.length:Int)):=by
 unfold tv;rw[rh hk hN,aa,h];rfl
theorem EZ {j:Job} (h:uf j=true) (hd:j.at_≠(j.model.aB.length:Int)):j.model.aB[j.at_.toNat]? =some (zi j)/\(zi j).tot<=j.model.tot:=by
 obtain⟨hm,hat,hok,hsh,hsp⟩:=kj h
 have hi:j.at_.toNat<j.model.aB.length:=by omega
 unfold zi;rw[b8 hi];have:=eL ax.tot (Rq hi);exact⟨ai hi,by unfold Model.tot;omega⟩
theorem vU {k:Nat} {j:Job} (hk:j.tot+513<k) (hN:j.tot<=aT):tA k j=some (NG j):=by
 have hM:=al;have ht:j.tot=j.model.tot+(j.act.data.length+0+0):=rfl;unfold tA NG;rw[EX (by omega) hN,aa,rh (by omega) hN,aa];cases h:uf j
 ·rfl
 simp only[Rn,cond_false,Rp];rw[EY (by omega) hN h,aa,EC];obtain⟨hm,hat,hok,hsh,hsp⟩:=kj h;obtain⟨hlen,_⟩:=rl hm;by_cases c:j.at_=(j.model.aB.length:Int)
 ·rw[decide_eq_true c];rfl
 rw[decide_eq_false c];simp only[cond_false,RG,cond_true];obtain⟨hl,hlt⟩:=EZ h c;rw[sd _ hat.1,hl,aa,CW (by omega) (by omega) (by omega) (by omega) (by omega),aa,CY (by omega) hN h,aa,aH (n:=j.at_+1) (by omega) (by omega)];rfl
end
section
end
section
theorem oU (b c:Bool):cond b (some c) (some false)=some (b&&c):=by cases b<;>rfl
theorem Oc (a b:Int):decide (a>=b)=!decide (a<b):=by rw[<-decide_not];exact decide_eq_decide.2 (by omega)
theorem LW (a b:Int):decide (a>b)=!decide (a<=b):=by rw[<-decide_not];exact decide_eq_decide.2 (by omega)
theorem E0 {R:Type} (n:Nat) (p:Nat->Bool) {g:Int->(Int->Option R)->Option R} {yes no:Option R}
  (h:∀(i:Nat) (hi:i<n) (next:Int->Option R),g (i:Int) next=cond (p i) (next ((i+1:Nat):Int)) no)
  (hn:∀next,g (n:Int) next=yes) {k:Nat} (hk:n<k):iter g k 0=cond ((List.range n).all p) yes no:=
 ov (List.range n) p (g:=g) (yes:=yes) (no:=no) (λi hi next=>by rw[h i (by simpa using hi)];simp) (λnext=>by simpa using hn next) (by simpa using hk)
theorem jv {α β R:Type} (xs:List α) (p:α->Bool) (f:α->β) {g:Int× List β->(Int× List β->Option R)->Option R} {fin:List β->Option R}
  (h:∀(i:Nat) (ys:List β) (hi:i<xs.length) (next:Int× List β->Option R),ys.length<=i->g ((i:Int),ys) next=cond (p xs[i]) (next (((i+1:Nat):Int),ys++[f xs[i]])) (next (((i+1:Nat):Int),ys)))
  (hn:∀ys next,g ((xs.length:Int),ys) next=fin ys) {k:Nat} (hk:xs.length<k):iter g k (0,[])=fin ((xs.filter p).map f):=by
 have:=fo (g:=g) (st:=λi=>((i:Int),((xs.take i).filter p).map f)) (n:=xs.length) (r:=fin ((xs.filter p).map f)) (λi hi next=>by
  rw[h i _ hi next (by simp only[Tt];exact SA (SP _ _) (by simp;omega)),dA hi,S3,Sm];cases hp:p xs[i]
  ·simp[hp]
  ·simp[hp]) (λnext=>by rw[Sc];exact hn _ _) hk
 simpa using this
theorem zj {α:Type} {f:α->Int} {B:Int}:∀(xs:List α) (hf:∀x∈xs,0<=f x/\f x<=B),0<=(xs.map f).sum/\(xs.map f).sum<=B*xs.length
 |[],_=>by simp
 |x::xs,hf=>by
  have:=zj xs λy hy=>hf y (by simp[hy]);have h2:=hf x (by simp);simp only[RS,SJ,Rm];rw[Int.natCast_add,Int.mul_add];omega
theorem H9 {α R:Type} (xs:List α) (f:α->Int) {B:Int} (hf:∀x∈xs,0<=f x/\f x<=B) {g:Int× Int->(Int× Int->Option R)->Option R} {fin:Int->Option R}
  (h:∀(i:Nat) (s:Int) (hi:i<xs.length) (next:Int× Int->Option R),0<=s->s<=B*i->g (s,(i:Int)) next=next (s+f xs[i],((i+1:Nat):Int)))
  (hn:∀s next,g (s,(xs.length:Int)) next=fin s) {k:Nat} (hk:xs.length<k):iter g k (0,0)=fin ((xs.map f).sum):=by
 have:=fo (g:=g) (st:=λi=>(((xs.take i).map f).sum,(i:Int))) (n:=xs.length) (r:=fin ((xs.map f).sum)) (λi hi next=>by
  have hb:=zj (f:=f) (B:=B) (xs.take i) (λx hx=>hf x (Ti hx));rw[RV,Tu (by omega)]at hb;rw[h i _ hi next hb.1 hb.2,dA hi,Sm,S7]
  simp) (λnext=>by rw[Sc];exact hn _ _) hk
 simpa using this
theorem E3 {R:Type} (xs:List Int) (a:Nat) (ha:a<=xs.length) {B:Int} (hB:0<=B) (hf:∀x∈xs,0<=x/\x<=B) {g:Int× Int->(Int× Int->Option R)->Option R} {fin:Int->Option R}
  (h:∀(i:Nat) (s:Int) (hi:i<xs.length) (next:Int× Int->Option R),0<=s->s<=B*i->g (s,(i:Int)) next=next (s+xs[i],((i+1:Nat):Int)))
  (hn:∀s next,g (s,(xs.length:Int)) next=fin s) {k:Nat} (hk:xs.length<k):iter g k (0,(a:Int))=fin ((xs.drop a).sum):=by
 have:=fo (g:=g) (st:=λi=>(((xs.drop a).take i).sum,((a+i:Nat):Int))) (n:=xs.length-a) (r:=fin ((xs.drop a).sum)) (λi hi next=>by
  have hb:=zj (f:=λx:Int=>x) (B:=B) ((xs.drop a).take i) (λx hx=>hf x (List.mem_of_mem_drop (Ti hx)));rw[RV,Sp,Tu (by omega),TF]at hb;have hle:B*(i:Int)<=B*((a+i:Nat):Int):=Int.mul_le_mul_of_nonneg_left (by omega) hB;rw[h (a+i) _ (by omega) next hb.1 (by omega),dA (show i<(xs.drop a).length by simp;omega),S7]
  simp[Sf]) (λnext=>by
   rw[show a+(xs.length-a)=xs.length by omega,SK (by simp)];exact hn _ _) (k:=k) (by omega)
 simpa using this
def iu (t:Task):Bool:=inB t.id 1 1000000&&(inB (t.ar.length:Int) 1 6&&(inB t.at_ 0 ((t.ar.length:Int)-1)&&(inB t.due 0 1000000&&(inB t.born 0 1000000&&t.ar.all λx=>inB x 1 1000))))
theorem cf {t:Task} (h:iu t=true):(1<=t.id/\t.id<=1000000)/\(1<=t.ar.length/\t.ar.length<=6)/\(0<=t.at_/\t.at_<t.ar.length)/\(0<=t.due/\t.due<=1000000)/\(0<=t.born/\t.born<=1000000)/\∀x∈t.ar,1<=x/\x<=1000:=by
 unfold iu inB at h;simp only[Rf,decide_eq_true_eq,SQ]at h;obtain⟨h1,h2,h3,h4,h5,h6⟩:=h;exact⟨h1,by omega,by omega,h4,h5,h6⟩
theorem qh (k:Nat) (x:Int):j5 k x=some (inB x 0 1000000):=by unfold j5;rw[cy];rfl
theorem sy (k:Nat) (x:Int):mC k x=some (inB x 0 1000000):=by unfold mC;rw[fy];rfl
theorem zk {k:Nat} {t:Task} (hk:t.ar.length<k) (hN:t.ar.length<=aT):tE k t=some (iu t):=by
 have hM:=al;unfold tE iu;simp only[cy,qh,aa,cond_not]
 rw[aH (by omega) (by omega),ov t.ar (λx=>inB x 1 1000) (yes:=some true) (no:=some false) (λi hi next=>by
  simp only[oH]
  rw[ab,if_pos (by omega),aE,ai hi,aa,cy,aa,cond_not,au hi (by omega)]) (λnext=>by
  simp only[oH];rw[ab,if_neg (by omega)]) hk]
 simp only[oU,Tq]
theorem zl {k:Nat} {t:Task} (hk:t.ar.length<k) (hN:t.ar.length<=aT):tG k t=some (iu t):=by
 have hM:=al;unfold tG bn bG iu
 rw[eT t.ar (λx=>!inB x 1 1000) (λi hi next=>by
  simp only[aM,ab,sg,fy,aa]
  rw[if_pos (by omega),aE,ai hi,aa,au hi (by omega)]) (λnext=>by
  simp only[aM,ab];rw[if_neg (by omega)]) hk]
 rw[cR];simp only[fy,sy,aa,nI];rw[aH (by omega) (by omega),SY];simp only[TD,oU]
 congr 1
 generalize inB t.id 1 1000000=a;generalize inB (t.ar.length:Int) 1 6=b;generalize inB t.at_ 0 ((t.ar.length:Int)-1)=c;generalize inB t.due 0 1000000=d;generalize inB t.born 0 1000000=e;generalize (t.ar.all λx=>inB x 1 1000)=f;cases a<;>cases b<;>cases c<;>cases d<;>cases e<;>cases f<;>rfl
def kn (ts:List Task) (id:Int):Int:=(ts.findIdx? λt=>t.id==id).elim (-1) λi=>(i:Int)
theorem lk {k:Nat} {s:aj} {id:Int} (hk:s.tasks.length<k) (hN:s.tasks.length<=aT):kB k s id=some (kn s.tasks id):=by
 have hM:=al;unfold kB kn
 rw[eT s.tasks (λt=>t.id==id) (yes:=some (-1)) (no:=some) (λi hi next=>by
  simp only[qV]
  rw[ab,if_pos (by omega),aE,ai hi,aa,au hi (by omega)]) (λnext=>by
  simp only[qV];rw[ab,if_neg (by omega)]) hk]
 exact cR _
theorem tV {k:Nat} {s:aj} {id:Int} (hk:s.tasks.length<k) (hN:s.tasks.length<=aT):dc k s id=some (kn s.tasks id):=by
 have hM:=al;unfold dc c9 kn
 rw[eT s.tasks (λt=>t.id==id) (yes:=some (-1)) (no:=some) (λi hi next=>by
  simp only[bR,jo,decide_true,cond_true,aa]
  rw[ab,if_pos (by omega),aE,ai hi,aa,au hi (by omega)]) (λnext=>by
  simp only[bR,decide_true,cond_true];rw[ab,if_neg (by omega)]) hk]
 rw[cR];rfl
def gy (s:aj):Bool:=(List.range s.tasks.length).all λi=>(s.tasks[i]?).elim false λt=>iu t&&(decide (t.id<s.next)&&(decide (t.born<=s.now)&&(cond (decide (0<i)) ((s.tasks[i-1]?).elim false λu=>decide (u.id<t.id)) true)))
def JY (s:aj):Bool:=cond (s.run==0) (s.left==0) ((s.tasks.findIdx? λt=>t.id==s.run).elim false λi=>(s.tasks[i]?).elim false λt=>(idx t.ar t.at_).elim false λc=>inB s.left 1 c)
def bw (s:aj):Bool:=inB s.now 0 1000000&&(inB s.ag 0 1000&&(inB s.age 0 20&&(decide ((s.tasks.length:Int)<=12)&&(inB s.turns 0 1000000&&(inB s.next 1 1000000&&(gy s&&JY s))))))
theorem cg {s:aj} (h:gy s=true) {i:Nat} (hi:i<s.tasks.length):iu s.tasks[i]=true/\s.tasks[i].id<s.next/\s.tasks[i].born<=s.now/\∀j,(hj:j+1=i)->s.tasks[j].id<s.tasks[i].id:=by
 unfold gy at h;rw[SQ]at h;have:=h i (by simpa using hi);rw[ai hi,Rj]at this;simp only[Rf,decide_eq_true_eq]at this;obtain⟨h1,h2,h3,h4⟩:=this;refine⟨h1,h2,h3,λj hj=>?_⟩;subst hj;rw[decide_eq_true (by omega),cond_true,Nat.add_sub_cancel,ai (show j<s.tasks.length by omega),Rj]at h4;exact of_decide_eq_true h4
theorem Ia {s:aj} (h:gy s=true):∀(d i:Nat) (hd:i+d+1<s.tasks.length),s.tasks[i].id<s.tasks[i+d+1].id
 |0,i,hd=>(cg h hd).2.2.2 i rfl
 |d+1,i,hd=>Int.lt_trans (Ia h d i (by omega)) ((cg h (i:=i+(d+1)+1) hd).2.2.2 (i+d+1) (by omega))
theorem LY {s:aj} (h:gy s=true) {i j:Nat} (hi:i<s.tasks.length) (hj:j<s.tasks.length) (e:s.tasks[i].id=s.tasks[j].id):i=j:=by
 rcases Tf i j with c|c|c
 ·obtain⟨d,rfl⟩:∃d,j=i+d+1:=⟨j-i-1,by omega⟩;have:=Ia h d i hj;omega
 ·exact c
 ·obtain⟨d,rfl⟩:∃d,i=j+d+1:=⟨i-j-1,by omega⟩;have:=Ia h d j hi;omega
theorem C0 {s:aj} (h:gy s=true) {i:Nat} (hi:i<s.tasks.length):(s.tasks.findIdx? λt=>t.id==s.tasks[i].id)=some i:=by
 cases e:s.tasks.findIdx? λt=>t.id==s.tasks[i].id with
 |none=>
  rw[SN]at e;have:=e _ (Rq hi)
  simp at this
 |some j=>
  obtain⟨hj,hp,_⟩:=So.1 e;rw[LY h hj hi (by simpa using hp)]
theorem qi {ts:List Task} {id:Int} {i:Nat} (h:(ts.findIdx? λt=>t.id==id)=some i):∃hi:i<ts.length,ts[i].id=id:=by
 obtain⟨hi,hp,_⟩:=So.1 h;exact⟨hi,by simpa using hp⟩
theorem Ib {s:aj} (h:gy s=true) (i:Nat) (hi:(s.tasks.findIdx? λt=>t.id==s.run)=some i):
  ((idx s.tasks (i:Int)).bind λe8=>(idx s.tasks (i:Int)).bind λe9=>(idx e8.ar e9.at_).bind λe10=>some (inB s.left (1:Int) e10))=
  some ((s.tasks[i]?).elim false λt=>(idx t.ar t.at_).elim false λc=>inB s.left 1 c):=by
 obtain⟨hl,_⟩:=qi hi;have ht:=cf (cg h hl).1;rw[aE,ai hl,aa,aa,Rj]
 have:idx s.tasks[i].ar s.tasks[i].at_=some (s.tasks[i].ar[s.tasks[i].at_.toNat]'(by omega)):=by
  rw[sd _ ht.2.2.1.1];exact ai _
 rw[this,aa,Rj]
theorem iq {ts:List Task} {id:Int} {i:Nat} (h:(ts.findIdx? λt=>t.id==id)=some i):kn ts id=(i:Int):=by unfold kn;rw[h];rfl
theorem vn {ts:List Task} {id:Int} (h:(ts.findIdx? λt=>t.id==id)=none):kn ts id=-1:=by unfold kn;rw[h];rfl
theorem Bq {R:Type} {s:aj} {i:Nat} (hi:i<s.tasks.length) (hN:s.tasks.length<=aT) {next no:Option R}:
  (cond (!iu s.tasks[i]) no (cond (decide (s.tasks[i].id>=s.next)) no (cond (decide (s.tasks[i].born>s.now)) no (cond (decide ((i:Int)>(0:Int))) ((idx s.tasks (IntKind.i64.wrap ((i:Int)-(1:Int)))).bind λe8=>cond (decide (e8.id>=s.tasks[i].id)) no next) next))))=
  cond ((s.tasks[i]?).elim false λt=>iu t&&(decide (t.id<s.next)&&(decide (t.born<=s.now)&&(cond (decide (0<i)) ((s.tasks[i-1]?).elim false λu=>decide (u.id<t.id)) true)))) next no:=by
 have hM:=al;rw[ai hi,Rj,Oc s.tasks[i].id s.next,LW s.tasks[i].born s.now];simp only[cond_not]
 cases i with
 |zero=>
  rw[decide_eq_false (show¬(((0:Nat):Int)>0) by omega),decide_eq_false (show¬(0<0) by omega)];simp only[cond_false,Tq]
  cases iu s.tasks[0]<;>cases decide (s.tasks[0].id<s.next)<;>cases decide (s.tasks[0].born<=s.now)<;>rfl
 |succ j=>
  rw[decide_eq_true (show(((j+1:Nat):Int)>0) by omega),decide_eq_true (show(0<j+1) by omega),aH (by omega) (by omega),show((j+1:Nat):Int)-1=(j:Int)from by omega,aE,Nat.add_sub_cancel,ai (show j<s.tasks.length by omega),aa,Rj,Oc s.tasks[j].id];simp only[cond_true,cond_not];cases iu s.tasks[j+1]<;>cases decide (s.tasks[j+1].id<s.next)<;>cases decide (s.tasks[j+1].born<=s.now)<;>cases decide (s.tasks[j].id<s.tasks[j+1].id)<;>rfl
theorem dH {k:Nat} {s:aj} (hk:s.tot<k) (hN:s.tot<=aT):fa k s=some (bw s):=by
 have hM:=al;unfold aj.tot at hk hN;have hlen:=bm Task.tot s.tasks;unfold fa bw;rw[LW (s.tasks.length:Int) 12];simp only[cy,qh,aa,cond_not]
 rw[E0 s.tasks.length (λi=>(s.tasks[i]?).elim false λt=>iu t&&(decide (t.id<s.next)&&(decide (t.born<=s.now)&&(cond (decide (0<i)) ((s.tasks[i-1]?).elim false λu=>decide (u.id<t.id)) true)))) (λi hi next=>by
  have hm:=eL Task.tot (Rq hi);have hm0:s.tasks[i].tot=s.tasks[i].ar.length+0:=rfl;simp only[mB];rw[ab,if_pos (by omega),aE,ai hi,aa,zk (by omega) (by omega),aa,au hi (by omega)]
  exact(Bq hi (by omega)).trans (by rw[ai hi])) (λnext=>by
  simp only[mB];rw[ab,if_neg (by omega)]) (by omega)]
 rw[show((List.range s.tasks.length).all λi=>(s.tasks[i]?).elim false λt=>iu t&&(decide (t.id<s.next)&&(decide (t.born<=s.now)&&(cond (decide (0<i)) ((s.tasks[i-1]?).elim false λu=>decide (u.id<t.id)) true))))=gy s from rfl]
 have hr:gy s=true->cond (s.run==(0:Int)) (some (s.left==(0:Int))) (cond (decide (kn s.tasks s.run>=(0:Int))) ((idx s.tasks (kn s.tasks s.run)).bind λe11=>(idx s.tasks (kn s.tasks s.run)).bind λe12=>(idx e11.ar e12.at_).bind λe13=>some (inB s.left (1:Int) e13)) (some false))=some (JY s):=by
  intro h;unfold JY;cases s.run==0
  ·simp only[cond_false]
   cases hf:s.tasks.findIdx? λt=>t.id==s.run with
   |none=>rw[vn hf];rfl
   |some i=>rw[iq hf,ab,if_pos (by omega),Ib h i hf];rfl
  ·rfl
 simp only[lk (s:=s) (id:=s.run) (k:=k) (by omega) (by omega),aa];cases h:gy s
 ·simp only[cond_false,Sa];simp only[oU,Th]
 ·simp only[cond_true,Rp,hr h,oU]
theorem C3 {k:Nat} {s:aj} (hk:s.tot<k) (hN:s.tot<=aT):gR k s=some (gy s&&decide ((s.tasks.length:Int)<=12)):=by
 have hM:=al;unfold aj.tot at hk hN;have hlen:=bm Task.tot s.tasks;unfold gR
 rw[E0 s.tasks.length (λi=>(s.tasks[i]?).elim false λt=>iu t&&(decide (t.id<s.next)&&(decide (t.born<=s.now)&&(cond (decide (0<i)) ((s.tasks[i-1]?).elim false λu=>decide (u.id<t.id)) true)))) (λi hi next=>by
  have hm:=eL Task.tot (Rq hi);have hm0:s.tasks[i].tot=s.tasks[i].ar.length+0:=rfl;simp only[ft];rw[ab,if_pos (by omega),aE,ai hi,aa,zl (by omega) (by omega),aa,au hi (by omega)]
  exact(Bq hi (by omega)).trans (by rw[ai hi])) (λnext=>by
  simp only[ft];rw[ab,if_neg (by omega)]) (by omega)]
 exact oU _ _
theorem ko {k:Nat} {s:aj} (hk:s.tot<k) (hN:s.tot<=aT):lN k s=some (bw s):=by
 have hM:=al;have hk2:=hk;have hN2:=hN;unfold aj.tot at hk hN;have hlen:=bm Task.tot s.tasks;unfold lN bw;simp only[fy,sy,aa,cond_not,C3 hk2 hN2,tV (s:=s) (id:=s.run) (k:=k) (by omega) (by omega)]
 have hr:gy s=true->cond (s.run==(0:Int)) (cond (s.run==(0:Int)) (some (s.left==(0:Int))) (some false)) (cond (decide (kn s.tasks s.run<(0:Int))) (cond (s.run==(0:Int)) (some (s.left==(0:Int))) (some false)) ((idx s.tasks (kn s.tasks s.run)).bind λe8=>(idx s.tasks (kn s.tasks s.run)).bind λe9=>(idx e8.ar e9.at_).bind λe10=>some (inB s.left (1:Int) e10)))=some (JY s):=by
  intro h;unfold JY;cases s.run==0
  ·simp only[cond_false]
   cases hf:s.tasks.findIdx? λt=>t.id==s.run with
   |none=>rw[vn hf];rfl
   |some i=>rw[iq hf,ab,if_neg (by omega),Ib h i hf];rfl
  ·rfl
 cases h:gy s
 ·simp only[cond_false,Sa];simp only[oU,Th]
 ·rw[hr h];simp only[Rp,oU]
  congr 1
  generalize inB s.now 0 1000000=a;generalize inB s.ag 0 1000=b;generalize inB s.age 0 20=c;generalize decide ((s.tasks.length:Int)<=12)=d;generalize inB s.turns 0 1000000=e;generalize inB s.next 1 1000000=f;generalize JY s=g;cases a<;>cases b<;>cases c<;>cases d<;>cases e<;>cases f<;>cases g<;>rfl
theorem bF {s:aj} (h:bw s=true):(0<=s.now/\s.now<=1000000)/\(0<=s.ag/\s.ag<=1000)/\(0<=s.age/\s.age<=20)/\s.tasks.length<=12/\(0<=s.turns/\s.turns<=1000000)/\(1<=s.next/\s.next<=1000000)/\gy s=true/\JY s=true:=by
 unfold bw inB at h;simp only[Rf,decide_eq_true_eq]at h;obtain⟨h1,h2,h3,h4,h5,h6,h7,h8⟩:=h;exact⟨h1,h2,h3,by omega,h5,h6,h7,h8⟩
end
section
theorem qj {k:Nat} {s:aj} (hk:s.tot<k) (hN:s.tot<=aT):lL k s=some s:=by
 have hM:=al;unfold aj.tot at hk hN;have hlen:=bm Task.tot s.tasks;unfold lL
 refine(qG s.tasks (λt=>t) (g:=λu4 n4=>j4 k (s.now,s.ag,s.age,s.tasks,s.run,s.left,s.turns,s.next,(0:Int),(0:Int),(0:Int),(0:Int),(0:Int),(0:Int),(0:Int),s.now,s.ag,s.age,s.run,s.left,s.turns,s.next) u4 n4 (λy3=>some (⟨s.now,s.ag,s.age,y3,s.run,s.left,s.turns,s.next⟩:aj)))
  (fin:=λy3=>some (⟨s.now,s.ag,s.age,y3,s.run,s.left,s.turns,s.next⟩:aj)) (λi ys hi next hl=>by
  have hm:=eL Task.tot (Rq hi);have hm0:s.tasks[i].tot=s.tasks[i].ar.length+0:=rfl;simp only[j4]
  rw[ab,if_pos (by omega),aE,ai hi,aa,kg (by omega) (by omega),aa,cr (by omega),au hi (by omega)]) (λys next=>by
  simp only[j4];rw[ab,if_neg (by omega)]) (by omega)).trans ?_
 simp
theorem jx {k:Nat} {s:aj} (hk:s.tot<k) (hN:s.tot<=aT):fL k s=some s:=by
 have hM:=al;unfold aj.tot at hk hN;have hlen:=bm Task.tot s.tasks;unfold fL
 refine(qG s.tasks (λt=>t) (g:=λu4 n4=>fb k (s.tasks,(s.tasks.length:Int),s.now,s.ag,s.age,s.run,s.left,s.turns,s.next,(0:Int),(0:Int),(0:Int),(0:Int),(0:Int),(0:Int),(0:Int)) u4 n4 (λy3=>some (⟨s.now,s.ag,s.age,y3,s.run,s.left,s.turns,s.next⟩:aj)))
  (fin:=λy3=>some (⟨s.now,s.ag,s.age,y3,s.run,s.left,s.turns,s.next⟩:aj)) (λi ys hi next hl=>by
  have hm:=eL Task.tot (Rq hi);have hm0:s.tasks[i].tot=s.tasks[i].ar.length+0:=rfl;simp only[fb]
  rw[ab,if_pos (by omega),aE,ai hi,aa,cS (by omega),aa,cr (by omega),au hi (by omega)]) (λys next=>by
  simp only[fb];rw[ab,if_neg (by omega)]) (by omega)).trans ?_
 simp
def gz (t:Task):Int:=(t.ar.drop t.at_.toNat).sum
def fi (t:Task):Int:=(idx t.ar t.at_).getD 0
def dV (s:aj) (t:Task):Int:=cond (s.run==t.id) (gz t-fi t+s.left) (gz t)
theorem fj {t:Task} (h:iu t=true):idx t.ar t.at_=some (fi t)/\1<=fi t/\fi t<=1000:=by
 have ht:=cf h
 have hlt:t.at_.toNat<t.ar.length:=by omega
 have e:idx t.ar t.at_=some t.ar[t.at_.toNat]:=by rw[sd _ ht.2.2.1.1];exact ai hlt
 unfold fi;rw[e,SG];exact⟨rfl,ht.2.2.2.2.2 _ (Rq hlt)⟩
theorem zm {t:Task} (h:iu t=true):fi t<=gz t/\gz t-fi t<=5000/\0<=gz t-fi t:=by
 have ht:=cf h
 have hlt:t.at_.toNat<t.ar.length:=by omega
 have e:idx t.ar t.at_=some t.ar[t.at_.toNat]:=by rw[sd _ ht.2.2.1.1];exact ai hlt
 have hc:fi t=t.ar[t.at_.toNat]:=by unfold fi;rw[e];rfl
 have hb:=zj (f:=λx:Int=>x) (B:=1000) (t.ar.drop (t.at_.toNat+1)) (λx hx=>by have:=ht.2.2.2.2.2 x (List.mem_of_mem_drop hx);omega);rw[TF,Sp]at hb;unfold gz;rw[gI hlt,SJ,hc];omega
theorem rm {s:aj} (h:bw s=true) {t:Task} (hm:t∈s.tasks) (hr:s.run=t.id):1<=s.left/\s.left<=fi t:=by
 have hs:=bF h;obtain⟨i,hi,rfl⟩:=RU.1 hm;have hT:=(cg hs.2.2.2.2.2.2.1 hi).1;have ht:=cf hT;have hrun:=hs.2.2.2.2.2.2.2;unfold JY at hrun
 have h0:(s.run==0)=false:=by rw[hr];simp;omega
 rw[h0,cond_false,hr,C0 hs.2.2.2.2.2.2.1 hi,Rj,ai hi,Rj,(fj hT).1,Rj]at hrun;exact of_decide_eq_true hrun
theorem zn {s:aj} (h:bw s=true) {t:Task} (hm:t∈s.tasks):0<=dV s t/\dV s t<=6000:=by
 have hs:=bF h;obtain⟨i,hi,e⟩:=RU.1 hm;have hT:iu t=true:=e▸(cg hs.2.2.2.2.2.2.1 hi).1;have hc:=fj hT;have hb:=zm hT;unfold dV;cases hr:s.run==t.id
 ·simp only[cond_false];omega
 ·have:=rm h hm (by simpa using hr);simp only[cond_true];omega
theorem C4 {k:Nat} {s:aj} (hk:s.tot<k) (hN:s.tot<=aT) (h:bw s=true) {t:Task} (hm:t∈s.tasks):qW k s t.id=some (dV s t):=by
  have hM:=al;have hs:=bF h;obtain⟨i,hi,rfl⟩:=RU.1 hm;have hT:=(cg hs.2.2.2.2.2.2.1 hi).1;have ht:=cf hT;have hlen:=bm Task.tot s.tasks;have htm:=eL Task.tot hm;have hm0:s.tasks[i].tot=s.tasks[i].ar.length+0:=rfl;have hst:s.tot=eE Task.tot s.tasks+0:=rfl;have hc:=fj hT;have hb:=zm hT;unfold qW;rw[lk (by omega) (by omega),aa,dH hk hN,aa,h,iq (C0 hs.2.2.2.2.2.2.1 hi)];simp only[Rn,cond_false];rw[ab,if_neg (by omega),aE,ai hi,aa]
  have hat:s.tasks[i].at_=((s.tasks[i].at_.toNat:Nat):Int):=by omega
  have e:=E3 (R:=Int) s.tasks[i].ar s.tasks[i].at_.toNat (by omega) (B:=1000) (by omega) (λx hx=>by have:=ht.2.2.2.2.2 x hx;omega)
    (g:=λu7 n7=>iJ k (s.tasks[i].id,s.now,s.ag,s.age,s.tasks,s.run,s.left,s.turns,s.next,s.tasks[i].id,s.tasks[i].ar,s.tasks[i].at_,s.tasks[i].due,s.tasks[i].born) u7 n7 (λy5=>cond (s.run==s.tasks[i].id) ((idx s.tasks[i].ar s.tasks[i].at_).bind λe6=>some (IntKind.i64.wrap ((IntKind.i64.wrap (y5-e6))+s.left))) (some y5)))
    (fin:=λy5=>cond (s.run==s.tasks[i].id) ((idx s.tasks[i].ar s.tasks[i].at_).bind λe6=>some (IntKind.i64.wrap ((IntKind.i64.wrap (y5-e6))+s.left))) (some y5))
    (λj z hj next h0 h1=>by
      have:=ht.2.2.2.2.2 _ (Rq hj);simp only[iJ]
      rw[ab,if_pos (by omega),aE,ai hj,aa,aH (by omega) (by omega),au hj (by omega)])
    (λz next=>by simp only[iJ];rw[ab,if_neg (by omega)]) (k:=k) (by omega)
  rw[<-hat]at e;refine e.trans ?_;show cond _ _ _=some (dV s s.tasks[i]);unfold dV;rw[hc.1,aa];cases hr:s.run==s.tasks[i].id
  · rfl
  · have:=rm h hm (by simpa using hr);simp only[cond_true];have e2:(s.tasks[i].ar.drop s.tasks[i].at_.toNat).sum=gz s.tasks[i]:=rfl;rw[e2,aH (n:=gz s.tasks[i]-fi s.tasks[i]) (by omega) (by omega),aH (by omega) (by omega)]
theorem Ic {B:Int}:∀(xs:List Int) (s:Int) (hf:∀x∈xs,0<=x/\x<=B) (h0:0<=s) (h1:s+B*xs.length<=9223372036854775807),xs.foldl (λs x=>IntKind.i64.wrap (s+x)) s=s+xs.sum
 |[],s,_,_,_=>by simp
 |x::xs,s,hf,h0,h1=>by
  have hx:=hf x (by simp);rw[Rm,Int.natCast_add,Int.mul_add]at h1;have h2:0<=B*(xs.length:Int):=Ta (by omega) (by omega);rw[Sb,SJ,aH (by omega) (by omega),Ic xs (s+x) (λy hy=>hf y (by simp[hy])) (by omega) (by omega)];omega
theorem GU {k:Nat} {s:aj} (hk:s.tot<k) (hN:s.tot<=aT) (h:bw s=true) {t:Task} (hm:t∈s.tasks):jF k s t=some (dV s t):=by
 have hM:=al;have hs:=bF h;obtain⟨i,hi,rfl⟩:=RU.1 hm;have hT:=(cg hs.2.2.2.2.2.2.1 hi).1;have ht:=cf hT;have htm:=eL Task.tot hm;have hm0:s.tasks[i].tot=s.tasks[i].ar.length+0:=rfl;have hst:s.tot=eE Task.tot s.tasks+0:=rfl;have hc:=fj hT;have hb:=zm hT;unfold jF;rw[ab,if_pos (by omega),SK (Rw _),CG (by simp;omega) (by simp;omega),aa,Ic (B:=1000) _ 0 (λx hx=>by have:=ht.2.2.2.2.2 x (List.mem_of_mem_drop hx);omega) (by omega) (by simp;omega),hc.1,aa,Int.zero_add];have e2:(s.tasks[i].ar.drop s.tasks[i].at_.toNat).sum=gz s.tasks[i]:=rfl;rw[e2];unfold dV;cases hr:s.run==s.tasks[i].id
 ·rfl
 ·have:=rm h hm (by simpa using hr);simp only[cond_true];rw[aH (n:=s.left-fi s.tasks[i]) (by omega) (by omega),aH (by omega) (by omega)]
  congr 1;omega
def tW (s:aj) (d:Int):Int:=(s.tasks.map λt=>cond (decide (t.due<=d)) (dV s t) 0).sum
def block (s:aj) (d:Int):Int:=(s.tasks.findIdx? λt=>t.id==s.run).elim 0 λi=>(s.tasks[i]?).elim 0 λt=>cond (decide (t.due>d)) s.left 0
theorem vo {s:aj} (h:bw s=true) (d:Int):∀t∈s.tasks,0<=cond (decide (t.due<=d)) (dV s t) 0/\cond (decide (t.due<=d)) (dV s t) 0<=6000:=λt ht=>by
 have:=zn h ht;cases decide (t.due<=d)
 ·simp
 ·simpa using this
theorem LZ {s:aj} (h:bw s=true) (d:Int):0<=tW s d/\tW s d<=72000:=by
 have hs:=bF h;have:=zj (B:=6000) s.tasks (vo h d);unfold tW;omega
theorem C5 {k:Nat} {s:aj} {d:Int} (hk:s.tot<k) (hN:s.tot<=aT) (h:bw s=true):qX k s d=some (tW s d):=by
  have hM:=al;have hs:=bF h;have hlen:=bm Task.tot s.tasks;have hst:s.tot=eE Task.tot s.tasks+0:=rfl;unfold qX;rw[dH hk hN,aa,h];simp only[Rn,cond_false]
  exact H9 s.tasks (λt=>cond (decide (t.due<=d)) (dV s t) 0) (B:=6000) (vo h d) (g:=λu6 n6=>iK k (d,s.now,s.ag,s.age,s.tasks,s.run,s.left,s.turns,s.next) u6 n6 (λy5=>some y5)) (fin:=some)
    (λi z hi next h0 h1=>by
      have hr:=zn h (Rq hi);have e:=C4 hk hN h (Rq hi);simp only[iK];rw[ab,if_pos (by omega),aE,ai hi,aa,au hi (by omega),aa];by_cases c:s.tasks[i].due<=d
      · rw[decide_eq_true c,cond_true,cond_true,show(⟨s.now,s.ag,s.age,s.tasks,s.run,s.left,s.turns,s.next⟩:aj)=s from rfl,e,aa,aH (by omega) (by omega)]
      · rw[decide_eq_false c,cond_false,cond_false,Tl])
    (λz next=>by simp only[iK];rw[ab,if_neg (by omega)]) (by omega)
theorem GV {k:Nat} {s:aj} {d:Int} (hk:s.tot<k) (hN:s.tot<=aT) (h:bw s=true):jG k s d=some (tW s d):=by
  have hM:=al;have hs:=bF h;have hlen:=bm Task.tot s.tasks;have hst:s.tot=eE Task.tot s.tasks+0:=rfl;unfold jG
  exact H9 s.tasks (λt=>cond (decide (t.due<=d)) (dV s t) 0) (B:=6000) (vo h d) (g:=λu4 n4=>fc k (d,s.tasks,(s.tasks.length:Int),s.now,s.ag,s.age,s.tasks,s.run,s.left,s.turns,s.next) u4 n4 (λy3=>some y3)) (fin:=some)
    (λi z hi next h0 h1=>by
      have hr:=zn h (Rq hi);have e:=GU hk hN h (Rq hi);simp only[fc];rw[ab,if_pos (by omega),aE,ai hi,aa,au hi (by omega)];by_cases c:s.tasks[i].due<=d
      · rw[decide_eq_true c,cond_true,cond_true,show(⟨s.now,s.ag,s.age,s.tasks,s.run,s.left,s.turns,s.next⟩:aj)=s from rfl,e,aa,aH (by omega) (by omega)]
      · rw[decide_eq_false c,cond_false,cond_false,Tl])
    (λz next=>by simp only[fc];rw[ab,if_neg (by omega)]) (by omega)
theorem NH {s:aj} (h:bw s=true) (d:Int):0<=block s d/\block s d<=1000:=by
 have hs:=bF h;unfold block
 cases hf:s.tasks.findIdx? λt=>t.id==s.run with
 |none=>exact⟨Int.le_refl _,by show(0:Int)<=1000;omega⟩
 |some i=>
  obtain⟨hi,hid⟩:=qi hf;have hT:=(cg hs.2.2.2.2.2.2.1 hi).1;have:=rm h (Rq hi) hid.symm;have:=fj hT;rw[Rj,ai hi,Rj];cases decide (s.tasks[i].due>d)
  ·exact⟨Int.le_refl _,by show(0:Int)<=1000;omega⟩
  ·simp only[cond_true];omega
theorem Br {s:aj} {d:Int} (h:bw s=true):cond (decide (kn s.tasks s.run>=(0:Int))) ((idx s.tasks (kn s.tasks s.run)).bind λe3=>cond (decide (e3.due>d)) (some s.left) (some (0:Int))) (some (0:Int))=some (block s d):=by
 unfold block
 cases hf:s.tasks.findIdx? λt=>t.id==s.run with
 |none=>rw[vn hf];rfl
 |some i=>
  obtain⟨hi,_⟩:=qi hf;rw[iq hf,ab,if_pos (by omega),aE,ai hi,aa,Rj,ai hi,Rj];cases decide (s.tasks[i].due>d)<;>rfl
theorem E4 {k:Nat} {s:aj} {d:Int} (hk:s.tot<k) (hN:s.tot<=aT) (h:bw s=true):tF k s d=some (block s d):=by
 have hlen:=bm Task.tot s.tasks;have hst:s.tot=eE Task.tot s.tasks+0:=rfl;unfold tF;rw[dH hk hN,aa,h];simp only[Rn,cond_false];rw[lk (by omega) (by omega),aa,Br h]
theorem JG {k:Nat} {s:aj} {d:Int} (hk:s.tot<k) (hN:s.tot<=aT) (h:bw s=true):kN k s d=some (block s d):=by
 have hlen:=bm Task.tot s.tasks;have hst:s.tot=eE Task.tot s.tasks+0:=rfl;unfold kN;rw[tV (by omega) (by omega),aa,Br h]
def dY (s:aj) (t:Task):Bool:=decide (t.due<=s.now)
def GW (s:aj) (t:Task):Bool:=decide (tW s t.due+block s t.due+s.ag<=t.due-s.now)
def zo (s:aj):Bool:=bw s&&s.tasks.all λt=>!dY s t&&GW s t
theorem L0 {α:Type} (p q:α->Bool):∀xs:List α,(xs.all p&&xs.all q)=xs.all λx=>p x&&q x
 |[]=>rfl
 |x::xs=>by
  rw[TN,TN,TN,<-L0 p q xs];cases p x<;>cases q x<;>cases xs.all p<;>cases xs.all q<;>rfl
theorem GX {k:Nat} {s:aj} (hk:s.tot<k) (hN:s.tot<=aT) (h:bw s=true):wO k s=some ((s.tasks.filter (dY s)).map (·.id)):=by
  have hM:=al;have hlen:=bm Task.tot s.tasks;have hst:s.tot=eE Task.tot s.tasks+0:=rfl;unfold wO;rw[dH hk hN,aa,h];simp only[Rn,cond_false]
  exact jv s.tasks (dY s) (·.id) (g:=λu5 n5=>lM k (s.now,s.ag,s.age,s.tasks,s.run,s.left,s.turns,s.next) u5 n5 (λy4=>some y4)) (fin:=some)
    (λi ys hi next hl=>by
      simp only[lM];rw[ab,if_pos (by omega),aE,ai hi,aa,au hi (by omega),aa,cr (by simp;omega)]
      rfl)
    (λys next=>by simp only[lM];rw[ab,if_neg (by omega)]) (by omega)
theorem L3 {s:aj} (h:bw s=true) {t:Task} (hm:t∈s.tasks):decide ((IntKind.i64.wrap ((IntKind.i64.wrap (tW s t.due+block s t.due))+s.ag))>(IntKind.i64.wrap (t.due-s.now)))=!GW s t:=by
 have hs:=bF h;have hd:=LZ h t.due;have hb:=NH h t.due;obtain⟨i,hi,e⟩:=RU.1 hm;have ht:=cf (t:=t) (e▸(cg hs.2.2.2.2.2.2.1 hi).1);rw[aH (n:=tW s t.due+block s t.due) (by omega) (by omega),aH (n:=tW s t.due+block s t.due+s.ag) (by omega) (by omega),aH (by omega) (by omega),LW];rfl
theorem GY {k:Nat} {s:aj} (hk:s.tot<k) (hN:s.tot<=aT):wP k s=some (zo s):=by
 have hM:=al;have hlen:=bm Task.tot s.tasks;have hst:s.tot=eE Task.tot s.tasks+0:=rfl;unfold wP zo;rw[dH hk hN,aa];cases h:bw s
 ·rfl
 simp only[Rn,cond_false,Rp]
 rw[GX hk hN h,aa,ov s.tasks (GW s) (yes:=some true) (no:=some false) (λi hi next=>by
  simp only[oI]
  rw[ab,if_pos (by omega),aE,ai hi,aa,show(⟨s.now,s.ag,s.age,s.tasks,s.run,s.left,s.turns,s.next⟩:aj)=s from rfl,C5 hk hN h,aa,E4 hk hN h,aa,L3 h (Rq hi),cond_not,au hi (by omega)]) (λnext=>by
  simp only[oI];rw[ab,if_neg (by omega)]) (by omega)]
 rw[<-L0,Tt]
 have hz:decide (((s.tasks.filter (dY s)).length:Int)>0)=!(s.tasks.all λt=>!dY s t):=by
  cases ha:s.tasks.all λt=>!dY s t
  ·rw[List.all_eq_false]at ha;obtain⟨t,ht,hl⟩:=ha;have:0<(s.tasks.filter (dY s)).length:=List.length_pos_of_mem (R8.2 ⟨ht,by simpa using hl⟩);rw[decide_eq_true (by omega)];rfl
  ·rw[SQ]at ha
   have:s.tasks.filter (dY s)=[]:=List.filter_eq_nil_iff.2 λt ht=>by simpa using ha t ht
   rw[this];rfl
 rw[hz];cases s.tasks.all λt=>!dY s t
 ·rfl
 ·simp only[Rn,cond_false,Rp];cases s.tasks.all (GW s)<;>rfl
theorem GZ {k:Nat} {s:aj} (hk:s.tot<k) (hN:s.tot<=aT):wQ k s=some (zo s):=by
  have hM:=al;have hlen:=bm Task.tot s.tasks;have hst:s.tot=eE Task.tot s.tasks+0:=rfl;unfold wQ zo;rw[ko hk hN,aa];cases h:bw s
  · rfl
  simp only[cond_true,Rp];unfold cF cW;simp only[decide_true,cond_true]
  rw [eT s.tasks (λ t => !(!dY s t && GW s t)) (yes := some (-1)) (no := some) (λ i hi next => by
    simp only[bK,decide_true,cond_true];rw[ab,if_pos (by omega),aE,ai hi,aa,show(⟨s.now,s.ag,s.age,s.tasks,s.run,s.left,s.turns,s.next⟩:aj)=s from rfl]
    have e:kO k s.tasks[i] s=some (!(!dY s s.tasks[i]&&GW s s.tasks[i])):=by
      unfold kO cY;rw[aa,GV hk hN h,JG hk hN h];simp only[decide_true,cond_true,aa,L3 h (Rq hi)];unfold dY;cases decide (s.tasks[i].due<=s.now)<;>cases GW s s.tasks[i]<;>rfl
    rw[e,aa,au hi (by omega)]) (λnext=>by
    simp only[bK,decide_true,cond_true];rw[ab,if_neg (by omega)]) (by omega)]
  rw[cR];simp only[aa,nI];rw[SY];simp only[TD]
def fN (s:aj) (ar:List Int) (due:Int):aj× Int× Int:=
  cond (bw s&&iu ⟨s.next,ar,0,due,s.now⟩)
    (cond ((s.tasks.length:Int)==12||s.next==1000000) (s,0,2)
      (cond (zo ⟨s.now,s.ag,s.age,s.tasks++[⟨s.next,ar,0,due,s.now⟩],s.run,s.left,s.turns,s.next+1⟩)
        (⟨s.now,s.ag,s.age,s.tasks++[⟨s.next,ar,0,due,s.now⟩],s.run,s.left,s.turns,s.next+1⟩,s.next,0) (s,0,3))) (s,0,1)
theorem JH {k:Nat} {s:aj} {ar:List Int} {due:Int} (hk:s.tot+ar.length+1<k) (hN:s.tot+ar.length+1<=aT):CC k s ar due=some (fN s ar due):=by
 have hM:=al;have hlen:=bm Task.tot s.tasks;have hst:s.tot=eE Task.tot s.tasks+0:=rfl;have hT:Task.tot ⟨s.next,ar,0,due,s.now⟩=ar.length+0:=rfl;unfold CC fN;rw[qj (by omega) (by omega),aa,kg (by omega) (by omega),aa,dH (by omega) (by omega),aa,zk (t:=⟨s.next,ar,0,due,s.now⟩) (by show ar.length<k;omega) (by show ar.length<=aT;omega),aa];cases h:bw s
 ·rfl
 have hs:=bF h;simp only[Rn,cond_false,Rp];cases iu ⟨s.next,ar,0,due,s.now⟩
 ·rfl
 simp only[Rn,cond_false,cond_true];cases((s.tasks.length:Int)==12)
 case true=>rfl
 cases(s.next==(1000000:Int))
 case true=>rfl
 simp only[cond_false,Bool.or_false]
 have ht2:aj.tot ⟨s.now,s.ag,s.age,s.tasks++[⟨s.next,ar,0,due,s.now⟩],s.run,s.left,s.turns,s.next+1⟩=s.tot+(ar.length+1):=by
  unfold aj.tot;simp only[se,pU,hT];simp[eE]
 rw[cr (by omega),aH (by omega) (by omega),GY (by omega) (by omega),aa,cond_not];cases zo _<;>rfl
theorem JI {k:Nat} {s:aj} {ar:List Int} {due:Int} (hk:s.tot+ar.length+1<k) (hN:s.tot+ar.length+1<=aT):CD k s ar due=some (fN s ar due):=by
 have hM:=al;have hlen:=bm Task.tot s.tasks;have hst:s.tot=eE Task.tot s.tasks+0:=rfl;have hT:Task.tot ⟨s.next,ar,0,due,s.now⟩=ar.length+0:=rfl;unfold CD fN;rw[cS (by omega),aa,jx (by omega) (by omega),aa,ko (by omega) (by omega),aa,zl (t:=⟨s.next,ar,0,due,s.now⟩) (by show ar.length<k;omega) (by show ar.length<=aT;omega),aa];cases h:bw s
 ·rfl
 have hs:=bF h;simp only[Rn,cond_false,Rp];cases iu ⟨s.next,ar,0,due,s.now⟩
 ·rfl
 simp only[Rn,cond_false,cond_true];cases((s.tasks.length:Int)==12)
 case true=>rfl
 cases(s.next==(1000000:Int))
 case true=>rfl
 simp only[cond_false,Bool.or_false]
 have ht2:aj.tot ⟨s.now,s.ag,s.age,s.tasks++[⟨s.next,ar,0,due,s.now⟩],s.run,s.left,s.turns,s.next+1⟩=s.tot+(ar.length+1):=by
  unfold aj.tot;simp only[se,pU,hT];simp[eE]
 rw[aa,cr (by omega),aH (by omega) (by omega),GZ (by omega) (by omega),aa,cond_not];cases zo _<;>rfl
end
section
def PJ (n:Nat) (t:Task):bZ:=⟨t.id,n+1,t.at_,t.due,t.born⟩
def qk:Nat->List Task->List bZ
 |_,[]=>[]
 |n,t::l=>PJ n t::qk (n+5) l
theorem zp:∀(ts:List Task) (n:Nat),vH .task .cO n ts=some (qk n ts)
 |[],n=>rfl
 |t::l,n=>by
  have ih:=zp l (n+5);show((S.cO.eA (md n (Ms t))).bind λy=>(vH .task .cO (n+S.task.sz) l).bind λys=>some (y::ys))=_;rw[show S.task.sz=5 from rfl,ih];rfl
theorem ez:∀(ts:List Task) (n:Nat),(qk n ts).length=ts.length
 |[],n=>rfl
 |t::l,n=>by simp[qk,ez l]
theorem Bs:∀zs:List bZ,Df (di .cO zs)=zs.map (·.ar)
 |[]=>rfl
 |z::l=>by
  show Df (Af z++di .cO l)=_;rw[RS,<-Bs l];rfl
theorem E5:∀{l:List Nat},l.Nodup->gE l=true
 |[],_=>rfl
 |x::l,h=>by
  rw[Sl]at h;simp only[gE];cases hm:mem x l
  ·exact E5 h.2
  ·exact(h.1 ((mem_iff x l).1 hm)).elim
theorem Bt:∀(ts:List Task) (n:Nat),(∀z∈qk n ts,n<z.ar)/\(qk n ts).Pairwise λa b=>a.ar<b.ar
 |[],n=>⟨(λz hz=>by simp[qk]at hz),List.Pairwise.nil⟩
 |t::l,n=>by
  obtain⟨h1,h2⟩:=Bt l (n+5);refine⟨λz hz=>?_,List.Pairwise.cons (λz hz=>?_) h2⟩
  ·rcases RD.1 hz with rfl|hz
   ·show n<n+1;omega
   ·have:=h1 z hz;omega
  ·have:=h1 z hz;show n+1<z.ar;omega
theorem mJ {ts:List Task} {n:Nat} (q:bZ->Bool):jm ((qk n ts).filter q)=true:=by
 have h:=((Bt ts n).2.filter q)
 have h2:gE (((qk n ts).filter q).map (·.ar))=true:=by
  refine E5 ?_;rw[List.Nodup,List.pairwise_map]
  exact h.imp λh e=>by omega
 unfold jm;exact(congrArg gE (Bs ((qk n ts).filter q))).trans h2
theorem JJ (C:List R) (y:bZ) (l:List bZ):wc .task .cO C (y::l)=(uS C (Af y)).bind λc=>(S.task.eA c).bind λx=>(wc .task .cO C l).bind λxs=>some (x::xs):=rfl
theorem Bu (p:Task->Bool) (q:bZ->Bool) (hq:∀n t,q (PJ n t)=p t) (C:List R):∀(ts:List Task) (n:Nat),(∀(i:Nat) (h:i<ts.length),C[n+5*i]? =some (.ints ts[i].ar))->
  wc .task .cO C ((qk n ts).filter q)=some (ts.filter p)
 |[],n,_=>rfl
 |t::l,n,hC=>by
  have ih:=Bu p q hq C l (n+5) λi hi=>by
   have:=hC (i+1) (by simpa using hi);rw[show n+5+5*i=n+5*(i+1)from by omega,this];rfl
  have h0:C[n]? =some (.ints t.ar):=by
   have:=hC 0 (by simp);simpa using this
  have e1:(qk n (t::l)).filter q=cond (p t) (PJ n t::(qk (n+5) l).filter q) ((qk (n+5) l).filter q):=by
   simp only[qk,SR,hq];cases p t<;>rfl
  have e2:(t::l).filter p=cond (p t) (t::l.filter p) (l.filter p):=by
   rw[SR];cases p t<;>rfl
  refine(congrArg (wc .task .cO C) e1).trans (Eq.trans ?_ (congrArg some e2.symm));clear e1 e2;cases p t
  ·exact ih
  ·have hc:uS C (Af (PJ n t))=some (Ms t):=by
    have hu:pO C (.tok (n+1))=some (.ints t.ar):=by
     show(match C[n]? with|some (.sl t xs)=>some (R.sl t xs)|_=>none)=_;rw[h0]
    show((pO C (.i t.id)).bind λx=>((pO C (.tok (n+1))).bind λx=>((pO C (.i t.at_)).bind λx=>((pO C (.i t.due)).bind λx=>((pO C (.i t.born)).bind λx=>(some []).bind λxs=>some (x::xs)).bind λxs=>some (x::xs)).bind λxs=>some (x::xs)).bind λxs=>some (x::xs)).bind λxs=>some (x::xs))=_;rw[hu];rfl
   refine(JJ C (PJ n t) _).trans ?_;rw[hc];exact congrArg (λr:Option (List Task)=>r.bind λxs=>some (t::xs)) ih
theorem C6 (ts:List Task) (i:Nat) (h:i<ts.length):(di .task ts)[1+5*i]? =some (.ints ts[i].ar):=by
 have:=ot (s:=.task) (xs:=ts) (i:=i) (j:=1) (r:=.ints ts[i].ar) ⟨ts[i],ai h,rfl⟩;rw[show S.task.sz=5 from rfl]at this;rw[show 1+5*i=i*5+1 from by omega];exact this
theorem rn (ts:List Task):kA ts=some (qk 1 ts):=zp ts 1
theorem oV (ts:List Task) (p:Task->Bool) (q:bZ->Bool) (hq:∀n t,q (PJ n t)=p t):o6 ts ((qk 1 ts).filter q)=some (ts.filter p):=
 Bu p q hq _ ts 1 λi hi=>C6 ts i hi
theorem jy {α R:Type} (xs:List α) (p:α->Bool) {g:Int× Int× List α->(Int× Int× List α->Option R)->Option R} {fin:Int× List α->Option R}
    (h:∀(i j:Nat) (ys:List α) (hj:j<xs.length) (next:Int× Int× List α->Option R),i<=j->ys.length=xs.length->ys[j]? =some xs[j]->
      g ((i:Int),(j:Int),ys) next=cond (p xs[j]) (next ((i:Int),((j+1:Nat):Int),ys)) (next (((i+1:Nat):Int),((j+1:Nat):Int),ys.set i xs[j])))
    (hn:∀(i:Nat) (ys:List α) next,ys.length=xs.length->g ((i:Int),(xs.length:Int),ys) next=fin ((i:Int),ys)):
    ∀ (d i j : Nat) (ys : List α) (k : Nat), j + d = xs.length -> d < k -> i <= j -> ys.length = xs.length -> ys.drop j = xs.drop j -> ys.take i = (xs.take j).filter (λ x => !p x) ->
      ∃(i':Nat) (ys':List α),i'<=xs.length/\ys'.length=xs.length/\ys'.take i'=xs.filter (λx=>!p x)/\iter g k ((i:Int),(j:Int),ys)=fin ((i':Int),ys')
  |d,i,j,ys,0,_,h2,_,_,_,_=>by omega
  | 0, i, j, ys, k + 1, h1, _, h3, h4, _, h6 => by
    have hj:j=xs.length:=by omega
    subst hj;refine⟨i,ys,h3,h4,by rw[h6,Sc],?_⟩
    rw[aC];exact hn i ys _ h4
  | d + 1, i, j, ys, k + 1, h1, h2, h3, h4, h5, h6 => by
    have hj:j<xs.length:=by omega
    have hg:ys[j]? =some xs[j]:=by
      have:(ys.drop j)[0]? =(xs.drop j)[0]? :=by rw[h5]
      rw[Rv,Rv,RP]at this;rw[this];exact ai hj
    rw[aC,h i j ys hj _ h3 h4 hg]
    have hdrop:∀zs:List α,(∀m,j<m->zs[m]? =ys[m]?)->zs.drop (j+1)=xs.drop (j+1):=λzs hz=>by
      apply List.ext_getElem?;intro m;rw[Rv,Rv,hz _ (by omega)]
      have:(ys.drop j)[m+1]? =(xs.drop j)[m+1]? :=by rw[h5]
      rw[Rv,Rv]at this;rw[show j+1+m=j+(m+1)from by omega];exact this
    cases hp:p xs[j]
    · simp only[cond_false];refine jy xs p h hn d (i+1) (j+1) (ys.set i xs[j]) k (by omega) (by omega) (by omega) (by simp[h4]) (hdrop _ λm hm=>SI (by omega)) ?_;rw[dA hj,S3,<-h6]
      have hi:i<ys.length:=by omega
      rw[dA (show i<(ys.set i xs[j]).length by simp;omega),List.take_set_of_le (Rw _)];simp[hp]
    · simp only[cond_true];refine jy xs p h hn d i (j+1) ys k (by omega) (by omega) (by omega) h4 (hdrop _ λm hm=>rfl) ?_;rw[dA hj,S3,<-h6];simp[hp]
theorem filter_none {α:Type} {p:α->Bool} {xs:List α} (h:xs.findIdx? p=none):xs.filter (λx=>!p x)=xs:=by
 rw[SN]at h
 exact Ss.2 λx hx=>by rw[h x hx];rfl
theorem mK {α:Type} {p:α->Bool} {xs:List α} {i:Nat} (h:xs.findIdx? p=some i):i<xs.length/\xs.take i=(xs.take (i+1)).filter (λx=>!p x):=by
 obtain⟨hi,hp,hlt⟩:=So.1 h;refine⟨hi,?_⟩;rw[dA hi,S3]
 have h1:(xs.take i).filter (λx=>!p x)=xs.take i:=Ss.2 λx hx=>by
  obtain⟨j,hj,rfl⟩:=RU.1 hx
  have hj':j<i:=by simp at hj;omega
  rw[List.getElem_take];have:=hlt j hj';simpa using this
 rw[h1];simp[hp]
theorem rp {α:Type} {ys:List α} {i n:Nat} (z:α) (hi:i<=n) (hy:ys.length=n):((ys.take i++List.replicate (n-i) z++ys.drop (i+(n-i))).take (i-0))=ys.take i/\(ys.take i++List.replicate (n-i) z++ys.drop (i+(n-i))).length=n:=by
 refine⟨?_,by simp;omega⟩;rw[RZ,RC,Su (by simp;omega),List.take_take,Nat.min_self]
theorem zq {k:Nat} {zs:List bZ} {id:Int} (hk:zs.length<k) (hN:zs.length<=aT):ca k zs id=some ((zs.findIdx? λz=>z.id==id).elim (-1) λi=>(i:Int)):=by
 have hM:=al;unfold ca
 rw[eT zs (λt=>t.id==id) (yes:=some (-1)) (no:=some) (λi hi next=>by
  simp only[bL,dP,decide_true,cond_true,aa]
  rw[ab,if_pos (by omega),aE,ai hi,aa,au hi (by omega)]) (λnext=>by
  simp only[bL,decide_true,cond_true];rw[ab,if_neg (by omega)]) hk]
 exact cR _
theorem o8 {k:Nat} {zs:List bZ} {id:Int} (hk:zs.length<k) (hN:zs.length<=aT):bg k zs id=some (zs.filter λz=>!(z.id==id)):=by
  have hM:=al;unfold bg;rw[zq hk hN,aa]
  cases hf:zs.findIdx? λz=>z.id==id with
  | none =>
    rw[S1,filter_none hf]
    simp
  | some i =>
    obtain⟨hi,hfi⟩:=mK hf;rw[Rj,bJ,if_neg (by omega),au hi (by omega)];simp only[decide_true,cond_true]
    obtain⟨i',ys',h1,h2,h3,h4⟩:=jy zs (λz=>z.id==id) (R:=List bZ) (g:=λu5 n5=>aX k id u5 n5 (λy4=>cond (decide (0<=y4.1/\y4.1<=(y4.2.length:Int))) (cond (decide (0<=y4.1/\y4.1<=(((y4.2).take y4.1.toNat++List.replicate (y4.2.length-y4.1.toNat) (⟨(0:Int),(0:Nat),(0:Int),(0:Int),(0:Int)⟩:bZ)++(y4.2).drop (y4.1.toNat+(y4.2.length-y4.1.toNat))).length:Int))) (some (((y4.2).take y4.1.toNat++List.replicate (y4.2.length-y4.1.toNat) (⟨(0:Int),(0:Nat),(0:Int),(0:Int),(0:Int)⟩:bZ)++(y4.2).drop (y4.1.toNat+(y4.2.length-y4.1.toNat))).take (y4.1.toNat-0))) none) none))
      (fin:=λy4=>cond (decide (0<=y4.1/\y4.1<=(y4.2.length:Int))) (cond (decide (0<=y4.1/\y4.1<=(((y4.2).take y4.1.toNat++List.replicate (y4.2.length-y4.1.toNat) (⟨(0:Int),(0:Nat),(0:Int),(0:Int),(0:Int)⟩:bZ)++(y4.2).drop (y4.1.toNat+(y4.2.length-y4.1.toNat))).length:Int))) (some (((y4.2).take y4.1.toNat++List.replicate (y4.2.length-y4.1.toNat) (⟨(0:Int),(0:Nat),(0:Int),(0:Int),(0:Int)⟩:bZ)++(y4.2).drop (y4.1.toNat+(y4.2.length-y4.1.toNat))).take (y4.1.toNat-0))) none) none)
      (λi j ys hj next hij hl hg=>by
        simp only[aX,dP,decide_true,cond_true,aa,hl]
        rw[ab,if_pos (by omega),ab,if_pos (by omega),Rg,hg,aa,cond_not,ab,if_pos (by omega),au hj (by omega),au (show i<zs.length by omega) (by omega),Rg])
      (λi ys next hl=>by simp only[aX,hl];rw[ab,if_neg (by omega)])
      (zs.length-(i+1)) i (i+1) zs k (by omega) (by omega) (by omega) rfl rfl hfi
    refine h4.trans ?_;obtain⟨c1,c2⟩:=rp (⟨0,0,0,0,0⟩:bZ) h1 h2;simp only[Rg,h2];rw[c2,c1,ab,if_pos (by omega),ab,if_pos (by omega),h3]
theorem vV {k:Nat} {zs:List bZ} {a b c d e f g id:Int} (hk:zs.length<k) (hN:zs.length<=aT):fu k a b c zs d e f g id=some (zs.filter λz=>!(z.id==id)):=by
 have hM:=al;unfold fu;simp only[decide_true,cond_true]
 refine(jv zs (λz=>!(z.id==id)) (λz=>z) (g:=λu4 n4=>eG k (id,a,b,c,d,e,f,g,zs) u4 n4 (λy3=>some y3)) (fin:=some) (λi ys hi next hl=>by
  simp only[eG];rw[ab,if_pos (by omega),ab,if_pos (by omega),Rg,ai hi,aa,ab,if_pos (by omega),aa,cr (by simp;omega),au hi (by omega)]
  rfl) (λys next=>by
  simp only[eG];rw[ab,if_neg (by omega)]) hk).trans ?_
 simp
def JZ (ts:List Task) (id:Int):List Task:=ts.filter λt=>!(t.id==id)
def ql (s:aj) (id:Int):aj× Bool:=
 cond (bw s&&decide (0<=kn s.tasks id)) (⟨s.now,s.ag,s.age,JZ s.tasks id,cond (s.run==id) 0 s.run,cond (s.run==id) 0 s.left,s.turns,s.next⟩,true) (s,false)
theorem JK {k:Nat} {zs:List bZ} {a b c d e f g id:Int} (hk:zs.length<k) (hN:zs.length<=aT):dt k a b c zs d e f g id=some (zs.filter λz=>!(z.id==id),cond (d==id) 0 d,cond (d==id) 0 e):=by
 unfold dt;rw[o8 hk hN,aa];simp only[decide_true,cond_true];cases d==id<;>rfl
theorem qm {k:Nat} {s:aj} {id:Int} (hk:s.tot<k) (hN:s.tot<=aT):j6 k s id=some (ql s id):=by
 have hlen:=bm Task.tot s.tasks;have hst:s.tot=eE Task.tot s.tasks+0:=rfl;unfold j6 ql;rw[qj hk hN,aa,dH hk hN,aa];cases bw s
 ·rfl
 simp only[Rn,cond_false,Rp];rw[lk (by omega) (by omega),aa];by_cases c:kn s.tasks id<0
 ·rw[decide_eq_true c,decide_eq_false (by omega)];rfl
 rw[decide_eq_false c,decide_eq_true (by omega)];simp only[cond_false,cond_true];rw[rn,aa,vV (by rw[ez];omega) (by rw[ez];omega),aa,mJ,cond_true,oV s.tasks (λt=>!(t.id==id)) (λz=>!(z.id==id)) (λn t=>rfl),aa];unfold JZ;cases s.run==id<;>rfl
end
end Go.Proofs.Ev
