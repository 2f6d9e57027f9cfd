/- Typed functions and what holds of them: part 4. -/
import Derived.Test.YtpiopmjbcadfbaaGreatEvL3
set_option linter.unusedVariables false
set_option linter.unusedSimpArgs false
set_option linter.unusedSectionVars false
namespace Go.Proofs.Ev
section
def O0 (xs ws:List Int):Int:=(List.range xs.length).foldl (λs i=>oT s (yE (xs.getD i 0)*yE (ws.getD i 0))) 0
theorem P1 (a b:Int):IntKind.i64.wrap (yE a*yE b)=yE a*yE b:=by
 have h1:=yF a;have h2:=yF b;have:=OY (A:=128) (B:=128) (x:=yE a) (y:=yE b) (by omega) (by omega);exact aH (by omega) (by omega)
theorem Jh {k:Nat} {xs ws:List Int} (hk:xs.length<k) (hl:ws.length=xs.length) (hN:xs.length<=aT):Ch k xs ws=some (O0 xs ws):=by
 have hM:=al;unfold Ch O0
 exact nA xs.length (λs i=>oT s (yE (xs.getD i 0)*yE (ws.getD i 0))) 0 (fin:=some) (λi a next hi=>by
  simp only[qA,Em,oG]
  rw[ab,if_pos (by omega),ab,if_pos (by omega),aD,ag hi,aa,aa,aD,ag (by omega),aa,aa,aa,P1,au hi (by omega),bZ hi,bZ (by omega)]) (λa next=>by
  simp only[qA]
  rw[ab,if_neg (by omega)]) hk
theorem Ji {k:Nat} {xs ws:List Int} (hk:xs.length<k) (hl:ws.length=xs.length) (hN:xs.length<=aT):Ci k xs ws=some (O0 xs ws):=by
 have hM:=al;unfold Ci O0;rw[if_neg (by omega)]
 exact nA xs.length (λs i=>oT s (yE (xs.getD i 0)*yE (ws.getD i 0))) 0 (fin:=some) (λi a next hi=>by
  simp only[qE,En,yG]
  rw[ab,if_pos (by omega),aD,ag hi,aa,aa,aD,ag (by omega),aa,aa,aa,P1,au hi (by omega),bZ hi,bZ (by omega)]) (λa next=>by
  simp only[qE]
  rw[ab,if_neg (by omega)]) hk
def sd (l:ax) (xs:List Int) (o:Nat):Int:=
 yK (oT (O0 xs ((l.weights.take (o*xs.length+xs.length)).drop (o*xs.length))) (l.mR.getD o 0)) l.mult l.shift l.zero
theorem yM {k:Nat} {l:ax} {xs:List Int} {o:Nat} (hk:xs.length<k) (hN:xs.length<=aT) (hw:o*xs.length+xs.length<=l.weights.length) (hwN:l.weights.length<=aT) (hb:o<l.mR.length) (ho:o<8):
  fC k l xs o=some (sd l xs o):=by
 have hM:=al
 have e:(o+1)*xs.length=o*xs.length+xs.length:=by rw[Rn,Nat.one_mul]
 have e1:IntKind.i64.wrap (IntKind.i64.wrap ((o:Int)+1)*(xs.length:Int))=((o*xs.length+xs.length:Nat):Int):=by
  rw[au ho (by omega),Et (by omega),e]
 have e2:IntKind.i64.wrap ((o:Int)*(xs.length:Int))=((o*xs.length:Nat):Int):=Et (by omega);unfold fC sd;rw[e1,e2,ab,if_pos (by omega),ab,if_pos (by omega),QW,QW,Ji hk (by simp;omega) hN,aa,aD,ag hb,aa,yG,aa,Es,aa,bZ hb]
def kQ:List Int->Int
 |[]=>0
 |x::xs=>xs.foldl (λm y=>if y>m then y else m) x
theorem HN {R:Type} {xs:List Int} {x:Int} {g:Int× Int->(Int× Int->Option R)->Option R} {fin:Int->Option R} {k:Nat}
  (h:∀(i:Nat) a next (hi:i<xs.length),g (a,((i+1:Nat):Int)) next=next (if xs[i]>a then xs[i]else a,((i+1+1:Nat):Int))) (hn:∀a next,g (a,((xs.length+1:Nat):Int)) next=fin a) (hk:xs.length<k):
  iter g k (x,(1:Int))=fin (kQ (x::xs)):=by
 have:=fj (g:=g) (st:=λi=>((xs.take i).foldl (λm y=>if y>m then y else m) x,((i+1:Nat):Int))) (n:=xs.length) (r:=fin (kQ (x::xs))) (λi hi next=>by
  rw[h i _ next hi,dw hi,R4];rfl) (λnext=>by rw[hn,RP];rfl) hk
 exact this
theorem pZ:∀(xs:List Int) (x:Int),kQ (x::xs)∈x::xs
 |[],x=>by simp[kQ]
 |y::xs,x=>by
  show xs.foldl _ (if y>x then y else x)∈_;by_cases c:y>x
  ·rw[if_pos c];exact Rf _ (pZ xs y)
  ·rw[if_neg c]
   rcases Ri.1 (pZ xs x)with h|h
   ·have h:xs.foldl (λm y=>if y>m then y else m) x=x:=h;rw[h];simp
   ·exact Rf _ (Rf _ h)
theorem yN:∀{xs:List Int},(∀x∈xs,-128<=x/\x<=127)->-128*(xs.length:Int)<=xs.sum/\xs.sum<=127*(xs.length:Int)
 |[],_=>by simp
 |x::xs,h=>by
  have h1:=yN λy hy=>h y (Rf _ hy);have h2:=h x (by simp);rw[Sm,Q5];omega
theorem EA {R:Type} {xs:List Int} {g:Int× Int->(Int× Int->Option R)->Option R} {fin:Int->Option R} {k:Nat} (hx:∀x∈xs,-128<=x/\x<=127) (hN:xs.length<=aT)
  (h:∀(i:Nat) a next (hi:i<xs.length),g (a,(i:Int)) next=next (IntKind.i64.wrap (a+xs[i]),((i+1:Nat):Int))) (hn:∀a next,g (a,(xs.length:Int)) next=fin a) (hk:xs.length<k):
  iter g k ((0:Int),(0:Int))=fin xs.sum:=by
 have hM:=al
 have:=fj (g:=g) (st:=λi=>((xs.take i).sum,(i:Int))) (n:=xs.length) (r:=fin xs.sum) (λi hi next=>by
  have hb:=yN (xs:=xs.take (i+1)) λx hm=>hx x (SY hm)
  have e:(xs.take (i+1)).sum=(xs.take i).sum+xs[i]:=by rw[dw hi,SK];simp
  rw[e]at hb;simp only[RA]at hb
  rw[h i _ next hi,e,aH (by omega) (by omega)]) (λnext=>by rw[hn,RP]) hk
 exact this
def lN (W C:Nat) (xs:List Int) (l:ax) (Z S h w o:Nat):Int:=
  cond (l.kind==0) (sd l xs o) (cond (l.kind==1) (sd l (OZ W C xs Z S h w) o)
    (cond (l.kind==2) (kQ (iN W C xs Z S h w o)) (cond (l.kind==3) (gv (iN W C xs Z S h w o).sum ((Z*Z:Nat):Int))
      (cond (l.kind==4) (if atN W C xs h w o<l.zero then l.zero else atN W C xs h w o) (xs.getD o 0)))))
inductive Fits (H W C:Nat) (xs:List Int) (l:ax) (Z S h w o:Nat):Prop
 |Nh (h0:l.kind=0) (hb:o<l.mR.length) (h8:o<8) (hw:o*xs.length+xs.length<=l.weights.length)
 |conv (h0:l.kind=1) (hb:o<l.mR.length) (h8:o<8) (hw:o*(Z*(Z*C))+Z*(Z*C)<=l.weights.length) (v:Lr H W Z S h w) (hi:∀x∈l.weights,-128<=x/\x<=127)
 |max (h0:l.kind=2) (v:Lr H W Z S h w) (ho:o<C)
 |avg (h0:l.kind=3) (v:Lr H W Z S h w) (ho:o<C)
 |Qk (h0:l.kind=4) (h1:h<H) (h2:w<W) (h3:o<C) (hz:-128<=l.zero/\l.zero<=127)
 |flat (h0:l.kind=5) (ho:o<xs.length)
theorem wC {H W C:Nat} {xs:List Int} (r:kP H W C xs) {Z S h w o:Nat} (v:Lr H W Z S h w) (ho:o<C):∀x∈iN W C xs Z S h w o,-128<=x/\x<=127:=by
 intro x hx;obtain⟨z1,z3,s2,hh,ww⟩:=v;unfold iN at hx;rw[S0]at hx;obtain⟨i,hi,hx⟩:=hx;rw[S0]at hx;obtain⟨j,hj,hx⟩:=hx;rw[List.mem_range]at hi hj;rw[List.mem_singleton]at hx;rw[hx];exact HM r (by omega) (by omega) ho
theorem yO {H W C:Nat} {xs:List Int} {Z S h w o:Nat} (v:Lr H W Z S h w):∃x ys,iN W C xs Z S h w o=x::ys:=by
 have hl:=Eu W C xs Z S h w o;have:=v.z1
 have hp:1<=Z*(Z*1):=by rw[Nat.mul_one];exact RF this this
 cases hc:iN W C xs Z S h w o with
 |nil=>rw[hc]at hl;simp only[Rz]at hl;omega
 |cons x ys=>exact⟨x,ys,rfl⟩
theorem nB {H W C:Nat} {xs:List Int} {Z S h w o:Nat} (v:Lr H W Z S h w):(iN W C xs Z S h w o).length=Z*Z/\1<=Z*Z/\Z*Z<=9:=by
 have hl:=Eu W C xs Z S h w o;rw[Nat.mul_one]at hl;exact⟨hl,RF v.z1 v.z1,RF v.z3 v.z3⟩
theorem Lt {k:Nat} {H W C:Nat} {xs:List Int} (r:kP H W C xs) {l:ax} {Z S h w o:Nat} (hk:512<k) (hwN:l.weights.length<=aT) (hz:l.size=Z) (hs:l.step=S) (f:Fits H W C xs l Z S h w o):
  mm k l (uY H W C xs) h w o=some (lN W C xs l Z S h w o):=by
 have hM:=al;have hcu:=r.Pk;have hlen:=r.len;unfold mm lN
 cases f with
 |Nh h0 hb h8 hw=>
  rw[h0];show(fC k l xs o).bind _=_
  rw[yM (by omega) (by omega) hw hwN hb h8];rfl
 |conv h0 hb h8 hw v hi=>
  have hl:=CB W C xs Z S h w;have:Z*(Z*C)<=3*(3*8):=RF v.z3 (RF v.z3 r.c8);rw[h0];show(cE k l (uY H W C xs) h w (-1)).bind _=_
  rw[Ez r hk hz hs v,aa,yM (by omega) (by omega) (by rw[hl];exact hw) hwN hb h8];rfl
 |max h0 v ho=>
  rw[h0];show(cE k l (uY H W C xs) h w o).bind _=_;rw[yL r hk hz hs v ho,aa];have hl:=nB (xs:=xs) (C:=C) (o:=o) v;obtain⟨x,ys,e⟩:=yO (xs:=xs) (C:=C) (o:=o) v;rw[e]at hl;simp only[Q5]at hl;show(fk k (iN W C xs Z S h w o)).bind _=some (kQ (iN W C xs Z S h w o));rw[e];unfold fk
  rw[ab,if_neg (by simp only[Q5];omega),wi,SL,aa,HN (xs:=ys) (x:=x) (fin:=some) (λi a next hi=>by
   simp only[dR]
   rw[ab,if_pos (by simp only[Q5];omega),aD,Sy,ag hi,aa,au (show i+1<ys.length+1 by omega) (by omega)]) (λa next=>by
   simp only[dR]
   rw[ab,if_neg (by simp only[Q5];omega)]) (by omega)]
  rfl
 |avg h0 v ho=>
  rw[h0];show(cE k l (uY H W C xs) h w o).bind _=_;rw[yL r hk hz hs v ho,aa];have hl:=nB (xs:=xs) (C:=C) (o:=o) v;have hm:=wC r v ho;have hb:=yN hm;show _=some (gv (iN W C xs Z S h w o).sum ((Z*Z:Nat):Int))
  rw[EA (xs:=iN W C xs Z S h w o) (fin:=λy=>(nr k y (IntKind.i64.wrap (l.size*l.size))).bind λr9=>some r9) hm (by omega) (λi a next hi=>by
   simp only[iy]
   rw[ab,if_pos (by omega),ab,if_pos (by omega),QW,ag hi,aa,au hi (by omega)]) (λa next=>by
   simp only[iy]
   rw[ab,if_neg (by omega)]) (by omega)]
  rw[hz,Et (by omega),vE (by omega) (by omega),aa]
 |Qk h0 h1 h2 h3 hz=>
  simp only[h0,show((4:Int)==0)=false from rfl,show((4:Int)==1)=false from rfl,show((4:Int)==2)=false from rfl,show((4:Int)==3)=false from rfl,beq_self_eq_true,cond_true,cond_false];refine(congrArg (λo:Option Int=>o.bind _) (sb (k:=k) r h1 h2 h3)).trans ?_;rw[aa];show(idx xs _).bind _=_;rw[aD,Gx r h1 h2 h3]
  rfl
 |flat h0 ho=>
  rw[h0];show(idx xs (o:Int)).bind _=_;rw[aD,ag ho];show _=some (xs.getD o 0);rw[bZ ho];rfl
theorem O1 {W C:Nat} {xs:List Int} {Z S h w i j c:Nat} (hi:i<Z) (hj:j<Z) (hc:c<C):(OZ W C xs Z S h w)[i*(Z*C)+(j*C+c)]? =some (atN W C xs (h*S+i) (w*S+j) c):=by
 have hb:j*C+c<Z*C:=by
  have:(j+1)*C<=Z*C:=Re _ hj;rw[Rn]at this;omega
 unfold OZ;rw[Cy _ (Z*C) Z (λi hi=>gI _ C Z λj hj=>by simp) i (j*C+c) hi hb,Cy _ C Z (λj hj=>by simp) j c hj hc,RC,List.getElem?_range hc];rfl
theorem AX {o Z i j C c:Nat}:((o*Z+i)*Z+j)*C+c=o*(Z*(Z*C))+(i*(Z*C)+(j*C+c)):=by
 simp only[Rn,Nat.mul_assoc,RS]
theorem Ni {H W C:Nat} {xs:List Int} (r:kP H W C xs) {ws:List Int} (hi:∀x∈ws,-128<=x/\x<=127) {Z S h w o:Nat} (v:Lr H W Z S h w) (hw:o*(Z*(Z*C))+Z*(Z*C)<=ws.length):
  O0 (OZ W C xs Z S h w) ((ws.take (o*(Z*(Z*C))+Z*(Z*C))).drop (o*(Z*(Z*C))))=
   (List.range Z).foldl (λs i=>(List.range Z).foldl (λs j=>(List.range C).foldl (λs c=>oT s (atN W C xs (h*S+i) (w*S+j) c*ws.getD (((o*Z+i)*Z+j)*C+c) 0)) s) s) 0:=by
 obtain⟨z1,z3,s2,hh,ww⟩:=v;unfold O0;rw[CB,Cz];refine fold_congr Z _ λs i hi2=>?_;rw[Cz];refine fold_congr Z _ λs j hj=>?_;refine fold_congr C _ λs c hc=>?_
 have hb:j*C+c<Z*C:=by
  have:(j+1)*C<=Z*C:=Re _ hj;rw[Rn]at this;omega
 have hb2:i*(Z*C)+(j*C+c)<Z*(Z*C):=by
  have:(i+1)*(Z*C)<=Z*(Z*C):=Re _ hi2;rw[Rn]at this;omega
 have a1:=HM r (show h*S+i<H by omega) (show w*S+j<W by omega) hc;have a2:=hi _ (wB (xs:=ws) (i:=o*(Z*(Z*C))+(i*(Z*C)+(j*C+c))) (by omega));rw[Rq,O1 hi2 hj hc,Sj,Rq,Ey hb2,<-Rq,AX];unfold yE;rw[NR (by omega) (by omega),NR (by omega) (by omega)]
theorem Lu {k:Nat} {H W C:Nat} {xs:List Int} (r:kP H W C xs) {l:ax} {Z S h w o:Nat} (hk:512<k) (hwN:l.weights.length<=aT) (hz:l.size=Z) (hs:l.step=S) (f:Fits H W C xs l Z S h w o):
  tf k (uY H W C xs) l h w o=some (lN W C xs l Z S h w o):=by
 have hM:=al;have hcu:=r.Pk;have hlen:=r.len;unfold tf lN
 cases f with
 |Nh h0 hb h8 hw=>
  rw[h0];simp only[beq_self_eq_true,cond_true]
  rw[oC,aa,show(uY H W C xs).sh.size=((xs.length:Nat):Int)from by rw[hlen];exact r.size,Et (by omega),E3 (by omega),ab,if_pos (by omega),ab,if_pos (by omega),QW,QW,
   show(uY H W C xs).data=xs from rfl,Jh (by omega) (by simp;omega) (by omega),aa,aD,ag hb,aa,oG,aa,vG,aa]
  unfold sd
  rw[bZ hb]
 |conv h0 hb h8 hw v hi=>
  have hl:=CB W C xs Z S h w;have hvv:=v;obtain⟨z1,z3,s2,hh,ww⟩:=hvv;have:=r.h8;have:=r.w8;have hc8:=r.c8;have hq:Z*(Z*C)<=3*(3*8):=RF v.z3 (RF v.z3 r.c8);rw[h0];show iter _ k _=some (sd l (OZ W C xs Z S h w) o)
  refine(nA Z (λs i=>(List.range Z).foldl (λs j=>(List.range C).foldl (λs c=>oT s (atN W C xs (h*S+i) (w*S+j) c*l.weights.getD (((o*Z+i)*Z+j)*C+c) 0)) s) s) 0
   (fin:=λy=>(idx l.mR (o:Int)).bind λe14=>(l7 k y e14).bind λr15=>(nq k r15 l.mult l.shift l.zero).bind λr16=>some r16) (λi a next hi2=>?_) (λa next=>?_) (by omega)).trans ?_
  ·simp only[mf,hz,hs];rw[ab,if_pos (by omega),au hi2 (by omega)];refine nA Z (λs j=>(List.range C).foldl (λs c=>oT s (atN W C xs (h*S+i) (w*S+j) c*l.weights.getD (((o*Z+i)*Z+j)*C+c) 0)) s) a (fin:=λy=>next (y,((i+1:Nat):Int))) (λj a2 next2 hj=>?_) (λa2 next2=>?_) (by omega)
   ·simp only[md,hz,hs];rw[ab,if_pos (by omega),au hj (by omega)];refine nA C (λs c=>oT s (atN W C xs (h*S+i) (w*S+j) c*l.weights.getD (((o*Z+i)*Z+j)*C+c) 0)) a2 (fin:=λy=>next2 (y,((j+1:Nat):Int))) (λc a3 next3 hc=>?_) (λa3 next3=>?_) (by omega)
    ·have e1:h*S+i<H:=by omega
     have e2:w*S+j<W:=by omega
     have e:=sa (k:=k) r hk e1 e2 hc;have o1:o*Z<=7*3:=RF (by omega) z3;have o2:(o*Z+i)*Z<=23*3:=RF (by omega) z3;have o3:((o*Z+i)*Z+j)*C<=71*8:=RF (by omega) hc8
     have hb:j*C+c<Z*C:=by
      have:(j+1)*C<=Z*C:=Re _ hj;rw[Rn]at this;omega
     have hb2:i*(Z*C)+(j*C+c)<Z*(Z*C):=by
      have:(i+1)*(Z*C)<=Z*(Z*C):=Re _ hi2;rw[Rn]at this;omega
     have hx:((o*Z+i)*Z+j)*C+c<l.weights.length:=by rw[AX];omega
     have a1:=HM r e1 e2 hc;have a2:=hi _ (wB hx);have a3:=OY (A:=128) (B:=128) (x:=atN W C xs (h*S+i) (w*S+j) c) (y:=l.weights.getD (((o*Z+i)*Z+j)*C+c) 0) (by omega) (by omega);unfold uY at e;simp only[mb,hz,hs,uY];refine(Lq (by omega) _ _).trans ?_;rw[Et (a:=h) (by omega),E3 (b:=i) (by omega),Et (a:=w) (by omega),E3 (b:=j) (by omega),e,aa,Et (a:=o) (by omega),E3 (b:=i) (by omega),Et (by omega),E3 (b:=j) (by omega),Et (by omega),E3 (b:=c) (by omega),aD,ag hx,aa,<-bZ hx 0,aH (n:=atN W C xs (h*S+i) (w*S+j) c*l.weights.getD (((o*Z+i)*Z+j)*C+c) 0) (by omega) (by omega),oG,aa,au hc (by omega)]
    ·simp only[mb,uY];exact QF (by omega) _ _
   ·simp only[md,hz];rw[ab,if_neg (by omega)]
  ·simp only[mf,hz];rw[ab,if_neg (by omega)]
  ·rw[aD,ag hb,aa,oG,aa,vG,aa];unfold sd
   rw[hl,Ni r hi v hw,bZ hb]
 |max h0 v ho=>
  rw[h0];show(lz k (uY H W C xs) l h w o).bind _=_;rw[Ew r hk hz hs v ho,aa];have hl:=nB (xs:=xs) (C:=C) (o:=o) v;obtain⟨x,ys,e⟩:=yO (xs:=xs) (C:=C) (o:=o) v;rw[e]at hl;simp only[Q5]at hl;show _=some (kQ (iN W C xs Z S h w o));rw[e,ab,if_pos (by simp only[Q5];omega)];show(some x).bind _=_
  rw[aa,HN (xs:=ys) (x:=x) (fin:=some) (λi a next hi=>by
   simp only[mg];rw[ab,if_pos (by simp only[Q5];omega),ab,if_pos (by simp only[Q5];omega),QW,Sy,ag hi,aa,au (show i+1<ys.length+1 by omega) (by omega)]
   have hlt:0<=((i+1:Nat):Int)/\((i+1:Nat):Int)<(((x::ys).length:Nat):Int):=by rw[Q5];omega
   rw[Lq hlt,aa,ab];by_cases c:ys[i]>a
   ·rw[if_pos c,if_pos c]
   ·rw[if_neg c,if_neg c]) (λa next=>by
   simp only[mg]
   rw[ab,if_neg (by simp only[Q5];omega)]) (by omega)]
 |avg h0 v ho=>
  rw[h0];show(lz k (uY H W C xs) l h w o).bind _=_;rw[Ew r hk hz hs v ho,aa];have hl:=nB (xs:=xs) (C:=C) (o:=o) v;have hm:=wC r v ho;have hb:=yN hm;show _=some (gv (iN W C xs Z S h w o).sum ((Z*Z:Nat):Int))
  rw[EA (xs:=iN W C xs Z S h w o) (fin:=λy26=>(cond (decide (y26<(0:Int))) (cond (decide ((IntKind.i64.wrap ((2:Int)*((iN W C xs Z S h w o).length:Int)))=0)) none (some (IntKind.i64.wrap (0-(IntKind.i64.wrap ((IntKind.i64.wrap ((IntKind.i64.wrap ((-2:Int)*y26))+((iN W C xs Z S h w o).length:Int))).tdiv (IntKind.i64.wrap ((2:Int)*((iN W C xs Z S h w o).length:Int))))))))) (cond (decide ((IntKind.i64.wrap ((2:Int)*((iN W C xs Z S h w o).length:Int)))=0)) none (some (IntKind.i64.wrap ((IntKind.i64.wrap ((IntKind.i64.wrap ((2:Int)*y26))+((iN W C xs Z S h w o).length:Int))).tdiv (IntKind.i64.wrap ((2:Int)*((iN W C xs Z S h w o).length:Int))))))))) hm (by omega) (λi a next hi=>by
   simp only[mi]
   rw[ab,if_pos (by omega),ab,if_pos (by omega),QW,ag hi,aa,au hi (by omega)]) (λa next=>by
   simp only[mi]
   rw[ab,if_neg (by omega)]) (by omega)]
  rw[hl.1]at hb⊢;generalize (iN W C xs Z S h w o).sum=y at hb⊢;obtain⟨n,hn⟩:∃n:Nat,n=Z*Z:=⟨_,rfl⟩;rw[<-hn]at hb hl⊢;unfold gv;rw[aH (n:=2*(n:Int)) (by omega) (by omega),ab];by_cases c:y<0
  ·rw[if_pos c,if_pos c,ab,if_neg (by omega),aH (n:=-2*y) (by omega) (by omega),aH (n:=-2*y+(n:Int)) (by omega) (by omega),RR (by omega),show 2*-y+(n:Int)=-2*y+(n:Int)from by omega];have h:=AV (a:=-2*y+(n:Int)) (b:=2*(n:Int)) (by omega) (by omega);generalize (-2*y+(n:Int))/(2*(n:Int))=q at h;rw[aH (n:=q) (by omega) (by omega),aH (by omega) (by omega)]
   congr 1;omega
  ·rw[if_neg c,if_neg c,ab,if_neg (by omega),aH (n:=2*y) (by omega) (by omega),aH (n:=2*y+(n:Int)) (by omega) (by omega),RR (by omega)];have h:=AV (a:=2*y+(n:Int)) (b:=2*(n:Int)) (by omega) (by omega)
   rw[aH (by omega) (by omega)]
 |Qk h0 h1 h2 h3 hz=>
  rw[h0];show(om k (uY H W C xs) h w o).bind _=_;rw[sa r hk h1 h2 h3,aa];show cond (decide (atN W C xs h w o<l.zero)) _ _=some (if atN W C xs h w o<l.zero then l.zero else atN W C xs h w o);rw[ab];by_cases c:atN W C xs h w o<l.zero
  ·rw[if_pos c,if_pos c]
  ·rw[if_neg c,if_neg c]
 |flat h0 ho=>
  rw[h0];show(idx xs (o:Int)).bind _=_;rw[aD,ag ho];show _=some (xs.getD o 0);rw[bZ ho];rfl
end
section
theorem uZ {a b:Int} {x:Int} (h:a<=x/\x<=b) (h0:0<=a):∃n:Nat,x=n:=⟨x.toNat,by omega⟩
theorem vH {H W C Z S:Nat} {l:ax} {c:Int} (hz:l.size=Z) (hs:l.step=S) (s1:1<=S) (h8:H<=8) (w8:W<=8) (hzH:Z<=H) (hzW:Z<=W):
  qQ ⟨H,W,C⟩ l c=⟨((H-Z)/S+1:Nat),((W-Z)/S+1:Nat),c⟩:=by
 have key:∀n:Nat,n<=8->Z<=n->IntKind.i64.wrap ((IntKind.i64.wrap ((IntKind.i64.wrap ((n:Int)-(Z:Int))).tdiv (S:Int)))+1)=(((n-Z)/S+1:Nat):Int):=λn h1 h2=>by
  have e1:((n:Int)-(Z:Int))=((n-Z:Nat):Int):=by omega
  have e2:(((n-Z:Nat):Int)).tdiv (S:Int)=(((n-Z)/S:Nat):Int):=rfl;have e3:(n-Z)/S<=n-Z:=Nat.div_le_self _ _;rw[e1,aH (n:=((n-Z:Nat):Int)) (by omega) (by omega),e2];generalize (n-Z)/S=q at e3;rw[aH (n:=((q:Nat):Int)) (by omega) (by omega),aH (by omega) (by omega)];omega
 unfold qQ;rw[hz,hs];simp only[key H h8 hzH,key W w8 hzW]
theorem CC {n Z S:Nat} (h:n<=8) (h1:1<=Z) (h2:Z<=n):1<=(n-Z)/S+1/\(n-Z)/S+1<=8:=by
 have e3:(n-Z)/S<=n-Z:=Nat.div_le_self _ _;generalize (n-Z)/S=q at e3;omega
theorem Lv {H W Z S h w:Nat} (z1:1<=Z) (z3:Z<=3) (s1:1<=S) (s2:S<=2) (hzH:Z<=H) (hzW:Z<=W) (hh:h<(H-Z)/S+1) (hw:w<(W-Z)/S+1):Lr H W Z S h w:=by
 have a1:h*S<=H-Z:=(Nat.le_div_iff_mul_le (by omega)).1 (by omega);have a2:w*S<=W-Z:=(Nat.le_div_iff_mul_le (by omega)).1 (by omega);exact⟨z1,z3,s2,by omega,by omega⟩
theorem EB {l:ax} (h:HJ l=true):(1<=l.out/\l.out<=8)/\(l.mR.length:Int)=l.out/\∀x∈l.weights,-128<=x/\x<=127:=by
 simp only[HJ,QV,cn,decide_eq_true_eq]at h;obtain⟨h1,h2,h3,h4,h5,h6,h7⟩:=h;unfold ru at h7;rw[Ss]at h7;exact⟨h1,h5,λx hx=>cn.1 (h7 x hx)⟩
theorem va {H W C:Nat} {xs:List Int} (r:kP H W C xs) {l:ax} (hl:iJ ⟨H,W,C⟩ l=true):
  ∃Z S H' W' C':Nat,l.size=Z/\l.step=S/\shapeOf ⟨H,W,C⟩ l=⟨H',W',C'⟩/\(1<=H'/\H'<=8)/\(1<=W'/\W'<=8)/\(1<=C'/\C'<=8)/\
   ∀h w o,h<H'->w<W'->o<C'->Fits H W C xs l Z S h w o:=by
 have hr:=r;obtain⟨h1,h8,w1,w8,c1,c8,hlen,hmem⟩:=hr;have hsz:=r.size;unfold iJ at hl;rw[QV]at hl;obtain⟨-,hl⟩:=hl;unfold shapeOf;by_cases k0:l.kind=0
 ·rw[decide_eq_true k0]at hl⊢;simp only[cond_true,QV,decide_eq_true_eq,oW]at hl;obtain⟨⟨z0,s0⟩,hn,hs,hw⟩:=hl;obtain⟨ho,hb,hi⟩:=EB hn;obtain⟨O,hO⟩:=uZ ho (by omega);rw[hO]at ho hb;refine⟨0,0,1,1,O,by omega,by omega,by rw[cond_true,hO];rfl,by omega,by omega,by omega,λh w o _ _ hlt=>.Nh k0 (by omega) (by omega) ?_⟩;rw[hO,hsz]at hw;have:((O:Int)*((H*W*C:Nat):Int))=((O*(H*W*C):Nat):Int):=(RZ _ _).symm;rw[this]at hw;have:(o+1)*(H*W*C)<=O*(H*W*C):=Re _ hlt;rw[Rn,Nat.one_mul]at this;rw[hlen];omega
 rw[decide_eq_false k0]at hl⊢;simp only[cond_false]at hl⊢;by_cases k1:l.kind=1
 ·rw[decide_eq_true k1]at hl⊢;simp only[cond_true,QV,decide_eq_true_eq]at hl⊢;obtain⟨hwin,hn,hw,hw6⟩:=hl;obtain⟨z1,z3,s1,s2,zh,zw⟩:=pT hwin;obtain⟨ho,hb,hi⟩:=EB hn;obtain⟨O,hO⟩:=uZ ho (by omega);obtain⟨Z,hZ⟩:=uZ ⟨z1,z3⟩ (by omega);obtain⟨S,hS⟩:=uZ ⟨s1,s2⟩ (by omega);rw[hO]at ho hb;rw[hZ]at z1 z3 zh zw;rw[hS]at s1 s2
  have zh:Z<=H:=by have:((Z:Nat):Int)<=(H:Int):=zh;omega
  have zw:Z<=W:=by have:((Z:Nat):Int)<=(W:Int):=zw;omega
  have d1:=CC (S:=S) h8 (show 1<=Z by omega) zh;have d2:=CC (S:=S) w8 (show 1<=Z by omega) zw;refine⟨Z,S,(H-Z)/S+1,(W-Z)/S+1,O,hZ,hS,by rw[vH hZ hS (by omega) h8 w8 zh zw,hO],d1,d2,by omega,λh w o hh hw2 hlt=>.conv k1 (by omega) (by omega) ?_ (Lv (by omega) (by omega) (by omega) (by omega) zh zw hh hw2) hi⟩;rw[hO,hZ]at hw
  have:((O:Int)*(Z:Int)*(Z:Int)*(C:Int))=((O*(Z*(Z*C)):Nat):Int):=by
   rw[RZ,RZ,RZ,Tr,Tr]
  have hw:(l.weights.length:Int)=(O:Int)*(Z:Int)*(Z:Int)*(C:Int):=hw;rw[this]at hw;have:(o+1)*(Z*(Z*C))<=O*(Z*(Z*C)):=Re _ hlt;rw[Rn,Nat.one_mul]at this;omega
 rw[decide_eq_false k1]at hl⊢;simp only[cond_false]at hl⊢;by_cases k2:l.kind=2\/l.kind=3
 ·have hk:(decide (l.kind=2)||decide (l.kind=3))=true:=by simpa using k2
  rw[hk]at hl;simp only[cond_true,QV,decide_eq_true_eq]at hl;obtain⟨hwin,hn,hw⟩:=hl;obtain⟨z1,z3,s1,s2,zh,zw⟩:=pT hwin;obtain⟨Z,hZ⟩:=uZ ⟨z1,z3⟩ (by omega);obtain⟨S,hS⟩:=uZ ⟨s1,s2⟩ (by omega);rw[hZ]at z1 z3 zh zw;rw[hS]at s1 s2
  have zh:Z<=H:=by have:((Z:Nat):Int)<=(H:Int):=zh;omega
  have zw:Z<=W:=by have:((Z:Nat):Int)<=(W:Int):=zw;omega
  have d1:=CC (S:=S) h8 (show 1<=Z by omega) zh;have d2:=CC (S:=S) w8 (show 1<=Z by omega) zw;rw[decide_eq_false (show¬l.kind=4 by omega),decide_eq_false (show¬l.kind=5 by omega)];simp only[cond_false];refine⟨Z,S,(H-Z)/S+1,(W-Z)/S+1,C,hZ,hS,vH hZ hS (by omega) h8 w8 zh zw,d1,d2,by omega,λh w o hh hw2 hlt=>?_⟩;have v:=Lv (by omega) (by omega) (by omega) (by omega) zh zw hh hw2
  rcases k2 with k2|k2
  ·exact .max k2 v hlt
  ·exact .avg k2 v hlt
 have hk:(decide (l.kind=2)||decide (l.kind=3))=false:=by simpa using k2
 rw[hk]at hl;simp only[cond_false]at hl;by_cases k4:l.kind=4
 ·rw[decide_eq_true k4]at hl⊢;simp only[cond_true,QV,decide_eq_true_eq,oW,cn]at hl⊢;obtain⟨⟨z0,s0⟩,hn,hz⟩:=hl;exact⟨0,0,H,W,C,by omega,by omega,rfl,by omega,by omega,by omega,λh w o a b c=>.Qk k4 a b c hz⟩
 rw[decide_eq_false k4]at hl⊢;simp only[cond_false]at hl⊢;by_cases k5:l.kind=5
 ·rw[decide_eq_true k5]at hl⊢;simp only[cond_true,QV,decide_eq_true_eq,oW]at hl⊢;obtain⟨⟨z0,s0⟩,hn,hz,hs⟩:=hl;have p1:1<=H*W:=RF h1 w1;have p2:1<=H*W*C:=RF p1 c1;rw[hsz]at hs⊢;exact⟨0,0,1,1,H*W*C,by omega,by omega,rfl,by omega,by omega,by omega,λh w o a b c=>.flat k5 (by rw[hlen];exact c)⟩
 rw[decide_eq_false k5]at hl;exact nomatch hl
theorem Jj {x d:Int} (hd:1<=d) (h1:-128*d<=x) (h2:x<=127*d):-128<=gv x d/\gv x d<=127:=by
 unfold gv;by_cases c:x<0
 ·rw[if_pos c];have a1:0<=(2*-x+d)/(2*d):=Int.ediv_nonneg (by omega) (by omega);have a2:(2*-x+d)/(2*d)<129:=Int.ediv_lt_of_lt_mul (by omega) (by omega);omega
 ·rw[if_neg c];have a1:0<=(2*x+d)/(2*d):=Int.ediv_nonneg (by omega) (by omega);have a2:(2*x+d)/(2*d)<128:=Int.ediv_lt_of_lt_mul (by omega) (by omega);omega
theorem Nj {H W C:Nat} {xs:List Int} (r:kP H W C xs) {l:ax} {Z S h w o:Nat} (f:Fits H W C xs l Z S h w o):-128<=lN W C xs l Z S h w o/\lN W C xs l Z S h w o<=127:=by
 unfold lN
 cases f with
 |Nh h0 hb h8 hw=>rw[h0];exact yF _
 |conv h0 hb h8 hw v hi=>rw[h0];exact yF _
 |max h0 v ho=>
  rw[h0];obtain⟨x,ys,e⟩:=yO (xs:=xs) (C:=C) (o:=o) v;show -128<=kQ (iN W C xs Z S h w o)/\kQ (iN W C xs Z S h w o)<=127;have:=wC r v ho;rw[e]at this⊢
  exact this _ (pZ ys x)
 |avg h0 v ho=>
  rw[h0];have hl:=nB (xs:=xs) (C:=C) (o:=o) v;have hb:=yN (wC r v ho);rw[hl.1]at hb;show -128<=gv (iN W C xs Z S h w o).sum ((Z*Z:Nat):Int)/\gv (iN W C xs Z S h w o).sum ((Z*Z:Nat):Int)<=127
  exact Jj (by omega) hb.1 hb.2
 |Qk h0 h1 h2 h3 hz=>
  rw[h0];have:=HM r h1 h2 h3;show -128<=(if atN W C xs h w o<l.zero then l.zero else atN W C xs h w o)/\(if atN W C xs h w o<l.zero then l.zero else atN W C xs h w o)<=127;by_cases c:atN W C xs h w o<l.zero
  ·rw[if_pos c];exact hz
  ·rw[if_neg c];exact this
 |flat h0 ho=>rw[h0];exact r.mem _ (wB ho)
def runN (W C:Nat) (xs:List Int) (l:ax) (Z S H' W' C':Nat):List Int:=
 (List.range H').flatMap λh=>(List.range W').flatMap λw=>(List.range C').flatMap λo=>[lN W C xs l Z S h w o]
def L9 (t:av) (l:ax):av× Bool:=
 cond (t.okB&&iJ t.sh l) (⟨shapeOf t.sh l,runN t.sh.w.toNat t.sh.c.toNat t.data l l.size.toNat l.step.toNat (shapeOf t.sh l).h.toNat (shapeOf t.sh l).w.toNat (shapeOf t.sh l).c.toNat⟩,true) (⟨ji,[]⟩,false)
theorem Nk (W C:Nat) (xs:List Int) (l:ax) (Z S H' W' C':Nat):(runN W C xs l Z S H' W' C').length=H'*(W'*(C'*1)):=
 gI _ _ _ λi hi=>gI _ _ _ λj hj=>gI _ _ _ λo ho=>rfl
theorem Jk {t:av} {l:ax} (h1:t.okB=true) (h2:iJ t.sh l=true):(L9 t l).1.okB=true/\(L9 t l).1.sh=shapeOf t.sh l/\(L9 t l).2=true:=by
 obtain⟨H,W,C,r,e⟩:=CA h1
 have e2:t.sh=⟨H,W,C⟩:=by rw[e];rfl
 have h2':=h2;rw[e2]at h2';obtain⟨Z,S,H',W',C',hz,hs,hsh,a1,a2,a3,hf⟩:=va r h2';unfold L9;rw[h1,h2];simp only[Bool.and_self,cond_true];refine And.intro ?_ (by simp);rw[e2,hsh,show l.size.toNat=Z from by omega,show l.step.toNat=S from by omega];simp only[QW];refine kP.ok (H:=H') (W:=W') (C:=C') ⟨a1.1,a1.2,a2.1,a2.2,a3.1,a3.2,by rw[Nk,Nat.mul_one,Nat.mul_assoc],λx hx=>?_⟩;unfold runN at hx;rw[S0]at hx;obtain⟨i,hi,hx⟩:=hx;rw[S0]at hx;obtain⟨j,hj,hx⟩:=hx;rw[S0]at hx;obtain⟨o,ho,hx⟩:=hx;rw[List.mem_range]at hi hj ho;rw[List.mem_singleton]at hx;rw[hx];exact Nj r (hf i j o hi hj ho)
theorem CD {k:Nat} {t:av} {l:ax} (hk:512<k) (hd:t.data.length<k) (hdN:t.data.length<=aT) (hl:l.tot<k) (hlN:l.tot<=aT):qB k t l=some (L9 t l):=by
 have hM:=al;unfold qB L9;rw[oD hd (by unfold tT;omega),aa];cases h1:t.okB
 ·rfl
 simp only[Q1,cond_false,Q2];rw[oE hl hlN,aa];unfold gK;cases h2:iJ t.sh l
 ·rfl
 obtain⟨H,W,C,r,e⟩:=CA h1;obtain⟨sh,xs⟩:=t;have e2:sh=⟨H,W,C⟩:=congrArg av.sh e;subst e2;obtain⟨Z,S,H',W',C',hz,hs,hsh,a1,a2,a3,hf⟩:=va r h2
 have hwN:l.weights.length<=aT:=by unfold ax.tot at hlN;omega
 simp only[cond_true,Q1,cond_false];rw[hsh,show l.size.toNat=Z from by omega,show l.step.toNat=S from by omega];simp only[QW]
 have m1:∀w:Nat,∀h:Nat,((List.range C').flatMap λo=>[lN W C xs l Z S h w o]).length<=8:=λw h=>by
  have:=kO (λo=>[lN W C xs l Z S h w o]) 1 C' (λ_ _=>Rb _);omega
 have m2:∀h:Nat,((List.range W').flatMap λw=>(List.range C').flatMap λo=>[lN W C xs l Z S h w o]).length<=64:=λh=>by
  have:=kO (λw=>(List.range C').flatMap λo=>[lN W C xs l Z S h w o]) 8 W' (λw _=>m1 w h);omega
 refine(fB H' 64 (λh=>(List.range W').flatMap λw=>(List.range C').flatMap λo=>[lN W C xs l Z S h w o]) [] (fin:=λy=>some ((⟨⟨H',W',C'⟩,y⟩:av),true)) (λh _=>m2 h) (λh ys next hi hy=>?_) (λys next=>?_) (by omega)).trans (by rw[Sf];rfl)
 ·simp only[kA];rw[ab,if_pos (by omega),au hi (by omega)];refine fB W' 8 (λw=>(List.range C').flatMap λo=>[lN W C xs l Z S h w o]) ys (fin:=λy=>next (((h+1:Nat):Int),y)) (λw _=>m1 w h) (λw zs next2 hj hz2=>?_) (λzs next2=>?_) (by omega)
  ·simp only[kz];rw[ab,if_pos (by omega),au hj (by omega)];refine fB C' 1 (λo=>[lN W C xs l Z S h w o]) zs (fin:=λy=>next2 (((w+1:Nat):Int),y)) (λ_ _=>Rb _) (λo us next3 ho hz3=>?_) (λus next3=>?_) (by omega)
   ·simp only[ky];simp only[Rz]at hy;have eq:=Lu (k:=k) r (l:=l) hk hwN hz hs (hf h w o hi hj ho);rw[ab,if_pos (by omega)];refine(congrArg (λo:Option Int=>o.bind _) eq).trans ?_;rw[aa,cu (by simp;omega),au ho (by omega)]
   ·simp only[ky];rw[ab,if_neg (by omega)]
  ·simp only[kz];rw[ab,if_neg (by omega)]
 ·simp only[kA];rw[ab,if_neg (by omega)]
theorem CE {k:Nat} {t:av} {l:ax} (hk:512<k) (hd:t.data.length<k) (hdN:t.data.length<=aT) (hl:l.tot<k) (hlN:l.tot<=aT):qF k t l=some (L9 t l):=by
 have hM:=al;unfold qF L9;rw[oF hl hlN,aa,tD hd (by unfold tT;omega)];unfold gK;cases h2:iJ t.sh l
 ·cases t.okB<;>rfl
 simp only[cond_true,Q1,cond_false,aa];cases h1:t.okB
 ·rfl
 simp only[Q1,cond_false,Bool.and_self,cond_true];obtain⟨H,W,C,r,e⟩:=CA h1;obtain⟨sh,xs⟩:=t;have e2:sh=⟨H,W,C⟩:=congrArg av.sh e;subst e2;obtain⟨Z,S,H',W',C',hz,hs,hsh,a1,a2,a3,hf⟩:=va r h2
 have hwN:l.weights.length<=aT:=by unfold ax.tot at hlN;omega
 rw[hsh,show l.size.toNat=Z from by omega,show l.step.toNat=S from by omega];simp only[QW]
 have m1:∀w:Nat,∀h:Nat,((List.range C').flatMap λo=>[lN W C xs l Z S h w o]).length<=8:=λw h=>by
  have:=kO (λo=>[lN W C xs l Z S h w o]) 1 C' (λ_ _=>Rb _);omega
 have m2:∀h:Nat,((List.range W').flatMap λw=>(List.range C').flatMap λo=>[lN W C xs l Z S h w o]).length<=64:=λh=>by
  have:=kO (λw=>(List.range C').flatMap λo=>[lN W C xs l Z S h w o]) 8 W' (λw _=>m1 w h);omega
 refine(fB H' 64 (λh=>(List.range W').flatMap λw=>(List.range C').flatMap λo=>[lN W C xs l Z S h w o]) [] (fin:=λy=>some ((⟨⟨H',W',C'⟩,y⟩:av),true)) (λh _=>m2 h) (λh ys next hi hy=>?_) (λys next=>?_) (by omega)).trans (by rw[Sf];rfl)
 ·simp only[kD];rw[ab,if_pos (by omega),au hi (by omega)];refine fB W' 8 (λw=>(List.range C').flatMap λo=>[lN W C xs l Z S h w o]) ys (fin:=λy=>next (((h+1:Nat):Int),y)) (λw _=>m1 w h) (λw zs next2 hj hz2=>?_) (λzs next2=>?_) (by omega)
  ·simp only[kC];rw[ab,if_pos (by omega),au hj (by omega)];refine fB C' 1 (λo=>[lN W C xs l Z S h w o]) zs (fin:=λy=>next2 (((w+1:Nat):Int),y)) (λ_ _=>Rb _) (λo us next3 ho hz3=>?_) (λus next3=>?_) (by omega)
   ·simp only[kB];simp only[Rz]at hy;have eq:=Lt (k:=k) r (l:=l) hk hwN hz hs (hf h w o hi hj ho);rw[ab,if_pos (by omega)];refine(congrArg (λo:Option Int=>o.bind _) eq).trans ?_;rw[aa,cu (by simp;omega),au ho (by omega)]
   ·simp only[kB];rw[ab,if_neg (by omega)]
  ·simp only[kC];rw[ab,if_neg (by omega)]
 ·simp only[kD];rw[ab,if_neg (by omega)]
end
section
end
section
end
section
def yP:ax:=⟨0,0,0,0,0,0,0,[],[]⟩
theorem AY:∀(ls:List ax) (s:Shape) (t:List Shape),cQ s ls=some t->∀i,i<ls.length->iJ ((s::t).getD i ji) (ls.getD i yP)=true/\(s::t).getD (i+1) ji=shapeOf ((s::t).getD i ji) (ls.getD i yP)
 |[],s,t,h,i,hi=>by simp at hi
 |l::ls,s,t,h,i,hi=>by
  simp only[cQ]at h;cases hb:iJ s l<;>simp only[hb,cond_true,cond_false]at h
  ·exact nomatch h
  ·obtain⟨t',h1,rfl⟩:=Q0.1 h
   cases i with
   |zero=>exact⟨hb,rfl⟩
   |succ i=>exact AY ls (shapeOf s l) t' h1 i (by simpa using hi)
theorem qV {m:Model} (h:ep m=true):(1<=m.aB.length/\m.aB.length<=6)/\∀i,i<m.aB.length->iJ ((ch m).getD i ji) (m.aB.getD i yP)=true/\(ch m).getD (i+1) ji=shapeOf ((ch m).getD i ji) (m.aB.getD i yP):=by
 unfold ch;rw[h,cond_true];unfold ep at h;unfold dP at h⊢;cases h1:(m.inp.okB&&inB (m.aB.length:Int) 1 6)<;>rw[h1]at h
 ·exact nomatch h
 ·simp only[cond_true]at h⊢;rw[QV,cn]at h1
  cases h2:cQ m.inp m.aB with
  |none=>rw[h2]at h;exact nomatch h
  |some t=>exact⟨by omega,AY m.aB m.inp t h2⟩
theorem j7 {j:Job} (h:tU j=true):ep j.model=true/\(0<=j.at_/\j.at_<=j.model.aB.length)/\j.act.okB=true/\j.act.sh=(ch j.model).getD j.at_.toNat ji/\j.iL=QD ((bC j.model).take j.at_.toNat):=by
 unfold tU at h;simp only[QV,cn,decide_eq_true_eq]at h;exact h
theorem Lw {j:Job} (h:tU j=true):j.act.data.length<=512/\j.tot<=j.model.tot+512:=by
 have h1:=(j7 h).2.2.1;unfold av.okB at h1;simp only[QV,decide_eq_true_eq]at h1;have:=Shape.Lg j.act.sh;unfold Job.tot av.tot;omega
def yQ (j:Job):ax:=j.model.aB.getD j.at_.toNat yP
def Jl (j:Job):Int:=(bC j.model).getD j.at_.toNat 0
def vW (j:Job):Job:=⟨j.model,j.at_+1,(L9 j.act (yQ j)).1,IntKind.i64.wrap (j.iL+Jl j)⟩
theorem Lx {j:Job} (h:tU j=true) (hd:j.at_≠(j.model.aB.length:Int)):tU (vW j)=true:=by
 obtain⟨hm,hat,hok,hsh,hsp⟩:=j7 h;obtain⟨hlen,hg⟩:=qV hm;obtain⟨hl,hs⟩:=hg j.at_.toNat (by omega);rw[<-hsh]at hl hs;obtain⟨r1,r2,r3⟩:=Jk hok hl;have hcl:=hY hm
 have hi:j.at_.toNat<(bC j.model).length:=by omega
 have e:(j.at_+1).toNat=j.at_.toNat+1:=by omega
 unfold tU vW;simp only[QV,cn,decide_eq_true_eq,hm,true_and,e];refine⟨by omega,r1,?_,?_⟩
 ·show(L9 j.act (yQ j)).1.sh=_;rw[hs];exact r2
 ·unfold QD Jl;rw[dw hi,R4,bZ hi,hsp];rfl
theorem O2 {V R:Type} {g:V->(V->Option R)->Option R} {fin:V->Option R} {st:Nat->V} {n:Nat} {k:Nat} (h:∀i,i<n->∀next,g (st i) next=next (st (i+1))) (hn:∀next,g (st n) next=fin (st n)) (hk:n<k):iter g k (st 0)=fin (st n):=
 fj (g:=g) (st:=st) (n:=n) (r:=fin (st n)) h hn hk
theorem Gy {k:Nat} {j:Job} (hk:j.tot+8<k) (hN:j.tot<=aT) (h:tU j=true):wu k j=some ((bC j.model).drop j.at_.toNat):=by
 have hM:=al;obtain⟨hm,hat,hok,hsh,hsp⟩:=j7 h;obtain⟨hlen,hg⟩:=qV hm;have hcl:=hY hm;have ht:j.tot=j.model.tot+(j.act.tot+0):=rfl;unfold wu;rw[qR (by omega) hN,aa,h];simp only[Q1,cond_false];rw[j5 (by omega) (by omega),aa]
 have e0:(j.at_,([]:List Int))=(((j.at_.toNat+0:Nat):Int),((bC j.model).drop j.at_.toNat).take 0):=by
  rw[List.take_zero];congr 1;omega
 rw[e0];refine(O2 (g:=λu5 n5=>lA k (bC j.model) u5 n5 (λy4=>some y4)) (fin:=λv=>some v.2) (st:=λi=>(((j.at_.toNat+i:Nat):Int),((bC j.model).drop j.at_.toNat).take i)) (n:=(bC j.model).length-j.at_.toNat) (λi hi next=>?_) (λnext=>?_) (by omega)).trans ?_
 ·have hi2:j.at_.toNat+i<(bC j.model).length:=by omega
  have hi3:i<((bC j.model).drop j.at_.toNat).length:=by simp;omega
  simp only[lA];rw[ab,if_pos (by omega),ab,if_pos (by omega),QW,ag hi2,aa,cu (by simp;omega),au hi2 (by omega),dw hi3,List.getElem_drop];rfl
 ·simp only[lA];rw[ab,if_neg (by omega)]
 ·rw[Sn (by simp)]
theorem Gz {k:Nat} {j:Job} (hk:j.tot+8<k) (hN:j.tot<aT) (h:tU j=true):wv k j=some ((bC j.model).drop j.at_.toNat):=by
 obtain⟨hm,hat,hok,hsh,hsp⟩:=j7 h;have hcl:=hY hm;have ht:j.tot=j.model.tot+(j.act.tot+0):=rfl;unfold wv;rw[AM (by omega) hN,aa,h];simp only[Q1,cond_false];rw[j6 (by omega) (by omega),aa,ab,if_pos (by omega),Sn (by simp)]
theorem Ly (xs:List Int) (n:Nat):(xs.drop n)[0]? =if n<xs.length then some (xs.getD n 0)else none:=by
 rw[Ra,Ru];by_cases c:n<xs.length
 ·rw[if_pos c,ag c,bZ c]
 ·rw[if_neg c,Ro (by omega)]
theorem EC {xs:List Int} {n:Nat} (h:¬n<xs.length):xs.getD n 0=0:=by
 rw[Rq,Ro (by omega)];rfl
theorem CF {k:Nat} {j:Job} (hk:j.tot+8<k) (hN:j.tot<=aT) (h:tU j=true):qC k j=some (Jl j):=by
 unfold qC Jl;rw[Gy hk hN h,aa,Ef,ab,R3];by_cases c:j.at_.toNat<(bC j.model).length
 ·rw[if_neg (by omega),ab,if_pos (by omega)];show(((bC j.model).drop j.at_.toNat)[0]?).bind _=_;rw[Ly,if_pos c,aa]
 ·rw[if_pos (by omega),EC c]
theorem CG {k:Nat} {j:Job} (hk:j.tot+8<k) (hN:j.tot<aT) (h:tU j=true):qD k j=some (Jl j):=by
 unfold qD Jl;rw[Gz hk hN h,aa,Ef,ab,R3];by_cases c:j.at_.toNat<(bC j.model).length
 ·rw[if_neg (by omega),wi,Ly,if_pos c,aa]
 ·rw[if_pos (by omega),EC c]
theorem ED {k:Nat} {j:Job} (hk:j.tot<k) (hN:j.tot<=aT):s9 k j=some j:=by
 have ht:j.tot=j.model.tot+(j.act.data.length+0+0):=rfl;unfold s9;rw[pV (by omega) (by omega),aa,pR (by omega) (by omega),aa]
def Nl (j:Job):Job× Bool:=cond (tU j&&!(j.at_==(j.model.aB.length:Int))) (vW j,true) (j,false)
theorem EE {k:Nat} {j:Job} (hk:j.tot<k) (hN:j.tot<=aT) (h:tU j=true):ta k j=some (j.at_==(j.model.aB.length:Int)):=by
 unfold ta;rw[qR hk hN,aa,h];rfl
theorem EF {j:Job} (h:tU j=true) (hd:j.at_≠(j.model.aB.length:Int)):j.model.aB[j.at_.toNat]? =some (yQ j)/\(yQ j).tot<=j.model.tot:=by
 obtain⟨hm,hat,hok,hsh,hsp⟩:=j7 h
 have hi:j.at_.toNat<j.model.aB.length:=by omega
 unfold yQ;rw[bZ hi];have:=eH ax.tot (Q3 hi);exact⟨ag hi,by unfold Model.tot;omega⟩
theorem vI {k:Nat} {j:Job} (hk:j.tot+513<k) (hN:j.tot<=aT):tj k j=some (Nl j):=by
 have hM:=al;have ht:j.tot=j.model.tot+(j.act.data.length+0+0):=rfl;unfold tj Nl;rw[ED (by omega) hN,aa,qR (by omega) hN,aa];cases h:tU j
 ·rfl
 simp only[Q1,cond_false,Q2];rw[EE (by omega) hN h,aa,Ef];obtain⟨hm,hat,hok,hsh,hsp⟩:=j7 h;obtain⟨hlen,_⟩:=qV hm;by_cases c:j.at_=(j.model.aB.length:Int)
 ·rw[decide_eq_true c];rfl
 rw[decide_eq_false c];simp only[cond_false,Rm,cond_true];obtain⟨hl,hlt⟩:=EF h c;rw[rQ _ hat.1,hl,aa,CD (by omega) (by omega) (by omega) (by omega) (by omega),aa,CF (by omega) hN h,aa,aH (n:=j.at_+1) (by omega) (by omega)];rfl
end
section
end
section
theorem oI (b c:Bool):cond b (some c) (some false)=some (b&&c):=by cases b<;>rfl
theorem NT (a b:Int):decide (a>=b)=!decide (a<b):=by rw[<-decide_not];exact decide_eq_decide.2 (by omega)
theorem Lz (a b:Int):decide (a>b)=!decide (a<=b):=by rw[<-decide_not];exact decide_eq_decide.2 (by omega)
theorem EG {R:Type} (n:Nat) (p:Nat->Bool) {g:Int->(Int->Option R)->Option R} {yes no:Option R}
  (h:∀(i:Nat) (hi:i<n) (next:Int->Option R),g (i:Int) next=cond (p i) (next ((i+1:Nat):Int)) no)
  (hn:∀next,g (n:Int) next=yes) {k:Nat} (hk:n<k):iter g k 0=cond ((List.range n).all p) yes no:=
 nY (List.range n) p (g:=g) (yes:=yes) (no:=no) (λi hi next=>by rw[h i (by simpa using hi)];simp) (λnext=>by simpa using hn next) (by simpa using hk)
theorem jk {α β R:Type} (xs:List α) (p:α->Bool) (f:α->β) {g:Int× List β->(Int× List β->Option R)->Option R} {fin:List β->Option R}
  (h:∀(i:Nat) (ys:List β) (hi:i<xs.length) (next:Int× List β->Option R),ys.length<=i->g ((i:Int),ys) next=cond (p xs[i]) (next (((i+1:Nat):Int),ys++[f xs[i]])) (next (((i+1:Nat):Int),ys)))
  (hn:∀ys next,g ((xs.length:Int),ys) next=fin ys) {k:Nat} (hk:xs.length<k):iter g k (0,[])=fin ((xs.filter p).map f):=by
 have:=fj (g:=g) (st:=λi=>((i:Int),((xs.take i).filter p).map f)) (n:=xs.length) (r:=fin ((xs.filter p).map f)) (λi hi next=>by
  rw[h i _ hi next (by simp only[S7];exact R5 (Sr _ _) (by simp;omega)),dw hi,SF,RY];cases hp:p xs[i]
  ·simp[hp]
  ·simp[hp]) (λnext=>by rw[RP];exact hn _ _) hk
 simpa using this
theorem yR {α:Type} {f:α->Int} {B:Int}:∀(xs:List α) (hf:∀x∈xs,0<=f x/\f x<=B),0<=(xs.map f).sum/\(xs.map f).sum<=B*xs.length
 |[],_=>by simp
 |x::xs,hf=>by
  have:=yR xs λy hy=>hf y (by simp[hy]);have h2:=hf x (by simp);simp only[Rx,Sm,Q5];rw[Int.natCast_add,Int.mul_add];omega
theorem HO {α R:Type} (xs:List α) (f:α->Int) {B:Int} (hf:∀x∈xs,0<=f x/\f x<=B) {g:Int× Int->(Int× Int->Option R)->Option R} {fin:Int->Option R}
  (h:∀(i:Nat) (s:Int) (hi:i<xs.length) (next:Int× Int->Option R),0<=s->s<=B*i->g (s,(i:Int)) next=next (s+f xs[i],((i+1:Nat):Int)))
  (hn:∀s next,g (s,(xs.length:Int)) next=fin s) {k:Nat} (hk:xs.length<k):iter g k (0,0)=fin ((xs.map f).sum):=by
 have:=fj (g:=g) (st:=λi=>(((xs.take i).map f).sum,(i:Int))) (n:=xs.length) (r:=fin ((xs.map f).sum)) (λi hi next=>by
  have hb:=yR (f:=f) (B:=B) (xs.take i) (λx hx=>hf x (SY hx));rw[RA,S8 (by omega)]at hb;rw[h i _ hi next hb.1 hb.2,dw hi,RY,SK]
  simp) (λnext=>by rw[RP];exact hn _ _) hk
 simpa using this
theorem EH {R:Type} (xs:List Int) (a:Nat) (ha:a<=xs.length) {B:Int} (hB:0<=B) (hf:∀x∈xs,0<=x/\x<=B) {g:Int× Int->(Int× Int->Option R)->Option R} {fin:Int->Option R}
  (h:∀(i:Nat) (s:Int) (hi:i<xs.length) (next:Int× Int->Option R),0<=s->s<=B*i->g (s,(i:Int)) next=next (s+xs[i],((i+1:Nat):Int)))
  (hn:∀s next,g (s,(xs.length:Int)) next=fin s) {k:Nat} (hk:xs.length<k):iter g k (0,(a:Int))=fin ((xs.drop a).sum):=by
 have:=fj (g:=g) (st:=λi=>(((xs.drop a).take i).sum,((a+i:Nat):Int))) (n:=xs.length-a) (r:=fin ((xs.drop a).sum)) (λi hi next=>by
  have hb:=yR (f:=λx:Int=>x) (B:=B) ((xs.drop a).take i) (λx hx=>hf x (List.mem_of_mem_drop (SY hx)));rw[RA,R3,S8 (by omega),Ti]at hb;have hle:B*(i:Int)<=B*((a+i:Nat):Int):=Int.mul_le_mul_of_nonneg_left (by omega) hB;rw[h (a+i) _ (by omega) next hb.1 (by omega),dw (show i<(xs.drop a).length by simp;omega),SK]
  simp[RS]) (λnext=>by
   rw[show a+(xs.length-a)=xs.length by omega,Sn (by simp)];exact hn _ _) (k:=k) (by omega)
 simpa using this
def ie (t:Task):Bool:=inB t.id 1 1000000&&(inB (t.ar.length:Int) 1 6&&(inB t.at_ 0 ((t.ar.length:Int)-1)&&(inB t.due 0 1000000&&(inB t.born 0 1000000&&t.ar.all λx=>inB x 1 1000))))
theorem cd {t:Task} (h:ie t=true):(1<=t.id/\t.id<=1000000)/\(1<=t.ar.length/\t.ar.length<=6)/\(0<=t.at_/\t.at_<t.ar.length)/\(0<=t.due/\t.due<=1000000)/\(0<=t.born/\t.born<=1000000)/\∀x∈t.ar,1<=x/\x<=1000:=by
 unfold ie inB at h;simp only[QV,decide_eq_true_eq,Ss]at h;obtain⟨h1,h2,h3,h4,h5,h6⟩:=h;exact⟨h1,by omega,by omega,h4,h5,h6⟩
theorem p6 (k:Nat) (x:Int):jT k x=some (inB x 0 1000000):=by unfold jT;rw[cD];rfl
theorem se (k:Nat) (x:Int):mo k x=some (inB x 0 1000000):=by unfold mo;rw[fE];rfl
theorem yS {k:Nat} {t:Task} (hk:t.ar.length<k) (hN:t.ar.length<=aT):tq k t=some (ie t):=by
 have hM:=al;unfold tq ie;simp only[cD,p6,aa,cond_not]
 rw[aH (by omega) (by omega),nY t.ar (λx=>inB x 1 1000) (yes:=some true) (no:=some false) (λi hi next=>by
  simp only[ot]
  rw[ab,if_pos (by omega),aD,ag hi,aa,cD,aa,cond_not,au hi (by omega)]) (λnext=>by
  simp only[ot];rw[ab,if_neg (by omega)]) hk]
 simp only[oI,S5]
theorem yU {k:Nat} {t:Task} (hk:t.ar.length<k) (hN:t.ar.length<=aT):tv k t=some (ie t):=by
 have hM:=al;unfold tv bn bG ie
 rw[eP t.ar (λx=>!inB x 1 1000) (λi hi next=>by
  simp only[aM,ab,rT,fE,aa]
  rw[if_pos (by omega),aD,ag hi,aa,au hi (by omega)]) (λnext=>by
  simp only[aM,ab];rw[if_neg (by omega)]) hk]
 rw[cN];simp only[fE,se,aa,nv];rw[aH (by omega) (by omega),SA];simp only[Tg,oI]
 congr 1
 generalize inB t.id 1 1000000=a;generalize inB (t.ar.length:Int) 1 6=b;generalize inB t.at_ 0 ((t.ar.length:Int)-1)=c;generalize inB t.due 0 1000000=d;generalize inB t.born 0 1000000=e;generalize (t.ar.all λx=>inB x 1 1000)=f;cases a<;>cases b<;>cases c<;>cases d<;>cases e<;>cases f<;>rfl
def j8 (ts:List Task) (id:Int):Int:=(ts.findIdx? λt=>t.id==id).elim (-1) λi=>(i:Int)
theorem k7 {k:Nat} {s:aj} {id:Int} (hk:s.tasks.length<k) (hN:s.tasks.length<=aT):kq k s id=some (j8 s.tasks id):=by
 have hM:=al;unfold kq j8
 rw[eP s.tasks (λt=>t.id==id) (yes:=some (-1)) (no:=some) (λi hi next=>by
  simp only[qI]
  rw[ab,if_pos (by omega),aD,ag hi,aa,au hi (by omega)]) (λnext=>by
  simp only[qI];rw[ab,if_neg (by omega)]) hk]
 exact cN _
theorem tL {k:Nat} {s:aj} {id:Int} (hk:s.tasks.length<k) (hN:s.tasks.length<=aT):c9 k s id=some (j8 s.tasks id):=by
 have hM:=al;unfold c9 cY j8
 rw[eP s.tasks (λt=>t.id==id) (yes:=some (-1)) (no:=some) (λi hi next=>by
  simp only[bR,jf,decide_true,cond_true,aa]
  rw[ab,if_pos (by omega),aD,ag hi,aa,au hi (by omega)]) (λnext=>by
  simp only[bR,decide_true,cond_true];rw[ab,if_neg (by omega)]) hk]
 rw[cN];rfl
def gl (s:aj):Bool:=(List.range s.tasks.length).all λi=>(s.tasks[i]?).elim false λt=>ie t&&(decide (t.id<s.next)&&(decide (t.born<=s.now)&&(cond (decide (0<i)) ((s.tasks[i-1]?).elim false λu=>decide (u.id<t.id)) true)))
def JF (s:aj):Bool:=cond (s.run==0) (s.left==0) ((s.tasks.findIdx? λt=>t.id==s.run).elim false λi=>(s.tasks[i]?).elim false λt=>(idx t.ar t.at_).elim false λc=>inB s.left 1 c)
def bw (s:aj):Bool:=inB s.now 0 1000000&&(inB s.ai 0 1000&&(inB s.age 0 20&&(decide ((s.tasks.length:Int)<=12)&&(inB s.turns 0 1000000&&(inB s.next 1 1000000&&(gl s&&JF s))))))
theorem cg {s:aj} (h:gl s=true) {i:Nat} (hi:i<s.tasks.length):ie s.tasks[i]=true/\s.tasks[i].id<s.next/\s.tasks[i].born<=s.now/\∀j,(hj:j+1=i)->s.tasks[j].id<s.tasks[i].id:=by
 unfold gl at h;rw[Ss]at h;have:=h i (by simpa using hi);rw[ag hi,QZ]at this;simp only[QV,decide_eq_true_eq]at this;obtain⟨h1,h2,h3,h4⟩:=this;refine⟨h1,h2,h3,λj hj=>?_⟩;subst hj;rw[decide_eq_true (by omega),cond_true,Nat.add_sub_cancel,ag (show j<s.tasks.length by omega),QZ]at h4;exact of_decide_eq_true h4
theorem HP {s:aj} (h:gl s=true):∀(d i:Nat) (hd:i+d+1<s.tasks.length),s.tasks[i].id<s.tasks[i+d+1].id
 |0,i,hd=>(cg h hd).2.2.2 i rfl
 |d+1,i,hd=>Int.lt_trans (HP h d i (by omega)) ((cg h (i:=i+(d+1)+1) hd).2.2.2 (i+d+1) (by omega))
theorem LA {s:aj} (h:gl s=true) {i j:Nat} (hi:i<s.tasks.length) (hj:j<s.tasks.length) (e:s.tasks[i].id=s.tasks[j].id):i=j:=by
 rcases SU i j with c|c|c
 ·obtain⟨d,rfl⟩:∃d,j=i+d+1:=⟨j-i-1,by omega⟩;have:=HP h d i hj;omega
 ·exact c
 ·obtain⟨d,rfl⟩:∃d,i=j+d+1:=⟨i-j-1,by omega⟩;have:=HP h d j hi;omega
theorem CH {s:aj} (h:gl s=true) {i:Nat} (hi:i<s.tasks.length):(s.tasks.findIdx? λt=>t.id==s.tasks[i].id)=some i:=by
 cases e:s.tasks.findIdx? λt=>t.id==s.tasks[i].id with
 |none=>
  rw[Sq]at e;have:=e _ (Q3 hi)
  simp at this
 |some j=>
  obtain⟨hj,hp,_⟩:=R2.1 e;rw[LA h hj hi (by simpa using hp)]
theorem p7 {ts:List Task} {id:Int} {i:Nat} (h:(ts.findIdx? λt=>t.id==id)=some i):∃hi:i<ts.length,ts[i].id=id:=by
 obtain⟨hi,hp,_⟩:=R2.1 h;exact⟨hi,by simpa using hp⟩
theorem HQ {s:aj} (h:gl s=true) (i:Nat) (hi:(s.tasks.findIdx? λt=>t.id==s.run)=some i):
  ((idx s.tasks (i:Int)).bind λe8=>(idx s.tasks (i:Int)).bind λe9=>(idx e8.ar e9.at_).bind λe10=>some (inB s.left (1:Int) e10))=
  some ((s.tasks[i]?).elim false λt=>(idx t.ar t.at_).elim false λc=>inB s.left 1 c):=by
 obtain⟨hl,_⟩:=p7 hi;have ht:=cd (cg h hl).1;rw[aD,ag hl,aa,aa,QZ]
 have:idx s.tasks[i].ar s.tasks[i].at_=some (s.tasks[i].ar[s.tasks[i].at_.toNat]'(by omega)):=by
  rw[rQ _ ht.2.2.1.1];exact ag _
 rw[this,aa,QZ]
theorem ib {ts:List Task} {id:Int} {i:Nat} (h:(ts.findIdx? λt=>t.id==id)=some i):j8 ts id=(i:Int):=by unfold j8;rw[h];rfl
theorem vb {ts:List Task} {id:Int} (h:(ts.findIdx? λt=>t.id==id)=none):j8 ts id=-1:=by unfold j8;rw[h];rfl
theorem AZ {R:Type} {s:aj} {i:Nat} (hi:i<s.tasks.length) (hN:s.tasks.length<=aT) {next no:Option R}:
  (cond (!ie s.tasks[i]) no (cond (decide (s.tasks[i].id>=s.next)) no (cond (decide (s.tasks[i].born>s.now)) no (cond (decide ((i:Int)>(0:Int))) ((idx s.tasks (IntKind.i64.wrap ((i:Int)-(1:Int)))).bind λe8=>cond (decide (e8.id>=s.tasks[i].id)) no next) next))))=
  cond ((s.tasks[i]?).elim false λt=>ie t&&(decide (t.id<s.next)&&(decide (t.born<=s.now)&&(cond (decide (0<i)) ((s.tasks[i-1]?).elim false λu=>decide (u.id<t.id)) true)))) next no:=by
 have hM:=al;rw[ag hi,QZ,NT s.tasks[i].id s.next,Lz s.tasks[i].born s.now];simp only[cond_not]
 cases i with
 |zero=>
  rw[decide_eq_false (show¬(((0:Nat):Int)>0) by omega),decide_eq_false (show¬(0<0) by omega)];simp only[cond_false,S5]
  cases ie s.tasks[0]<;>cases decide (s.tasks[0].id<s.next)<;>cases decide (s.tasks[0].born<=s.now)<;>rfl
 |succ j=>
  rw[decide_eq_true (show(((j+1:Nat):Int)>0) by omega),decide_eq_true (show(0<j+1) by omega),aH (by omega) (by omega),show((j+1:Nat):Int)-1=(j:Int)from by omega,aD,Nat.add_sub_cancel,ag (show j<s.tasks.length by omega),aa,QZ,NT s.tasks[j].id];simp only[cond_true,cond_not];cases ie s.tasks[j+1]<;>cases decide (s.tasks[j+1].id<s.next)<;>cases decide (s.tasks[j+1].born<=s.now)<;>cases decide (s.tasks[j].id<s.tasks[j+1].id)<;>rfl
theorem dD {k:Nat} {s:aj} (hk:s.tot<k) (hN:s.tot<=aT):eW k s=some (bw s):=by
 have hM:=al;unfold aj.tot at hk hN;have hlen:=bm Task.tot s.tasks;unfold eW bw;rw[Lz (s.tasks.length:Int) 12];simp only[cD,p6,aa,cond_not]
 rw[EG s.tasks.length (λi=>(s.tasks[i]?).elim false λt=>ie t&&(decide (t.id<s.next)&&(decide (t.born<=s.now)&&(cond (decide (0<i)) ((s.tasks[i-1]?).elim false λu=>decide (u.id<t.id)) true)))) (λi hi next=>by
  have hm:=eH Task.tot (Q3 hi);have hm0:s.tasks[i].tot=s.tasks[i].ar.length+0:=rfl;simp only[mn];rw[ab,if_pos (by omega),aD,ag hi,aa,yS (by omega) (by omega),aa,au hi (by omega)]
  exact(AZ hi (by omega)).trans (by rw[ag hi])) (λnext=>by
  simp only[mn];rw[ab,if_neg (by omega)]) (by omega)]
 rw[show((List.range s.tasks.length).all λi=>(s.tasks[i]?).elim false λt=>ie t&&(decide (t.id<s.next)&&(decide (t.born<=s.now)&&(cond (decide (0<i)) ((s.tasks[i-1]?).elim false λu=>decide (u.id<t.id)) true))))=gl s from rfl]
 have hr:gl s=true->cond (s.run==(0:Int)) (some (s.left==(0:Int))) (cond (decide (j8 s.tasks s.run>=(0:Int))) ((idx s.tasks (j8 s.tasks s.run)).bind λe11=>(idx s.tasks (j8 s.tasks s.run)).bind λe12=>(idx e11.ar e12.at_).bind λe13=>some (inB s.left (1:Int) e13)) (some false))=some (JF s):=by
  intro h;unfold JF;cases s.run==0
  ·simp only[cond_false]
   cases hf:s.tasks.findIdx? λt=>t.id==s.run with
   |none=>rw[vb hf];rfl
   |some i=>rw[ib hf,ab,if_pos (by omega),HQ h i hf];rfl
  ·rfl
 simp only[k7 (s:=s) (id:=s.run) (k:=k) (by omega) (by omega),aa];cases h:gl s
 ·simp only[cond_false,RN];simp only[oI,SX]
 ·simp only[cond_true,Q2,hr h,oI]
theorem CI {k:Nat} {s:aj} (hk:s.tot<k) (hN:s.tot<=aT):gJ k s=some (gl s&&decide ((s.tasks.length:Int)<=12)):=by
 have hM:=al;unfold aj.tot at hk hN;have hlen:=bm Task.tot s.tasks;unfold gJ
 rw[EG s.tasks.length (λi=>(s.tasks[i]?).elim false λt=>ie t&&(decide (t.id<s.next)&&(decide (t.born<=s.now)&&(cond (decide (0<i)) ((s.tasks[i-1]?).elim false λu=>decide (u.id<t.id)) true)))) (λi hi next=>by
  have hm:=eH Task.tot (Q3 hi);have hm0:s.tasks[i].tot=s.tasks[i].ar.length+0:=rfl;simp only[fl];rw[ab,if_pos (by omega),aD,ag hi,aa,yU (by omega) (by omega),aa,au hi (by omega)]
  exact(AZ hi (by omega)).trans (by rw[ag hi])) (λnext=>by
  simp only[fl];rw[ab,if_neg (by omega)]) (by omega)]
 exact oI _ _
theorem j9 {k:Nat} {s:aj} (hk:s.tot<k) (hN:s.tot<=aT):lD k s=some (bw s):=by
 have hM:=al;have hk2:=hk;have hN2:=hN;unfold aj.tot at hk hN;have hlen:=bm Task.tot s.tasks;unfold lD bw;simp only[fE,se,aa,cond_not,CI hk2 hN2,tL (s:=s) (id:=s.run) (k:=k) (by omega) (by omega)]
 have hr:gl s=true->cond (s.run==(0:Int)) (cond (s.run==(0:Int)) (some (s.left==(0:Int))) (some false)) (cond (decide (j8 s.tasks s.run<(0:Int))) (cond (s.run==(0:Int)) (some (s.left==(0:Int))) (some false)) ((idx s.tasks (j8 s.tasks s.run)).bind λe8=>(idx s.tasks (j8 s.tasks s.run)).bind λe9=>(idx e8.ar e9.at_).bind λe10=>some (inB s.left (1:Int) e10)))=some (JF s):=by
  intro h;unfold JF;cases s.run==0
  ·simp only[cond_false]
   cases hf:s.tasks.findIdx? λt=>t.id==s.run with
   |none=>rw[vb hf];rfl
   |some i=>rw[ib hf,ab,if_neg (by omega),HQ h i hf];rfl
  ·rfl
 cases h:gl s
 ·simp only[cond_false,RN];simp only[oI,SX]
 ·rw[hr h];simp only[Q2,oI]
  congr 1
  generalize inB s.now 0 1000000=a;generalize inB s.ai 0 1000=b;generalize inB s.age 0 20=c;generalize decide ((s.tasks.length:Int)<=12)=d;generalize inB s.turns 0 1000000=e;generalize inB s.next 1 1000000=f;generalize JF s=g;cases a<;>cases b<;>cases c<;>cases d<;>cases e<;>cases f<;>cases g<;>rfl
theorem bF {s:aj} (h:bw s=true):(0<=s.now/\s.now<=1000000)/\(0<=s.ai/\s.ai<=1000)/\(0<=s.age/\s.age<=20)/\s.tasks.length<=12/\(0<=s.turns/\s.turns<=1000000)/\(1<=s.next/\s.next<=1000000)/\gl s=true/\JF s=true:=by
 unfold bw inB at h;simp only[QV,decide_eq_true_eq]at h;obtain⟨h1,h2,h3,h4,h5,h6,h7,h8⟩:=h;exact⟨h1,h2,h3,by omega,h5,h6,h7,h8⟩
end
section
theorem p8 {k:Nat} {s:aj} (hk:s.tot<k) (hN:s.tot<=aT):lB k s=some s:=by
 have hM:=al;unfold aj.tot at hk hN;have hlen:=bm Task.tot s.tasks;unfold lB
 refine(sX s.tasks (λt=>t) (g:=λu4 n4=>jS k (s.now,s.ai,s.age,s.tasks,s.run,s.left,s.turns,s.next,(0:Int),(0:Int),(0:Int),(0:Int),(0:Int),(0:Int),(0:Int),s.now,s.ai,s.age,s.run,s.left,s.turns,s.next) u4 n4 (λy3=>some (⟨s.now,s.ai,s.age,y3,s.run,s.left,s.turns,s.next⟩:aj)))
  (fin:=λy3=>some (⟨s.now,s.ai,s.age,y3,s.run,s.left,s.turns,s.next⟩:aj)) (λi ys hi next hl=>by
  have hm:=eH Task.tot (Q3 hi);have hm0:s.tasks[i].tot=s.tasks[i].ar.length+0:=rfl;simp only[jS]
  rw[ab,if_pos (by omega),aD,ag hi,aa,j4 (by omega) (by omega),aa,cu (by omega),au hi (by omega)]) (λys next=>by
  simp only[jS];rw[ab,if_neg (by omega)]) (by omega)).trans ?_
 simp
theorem jl {k:Nat} {s:aj} (hk:s.tot<k) (hN:s.tot<=aT):fD k s=some s:=by
 have hM:=al;unfold aj.tot at hk hN;have hlen:=bm Task.tot s.tasks;unfold fD
 refine(sX s.tasks (λt=>t) (g:=λu4 n4=>eX k (s.tasks,(s.tasks.length:Int),s.now,s.ai,s.age,s.run,s.left,s.turns,s.next,(0:Int),(0:Int),(0:Int),(0:Int),(0:Int),(0:Int),(0:Int)) u4 n4 (λy3=>some (⟨s.now,s.ai,s.age,y3,s.run,s.left,s.turns,s.next⟩:aj)))
  (fin:=λy3=>some (⟨s.now,s.ai,s.age,y3,s.run,s.left,s.turns,s.next⟩:aj)) (λi ys hi next hl=>by
  have hm:=eH Task.tot (Q3 hi);have hm0:s.tasks[i].tot=s.tasks[i].ar.length+0:=rfl;simp only[eX]
  rw[ab,if_pos (by omega),aD,ag hi,aa,cO (by omega),aa,cu (by omega),au hi (by omega)]) (λys next=>by
  simp only[eX];rw[ab,if_neg (by omega)]) (by omega)).trans ?_
 simp
def gn (t:Task):Int:=(t.ar.drop t.at_.toNat).sum
def fc (t:Task):Int:=(idx t.ar t.at_).getD 0
def dQ (s:aj) (t:Task):Int:=cond (s.run==t.id) (gn t-fc t+s.left) (gn t)
theorem ff {t:Task} (h:ie t=true):idx t.ar t.at_=some (fc t)/\1<=fc t/\fc t<=1000:=by
 have ht:=cd h
 have hlt:t.at_.toNat<t.ar.length:=by omega
 have e:idx t.ar t.at_=some t.ar[t.at_.toNat]:=by rw[rQ _ ht.2.2.1.1];exact ag hlt
 unfold fc;rw[e,Sj];exact⟨rfl,ht.2.2.2.2.2 _ (Q3 hlt)⟩
theorem yV {t:Task} (h:ie t=true):fc t<=gn t/\gn t-fc t<=5000/\0<=gn t-fc t:=by
 have ht:=cd h
 have hlt:t.at_.toNat<t.ar.length:=by omega
 have e:idx t.ar t.at_=some t.ar[t.at_.toNat]:=by rw[rQ _ ht.2.2.1.1];exact ag hlt
 have hc:fc t=t.ar[t.at_.toNat]:=by unfold fc;rw[e];rfl
 have hb:=yR (f:=λx:Int=>x) (B:=1000) (t.ar.drop (t.at_.toNat+1)) (λx hx=>by have:=ht.2.2.2.2.2 x (List.mem_of_mem_drop hx);omega);rw[Ti,R3]at hb;unfold gn;rw[gA hlt,Sm,hc];omega
theorem qW {s:aj} (h:bw s=true) {t:Task} (hm:t∈s.tasks) (hr:s.run=t.id):1<=s.left/\s.left<=fc t:=by
 have hs:=bF h;obtain⟨i,hi,rfl⟩:=Ry.1 hm;have hT:=(cg hs.2.2.2.2.2.2.1 hi).1;have ht:=cd hT;have hrun:=hs.2.2.2.2.2.2.2;unfold JF at hrun
 have h0:(s.run==0)=false:=by rw[hr];simp;omega
 rw[h0,cond_false,hr,CH hs.2.2.2.2.2.2.1 hi,QZ,ag hi,QZ,(ff hT).1,QZ]at hrun;exact of_decide_eq_true hrun
theorem yW {s:aj} (h:bw s=true) {t:Task} (hm:t∈s.tasks):0<=dQ s t/\dQ s t<=6000:=by
 have hs:=bF h;obtain⟨i,hi,e⟩:=Ry.1 hm;have hT:ie t=true:=e▸(cg hs.2.2.2.2.2.2.1 hi).1;have hc:=ff hT;have hb:=yV hT;unfold dQ;cases hr:s.run==t.id
 ·simp only[cond_false];omega
 ·have:=qW h hm (by simpa using hr);simp only[cond_true];omega
theorem CJ {k:Nat} {s:aj} (hk:s.tot<k) (hN:s.tot<=aT) (h:bw s=true) {t:Task} (hm:t∈s.tasks):qJ k s t.id=some (dQ s t):=by
  have hM:=al;have hs:=bF h;obtain⟨i,hi,rfl⟩:=Ry.1 hm;have hT:=(cg hs.2.2.2.2.2.2.1 hi).1;have ht:=cd hT;have hlen:=bm Task.tot s.tasks;have htm:=eH Task.tot hm;have hm0:s.tasks[i].tot=s.tasks[i].ar.length+0:=rfl;have hst:s.tot=eA Task.tot s.tasks+0:=rfl;have hc:=ff hT;have hb:=yV hT;unfold qJ;rw[k7 (by omega) (by omega),aa,dD hk hN,aa,h,ib (CH hs.2.2.2.2.2.2.1 hi)];simp only[Q1,cond_false];rw[ab,if_neg (by omega),aD,ag hi,aa]
  have hat:s.tasks[i].at_=((s.tasks[i].at_.toNat:Nat):Int):=by omega
  have e:=EH (R:=Int) s.tasks[i].ar s.tasks[i].at_.toNat (by omega) (B:=1000) (by omega) (λx hx=>by have:=ht.2.2.2.2.2 x hx;omega)
    (g:=λu7 n7=>iB k (s.tasks[i].id,s.now,s.ai,s.age,s.tasks,s.run,s.left,s.turns,s.next,s.tasks[i].id,s.tasks[i].ar,s.tasks[i].at_,s.tasks[i].due,s.tasks[i].born) u7 n7 (λy5=>cond (s.run==s.tasks[i].id) ((idx s.tasks[i].ar s.tasks[i].at_).bind λe6=>some (IntKind.i64.wrap ((IntKind.i64.wrap (y5-e6))+s.left))) (some y5)))
    (fin:=λy5=>cond (s.run==s.tasks[i].id) ((idx s.tasks[i].ar s.tasks[i].at_).bind λe6=>some (IntKind.i64.wrap ((IntKind.i64.wrap (y5-e6))+s.left))) (some y5))
    (λj z hj next h0 h1=>by
      have:=ht.2.2.2.2.2 _ (Q3 hj);simp only[iB]
      rw[ab,if_pos (by omega),aD,ag hj,aa,aH (by omega) (by omega),au hj (by omega)])
    (λz next=>by simp only[iB];rw[ab,if_neg (by omega)]) (k:=k) (by omega)
  rw[<-hat]at e;refine e.trans ?_;show cond _ _ _=some (dQ s s.tasks[i]);unfold dQ;rw[hc.1,aa];cases hr:s.run==s.tasks[i].id
  · rfl
  · have:=qW h hm (by simpa using hr);simp only[cond_true];have e2:(s.tasks[i].ar.drop s.tasks[i].at_.toNat).sum=gn s.tasks[i]:=rfl;rw[e2,aH (n:=gn s.tasks[i]-fc s.tasks[i]) (by omega) (by omega),aH (by omega) (by omega)]
theorem HR {B:Int}:∀(xs:List Int) (s:Int) (hf:∀x∈xs,0<=x/\x<=B) (h0:0<=s) (h1:s+B*xs.length<=9223372036854775807),xs.foldl (λs x=>IntKind.i64.wrap (s+x)) s=s+xs.sum
 |[],s,_,_,_=>by simp
 |x::xs,s,hf,h0,h1=>by
  have hx:=hf x (by simp);rw[Q5,Int.natCast_add,Int.mul_add]at h1;have h2:0<=B*(xs.length:Int):=SN (by omega) (by omega);rw[RO,Sm,aH (by omega) (by omega),HR xs (s+x) (λy hy=>hf y (by simp[hy])) (by omega) (by omega)];omega
theorem GA {k:Nat} {s:aj} (hk:s.tot<k) (hN:s.tot<=aT) (h:bw s=true) {t:Task} (hm:t∈s.tasks):jv k s t=some (dQ s t):=by
 have hM:=al;have hs:=bF h;obtain⟨i,hi,rfl⟩:=Ry.1 hm;have hT:=(cg hs.2.2.2.2.2.2.1 hi).1;have ht:=cd hT;have htm:=eH Task.tot hm;have hm0:s.tasks[i].tot=s.tasks[i].ar.length+0:=rfl;have hst:s.tot=eA Task.tot s.tasks+0:=rfl;have hc:=ff hT;have hb:=yV hT;unfold jv;rw[ab,if_pos (by omega),Sn (Rb _),Cn (by simp;omega) (by simp;omega),aa,HR (B:=1000) _ 0 (λx hx=>by have:=ht.2.2.2.2.2 x (List.mem_of_mem_drop hx);omega) (by omega) (by simp;omega),hc.1,aa,Int.zero_add];have e2:(s.tasks[i].ar.drop s.tasks[i].at_.toNat).sum=gn s.tasks[i]:=rfl;rw[e2];unfold dQ;cases hr:s.run==s.tasks[i].id
 ·rfl
 ·have:=qW h hm (by simpa using hr);simp only[cond_true];rw[aH (n:=s.left-fc s.tasks[i]) (by omega) (by omega),aH (by omega) (by omega)]
  congr 1;omega
def tM (s:aj) (d:Int):Int:=(s.tasks.map λt=>cond (decide (t.due<=d)) (dQ s t) 0).sum
def block (s:aj) (d:Int):Int:=(s.tasks.findIdx? λt=>t.id==s.run).elim 0 λi=>(s.tasks[i]?).elim 0 λt=>cond (decide (t.due>d)) s.left 0
theorem vc {s:aj} (h:bw s=true) (d:Int):∀t∈s.tasks,0<=cond (decide (t.due<=d)) (dQ s t) 0/\cond (decide (t.due<=d)) (dQ s t) 0<=6000:=λt ht=>by
 have:=yW h ht;cases decide (t.due<=d)
 ·simp
 ·simpa using this
theorem LB {s:aj} (h:bw s=true) (d:Int):0<=tM s d/\tM s d<=72000:=by
 have hs:=bF h;have:=yR (B:=6000) s.tasks (vc h d);unfold tM;omega
theorem CK {k:Nat} {s:aj} {d:Int} (hk:s.tot<k) (hN:s.tot<=aT) (h:bw s=true):qK k s d=some (tM s d):=by
  have hM:=al;have hs:=bF h;have hlen:=bm Task.tot s.tasks;have hst:s.tot=eA Task.tot s.tasks+0:=rfl;unfold qK;rw[dD hk hN,aa,h];simp only[Q1,cond_false]
  exact HO s.tasks (λt=>cond (decide (t.due<=d)) (dQ s t) 0) (B:=6000) (vc h d) (g:=λu6 n6=>iC k (d,s.now,s.ai,s.age,s.tasks,s.run,s.left,s.turns,s.next) u6 n6 (λy5=>some y5)) (fin:=some)
    (λi z hi next h0 h1=>by
      have hr:=yW h (Q3 hi);have e:=CJ hk hN h (Q3 hi);simp only[iC];rw[ab,if_pos (by omega),aD,ag hi,aa,au hi (by omega),aa];by_cases c:s.tasks[i].due<=d
      · rw[decide_eq_true c,cond_true,cond_true,show(⟨s.now,s.ai,s.age,s.tasks,s.run,s.left,s.turns,s.next⟩:aj)=s from rfl,e,aa,aH (by omega) (by omega)]
      · rw[decide_eq_false c,cond_false,cond_false,Int.add_zero])
    (λz next=>by simp only[iC];rw[ab,if_neg (by omega)]) (by omega)
theorem GC {k:Nat} {s:aj} {d:Int} (hk:s.tot<k) (hN:s.tot<=aT) (h:bw s=true):jx k s d=some (tM s d):=by
  have hM:=al;have hs:=bF h;have hlen:=bm Task.tot s.tasks;have hst:s.tot=eA Task.tot s.tasks+0:=rfl;unfold jx
  exact HO s.tasks (λt=>cond (decide (t.due<=d)) (dQ s t) 0) (B:=6000) (vc h d) (g:=λu4 n4=>eY k (d,s.tasks,(s.tasks.length:Int),s.now,s.ai,s.age,s.tasks,s.run,s.left,s.turns,s.next) u4 n4 (λy3=>some y3)) (fin:=some)
    (λi z hi next h0 h1=>by
      have hr:=yW h (Q3 hi);have e:=GA hk hN h (Q3 hi);simp only[eY];rw[ab,if_pos (by omega),aD,ag hi,aa,au hi (by omega)];by_cases c:s.tasks[i].due<=d
      · rw[decide_eq_true c,cond_true,cond_true,show(⟨s.now,s.ai,s.age,s.tasks,s.run,s.left,s.turns,s.next⟩:aj)=s from rfl,e,aa,aH (by omega) (by omega)]
      · rw[decide_eq_false c,cond_false,cond_false,Int.add_zero])
    (λz next=>by simp only[eY];rw[ab,if_neg (by omega)]) (by omega)
theorem Nm {s:aj} (h:bw s=true) (d:Int):0<=block s d/\block s d<=1000:=by
 have hs:=bF h;unfold block
 cases hf:s.tasks.findIdx? λt=>t.id==s.run with
 |none=>exact⟨Int.le_refl _,by show(0:Int)<=1000;omega⟩
 |some i=>
  obtain⟨hi,hid⟩:=p7 hf;have hT:=(cg hs.2.2.2.2.2.2.1 hi).1;have:=qW h (Q3 hi) hid.symm;have:=ff hT;rw[QZ,ag hi,QZ];cases decide (s.tasks[i].due>d)
  ·exact⟨Int.le_refl _,by show(0:Int)<=1000;omega⟩
  ·simp only[cond_true];omega
theorem A9 {s:aj} {d:Int} (h:bw s=true):cond (decide (j8 s.tasks s.run>=(0:Int))) ((idx s.tasks (j8 s.tasks s.run)).bind λe3=>cond (decide (e3.due>d)) (some s.left) (some (0:Int))) (some (0:Int))=some (block s d):=by
 unfold block
 cases hf:s.tasks.findIdx? λt=>t.id==s.run with
 |none=>rw[vb hf];rfl
 |some i=>
  obtain⟨hi,_⟩:=p7 hf;rw[ib hf,ab,if_pos (by omega),aD,ag hi,aa,QZ,ag hi,QZ];cases decide (s.tasks[i].due>d)<;>rfl
theorem EI {k:Nat} {s:aj} {d:Int} (hk:s.tot<k) (hN:s.tot<=aT) (h:bw s=true):tu k s d=some (block s d):=by
 have hlen:=bm Task.tot s.tasks;have hst:s.tot=eA Task.tot s.tasks+0:=rfl;unfold tu;rw[dD hk hN,aa,h];simp only[Q1,cond_false];rw[k7 (by omega) (by omega),aa,A9 h]
theorem Jm {k:Nat} {s:aj} {d:Int} (hk:s.tot<k) (hN:s.tot<=aT) (h:bw s=true):kE k s d=some (block s d):=by
 have hlen:=bm Task.tot s.tasks;have hst:s.tot=eA Task.tot s.tasks+0:=rfl;unfold kE;rw[tL (by omega) (by omega),aa,A9 h]
def dT (s:aj) (t:Task):Bool:=decide (t.due<=s.now)
def GD (s:aj) (t:Task):Bool:=decide (tM s t.due+block s t.due+s.ai<=t.due-s.now)
def yX (s:aj):Bool:=bw s&&s.tasks.all λt=>!dT s t&&GD s t
theorem LC {α:Type} (p q:α->Bool):∀xs:List α,(xs.all p&&xs.all q)=xs.all λx=>p x&&q x
 |[]=>rfl
 |x::xs=>by
  rw[Tq,Tq,Tq,<-LC p q xs];cases p x<;>cases q x<;>cases xs.all p<;>cases xs.all q<;>rfl
theorem GF {k:Nat} {s:aj} (hk:s.tot<k) (hN:s.tot<=aT) (h:bw s=true):wx k s=some ((s.tasks.filter (dT s)).map (·.id)):=by
  have hM:=al;have hlen:=bm Task.tot s.tasks;have hst:s.tot=eA Task.tot s.tasks+0:=rfl;unfold wx;rw[dD hk hN,aa,h];simp only[Q1,cond_false]
  exact jk s.tasks (dT s) (·.id) (g:=λu5 n5=>lC k (s.now,s.ai,s.age,s.tasks,s.run,s.left,s.turns,s.next) u5 n5 (λy4=>some y4)) (fin:=some)
    (λi ys hi next hl=>by
      simp only[lC];rw[ab,if_pos (by omega),aD,ag hi,aa,au hi (by omega),aa,cu (by simp;omega)]
      rfl)
    (λys next=>by simp only[lC];rw[ab,if_neg (by omega)]) (by omega)
theorem LD {s:aj} (h:bw s=true) {t:Task} (hm:t∈s.tasks):decide ((IntKind.i64.wrap ((IntKind.i64.wrap (tM s t.due+block s t.due))+s.ai))>(IntKind.i64.wrap (t.due-s.now)))=!GD s t:=by
 have hs:=bF h;have hd:=LB h t.due;have hb:=Nm h t.due;obtain⟨i,hi,e⟩:=Ry.1 hm;have ht:=cd (t:=t) (e▸(cg hs.2.2.2.2.2.2.1 hi).1);rw[aH (n:=tM s t.due+block s t.due) (by omega) (by omega),aH (n:=tM s t.due+block s t.due+s.ai) (by omega) (by omega),aH (by omega) (by omega),Lz];rfl
theorem GG {k:Nat} {s:aj} (hk:s.tot<k) (hN:s.tot<=aT):wy k s=some (yX s):=by
 have hM:=al;have hlen:=bm Task.tot s.tasks;have hst:s.tot=eA Task.tot s.tasks+0:=rfl;unfold wy yX;rw[dD hk hN,aa];cases h:bw s
 ·rfl
 simp only[Q1,cond_false,Q2]
 rw[GF hk hN h,aa,nY s.tasks (GD s) (yes:=some true) (no:=some false) (λi hi next=>by
  simp only[ou]
  rw[ab,if_pos (by omega),aD,ag hi,aa,show(⟨s.now,s.ai,s.age,s.tasks,s.run,s.left,s.turns,s.next⟩:aj)=s from rfl,CK hk hN h,aa,EI hk hN h,aa,LD h (Q3 hi),cond_not,au hi (by omega)]) (λnext=>by
  simp only[ou];rw[ab,if_neg (by omega)]) (by omega)]
 rw[<-LC,S7]
 have hz:decide (((s.tasks.filter (dT s)).length:Int)>0)=!(s.tasks.all λt=>!dT s t):=by
  cases ha:s.tasks.all λt=>!dT s t
  ·rw[List.all_eq_false]at ha;obtain⟨t,ht,hl⟩:=ha;have:0<(s.tasks.filter (dT s)).length:=List.length_pos_of_mem (RL.2 ⟨ht,by simpa using hl⟩);rw[decide_eq_true (by omega)];rfl
  ·rw[Ss]at ha
   have:s.tasks.filter (dT s)=[]:=List.filter_eq_nil_iff.2 λt ht=>by simpa using ha t ht
   rw[this];rfl
 rw[hz];cases s.tasks.all λt=>!dT s t
 ·rfl
 ·simp only[Q1,cond_false,Q2];cases s.tasks.all (GD s)<;>rfl
theorem GH {k:Nat} {s:aj} (hk:s.tot<k) (hN:s.tot<=aT):wz k s=some (yX s):=by
  have hM:=al;have hlen:=bm Task.tot s.tasks;have hst:s.tot=eA Task.tot s.tasks+0:=rfl;unfold wz yX;rw[j9 hk hN,aa];cases h:bw s
  · rfl
  simp only[cond_true,Q2];unfold cF cS;simp only[decide_true,cond_true]
  rw [eP s.tasks (λ t => !(!dT s t && GD s t)) (yes := some (-1)) (no := some) (λ i hi next => by
    simp only[bJ,decide_true,cond_true];rw[ab,if_pos (by omega),aD,ag hi,aa,show(⟨s.now,s.ai,s.age,s.tasks,s.run,s.left,s.turns,s.next⟩:aj)=s from rfl]
    have e:kF k s.tasks[i] s=some (!(!dT s s.tasks[i]&&GD s s.tasks[i])):=by
      unfold kF cU;rw[aa,GC hk hN h,Jm hk hN h];simp only[decide_true,cond_true,aa,LD h (Q3 hi)];unfold dT;cases decide (s.tasks[i].due<=s.now)<;>cases GD s s.tasks[i]<;>rfl
    rw[e,aa,au hi (by omega)]) (λnext=>by
    simp only[bJ,decide_true,cond_true];rw[ab,if_neg (by omega)]) (by omega)]
  rw[cN];simp only[aa,nv];rw[SA];simp only[Tg]
def fG (s:aj) (ar:List Int) (due:Int):aj× Int× Int:=
  cond (bw s&&ie ⟨s.next,ar,0,due,s.now⟩)
    (cond ((s.tasks.length:Int)==12||s.next==1000000) (s,0,2)
      (cond (yX ⟨s.now,s.ai,s.age,s.tasks++[⟨s.next,ar,0,due,s.now⟩],s.run,s.left,s.turns,s.next+1⟩)
        (⟨s.now,s.ai,s.age,s.tasks++[⟨s.next,ar,0,due,s.now⟩],s.run,s.left,s.turns,s.next+1⟩,s.next,0) (s,0,3))) (s,0,1)
theorem Jn {k:Nat} {s:aj} {ar:List Int} {due:Int} (hk:s.tot+ar.length+1<k) (hN:s.tot+ar.length+1<=aT):Ck k s ar due=some (fG s ar due):=by
 have hM:=al;have hlen:=bm Task.tot s.tasks;have hst:s.tot=eA Task.tot s.tasks+0:=rfl;have hT:Task.tot ⟨s.next,ar,0,due,s.now⟩=ar.length+0:=rfl;unfold Ck fG;rw[p8 (by omega) (by omega),aa,j4 (by omega) (by omega),aa,dD (by omega) (by omega),aa,yS (t:=⟨s.next,ar,0,due,s.now⟩) (by show ar.length<k;omega) (by show ar.length<=aT;omega),aa];cases h:bw s
 ·rfl
 have hs:=bF h;simp only[Q1,cond_false,Q2];cases ie ⟨s.next,ar,0,due,s.now⟩
 ·rfl
 simp only[Q1,cond_false,cond_true];cases((s.tasks.length:Int)==12)
 case true=>rfl
 cases(s.next==(1000000:Int))
 case true=>rfl
 simp only[cond_false,Bool.or_false]
 have ht2:aj.tot ⟨s.now,s.ai,s.age,s.tasks++[⟨s.next,ar,0,due,s.now⟩],s.run,s.left,s.turns,s.next+1⟩=s.tot+(ar.length+1):=by
  unfold aj.tot;simp only[rR,pJ,hT];simp[eA]
 rw[cu (by omega),aH (by omega) (by omega),GG (by omega) (by omega),aa,cond_not];cases yX _<;>rfl
theorem Jo {k:Nat} {s:aj} {ar:List Int} {due:Int} (hk:s.tot+ar.length+1<k) (hN:s.tot+ar.length+1<=aT):Cl k s ar due=some (fG s ar due):=by
 have hM:=al;have hlen:=bm Task.tot s.tasks;have hst:s.tot=eA Task.tot s.tasks+0:=rfl;have hT:Task.tot ⟨s.next,ar,0,due,s.now⟩=ar.length+0:=rfl;unfold Cl fG;rw[cO (by omega),aa,jl (by omega) (by omega),aa,j9 (by omega) (by omega),aa,yU (t:=⟨s.next,ar,0,due,s.now⟩) (by show ar.length<k;omega) (by show ar.length<=aT;omega),aa];cases h:bw s
 ·rfl
 have hs:=bF h;simp only[Q1,cond_false,Q2];cases ie ⟨s.next,ar,0,due,s.now⟩
 ·rfl
 simp only[Q1,cond_false,cond_true];cases((s.tasks.length:Int)==12)
 case true=>rfl
 cases(s.next==(1000000:Int))
 case true=>rfl
 simp only[cond_false,Bool.or_false]
 have ht2:aj.tot ⟨s.now,s.ai,s.age,s.tasks++[⟨s.next,ar,0,due,s.now⟩],s.run,s.left,s.turns,s.next+1⟩=s.tot+(ar.length+1):=by
  unfold aj.tot;simp only[rR,pJ,hT];simp[eA]
 rw[aa,cu (by omega),aH (by omega) (by omega),GH (by omega) (by omega),aa,cond_not];cases yX _<;>rfl
end
section
def Pm (n:Nat) (t:Task):bY:=⟨t.id,n+1,t.at_,t.due,t.born⟩
def qa:Nat->List Task->List bY
 |_,[]=>[]
 |n,t::l=>Pm n t::qa (n+5) l
theorem yY:∀(ts:List Task) (n:Nat),vu .task .cL n ts=some (qa n ts)
 |[],n=>rfl
 |t::l,n=>by
  have ih:=yY l (n+5);show((S.cL.et (lZ n (Ma t))).bind λy=>(vu .task .cL (n+S.task.sz) l).bind λys=>some (y::ys))=_;rw[show S.task.sz=5 from rfl,ih];rfl
theorem er:∀(ts:List Task) (n:Nat),(qa n ts).length=ts.length
 |[],n=>rfl
 |t::l,n=>by simp[qa,er l]
theorem Ba:∀zs:List bY,CU (db .cL zs)=zs.map (·.ar)
 |[]=>rfl
 |z::l=>by
  show CU (zO z++db .cL l)=_;rw[Rx,<-Ba l];rfl
theorem EJ:∀{l:List Nat},l.Nodup->gw l=true
 |[],_=>rfl
 |x::l,h=>by
  rw[RX]at h;simp only[gw];cases hm:mem x l
  ·exact EJ h.2
  ·exact(h.1 ((mem_iff x l).1 hm)).elim
theorem Bb:∀(ts:List Task) (n:Nat),(∀z∈qa n ts,n<z.ar)/\(qa n ts).Pairwise λa b=>a.ar<b.ar
 |[],n=>⟨(λz hz=>by simp[qa]at hz),List.Pairwise.nil⟩
 |t::l,n=>by
  obtain⟨h1,h2⟩:=Bb l (n+5);refine⟨λz hz=>?_,List.Pairwise.cons (λz hz=>?_) h2⟩
  ·rcases Ri.1 hz with rfl|hz
   ·show n<n+1;omega
   ·have:=h1 z hz;omega
  ·have:=h1 z hz;show n+1<z.ar;omega
theorem my {ts:List Task} {n:Nat} (q:bY->Bool):jd ((qa n ts).filter q)=true:=by
 have h:=((Bb ts n).2.filter q)
 have h2:gw (((qa n ts).filter q).map (·.ar))=true:=by
  refine EJ ?_;rw[List.Nodup,List.pairwise_map]
  exact h.imp λh e=>by omega
 unfold jd;exact(congrArg gw (Ba ((qa n ts).filter q))).trans h2
theorem Jp (C:List R) (y:bY) (l:List bY):vQ .task .cL C (y::l)=(uH C (zO y)).bind λc=>(S.task.et c).bind λx=>(vQ .task .cL C l).bind λxs=>some (x::xs):=rfl
theorem Bc (p:Task->Bool) (q:bY->Bool) (hq:∀n t,q (Pm n t)=p t) (C:List R):∀(ts:List Task) (n:Nat),(∀(i:Nat) (h:i<ts.length),C[n+5*i]? =some (.ints ts[i].ar))->
  vQ .task .cL C ((qa n ts).filter q)=some (ts.filter p)
 |[],n,_=>rfl
 |t::l,n,hC=>by
  have ih:=Bc p q hq C l (n+5) λi hi=>by
   have:=hC (i+1) (by simpa using hi);rw[show n+5+5*i=n+5*(i+1)from by omega,this];rfl
  have h0:C[n]? =some (.ints t.ar):=by
   have:=hC 0 (by simp);simpa using this
  have e1:(qa n (t::l)).filter q=cond (p t) (Pm n t::(qa (n+5) l).filter q) ((qa (n+5) l).filter q):=by
   simp only[qa,Su,hq];cases p t<;>rfl
  have e2:(t::l).filter p=cond (p t) (t::l.filter p) (l.filter p):=by
   rw[Su];cases p t<;>rfl
  refine(congrArg (vQ .task .cL C) e1).trans (Eq.trans ?_ (congrArg some e2.symm));clear e1 e2;cases p t
  ·exact ih
  ·have hc:uH C (zO (Pm n t))=some (Ma t):=by
    have hu:pD C (.tok (n+1))=some (.ints t.ar):=by
     show(match C[n]? with|some (.sl t xs)=>some (R.sl t xs)|_=>none)=_;rw[h0]
    show((pD C (.i t.id)).bind λx=>((pD C (.tok (n+1))).bind λx=>((pD C (.i t.at_)).bind λx=>((pD C (.i t.due)).bind λx=>((pD C (.i t.born)).bind λx=>(some []).bind λxs=>some (x::xs)).bind λxs=>some (x::xs)).bind λxs=>some (x::xs)).bind λxs=>some (x::xs)).bind λxs=>some (x::xs))=_;rw[hu];rfl
   refine(Jp C (Pm n t) _).trans ?_;rw[hc];exact congrArg (λr:Option (List Task)=>r.bind λxs=>some (t::xs)) ih
theorem CL (ts:List Task) (i:Nat) (h:i<ts.length):(db .task ts)[1+5*i]? =some (.ints ts[i].ar):=by
 have:=nW (s:=.task) (xs:=ts) (i:=i) (j:=1) (r:=.ints ts[i].ar) ⟨ts[i],ag h,rfl⟩;rw[show S.task.sz=5 from rfl]at this;rw[show 1+5*i=i*5+1 from by omega];exact this
theorem qX (ts:List Task):ko ts=some (qa 1 ts):=yY ts 1
theorem oJ (ts:List Task) (p:Task->Bool) (q:bY->Bool) (hq:∀n t,q (Pm n t)=p t):oS ts ((qa 1 ts).filter q)=some (ts.filter p):=
 Bc p q hq _ ts 1 λi hi=>CL ts i hi
theorem jm {α R:Type} (xs:List α) (p:α->Bool) {g:Int× Int× List α->(Int× Int× List α->Option R)->Option R} {fin:Int× List α->Option R}
    (h:∀(i j:Nat) (ys:List α) (hj:j<xs.length) (next:Int× Int× List α->Option R),i<=j->ys.length=xs.length->ys[j]? =some xs[j]->
      g ((i:Int),(j:Int),ys) next=cond (p xs[j]) (next ((i:Int),((j+1:Nat):Int),ys)) (next (((i+1:Nat):Int),((j+1:Nat):Int),ys.set i xs[j])))
    (hn:∀(i:Nat) (ys:List α) next,ys.length=xs.length->g ((i:Int),(xs.length:Int),ys) next=fin ((i:Int),ys)):
    ∀ (d i j : Nat) (ys : List α) (k : Nat), j + d = xs.length -> d < k -> i <= j -> ys.length = xs.length -> ys.drop j = xs.drop j -> ys.take i = (xs.take j).filter (λ x => !p x) ->
      ∃(i':Nat) (ys':List α),i'<=xs.length/\ys'.length=xs.length/\ys'.take i'=xs.filter (λx=>!p x)/\iter g k ((i:Int),(j:Int),ys)=fin ((i':Int),ys')
  |d,i,j,ys,0,_,h2,_,_,_,_=>by omega
  | 0, i, j, ys, k + 1, h1, _, h3, h4, _, h6 => by
    have hj:j=xs.length:=by omega
    subst hj;refine⟨i,ys,h3,h4,by rw[h6,RP],?_⟩
    rw[aG];exact hn i ys _ h4
  | d + 1, i, j, ys, k + 1, h1, h2, h3, h4, h5, h6 => by
    have hj:j<xs.length:=by omega
    have hg:ys[j]? =some xs[j]:=by
      have:(ys.drop j)[0]? =(xs.drop j)[0]? :=by rw[h5]
      rw[Ra,Ra,Ru]at this;rw[this];exact ag hj
    rw[aG,h i j ys hj _ h3 h4 hg]
    have hdrop:∀zs:List α,(∀m,j<m->zs[m]? =ys[m]?)->zs.drop (j+1)=xs.drop (j+1):=λzs hz=>by
      apply List.ext_getElem?;intro m;rw[Ra,Ra,hz _ (by omega)]
      have:(ys.drop j)[m+1]? =(xs.drop j)[m+1]? :=by rw[h5]
      rw[Ra,Ra]at this;rw[show j+1+m=j+(m+1)from by omega];exact this
    cases hp:p xs[j]
    · simp only[cond_false];refine jm xs p h hn d (i+1) (j+1) (ys.set i xs[j]) k (by omega) (by omega) (by omega) (by simp[h4]) (hdrop _ λm hm=>Sl (by omega)) ?_;rw[dw hj,SF,<-h6]
      have hi:i<ys.length:=by omega
      rw[dw (show i<(ys.set i xs[j]).length by simp;omega),List.take_set_of_le (Rb _)];simp[hp]
    · simp only[cond_true];refine jm xs p h hn d i (j+1) ys k (by omega) (by omega) (by omega) h4 (hdrop _ λm hm=>rfl) ?_;rw[dw hj,SF,<-h6];simp[hp]
theorem filter_none {α:Type} {p:α->Bool} {xs:List α} (h:xs.findIdx? p=none):xs.filter (λx=>!p x)=xs:=by
 rw[Sq]at h
 exact R7.2 λx hx=>by rw[h x hx];rfl
theorem mz {α:Type} {p:α->Bool} {xs:List α} {i:Nat} (h:xs.findIdx? p=some i):i<xs.length/\xs.take i=(xs.take (i+1)).filter (λx=>!p x):=by
 obtain⟨hi,hp,hlt⟩:=R2.1 h;refine⟨hi,?_⟩;rw[dw hi,SF]
 have h1:(xs.take i).filter (λx=>!p x)=xs.take i:=R7.2 λx hx=>by
  obtain⟨j,hj,rfl⟩:=Ry.1 hx
  have hj':j<i:=by simp at hj;omega
  rw[List.getElem_take];have:=hlt j hj';simpa using this
 rw[h1];simp[hp]
theorem qY {α:Type} {ys:List α} {i n:Nat} (z:α) (hi:i<=n) (hy:ys.length=n):((ys.take i++List.replicate (n-i) z++ys.drop (i+(n-i))).take (i-0))=ys.take i/\(ys.take i++List.replicate (n-i) z++ys.drop (i+(n-i))).length=n:=by
 refine⟨?_,by simp;omega⟩;rw[RE,Rh,R8 (by simp;omega),List.take_take,Nat.min_self]
theorem yZ {k:Nat} {zs:List bY} {id:Int} (hk:zs.length<k) (hN:zs.length<=aT):b9 k zs id=some ((zs.findIdx? λz=>z.id==id).elim (-1) λi=>(i:Int)):=by
 have hM:=al;unfold b9
 rw[eP zs (λt=>t.id==id) (yes:=some (-1)) (no:=some) (λi hi next=>by
  simp only[bK,dL,decide_true,cond_true,aa]
  rw[ab,if_pos (by omega),aD,ag hi,aa,au hi (by omega)]) (λnext=>by
  simp only[bK,decide_true,cond_true];rw[ab,if_neg (by omega)]) hk]
 exact cN _
theorem oU {k:Nat} {zs:List bY} {id:Int} (hk:zs.length<k) (hN:zs.length<=aT):bg k zs id=some (zs.filter λz=>!(z.id==id)):=by
  have hM:=al;unfold bg;rw[yZ hk hN,aa]
  cases hf:zs.findIdx? λz=>z.id==id with
  | none =>
    rw[SD,filter_none hf]
    simp
  | some i =>
    obtain⟨hi,hfi⟩:=mz hf;rw[QZ,bQ,if_neg (by omega),au hi (by omega)];simp only[decide_true,cond_true]
    obtain⟨i',ys',h1,h2,h3,h4⟩:=jm zs (λz=>z.id==id) (R:=List bY) (g:=λu5 n5=>aX k id u5 n5 (λy4=>cond (decide (0<=y4.1/\y4.1<=(y4.2.length:Int))) (cond (decide (0<=y4.1/\y4.1<=(((y4.2).take y4.1.toNat++List.replicate (y4.2.length-y4.1.toNat) (⟨(0:Int),(0:Nat),(0:Int),(0:Int),(0:Int)⟩:bY)++(y4.2).drop (y4.1.toNat+(y4.2.length-y4.1.toNat))).length:Int))) (some (((y4.2).take y4.1.toNat++List.replicate (y4.2.length-y4.1.toNat) (⟨(0:Int),(0:Nat),(0:Int),(0:Int),(0:Int)⟩:bY)++(y4.2).drop (y4.1.toNat+(y4.2.length-y4.1.toNat))).take (y4.1.toNat-0))) none) none))
      (fin:=λy4=>cond (decide (0<=y4.1/\y4.1<=(y4.2.length:Int))) (cond (decide (0<=y4.1/\y4.1<=(((y4.2).take y4.1.toNat++List.replicate (y4.2.length-y4.1.toNat) (⟨(0:Int),(0:Nat),(0:Int),(0:Int),(0:Int)⟩:bY)++(y4.2).drop (y4.1.toNat+(y4.2.length-y4.1.toNat))).length:Int))) (some (((y4.2).take y4.1.toNat++List.replicate (y4.2.length-y4.1.toNat) (⟨(0:Int),(0:Nat),(0:Int),(0:Int),(0:Int)⟩:bY)++(y4.2).drop (y4.1.toNat+(y4.2.length-y4.1.toNat))).take (y4.1.toNat-0))) none) none)
      (λi j ys hj next hij hl hg=>by
        simp only[aX,dL,decide_true,cond_true,aa,hl]
        rw[ab,if_pos (by omega),ab,if_pos (by omega),QW,hg,aa,cond_not,ab,if_pos (by omega),au hj (by omega),au (show i<zs.length by omega) (by omega),QW])
      (λi ys next hl=>by simp only[aX,hl];rw[ab,if_neg (by omega)])
      (zs.length-(i+1)) i (i+1) zs k (by omega) (by omega) (by omega) rfl rfl hfi
    refine h4.trans ?_;obtain⟨c1,c2⟩:=qY (⟨0,0,0,0,0⟩:bY) h1 h2;simp only[QW,h2];rw[c2,c1,ab,if_pos (by omega),ab,if_pos (by omega),h3]
theorem vJ {k:Nat} {zs:List bY} {a b c d e f g id:Int} (hk:zs.length<k) (hN:zs.length<=aT):fm k a b c zs d e f g id=some (zs.filter λz=>!(z.id==id)):=by
 have hM:=al;unfold fm;simp only[decide_true,cond_true]
 refine(jk zs (λz=>!(z.id==id)) (λz=>z) (g:=λu4 n4=>eC k (id,a,b,c,d,e,f,g,zs) u4 n4 (λy3=>some y3)) (fin:=some) (λi ys hi next hl=>by
  simp only[eC];rw[ab,if_pos (by omega),ab,if_pos (by omega),QW,ag hi,aa,ab,if_pos (by omega),aa,cu (by simp;omega),au hi (by omega)]
  rfl) (λys next=>by
  simp only[eC];rw[ab,if_neg (by omega)]) hk).trans ?_
 simp
def JG (ts:List Task) (id:Int):List Task:=ts.filter λt=>!(t.id==id)
def qb (s:aj) (id:Int):aj× Bool:=
 cond (bw s&&decide (0<=j8 s.tasks id)) (⟨s.now,s.ai,s.age,JG s.tasks id,cond (s.run==id) 0 s.run,cond (s.run==id) 0 s.left,s.turns,s.next⟩,true) (s,false)
theorem Jq {k:Nat} {zs:List bY} {a b c d e f g id:Int} (hk:zs.length<k) (hN:zs.length<=aT):dn k a b c zs d e f g id=some (zs.filter λz=>!(z.id==id),cond (d==id) 0 d,cond (d==id) 0 e):=by
 unfold dn;rw[oU hk hN,aa];simp only[decide_true,cond_true];cases d==id<;>rfl
theorem qc {k:Nat} {s:aj} {id:Int} (hk:s.tot<k) (hN:s.tot<=aT):jU k s id=some (qb s id):=by
 have hlen:=bm Task.tot s.tasks;have hst:s.tot=eA Task.tot s.tasks+0:=rfl;unfold jU qb;rw[p8 hk hN,aa,dD hk hN,aa];cases bw s
 ·rfl
 simp only[Q1,cond_false,Q2];rw[k7 (by omega) (by omega),aa];by_cases c:j8 s.tasks id<0
 ·rw[decide_eq_true c,decide_eq_false (by omega)];rfl
 rw[decide_eq_false c,decide_eq_true (by omega)];simp only[cond_false,cond_true];rw[qX,aa,vJ (by rw[er];omega) (by rw[er];omega),aa,my,cond_true,oJ s.tasks (λt=>!(t.id==id)) (λz=>!(z.id==id)) (λn t=>rfl),aa];unfold JG;cases s.run==id<;>rfl
end
end Go.Proofs.Ev
