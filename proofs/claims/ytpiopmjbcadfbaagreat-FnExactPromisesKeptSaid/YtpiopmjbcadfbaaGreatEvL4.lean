/- Typed functions and what holds of them: part 4. -/
import Derived.Test.YtpiopmjbcadfbaaGreatEvL3
set_option linter.unusedVariables false
set_option linter.unusedSimpArgs false
set_option linter.unusedSectionVars false
namespace Go.Proofs.Ev
section
def O2 (xs ws:List Int):Int:=(List.range xs.length).foldl (λs i=>oR s (yE (xs.getD i 0)*yE (ws.getD i 0))) 0
theorem P3 (a b:Int):IntKind.i64.wrap (yE a*yE b)=yE a*yE b:=by
 have h1:=yF a;have h2:=yF b;have:=O0 (A:=128) (B:=128) (x:=yE a) (y:=yE b) (by omega) (by omega);exact aH (by omega) (by omega)
theorem Jj {k:Nat} {xs ws:List Int} (hk:xs.length<k) (hl:ws.length=xs.length) (hN:xs.length<=aU):Ch k xs ws=some (O2 xs ws):=by
 have hM:=ao;unfold Ch O2
 exact nB xs.length (λs i=>oR s (yE (xs.getD i 0)*yE (ws.getD i 0))) 0 (fin:=some) (λi a next hi=>by
  simp only[qy,En,oE]
  rw[ab,if_pos (by omega),ab,if_pos (by omega),aD,ai hi,aa,aa,aD,ai (by omega),aa,aa,aa,P3,au hi (by omega),b8 hi,b8 (by omega)]) (λa next=>by
  simp only[qy]
  rw[ab,if_neg (by omega)]) hk
theorem Jk {k:Nat} {xs ws:List Int} (hk:xs.length<k) (hl:ws.length=xs.length) (hN:xs.length<=aU):Ci k xs ws=some (O2 xs ws):=by
 have hM:=ao;unfold Ci O2;rw[if_neg (by omega)]
 exact nB xs.length (λs i=>oR s (yE (xs.getD i 0)*yE (ws.getD i 0))) 0 (fin:=some) (λi a next hi=>by
  simp only[qC,Eo,yG]
  rw[ab,if_pos (by omega),aD,ai hi,aa,aa,aD,ai (by omega),aa,aa,aa,P3,au hi (by omega),b8 hi,b8 (by omega)]) (λa next=>by
  simp only[qC]
  rw[ab,if_neg (by omega)]) hk
def rZ (l:av) (xs:List Int) (o:Nat):Int:=
 yK (oR (O2 xs ((l.weights.take (o*xs.length+xs.length)).drop (o*xs.length))) (l.mT.getD o 0)) l.mult l.shift l.zero
theorem yM {k:Nat} {l:av} {xs:List Int} {o:Nat} (hk:xs.length<k) (hN:xs.length<=aU) (hw:o*xs.length+xs.length<=l.weights.length) (hwN:l.weights.length<=aU) (hb:o<l.mT.length) (ho:o<8):
  fH k l xs o=some (rZ l xs o):=by
 have hM:=ao
 have e:(o+1)*xs.length=o*xs.length+xs.length:=by rw[Rp,Nat.one_mul]
 have e1:IntKind.i64.wrap (IntKind.i64.wrap ((o:Int)+1)*(xs.length:Int))=((o*xs.length+xs.length:Nat):Int):=by
  rw[au ho (by omega),Eu (by omega),e]
 have e2:IntKind.i64.wrap ((o:Int)*(xs.length:Int))=((o*xs.length:Nat):Int):=Eu (by omega);unfold fH rZ;rw[e1,e2,ab,if_pos (by omega),ab,if_pos (by omega),QY,QY,Jk hk (by simp;omega) hN,aa,aD,ai hb,aa,yG,aa,Et,aa,b8 hb]
def kV:List Int->Int
 |[]=>0
 |x::xs=>xs.foldl (λm y=>if y>m then y else m) x
theorem HM {R:Type} {xs:List Int} {x:Int} {g:Int× Int->(Int× Int->Option R)->Option R} {fin:Int->Option R} {k:Nat}
  (h:∀(i:Nat) a next (hi:i<xs.length),g (a,((i+1:Nat):Int)) next=next (if xs[i]>a then xs[i]else a,((i+1+1:Nat):Int))) (hn:∀a next,g (a,((xs.length+1:Nat):Int)) next=fin a) (hk:xs.length<k):
  iter g k (x,(1:Int))=fin (kV (x::xs)):=by
 have:=fk (g:=g) (st:=λi=>((xs.take i).foldl (λm y=>if y>m then y else m) x,((i+1:Nat):Int))) (n:=xs.length) (r:=fin (kV (x::xs))) (λi hi next=>by
  rw[h i _ next hi,dB hi,R6];rfl) (λnext=>by rw[hn,RR];rfl) hk
 exact this
theorem pV:∀(xs:List Int) (x:Int),kV (x::xs)∈x::xs
 |[],x=>by simp[kV]
 |y::xs,x=>by
  show xs.foldl _ (if y>x then y else x)∈_;by_cases c:y>x
  ·rw[if_pos c];exact Rh _ (pV xs y)
  ·rw[if_neg c]
   rcases Rk.1 (pV xs x)with h|h
   ·have h:xs.foldl (λm y=>if y>m then y else m) x=x:=h;rw[h];simp
   ·exact Rh _ (Rh _ h)
theorem yN:∀{xs:List Int},(∀x∈xs,-128<=x/\x<=127)->-128*(xs.length:Int)<=xs.sum/\xs.sum<=127*(xs.length:Int)
 |[],_=>by simp
 |x::xs,h=>by
  have h1:=yN λy hy=>h y (Rh _ hy);have h2:=h x (by simp);rw[Sy,Q4];omega
theorem EB {R:Type} {xs:List Int} {g:Int× Int->(Int× Int->Option R)->Option R} {fin:Int->Option R} {k:Nat} (hx:∀x∈xs,-128<=x/\x<=127) (hN:xs.length<=aU)
  (h:∀(i:Nat) a next (hi:i<xs.length),g (a,(i:Int)) next=next (IntKind.i64.wrap (a+xs[i]),((i+1:Nat):Int))) (hn:∀a next,g (a,(xs.length:Int)) next=fin a) (hk:xs.length<k):
  iter g k ((0:Int),(0:Int))=fin xs.sum:=by
 have hM:=ao
 have:=fk (g:=g) (st:=λi=>((xs.take i).sum,(i:Int))) (n:=xs.length) (r:=fin xs.sum) (λi hi next=>by
  have hb:=yN (xs:=xs.take (i+1)) λx hm=>hx x (S0 hm)
  have e:(xs.take (i+1)).sum=(xs.take i).sum+xs[i]:=by rw[dB hi,SM];simp
  rw[e]at hb;simp only[RC]at hb
  rw[h i _ next hi,e,aH (by omega) (by omega)]) (λnext=>by rw[hn,RR]) hk
 exact this
def lS (W C:Nat) (xs:List Int) (l:av) (Z S h w o:Nat):Int:=
  cond (l.kind==0) (rZ l xs o) (cond (l.kind==1) (rZ l (O1 W C xs Z S h w) o)
    (cond (l.kind==2) (kV (iU W C xs Z S h w o)) (cond (l.kind==3) (gA (iU W C xs Z S h w o).sum ((Z*Z:Nat):Int))
      (cond (l.kind==4) (if atN W C xs h w o<l.zero then l.zero else atN W C xs h w o) (xs.getD o 0)))))
inductive Fits (H W C:Nat) (xs:List Int) (l:av) (Z S h w o:Nat):Prop
 |Nh (h0:l.kind=0) (hb:o<l.mT.length) (h8:o<8) (hw:o*xs.length+xs.length<=l.weights.length)
 |conv (h0:l.kind=1) (hb:o<l.mT.length) (h8:o<8) (hw:o*(Z*(Z*C))+Z*(Z*C)<=l.weights.length) (v:Ls H W Z S h w) (hi:∀x∈l.weights,-128<=x/\x<=127)
 |max (h0:l.kind=2) (v:Ls H W Z S h w) (ho:o<C)
 |avg (h0:l.kind=3) (v:Ls H W Z S h w) (ho:o<C)
 |Qn (h0:l.kind=4) (h1:h<H) (h2:w<W) (h3:o<C) (hz:-128<=l.zero/\l.zero<=127)
 |flat (h0:l.kind=5) (ho:o<xs.length)
theorem wE {H W C:Nat} {xs:List Int} (r:kU H W C xs) {Z S h w o:Nat} (v:Ls H W Z S h w) (ho:o<C):∀x∈iU W C xs Z S h w o,-128<=x/\x<=127:=by
 intro x hx;obtain⟨z1,z3,s2,hh,ww⟩:=v;unfold iU at hx;rw[S2]at hx;obtain⟨i,hi,hx⟩:=hx;rw[S2]at hx;obtain⟨j,hj,hx⟩:=hx;rw[List.mem_range]at hi hj;rw[List.mem_singleton]at hx;rw[hx];exact HL r (by omega) (by omega) ho
theorem yO {H W C:Nat} {xs:List Int} {Z S h w o:Nat} (v:Ls H W Z S h w):∃x ys,iU W C xs Z S h w o=x::ys:=by
 have hl:=Ew W C xs Z S h w o;have:=v.z1
 have hp:1<=Z*(Z*1):=by rw[Nat.mul_one];exact RH this this
 cases hc:iU W C xs Z S h w o with
 |nil=>rw[hc]at hl;simp only[Rs]at hl;omega
 |cons x ys=>exact⟨x,ys,rfl⟩
theorem nC {H W C:Nat} {xs:List Int} {Z S h w o:Nat} (v:Ls H W Z S h w):(iU W C xs Z S h w o).length=Z*Z/\1<=Z*Z/\Z*Z<=9:=by
 have hl:=Ew W C xs Z S h w o;rw[Nat.mul_one]at hl;exact⟨hl,RH v.z1 v.z1,RH v.z3 v.z3⟩
theorem Lu {k:Nat} {H W C:Nat} {xs:List Int} (r:kU H W C xs) {l:av} {Z S h w o:Nat} (hk:512<k) (hwN:l.weights.length<=aU) (hz:l.size=Z) (hs:l.step=S) (f:Fits H W C xs l Z S h w o):
  mq k l (uU H W C xs) h w o=some (lS W C xs l Z S h w o):=by
 have hM:=ao;have hcu:=r.Pn;have hlen:=r.len;unfold mq lS
 cases f with
 |Nh h0 hb h8 hw=>
  rw[h0];show(fH k l xs o).bind _=_
  rw[yM (by omega) (by omega) hw hwN hb h8];rfl
 |conv h0 hb h8 hw v hi=>
  have hl:=CC W C xs Z S h w;have:Z*(Z*C)<=3*(3*8):=RH v.z3 (RH v.z3 r.c8);rw[h0];show(cE k l (uU H W C xs) h w (-1)).bind _=_
  rw[EA r hk hz hs v,aa,yM (by omega) (by omega) (by rw[hl];exact hw) hwN hb h8];rfl
 |max h0 v ho=>
  rw[h0];show(cE k l (uU H W C xs) h w o).bind _=_;rw[yL r hk hz hs v ho,aa];have hl:=nC (xs:=xs) (C:=C) (o:=o) v;obtain⟨x,ys,e⟩:=yO (xs:=xs) (C:=C) (o:=o) v;rw[e]at hl;simp only[Q4]at hl;show(fm k (iU W C xs Z S h w o)).bind _=some (kV (iU W C xs Z S h w o));rw[e];unfold fm
  rw[ab,if_neg (by simp only[Q4];omega),wi,SN,aa,HM (xs:=ys) (x:=x) (fin:=some) (λi a next hi=>by
   simp only[dW]
   rw[ab,if_pos (by simp only[Q4];omega),aD,SB,ai hi,aa,au (show i+1<ys.length+1 by omega) (by omega)]) (λa next=>by
   simp only[dW]
   rw[ab,if_neg (by simp only[Q4];omega)]) (by omega)]
  rfl
 |avg h0 v ho=>
  rw[h0];show(cE k l (uU H W C xs) h w o).bind _=_;rw[yL r hk hz hs v ho,aa];have hl:=nC (xs:=xs) (C:=C) (o:=o) v;have hm:=wE r v ho;have hb:=yN hm;show _=some (gA (iU W C xs Z S h w o).sum ((Z*Z:Nat):Int))
  rw[EB (xs:=iU W C xs Z S h w o) (fin:=λy=>(nr k y (IntKind.i64.wrap (l.size*l.size))).bind λr9=>some r9) hm (by omega) (λi a next hi=>by
   simp only[iC]
   rw[ab,if_pos (by omega),ab,if_pos (by omega),QY,ai hi,aa,au hi (by omega)]) (λa next=>by
   simp only[iC]
   rw[ab,if_neg (by omega)]) (by omega)]
  rw[hz,Eu (by omega),vB (by omega) (by omega),aa]
 |Qn h0 h1 h2 h3 hz=>
  simp only[h0,show((4:Int)==0)=false from rfl,show((4:Int)==1)=false from rfl,show((4:Int)==2)=false from rfl,show((4:Int)==3)=false from rfl,beq_self_eq_true,cond_true,cond_false];refine(congrArg (λo:Option Int=>o.bind _) (rY (k:=k) r h1 h2 h3)).trans ?_;rw[aa];show(idx xs _).bind _=_;rw[aD,Gv r h1 h2 h3]
  rfl
 |flat h0 ho=>
  rw[h0];show(idx xs (o:Int)).bind _=_;rw[aD,ai ho];show _=some (xs.getD o 0);rw[b8 ho];rfl
theorem O3 {W C:Nat} {xs:List Int} {Z S h w i j c:Nat} (hi:i<Z) (hj:j<Z) (hc:c<C):(O1 W C xs Z S h w)[i*(Z*C)+(j*C+c)]? =some (atN W C xs (h*S+i) (w*S+j) c):=by
 have hb:j*C+c<Z*C:=by
  have:(j+1)*C<=Z*C:=Rg _ hj;rw[Rp]at this;omega
 unfold O1;rw[Cz _ (Z*C) Z (λi hi=>gN _ C Z λj hj=>by simp) i (j*C+c) hi hb,Cz _ C Z (λj hj=>by simp) j c hj hc,RD,List.getElem?_range hc];rfl
theorem AX {o Z i j C c:Nat}:((o*Z+i)*Z+j)*C+c=o*(Z*(Z*C))+(i*(Z*C)+(j*C+c)):=by
 simp only[Rp,Nat.mul_assoc,RV]
theorem Ni {H W C:Nat} {xs:List Int} (r:kU H W C xs) {ws:List Int} (hi:∀x∈ws,-128<=x/\x<=127) {Z S h w o:Nat} (v:Ls H W Z S h w) (hw:o*(Z*(Z*C))+Z*(Z*C)<=ws.length):
  O2 (O1 W C xs Z S h w) ((ws.take (o*(Z*(Z*C))+Z*(Z*C))).drop (o*(Z*(Z*C))))=
   (List.range Z).foldl (λs i=>(List.range Z).foldl (λs j=>(List.range C).foldl (λs c=>oR s (atN W C xs (h*S+i) (w*S+j) c*ws.getD (((o*Z+i)*Z+j)*C+c) 0)) s) s) 0:=by
 obtain⟨z1,z3,s2,hh,ww⟩:=v;unfold O2;rw[CC,CA];refine fold_congr Z _ λs i hi2=>?_;rw[CA];refine fold_congr Z _ λs j hj=>?_;refine fold_congr C _ λs c hc=>?_
 have hb:j*C+c<Z*C:=by
  have:(j+1)*C<=Z*C:=Rg _ hj;rw[Rp]at this;omega
 have hb2:i*(Z*C)+(j*C+c)<Z*(Z*C):=by
  have:(i+1)*(Z*C)<=Z*(Z*C):=Rg _ hi2;rw[Rp]at this;omega
 have a1:=HL r (show h*S+i<H by omega) (show w*S+j<W by omega) hc;have a2:=hi _ (wD (xs:=ws) (i:=o*(Z*(Z*C))+(i*(Z*C)+(j*C+c))) (by omega));rw[Rt,O3 hi2 hj hc,Sm,Rt,Ez hb2,<-Rt,AX];unfold yE;rw[NS (by omega) (by omega),NS (by omega) (by omega)]
theorem Lv {k:Nat} {H W C:Nat} {xs:List Int} (r:kU H W C xs) {l:av} {Z S h w o:Nat} (hk:512<k) (hwN:l.weights.length<=aU) (hz:l.size=Z) (hs:l.step=S) (f:Fits H W C xs l Z S h w o):
  s8 k (uU H W C xs) l h w o=some (lS W C xs l Z S h w o):=by
 have hM:=ao;have hcu:=r.Pn;have hlen:=r.len;unfold s8 lS
 cases f with
 |Nh h0 hb h8 hw=>
  rw[h0];simp only[beq_self_eq_true,cond_true]
  rw[oA,aa,show(uU H W C xs).sh.size=((xs.length:Nat):Int)from by rw[hlen];exact r.size,Eu (by omega),E0 (by omega),ab,if_pos (by omega),ab,if_pos (by omega),QY,QY,
   show(uU H W C xs).data=xs from rfl,Jj (by omega) (by simp;omega) (by omega),aa,aD,ai hb,aa,oE,aa,vD,aa]
  unfold rZ
  rw[b8 hb]
 |conv h0 hb h8 hw v hi=>
  have hl:=CC W C xs Z S h w;have hvv:=v;obtain⟨z1,z3,s2,hh,ww⟩:=hvv;have:=r.h8;have:=r.w8;have hc8:=r.c8;have hq:Z*(Z*C)<=3*(3*8):=RH v.z3 (RH v.z3 r.c8);rw[h0];show iter _ k _=some (rZ l (O1 W C xs Z S h w) o)
  refine(nB Z (λs i=>(List.range Z).foldl (λs j=>(List.range C).foldl (λs c=>oR s (atN W C xs (h*S+i) (w*S+j) c*l.weights.getD (((o*Z+i)*Z+j)*C+c) 0)) s) s) 0
   (fin:=λy=>(idx l.mT (o:Int)).bind λe14=>(ma k y e14).bind λr15=>(nq k r15 l.mult l.shift l.zero).bind λr16=>some r16) (λi a next hi2=>?_) (λa next=>?_) (by omega)).trans ?_
  ·simp only[mj,hz,hs];rw[ab,if_pos (by omega),au hi2 (by omega)];refine nB Z (λs j=>(List.range C).foldl (λs c=>oR s (atN W C xs (h*S+i) (w*S+j) c*l.weights.getD (((o*Z+i)*Z+j)*C+c) 0)) s) a (fin:=λy=>next (y,((i+1:Nat):Int))) (λj a2 next2 hj=>?_) (λa2 next2=>?_) (by omega)
   ·simp only[mi,hz,hs];rw[ab,if_pos (by omega),au hj (by omega)];refine nB C (λs c=>oR s (atN W C xs (h*S+i) (w*S+j) c*l.weights.getD (((o*Z+i)*Z+j)*C+c) 0)) a2 (fin:=λy=>next2 (y,((j+1:Nat):Int))) (λc a3 next3 hc=>?_) (λa3 next3=>?_) (by omega)
    ·have e1:h*S+i<H:=by omega
     have e2:w*S+j<W:=by omega
     have e:=rX (k:=k) r hk e1 e2 hc;have o1:o*Z<=7*3:=RH (by omega) z3;have o2:(o*Z+i)*Z<=23*3:=RH (by omega) z3;have o3:((o*Z+i)*Z+j)*C<=71*8:=RH (by omega) hc8
     have hb:j*C+c<Z*C:=by
      have:(j+1)*C<=Z*C:=Rg _ hj;rw[Rp]at this;omega
     have hb2:i*(Z*C)+(j*C+c)<Z*(Z*C):=by
      have:(i+1)*(Z*C)<=Z*(Z*C):=Rg _ hi2;rw[Rp]at this;omega
     have hx:((o*Z+i)*Z+j)*C+c<l.weights.length:=by rw[AX];omega
     have a1:=HL r e1 e2 hc;have a2:=hi _ (wD hx);have a3:=O0 (A:=128) (B:=128) (x:=atN W C xs (h*S+i) (w*S+j) c) (y:=l.weights.getD (((o*Z+i)*Z+j)*C+c) 0) (by omega) (by omega);unfold uU at e;simp only[mg,hz,hs,uU];refine(Lr (by omega) _ _).trans ?_;rw[Eu (a:=h) (by omega),E0 (b:=i) (by omega),Eu (a:=w) (by omega),E0 (b:=j) (by omega),e,aa,Eu (a:=o) (by omega),E0 (b:=i) (by omega),Eu (by omega),E0 (b:=j) (by omega),Eu (by omega),E0 (b:=c) (by omega),aD,ai hx,aa,<-b8 hx 0,aH (n:=atN W C xs (h*S+i) (w*S+j) c*l.weights.getD (((o*Z+i)*Z+j)*C+c) 0) (by omega) (by omega),oE,aa,au hc (by omega)]
    ·simp only[mg,uU];exact QH (by omega) _ _
   ·simp only[mi,hz];rw[ab,if_neg (by omega)]
  ·simp only[mj,hz];rw[ab,if_neg (by omega)]
  ·rw[aD,ai hb,aa,oE,aa,vD,aa];unfold rZ
   rw[hl,Ni r hi v hw,b8 hb]
 |max h0 v ho=>
  rw[h0];show(lD k (uU H W C xs) l h w o).bind _=_;rw[Ey r hk hz hs v ho,aa];have hl:=nC (xs:=xs) (C:=C) (o:=o) v;obtain⟨x,ys,e⟩:=yO (xs:=xs) (C:=C) (o:=o) v;rw[e]at hl;simp only[Q4]at hl;show _=some (kV (iU W C xs Z S h w o));rw[e,ab,if_pos (by simp only[Q4];omega)];show(some x).bind _=_
  rw[aa,HM (xs:=ys) (x:=x) (fin:=some) (λi a next hi=>by
   simp only[mm];rw[ab,if_pos (by simp only[Q4];omega),ab,if_pos (by simp only[Q4];omega),QY,SB,ai hi,aa,au (show i+1<ys.length+1 by omega) (by omega)]
   have hlt:0<=((i+1:Nat):Int)/\((i+1:Nat):Int)<(((x::ys).length:Nat):Int):=by rw[Q4];omega
   rw[Lr hlt,aa,ab];by_cases c:ys[i]>a
   ·rw[if_pos c,if_pos c]
   ·rw[if_neg c,if_neg c]) (λa next=>by
   simp only[mm]
   rw[ab,if_neg (by simp only[Q4];omega)]) (by omega)]
 |avg h0 v ho=>
  rw[h0];show(lD k (uU H W C xs) l h w o).bind _=_;rw[Ey r hk hz hs v ho,aa];have hl:=nC (xs:=xs) (C:=C) (o:=o) v;have hm:=wE r v ho;have hb:=yN hm;show _=some (gA (iU W C xs Z S h w o).sum ((Z*Z:Nat):Int))
  rw[EB (xs:=iU W C xs Z S h w o) (fin:=λy26=>(cond (decide (y26<(0:Int))) (cond (decide ((IntKind.i64.wrap ((2:Int)*((iU W C xs Z S h w o).length:Int)))=0)) none (some (IntKind.i64.wrap (0-(IntKind.i64.wrap ((IntKind.i64.wrap ((IntKind.i64.wrap ((-2:Int)*y26))+((iU W C xs Z S h w o).length:Int))).tdiv (IntKind.i64.wrap ((2:Int)*((iU W C xs Z S h w o).length:Int))))))))) (cond (decide ((IntKind.i64.wrap ((2:Int)*((iU W C xs Z S h w o).length:Int)))=0)) none (some (IntKind.i64.wrap ((IntKind.i64.wrap ((IntKind.i64.wrap ((2:Int)*y26))+((iU W C xs Z S h w o).length:Int))).tdiv (IntKind.i64.wrap ((2:Int)*((iU W C xs Z S h w o).length:Int))))))))) hm (by omega) (λi a next hi=>by
   simp only[mn]
   rw[ab,if_pos (by omega),ab,if_pos (by omega),QY,ai hi,aa,au hi (by omega)]) (λa next=>by
   simp only[mn]
   rw[ab,if_neg (by omega)]) (by omega)]
  rw[hl.1]at hb⊢;generalize (iU W C xs Z S h w o).sum=y at hb⊢;obtain⟨n,hn⟩:∃n:Nat,n=Z*Z:=⟨_,rfl⟩;rw[<-hn]at hb hl⊢;unfold gA;rw[aH (n:=2*(n:Int)) (by omega) (by omega),ab];by_cases c:y<0
  ·rw[if_pos c,if_pos c,ab,if_neg (by omega),aH (n:=-2*y) (by omega) (by omega),aH (n:=-2*y+(n:Int)) (by omega) (by omega),RU (by omega),show 2*-y+(n:Int)=-2*y+(n:Int)from by omega];have h:=AV (a:=-2*y+(n:Int)) (b:=2*(n:Int)) (by omega) (by omega);generalize (-2*y+(n:Int))/(2*(n:Int))=q at h;rw[aH (n:=q) (by omega) (by omega),aH (by omega) (by omega)]
   congr 1;omega
  ·rw[if_neg c,if_neg c,ab,if_neg (by omega),aH (n:=2*y) (by omega) (by omega),aH (n:=2*y+(n:Int)) (by omega) (by omega),RU (by omega)];have h:=AV (a:=2*y+(n:Int)) (b:=2*(n:Int)) (by omega) (by omega)
   rw[aH (by omega) (by omega)]
 |Qn h0 h1 h2 h3 hz=>
  rw[h0];show(om k (uU H W C xs) h w o).bind _=_;rw[rX r hk h1 h2 h3,aa];show cond (decide (atN W C xs h w o<l.zero)) _ _=some (if atN W C xs h w o<l.zero then l.zero else atN W C xs h w o);rw[ab];by_cases c:atN W C xs h w o<l.zero
  ·rw[if_pos c,if_pos c]
  ·rw[if_neg c,if_neg c]
 |flat h0 ho=>
  rw[h0];show(idx xs (o:Int)).bind _=_;rw[aD,ai ho];show _=some (xs.getD o 0);rw[b8 ho];rfl
end
section
theorem uV {a b:Int} {x:Int} (h:a<=x/\x<=b) (h0:0<=a):∃n:Nat,x=n:=⟨x.toNat,by omega⟩
theorem vE {H W C Z S:Nat} {l:av} {c:Int} (hz:l.size=Z) (hs:l.step=S) (s1:1<=S) (h8:H<=8) (w8:W<=8) (hzH:Z<=H) (hzW:Z<=W):
  qO ⟨H,W,C⟩ l c=⟨((H-Z)/S+1:Nat),((W-Z)/S+1:Nat),c⟩:=by
 have key:∀n:Nat,n<=8->Z<=n->IntKind.i64.wrap ((IntKind.i64.wrap ((IntKind.i64.wrap ((n:Int)-(Z:Int))).tdiv (S:Int)))+1)=(((n-Z)/S+1:Nat):Int):=λn h1 h2=>by
  have e1:((n:Int)-(Z:Int))=((n-Z:Nat):Int):=by omega
  have e2:(((n-Z:Nat):Int)).tdiv (S:Int)=(((n-Z)/S:Nat):Int):=rfl;have e3:(n-Z)/S<=n-Z:=Nat.div_le_self _ _;rw[e1,aH (n:=((n-Z:Nat):Int)) (by omega) (by omega),e2];generalize (n-Z)/S=q at e3;rw[aH (n:=((q:Nat):Int)) (by omega) (by omega),aH (by omega) (by omega)];omega
 unfold qO;rw[hz,hs];simp only[key H h8 hzH,key W w8 hzW]
theorem CD {n Z S:Nat} (h:n<=8) (h1:1<=Z) (h2:Z<=n):1<=(n-Z)/S+1/\(n-Z)/S+1<=8:=by
 have e3:(n-Z)/S<=n-Z:=Nat.div_le_self _ _;generalize (n-Z)/S=q at e3;omega
theorem Lw {H W Z S h w:Nat} (z1:1<=Z) (z3:Z<=3) (s1:1<=S) (s2:S<=2) (hzH:Z<=H) (hzW:Z<=W) (hh:h<(H-Z)/S+1) (hw:w<(W-Z)/S+1):Ls H W Z S h w:=by
 have a1:h*S<=H-Z:=(Nat.le_div_iff_mul_le (by omega)).1 (by omega);have a2:w*S<=W-Z:=(Nat.le_div_iff_mul_le (by omega)).1 (by omega);exact⟨z1,z3,s2,by omega,by omega⟩
theorem EC {l:av} (h:HI l=true):(1<=l.out/\l.out<=8)/\(l.mT.length:Int)=l.out/\∀x∈l.weights,-128<=x/\x<=127:=by
 simp only[HI,QX,cn,decide_eq_true_eq]at h;obtain⟨h1,h2,h3,h4,h5,h6,h7⟩:=h;unfold rp at h7;rw[Su]at h7;exact⟨h1,h5,λx hx=>cn.1 (h7 x hx)⟩
theorem uW {H W C:Nat} {xs:List Int} (r:kU H W C xs) {l:av} (hl:iN ⟨H,W,C⟩ l=true):
  ∃Z S H' W' C':Nat,l.size=Z/\l.step=S/\shapeOf ⟨H,W,C⟩ l=⟨H',W',C'⟩/\(1<=H'/\H'<=8)/\(1<=W'/\W'<=8)/\(1<=C'/\C'<=8)/\
   ∀h w o,h<H'->w<W'->o<C'->Fits H W C xs l Z S h w o:=by
 have hr:=r;obtain⟨h1,h8,w1,w8,c1,c8,hlen,hmem⟩:=hr;have hsz:=r.size;unfold iN at hl;rw[QX]at hl;obtain⟨-,hl⟩:=hl;unfold shapeOf;by_cases k0:l.kind=0
 ·rw[decide_eq_true k0]at hl⊢;simp only[cond_true,QX,decide_eq_true_eq,oU]at hl;obtain⟨⟨z0,s0⟩,hn,hs,hw⟩:=hl;obtain⟨ho,hb,hi⟩:=EC hn;obtain⟨O,hO⟩:=uV ho (by omega);rw[hO]at ho hb;refine⟨0,0,1,1,O,by omega,by omega,by rw[cond_true,hO];rfl,by omega,by omega,by omega,λh w o _ _ hlt=>.Nh k0 (by omega) (by omega) ?_⟩;rw[hO,hsz]at hw;have:((O:Int)*((H*W*C:Nat):Int))=((O*(H*W*C):Nat):Int):=(R3 _ _).symm;rw[this]at hw;have:(o+1)*(H*W*C)<=O*(H*W*C):=Rg _ hlt;rw[Rp,Nat.one_mul]at this;rw[hlen];omega
 rw[decide_eq_false k0]at hl⊢;simp only[cond_false]at hl⊢;by_cases k1:l.kind=1
 ·rw[decide_eq_true k1]at hl⊢;simp only[cond_true,QX,decide_eq_true_eq]at hl⊢;obtain⟨hwin,hn,hw,hw6⟩:=hl;obtain⟨z1,z3,s1,s2,zh,zw⟩:=pP hwin;obtain⟨ho,hb,hi⟩:=EC hn;obtain⟨O,hO⟩:=uV ho (by omega);obtain⟨Z,hZ⟩:=uV ⟨z1,z3⟩ (by omega);obtain⟨S,hS⟩:=uV ⟨s1,s2⟩ (by omega);rw[hO]at ho hb;rw[hZ]at z1 z3 zh zw;rw[hS]at s1 s2
  have zh:Z<=H:=by have:((Z:Nat):Int)<=(H:Int):=zh;omega
  have zw:Z<=W:=by have:((Z:Nat):Int)<=(W:Int):=zw;omega
  have d1:=CD (S:=S) h8 (show 1<=Z by omega) zh;have d2:=CD (S:=S) w8 (show 1<=Z by omega) zw;refine⟨Z,S,(H-Z)/S+1,(W-Z)/S+1,O,hZ,hS,by rw[vE hZ hS (by omega) h8 w8 zh zw,hO],d1,d2,by omega,λh w o hh hw2 hlt=>.conv k1 (by omega) (by omega) ?_ (Lw (by omega) (by omega) (by omega) (by omega) zh zw hh hw2) hi⟩;rw[hO,hZ]at hw
  have:((O:Int)*(Z:Int)*(Z:Int)*(C:Int))=((O*(Z*(Z*C)):Nat):Int):=by
   rw[R3,R3,R3,Tu,Tu]
  have hw:(l.weights.length:Int)=(O:Int)*(Z:Int)*(Z:Int)*(C:Int):=hw;rw[this]at hw;have:(o+1)*(Z*(Z*C))<=O*(Z*(Z*C)):=Rg _ hlt;rw[Rp,Nat.one_mul]at this;omega
 rw[decide_eq_false k1]at hl⊢;simp only[cond_false]at hl⊢;by_cases k2:l.kind=2\/l.kind=3
 ·have hk:(decide (l.kind=2)||decide (l.kind=3))=true:=by simpa using k2
  rw[hk]at hl;simp only[cond_true,QX,decide_eq_true_eq]at hl;obtain⟨hwin,hn,hw⟩:=hl;obtain⟨z1,z3,s1,s2,zh,zw⟩:=pP hwin;obtain⟨Z,hZ⟩:=uV ⟨z1,z3⟩ (by omega);obtain⟨S,hS⟩:=uV ⟨s1,s2⟩ (by omega);rw[hZ]at z1 z3 zh zw;rw[hS]at s1 s2
  have zh:Z<=H:=by have:((Z:Nat):Int)<=(H:Int):=zh;omega
  have zw:Z<=W:=by have:((Z:Nat):Int)<=(W:Int):=zw;omega
  have d1:=CD (S:=S) h8 (show 1<=Z by omega) zh;have d2:=CD (S:=S) w8 (show 1<=Z by omega) zw;rw[decide_eq_false (show¬l.kind=4 by omega),decide_eq_false (show¬l.kind=5 by omega)];simp only[cond_false];refine⟨Z,S,(H-Z)/S+1,(W-Z)/S+1,C,hZ,hS,vE hZ hS (by omega) h8 w8 zh zw,d1,d2,by omega,λh w o hh hw2 hlt=>?_⟩;have v:=Lw (by omega) (by omega) (by omega) (by omega) zh zw hh hw2
  rcases k2 with k2|k2
  ·exact .max k2 v hlt
  ·exact .avg k2 v hlt
 have hk:(decide (l.kind=2)||decide (l.kind=3))=false:=by simpa using k2
 rw[hk]at hl;simp only[cond_false]at hl;by_cases k4:l.kind=4
 ·rw[decide_eq_true k4]at hl⊢;simp only[cond_true,QX,decide_eq_true_eq,oU,cn]at hl⊢;obtain⟨⟨z0,s0⟩,hn,hz⟩:=hl;exact⟨0,0,H,W,C,by omega,by omega,rfl,by omega,by omega,by omega,λh w o a b c=>.Qn k4 a b c hz⟩
 rw[decide_eq_false k4]at hl⊢;simp only[cond_false]at hl⊢;by_cases k5:l.kind=5
 ·rw[decide_eq_true k5]at hl⊢;simp only[cond_true,QX,decide_eq_true_eq,oU]at hl⊢;obtain⟨⟨z0,s0⟩,hn,hz,hs⟩:=hl;have p1:1<=H*W:=RH h1 w1;have p2:1<=H*W*C:=RH p1 c1;rw[hsz]at hs⊢;exact⟨0,0,1,1,H*W*C,by omega,by omega,rfl,by omega,by omega,by omega,λh w o a b c=>.flat k5 (by rw[hlen];exact c)⟩
 rw[decide_eq_false k5]at hl;exact nomatch hl
theorem Jl {x d:Int} (hd:1<=d) (h1:-128*d<=x) (h2:x<=127*d):-128<=gA x d/\gA x d<=127:=by
 unfold gA;by_cases c:x<0
 ·rw[if_pos c];have a1:0<=(2*-x+d)/(2*d):=Int.ediv_nonneg (by omega) (by omega);have a2:(2*-x+d)/(2*d)<129:=Int.ediv_lt_of_lt_mul (by omega) (by omega);omega
 ·rw[if_neg c];have a1:0<=(2*x+d)/(2*d):=Int.ediv_nonneg (by omega) (by omega);have a2:(2*x+d)/(2*d)<128:=Int.ediv_lt_of_lt_mul (by omega) (by omega);omega
theorem Nj {H W C:Nat} {xs:List Int} (r:kU H W C xs) {l:av} {Z S h w o:Nat} (f:Fits H W C xs l Z S h w o):-128<=lS W C xs l Z S h w o/\lS W C xs l Z S h w o<=127:=by
 unfold lS
 cases f with
 |Nh h0 hb h8 hw=>rw[h0];exact yF _
 |conv h0 hb h8 hw v hi=>rw[h0];exact yF _
 |max h0 v ho=>
  rw[h0];obtain⟨x,ys,e⟩:=yO (xs:=xs) (C:=C) (o:=o) v;show -128<=kV (iU W C xs Z S h w o)/\kV (iU W C xs Z S h w o)<=127;have:=wE r v ho;rw[e]at this⊢
  exact this _ (pV ys x)
 |avg h0 v ho=>
  rw[h0];have hl:=nC (xs:=xs) (C:=C) (o:=o) v;have hb:=yN (wE r v ho);rw[hl.1]at hb;show -128<=gA (iU W C xs Z S h w o).sum ((Z*Z:Nat):Int)/\gA (iU W C xs Z S h w o).sum ((Z*Z:Nat):Int)<=127
  exact Jl (by omega) hb.1 hb.2
 |Qn h0 h1 h2 h3 hz=>
  rw[h0];have:=HL r h1 h2 h3;show -128<=(if atN W C xs h w o<l.zero then l.zero else atN W C xs h w o)/\(if atN W C xs h w o<l.zero then l.zero else atN W C xs h w o)<=127;by_cases c:atN W C xs h w o<l.zero
  ·rw[if_pos c];exact hz
  ·rw[if_neg c];exact this
 |flat h0 ho=>rw[h0];exact r.mem _ (wD ho)
def runN (W C:Nat) (xs:List Int) (l:av) (Z S H' W' C':Nat):List Int:=
 (List.range H').flatMap λh=>(List.range W').flatMap λw=>(List.range C').flatMap λo=>[lS W C xs l Z S h w o]
def L9 (t:aA) (l:av):aA× Bool:=
 cond (t.okB&&iN t.sh l) (⟨shapeOf t.sh l,runN t.sh.w.toNat t.sh.c.toNat t.data l l.size.toNat l.step.toNat (shapeOf t.sh l).h.toNat (shapeOf t.sh l).w.toNat (shapeOf t.sh l).c.toNat⟩,true) (⟨jn,[]⟩,false)
theorem Nk (W C:Nat) (xs:List Int) (l:av) (Z S H' W' C':Nat):(runN W C xs l Z S H' W' C').length=H'*(W'*(C'*1)):=
 gN _ _ _ λi hi=>gN _ _ _ λj hj=>gN _ _ _ λo ho=>rfl
theorem Jm {t:aA} {l:av} (h1:t.okB=true) (h2:iN t.sh l=true):(L9 t l).1.okB=true/\(L9 t l).1.sh=shapeOf t.sh l/\(L9 t l).2=true:=by
 obtain⟨H,W,C,r,e⟩:=CB h1
 have e2:t.sh=⟨H,W,C⟩:=by rw[e];rfl
 have h2':=h2;rw[e2]at h2';obtain⟨Z,S,H',W',C',hz,hs,hsh,a1,a2,a3,hf⟩:=uW r h2';unfold L9;rw[h1,h2];simp only[Bool.and_self,cond_true];refine And.intro ?_ (by simp);rw[e2,hsh,show l.size.toNat=Z from by omega,show l.step.toNat=S from by omega];simp only[QY];refine kU.ok (H:=H') (W:=W') (C:=C') ⟨a1.1,a1.2,a2.1,a2.2,a3.1,a3.2,by rw[Nk,Nat.mul_one,Nat.mul_assoc],λx hx=>?_⟩;unfold runN at hx;rw[S2]at hx;obtain⟨i,hi,hx⟩:=hx;rw[S2]at hx;obtain⟨j,hj,hx⟩:=hx;rw[S2]at hx;obtain⟨o,ho,hx⟩:=hx;rw[List.mem_range]at hi hj ho;rw[List.mem_singleton]at hx;rw[hx];exact Nj r (hf i j o hi hj ho)
theorem CE {k:Nat} {t:aA} {l:av} (hk:512<k) (hd:t.data.length<k) (hdN:t.data.length<=aU) (hl:l.tot<k) (hlN:l.tot<=aU):qz k t l=some (L9 t l):=by
 have hM:=ao;unfold qz L9;rw[oB hd (by unfold tO;omega),aa];cases h1:t.okB
 ·rfl
 simp only[Q3,cond_false,Q6];rw[oC hl hlN,aa];unfold gP;cases h2:iN t.sh l
 ·rfl
 obtain⟨H,W,C,r,e⟩:=CB h1;obtain⟨sh,xs⟩:=t;have e2:sh=⟨H,W,C⟩:=congrArg aA.sh e;subst e2;obtain⟨Z,S,H',W',C',hz,hs,hsh,a1,a2,a3,hf⟩:=uW r h2
 have hwN:l.weights.length<=aU:=by unfold av.tot at hlN;omega
 simp only[cond_true,Q3,cond_false];rw[hsh,show l.size.toNat=Z from by omega,show l.step.toNat=S from by omega];simp only[QY]
 have m1:∀w:Nat,∀h:Nat,((List.range C').flatMap λo=>[lS W C xs l Z S h w o]).length<=8:=λw h=>by
  have:=kS (λo=>[lS W C xs l Z S h w o]) 1 C' (λ_ _=>Rd _);omega
 have m2:∀h:Nat,((List.range W').flatMap λw=>(List.range C').flatMap λo=>[lS W C xs l Z S h w o]).length<=64:=λh=>by
  have:=kS (λw=>(List.range C').flatMap λo=>[lS W C xs l Z S h w o]) 8 W' (λw _=>m1 w h);omega
 refine(fG H' 64 (λh=>(List.range W').flatMap λw=>(List.range C').flatMap λo=>[lS W C xs l Z S h w o]) [] (fin:=λy=>some ((⟨⟨H',W',C'⟩,y⟩:aA),true)) (λh _=>m2 h) (λh ys next hi hy=>?_) (λys next=>?_) (by omega)).trans (by rw[Si];rfl)
 ·simp only[kD];rw[ab,if_pos (by omega),au hi (by omega)];refine fG W' 8 (λw=>(List.range C').flatMap λo=>[lS W C xs l Z S h w o]) ys (fin:=λy=>next (((h+1:Nat):Int),y)) (λw _=>m1 w h) (λw zs next2 hj hz2=>?_) (λzs next2=>?_) (by omega)
  ·simp only[kC];rw[ab,if_pos (by omega),au hj (by omega)];refine fG C' 1 (λo=>[lS W C xs l Z S h w o]) zs (fin:=λy=>next2 (((w+1:Nat):Int),y)) (λ_ _=>Rd _) (λo us next3 ho hz3=>?_) (λus next3=>?_) (by omega)
   ·simp only[kB];simp only[Rs]at hy;have eq:=Lv (k:=k) r (l:=l) hk hwN hz hs (hf h w o hi hj ho);rw[ab,if_pos (by omega)];refine(congrArg (λo:Option Int=>o.bind _) eq).trans ?_;rw[aa,cy (by simp;omega),au ho (by omega)]
   ·simp only[kB];rw[ab,if_neg (by omega)]
  ·simp only[kC];rw[ab,if_neg (by omega)]
 ·simp only[kD];rw[ab,if_neg (by omega)]
theorem CF {k:Nat} {t:aA} {l:av} (hk:512<k) (hd:t.data.length<k) (hdN:t.data.length<=aU) (hl:l.tot<k) (hlN:l.tot<=aU):qD k t l=some (L9 t l):=by
 have hM:=ao;unfold qD L9;rw[oD hl hlN,aa,tw hd (by unfold tO;omega)];unfold gP;cases h2:iN t.sh l
 ·cases t.okB<;>rfl
 simp only[cond_true,Q3,cond_false,aa];cases h1:t.okB
 ·rfl
 simp only[Q3,cond_false,Bool.and_self,cond_true];obtain⟨H,W,C,r,e⟩:=CB h1;obtain⟨sh,xs⟩:=t;have e2:sh=⟨H,W,C⟩:=congrArg aA.sh e;subst e2;obtain⟨Z,S,H',W',C',hz,hs,hsh,a1,a2,a3,hf⟩:=uW r h2
 have hwN:l.weights.length<=aU:=by unfold av.tot at hlN;omega
 rw[hsh,show l.size.toNat=Z from by omega,show l.step.toNat=S from by omega];simp only[QY]
 have m1:∀w:Nat,∀h:Nat,((List.range C').flatMap λo=>[lS W C xs l Z S h w o]).length<=8:=λw h=>by
  have:=kS (λo=>[lS W C xs l Z S h w o]) 1 C' (λ_ _=>Rd _);omega
 have m2:∀h:Nat,((List.range W').flatMap λw=>(List.range C').flatMap λo=>[lS W C xs l Z S h w o]).length<=64:=λh=>by
  have:=kS (λw=>(List.range C').flatMap λo=>[lS W C xs l Z S h w o]) 8 W' (λw _=>m1 w h);omega
 refine(fG H' 64 (λh=>(List.range W').flatMap λw=>(List.range C').flatMap λo=>[lS W C xs l Z S h w o]) [] (fin:=λy=>some ((⟨⟨H',W',C'⟩,y⟩:aA),true)) (λh _=>m2 h) (λh ys next hi hy=>?_) (λys next=>?_) (by omega)).trans (by rw[Si];rfl)
 ·simp only[kG];rw[ab,if_pos (by omega),au hi (by omega)];refine fG W' 8 (λw=>(List.range C').flatMap λo=>[lS W C xs l Z S h w o]) ys (fin:=λy=>next (((h+1:Nat):Int),y)) (λw _=>m1 w h) (λw zs next2 hj hz2=>?_) (λzs next2=>?_) (by omega)
  ·simp only[kF];rw[ab,if_pos (by omega),au hj (by omega)];refine fG C' 1 (λo=>[lS W C xs l Z S h w o]) zs (fin:=λy=>next2 (((w+1:Nat):Int),y)) (λ_ _=>Rd _) (λo us next3 ho hz3=>?_) (λus next3=>?_) (by omega)
   ·simp only[kE];simp only[Rs]at hy;have eq:=Lu (k:=k) r (l:=l) hk hwN hz hs (hf h w o hi hj ho);rw[ab,if_pos (by omega)];refine(congrArg (λo:Option Int=>o.bind _) eq).trans ?_;rw[aa,cy (by simp;omega),au ho (by omega)]
   ·simp only[kE];rw[ab,if_neg (by omega)]
  ·simp only[kF];rw[ab,if_neg (by omega)]
 ·simp only[kG];rw[ab,if_neg (by omega)]
end
section
end
section
end
section
def yP:av:=⟨0,0,0,0,0,0,0,[],[]⟩
theorem AY:∀(ls:List av) (s:Shape) (t:List Shape),cU s ls=some t->∀i,i<ls.length->iN ((s::t).getD i jn) (ls.getD i yP)=true/\(s::t).getD (i+1) jn=shapeOf ((s::t).getD i jn) (ls.getD i yP)
 |[],s,t,h,i,hi=>by simp at hi
 |l::ls,s,t,h,i,hi=>by
  simp only[cU]at h;cases hb:iN s l<;>simp only[hb,cond_true,cond_false]at h
  ·exact nomatch h
  ·obtain⟨t',h1,rfl⟩:=Q2.1 h
   cases i with
   |zero=>exact⟨hb,rfl⟩
   |succ i=>exact AY ls (shapeOf s l) t' h1 i (by simpa using hi)
theorem qT {m:Model} (h:ey m=true):(1<=m.aB.length/\m.aB.length<=6)/\∀i,i<m.aB.length->iN ((ch m).getD i jn) (m.aB.getD i yP)=true/\(ch m).getD (i+1) jn=shapeOf ((ch m).getD i jn) (m.aB.getD i yP):=by
 unfold ch;rw[h,cond_true];unfold ey at h;unfold dU at h⊢;cases h1:(m.inp.okB&&inB (m.aB.length:Int) 1 6)<;>rw[h1]at h
 ·exact nomatch h
 ·simp only[cond_true]at h⊢;rw[QX,cn]at h1
  cases h2:cU m.inp m.aB with
  |none=>rw[h2]at h;exact nomatch h
  |some t=>exact⟨by omega,AY m.aB m.inp t h2⟩
theorem j9 {j:Job} (h:tP j=true):ey j.model=true/\(0<=j.at_/\j.at_<=j.model.aB.length)/\j.act.okB=true/\j.act.sh=(ch j.model).getD j.at_.toNat jn/\j.iR=QF ((bC j.model).take j.at_.toNat):=by
 unfold tP at h;simp only[QX,cn,decide_eq_true_eq]at h;exact h
theorem Lx {j:Job} (h:tP j=true):j.act.data.length<=512/\j.tot<=j.model.tot+512:=by
 have h1:=(j9 h).2.2.1;unfold aA.okB at h1;simp only[QX,decide_eq_true_eq]at h1;have:=Shape.Lh j.act.sh;unfold Job.tot aA.tot;omega
def yQ (j:Job):av:=j.model.aB.getD j.at_.toNat yP
def Jn (j:Job):Int:=(bC j.model).getD j.at_.toNat 0
def vV (j:Job):Job:=⟨j.model,j.at_+1,(L9 j.act (yQ j)).1,IntKind.i64.wrap (j.iR+Jn j)⟩
theorem Ly {j:Job} (h:tP j=true) (hd:j.at_≠(j.model.aB.length:Int)):tP (vV j)=true:=by
 obtain⟨hm,hat,hok,hsh,hsp⟩:=j9 h;obtain⟨hlen,hg⟩:=qT hm;obtain⟨hl,hs⟩:=hg j.at_.toNat (by omega);rw[<-hsh]at hl hs;obtain⟨r1,r2,r3⟩:=Jm hok hl;have hcl:=ig hm
 have hi:j.at_.toNat<(bC j.model).length:=by omega
 have e:(j.at_+1).toNat=j.at_.toNat+1:=by omega
 unfold tP vV;simp only[QX,cn,decide_eq_true_eq,hm,true_and,e];refine⟨by omega,r1,?_,?_⟩
 ·show(L9 j.act (yQ j)).1.sh=_;rw[hs];exact r2
 ·unfold QF Jn;rw[dB hi,R6,b8 hi,hsp];rfl
theorem O4 {V R:Type} {g:V->(V->Option R)->Option R} {fin:V->Option R} {st:Nat->V} {n:Nat} {k:Nat} (h:∀i,i<n->∀next,g (st i) next=next (st (i+1))) (hn:∀next,g (st n) next=fin (st n)) (hk:n<k):iter g k (st 0)=fin (st n):=
 fk (g:=g) (st:=st) (n:=n) (r:=fin (st n)) h hn hk
theorem Gw {k:Nat} {j:Job} (hk:j.tot+8<k) (hN:j.tot<=aU) (h:tP j=true):wx k j=some ((bC j.model).drop j.at_.toNat):=by
 have hM:=ao;obtain⟨hm,hat,hok,hsh,hsp⟩:=j9 h;obtain⟨hlen,hg⟩:=qT hm;have hcl:=ig hm;have ht:j.tot=j.model.tot+(j.act.tot+0):=rfl;unfold wx;rw[qP (by omega) hN,aa,h];simp only[Q3,cond_false];rw[j7 (by omega) (by omega),aa]
 have e0:(j.at_,([]:List Int))=(((j.at_.toNat+0:Nat):Int),((bC j.model).drop j.at_.toNat).take 0):=by
  rw[List.take_zero];congr 1;omega
 rw[e0];refine(O4 (g:=λu5 n5=>lE k (bC j.model) u5 n5 (λy4=>some y4)) (fin:=λv=>some v.2) (st:=λi=>(((j.at_.toNat+i:Nat):Int),((bC j.model).drop j.at_.toNat).take i)) (n:=(bC j.model).length-j.at_.toNat) (λi hi next=>?_) (λnext=>?_) (by omega)).trans ?_
 ·have hi2:j.at_.toNat+i<(bC j.model).length:=by omega
  have hi3:i<((bC j.model).drop j.at_.toNat).length:=by simp;omega
  simp only[lE];rw[ab,if_pos (by omega),ab,if_pos (by omega),QY,ai hi2,aa,cy (by simp;omega),au hi2 (by omega),dB hi3,List.getElem_drop];rfl
 ·simp only[lE];rw[ab,if_neg (by omega)]
 ·rw[So (by simp)]
theorem Gx {k:Nat} {j:Job} (hk:j.tot+8<k) (hN:j.tot<aU) (h:tP j=true):wy k j=some ((bC j.model).drop j.at_.toNat):=by
 obtain⟨hm,hat,hok,hsh,hsp⟩:=j9 h;have hcl:=ig hm;have ht:j.tot=j.model.tot+(j.act.tot+0):=rfl;unfold wy;rw[AM (by omega) hN,aa,h];simp only[Q3,cond_false];rw[j8 (by omega) (by omega),aa,ab,if_pos (by omega),So (by simp)]
theorem Lz (xs:List Int) (n:Nat):(xs.drop n)[0]? =if n<xs.length then some (xs.getD n 0)else none:=by
 rw[Rc,Rw];by_cases c:n<xs.length
 ·rw[if_pos c,ai c,b8 c]
 ·rw[if_neg c,Rq (by omega)]
theorem ED {xs:List Int} {n:Nat} (h:¬n<xs.length):xs.getD n 0=0:=by
 rw[Rt,Rq (by omega)];rfl
theorem CG {k:Nat} {j:Job} (hk:j.tot+8<k) (hN:j.tot<=aU) (h:tP j=true):qA k j=some (Jn j):=by
 unfold qA Jn;rw[Gw hk hN h,aa,Eg,ab,R5];by_cases c:j.at_.toNat<(bC j.model).length
 ·rw[if_neg (by omega),ab,if_pos (by omega)];show(((bC j.model).drop j.at_.toNat)[0]?).bind _=_;rw[Lz,if_pos c,aa]
 ·rw[if_pos (by omega),ED c]
theorem CH {k:Nat} {j:Job} (hk:j.tot+8<k) (hN:j.tot<aU) (h:tP j=true):qB k j=some (Jn j):=by
 unfold qB Jn;rw[Gx hk hN h,aa,Eg,ab,R5];by_cases c:j.at_.toNat<(bC j.model).length
 ·rw[if_neg (by omega),wi,Lz,if_pos c,aa]
 ·rw[if_pos (by omega),ED c]
theorem EE {k:Nat} {j:Job} (hk:j.tot<k) (hN:j.tot<=aU):s4 k j=some j:=by
 have ht:j.tot=j.model.tot+(j.act.data.length+0+0):=rfl;unfold s4;rw[pR (by omega) (by omega),aa,pO (by omega) (by omega),aa]
def Nl (j:Job):Job× Bool:=cond (tP j&&!(j.at_==(j.model.aB.length:Int))) (vV j,true) (j,false)
theorem EF {k:Nat} {j:Job} (hk:j.tot<k) (hN:j.tot<=aU) (h:tP j=true):s5 k j=some (j.at_==(j.model.aB.length:Int)):=by
 unfold s5;rw[qP hk hN,aa,h];rfl
theorem EG {j:Job} (h:tP j=true) (hd:j.at_≠(j.model.aB.length:Int)):j.model.aB[j.at_.toNat]? =some (yQ j)/\(yQ j).tot<=j.model.tot:=by
 obtain⟨hm,hat,hok,hsh,hsp⟩:=j9 h
 have hi:j.at_.toNat<j.model.aB.length:=by omega
 unfold yQ;rw[b8 hi];have:=fl av.tot (Q7 hi);exact⟨ai hi,by unfold Model.tot;omega⟩
theorem vF {k:Nat} {j:Job} (hk:j.tot+513<k) (hN:j.tot<=aU):s9 k j=some (Nl j):=by
 have hM:=ao;have ht:j.tot=j.model.tot+(j.act.data.length+0+0):=rfl;unfold s9 Nl;rw[EE (by omega) hN,aa,qP (by omega) hN,aa];cases h:tP j
 ·rfl
 simp only[Q3,cond_false,Q6];rw[EF (by omega) hN h,aa,Eg];obtain⟨hm,hat,hok,hsh,hsp⟩:=j9 h;obtain⟨hlen,_⟩:=qT hm;by_cases c:j.at_=(j.model.aB.length:Int)
 ·rw[decide_eq_true c];rfl
 rw[decide_eq_false c];simp only[cond_false,Ro,cond_true];obtain⟨hl,hlt⟩:=EG h c;rw[rN _ hat.1,hl,aa,CE (by omega) (by omega) (by omega) (by omega) (by omega),aa,CG (by omega) hN h,aa,aH (n:=j.at_+1) (by omega) (by omega)];rfl
end
section
end
section
theorem oG (b c:Bool):cond b (some c) (some false)=some (b&&c):=by cases b<;>rfl
theorem NU (a b:Int):decide (a>=b)=!decide (a<b):=by rw[<-decide_not];exact decide_eq_decide.2 (by omega)
theorem LA (a b:Int):decide (a>b)=!decide (a<=b):=by rw[<-decide_not];exact decide_eq_decide.2 (by omega)
theorem EH {R:Type} (n:Nat) (p:Nat->Bool) {g:Int->(Int->Option R)->Option R} {yes no:Option R}
  (h:∀(i:Nat) (hi:i<n) (next:Int->Option R),g (i:Int) next=cond (p i) (next ((i+1:Nat):Int)) no)
  (hn:∀next,g (n:Int) next=yes) {k:Nat} (hk:n<k):iter g k 0=cond ((List.range n).all p) yes no:=
 ky (List.range n) p (g:=g) (yes:=yes) (no:=no) (λi hi next=>by rw[h i (by simpa using hi)];simp) (λnext=>by simpa using hn next) (by simpa using hk)
theorem lL {α β R:Type} (xs:List α) (p:α->Bool) (f:α->β) {g:Int× List β->(Int× List β->Option R)->Option R} {fin:List β->Option R}
  (h:∀(i:Nat) (ys:List β) (hi:i<xs.length) (next:Int× List β->Option R),ys.length<=i->g ((i:Int),ys) next=cond (p xs[i]) (next (((i+1:Nat):Int),ys++[f xs[i]])) (next (((i+1:Nat):Int),ys)))
  (hn:∀ys next,g ((xs.length:Int),ys) next=fin ys) {k:Nat} (hk:xs.length<k):iter g k (0,[])=fin ((xs.filter p).map f):=by
 have:=fk (g:=g) (st:=λi=>((i:Int),((xs.take i).filter p).map f)) (n:=xs.length) (r:=fin ((xs.filter p).map f)) (λi hi next=>by
  rw[h i _ hi next (by simp only[List.length_map];exact Se (Ss _ _) (by simp;omega)),dB hi,SI,R2];cases hp:p xs[i]
  ·simp[hp]
  ·simp[hp]) (λnext=>by rw[RR];exact hn _ _) hk
 simpa using this
theorem yR {α:Type} {f:α->Int} {B:Int}:∀(xs:List α) (hf:∀x∈xs,0<=f x/\f x<=B),0<=(xs.map f).sum/\(xs.map f).sum<=B*xs.length
 |[],_=>by simp
 |x::xs,hf=>by
  have:=yR xs λy hy=>hf y (by simp[hy]);have h2:=hf x (by simp);simp only[RB,Sy,Q4];rw[Int.natCast_add,Int.mul_add];omega
theorem HN {α R:Type} (xs:List α) (f:α->Int) {B:Int} (hf:∀x∈xs,0<=f x/\f x<=B) {g:Int× Int->(Int× Int->Option R)->Option R} {fin:Int->Option R}
  (h:∀(i:Nat) (s:Int) (hi:i<xs.length) (next:Int× Int->Option R),0<=s->s<=B*i->g (s,(i:Int)) next=next (s+f xs[i],((i+1:Nat):Int)))
  (hn:∀s next,g (s,(xs.length:Int)) next=fin s) {k:Nat} (hk:xs.length<k):iter g k (0,0)=fin ((xs.map f).sum):=by
 have:=fk (g:=g) (st:=λi=>(((xs.take i).map f).sum,(i:Int))) (n:=xs.length) (r:=fin ((xs.map f).sum)) (λi hi next=>by
  have hb:=yR (f:=f) (B:=B) (xs.take i) (λx hx=>hf x (S0 hx));rw[RC,Ta (by omega)]at hb;rw[h i _ hi next hb.1 hb.2,dB hi,R2,SM]
  simp) (λnext=>by rw[RR];exact hn _ _) hk
 simpa using this
theorem EI {R:Type} (xs:List Int) (a:Nat) (ha:a<=xs.length) {B:Int} (hB:0<=B) (hf:∀x∈xs,0<=x/\x<=B) {g:Int× Int->(Int× Int->Option R)->Option R} {fin:Int->Option R}
  (h:∀(i:Nat) (s:Int) (hi:i<xs.length) (next:Int× Int->Option R),0<=s->s<=B*i->g (s,(i:Int)) next=next (s+xs[i],((i+1:Nat):Int)))
  (hn:∀s next,g (s,(xs.length:Int)) next=fin s) {k:Nat} (hk:xs.length<k):iter g k (0,(a:Int))=fin ((xs.drop a).sum):=by
 have:=fk (g:=g) (st:=λi=>(((xs.drop a).take i).sum,((a+i:Nat):Int))) (n:=xs.length-a) (r:=fin ((xs.drop a).sum)) (λi hi next=>by
  have hb:=yR (f:=λx:Int=>x) (B:=B) ((xs.drop a).take i) (λx hx=>hf x (List.mem_of_mem_drop (S0 hx)));rw[RC,R5,Ta (by omega),Tk]at hb;have hle:B*(i:Int)<=B*((a+i:Nat):Int):=Int.mul_le_mul_of_nonneg_left (by omega) hB;rw[h (a+i) _ (by omega) next hb.1 (by omega),dB (show i<(xs.drop a).length by simp;omega),SM]
  simp[RV]) (λnext=>by
   rw[show a+(xs.length-a)=xs.length by omega,So (by simp)];exact hn _ _) (k:=k) (by omega)
 simpa using this
def im (t:Task):Bool:=inB t.id 1 1000000&&(inB (t.ar.length:Int) 1 6&&(inB t.at_ 0 ((t.ar.length:Int)-1)&&(inB t.due 0 1000000&&(inB t.born 0 1000000&&t.ar.all λx=>inB x 1 1000))))
theorem cf {t:Task} (h:im t=true):(1<=t.id/\t.id<=1000000)/\(1<=t.ar.length/\t.ar.length<=6)/\(0<=t.at_/\t.at_<t.ar.length)/\(0<=t.due/\t.due<=1000000)/\(0<=t.born/\t.born<=1000000)/\∀x∈t.ar,1<=x/\x<=1000:=by
 unfold im inB at h;simp only[QX,decide_eq_true_eq,Su]at h;obtain⟨h1,h2,h3,h4,h5,h6⟩:=h;exact⟨h1,by omega,by omega,h4,h5,h6⟩
theorem pW (k:Nat) (x:Int):jX k x=some (inB x 0 1000000):=by unfold jX;rw[cw];rfl
theorem sa (k:Nat) (x:Int):mu k x=some (inB x 0 1000000):=by unfold mu;rw[fw];rfl
theorem yS {k:Nat} {t:Task} (hk:t.ar.length<k) (hN:t.ar.length<=aU):tf k t=some (im t):=by
 have hM:=ao;unfold tf im;simp only[cw,pW,aa,cond_not]
 rw[aH (by omega) (by omega),ky t.ar (λx=>inB x 1 1000) (yes:=some true) (no:=some false) (λi hi next=>by
  simp only[ot]
  rw[ab,if_pos (by omega),aD,ai hi,aa,cw,aa,cond_not,au hi (by omega)]) (λnext=>by
  simp only[ot];rw[ab,if_neg (by omega)]) hk]
 simp only[oG,S8]
theorem yU {k:Nat} {t:Task} (hk:t.ar.length<k) (hN:t.ar.length<=aU):tl k t=some (im t):=by
 have hM:=ao;unfold tl bm bG im
 rw[eR t.ar (λx=>!inB x 1 1000) (λi hi next=>by
  simp only[aM,ab,rQ,fw,aa]
  rw[if_pos (by omega),aD,ai hi,aa,au hi (by omega)]) (λnext=>by
  simp only[aM,ab];rw[if_neg (by omega)]) hk]
 rw[cS];simp only[fw,sa,aa,nw];rw[aH (by omega) (by omega),SC];simp only[Ti,oG]
 congr 1
 generalize inB t.id 1 1000000=a;generalize inB (t.ar.length:Int) 1 6=b;generalize inB t.at_ 0 ((t.ar.length:Int)-1)=c;generalize inB t.due 0 1000000=d;generalize inB t.born 0 1000000=e;generalize (t.ar.all λx=>inB x 1 1000)=f;cases a<;>cases b<;>cases c<;>cases d<;>cases e<;>cases f<;>rfl
def ka (ts:List Task) (id:Int):Int:=(ts.findIdx? λt=>t.id==id).elim (-1) λi=>(i:Int)
theorem lb {k:Nat} {s:aj} {id:Int} (hk:s.tasks.length<k) (hN:s.tasks.length<=aU):kt k s id=some (ka s.tasks id):=by
 have hM:=ao;unfold kt ka
 rw[eR s.tasks (λt=>t.id==id) (yes:=some (-1)) (no:=some) (λi hi next=>by
  simp only[qG]
  rw[ab,if_pos (by omega),aD,ai hi,aa,au hi (by omega)]) (λnext=>by
  simp only[qG];rw[ab,if_neg (by omega)]) hk]
 exact cS _
theorem tG {k:Nat} {s:aj} {id:Int} (hk:s.tasks.length<k) (hN:s.tasks.length<=aU):de k s id=some (ka s.tasks id):=by
 have hM:=ao;unfold de da ka
 rw[eR s.tasks (λt=>t.id==id) (yes:=some (-1)) (no:=some) (λi hi next=>by
  simp only[bQ,jk,decide_true,cond_true,aa]
  rw[ab,if_pos (by omega),aD,ai hi,aa,au hi (by omega)]) (λnext=>by
  simp only[bQ,decide_true,cond_true];rw[ab,if_neg (by omega)]) hk]
 rw[cS];rfl
def gv (s:aj):Bool:=(List.range s.tasks.length).all λi=>(s.tasks[i]?).elim false λt=>im t&&(decide (t.id<s.next)&&(decide (t.born<=s.now)&&(cond (decide (0<i)) ((s.tasks[i-1]?).elim false λu=>decide (u.id<t.id)) true)))
def JG (s:aj):Bool:=cond (s.run==0) (s.left==0) ((s.tasks.findIdx? λt=>t.id==s.run).elim false λi=>(s.tasks[i]?).elim false λt=>(idx t.ar t.at_).elim false λc=>inB s.left 1 c)
def bu (s:aj):Bool:=inB s.now 0 1000000&&(inB s.ag 0 1000&&(inB s.age 0 20&&(decide ((s.tasks.length:Int)<=12)&&(inB s.turns 0 1000000&&(inB s.next 1 1000000&&(gv s&&JG s))))))
theorem cg {s:aj} (h:gv s=true) {i:Nat} (hi:i<s.tasks.length):im s.tasks[i]=true/\s.tasks[i].id<s.next/\s.tasks[i].born<=s.now/\∀j,(hj:j+1=i)->s.tasks[j].id<s.tasks[i].id:=by
 unfold gv at h;rw[Su]at h;have:=h i (by simpa using hi);rw[ai hi,Q1]at this;simp only[QX,decide_eq_true_eq]at this;obtain⟨h1,h2,h3,h4⟩:=this;refine⟨h1,h2,h3,λj hj=>?_⟩;subst hj;rw[decide_eq_true (by omega),cond_true,Nat.add_sub_cancel,ai (show j<s.tasks.length by omega),Q1]at h4;exact of_decide_eq_true h4
theorem HO {s:aj} (h:gv s=true):∀(d i:Nat) (hd:i+d+1<s.tasks.length),s.tasks[i].id<s.tasks[i+d+1].id
 |0,i,hd=>(cg h hd).2.2.2 i rfl
 |d+1,i,hd=>Int.lt_trans (HO h d i (by omega)) ((cg h (i:=i+(d+1)+1) hd).2.2.2 (i+d+1) (by omega))
theorem LB {s:aj} (h:gv s=true) {i j:Nat} (hi:i<s.tasks.length) (hj:j<s.tasks.length) (e:s.tasks[i].id=s.tasks[j].id):i=j:=by
 rcases SX i j with c|c|c
 ·obtain⟨d,rfl⟩:∃d,j=i+d+1:=⟨j-i-1,by omega⟩;have:=HO h d i hj;omega
 ·exact c
 ·obtain⟨d,rfl⟩:∃d,i=j+d+1:=⟨i-j-1,by omega⟩;have:=HO h d j hi;omega
theorem CI {s:aj} (h:gv s=true) {i:Nat} (hi:i<s.tasks.length):(s.tasks.findIdx? λt=>t.id==s.tasks[i].id)=some i:=by
 cases e:s.tasks.findIdx? λt=>t.id==s.tasks[i].id with
 |none=>
  rw[Sr]at e;have:=e _ (Q7 hi)
  simp at this
 |some j=>
  obtain⟨hj,hp,_⟩:=R4.1 e;rw[LB h hj hi (by simpa using hp)]
theorem pX {ts:List Task} {id:Int} {i:Nat} (h:(ts.findIdx? λt=>t.id==id)=some i):∃hi:i<ts.length,ts[i].id=id:=by
 obtain⟨hi,hp,_⟩:=R4.1 h;exact⟨hi,by simpa using hp⟩
theorem HP {s:aj} (h:gv s=true) (i:Nat) (hi:(s.tasks.findIdx? λt=>t.id==s.run)=some i):
  ((idx s.tasks (i:Int)).bind λe8=>(idx s.tasks (i:Int)).bind λe9=>(idx e8.ar e9.at_).bind λe10=>some (inB s.left (1:Int) e10))=
  some ((s.tasks[i]?).elim false λt=>(idx t.ar t.at_).elim false λc=>inB s.left 1 c):=by
 obtain⟨hl,_⟩:=pX hi;have ht:=cf (cg h hl).1;rw[aD,ai hl,aa,aa,Q1]
 have:idx s.tasks[i].ar s.tasks[i].at_=some (s.tasks[i].ar[s.tasks[i].at_.toNat]'(by omega)):=by
  rw[rN _ ht.2.2.1.1];exact ai _
 rw[this,aa,Q1]
theorem ik {ts:List Task} {id:Int} {i:Nat} (h:(ts.findIdx? λt=>t.id==id)=some i):ka ts id=(i:Int):=by unfold ka;rw[h];rfl
theorem uX {ts:List Task} {id:Int} (h:(ts.findIdx? λt=>t.id==id)=none):ka ts id=-1:=by unfold ka;rw[h];rfl
theorem AZ {R:Type} {s:aj} {i:Nat} (hi:i<s.tasks.length) (hN:s.tasks.length<=aU) {next no:Option R}:
  (cond (!im s.tasks[i]) no (cond (decide (s.tasks[i].id>=s.next)) no (cond (decide (s.tasks[i].born>s.now)) no (cond (decide ((i:Int)>(0:Int))) ((idx s.tasks (IntKind.i64.wrap ((i:Int)-(1:Int)))).bind λe8=>cond (decide (e8.id>=s.tasks[i].id)) no next) next))))=
  cond ((s.tasks[i]?).elim false λt=>im t&&(decide (t.id<s.next)&&(decide (t.born<=s.now)&&(cond (decide (0<i)) ((s.tasks[i-1]?).elim false λu=>decide (u.id<t.id)) true)))) next no:=by
 have hM:=ao;rw[ai hi,Q1,NU s.tasks[i].id s.next,LA s.tasks[i].born s.now];simp only[cond_not]
 cases i with
 |zero=>
  rw[decide_eq_false (show¬(((0:Nat):Int)>0) by omega),decide_eq_false (show¬(0<0) by omega)];simp only[cond_false,S8]
  cases im s.tasks[0]<;>cases decide (s.tasks[0].id<s.next)<;>cases decide (s.tasks[0].born<=s.now)<;>rfl
 |succ j=>
  rw[decide_eq_true (show(((j+1:Nat):Int)>0) by omega),decide_eq_true (show(0<j+1) by omega),aH (by omega) (by omega),show((j+1:Nat):Int)-1=(j:Int)from by omega,aD,Nat.add_sub_cancel,ai (show j<s.tasks.length by omega),aa,Q1,NU s.tasks[j].id];simp only[cond_true,cond_not];cases im s.tasks[j+1]<;>cases decide (s.tasks[j+1].id<s.next)<;>cases decide (s.tasks[j+1].born<=s.now)<;>cases decide (s.tasks[j].id<s.tasks[j+1].id)<;>rfl
theorem dI {k:Nat} {s:aj} (hk:s.tot<k) (hN:s.tot<=aU):eW k s=some (bu s):=by
 have hM:=ao;unfold aj.tot at hk hN;have hlen:=bw Task.tot s.tasks;unfold eW bu;rw[LA (s.tasks.length:Int) 12];simp only[cw,pW,aa,cond_not]
 rw[EH s.tasks.length (λi=>(s.tasks[i]?).elim false λt=>im t&&(decide (t.id<s.next)&&(decide (t.born<=s.now)&&(cond (decide (0<i)) ((s.tasks[i-1]?).elim false λu=>decide (u.id<t.id)) true)))) (λi hi next=>by
  have hm:=fl Task.tot (Q7 hi);have hm0:s.tasks[i].tot=s.tasks[i].ar.length+0:=rfl;simp only[mr];rw[ab,if_pos (by omega),aD,ai hi,aa,yS (by omega) (by omega),aa,au hi (by omega)]
  exact(AZ hi (by omega)).trans (by rw[ai hi])) (λnext=>by
  simp only[mr];rw[ab,if_neg (by omega)]) (by omega)]
 rw[show((List.range s.tasks.length).all λi=>(s.tasks[i]?).elim false λt=>im t&&(decide (t.id<s.next)&&(decide (t.born<=s.now)&&(cond (decide (0<i)) ((s.tasks[i-1]?).elim false λu=>decide (u.id<t.id)) true))))=gv s from rfl]
 have hr:gv s=true->cond (s.run==(0:Int)) (some (s.left==(0:Int))) (cond (decide (ka s.tasks s.run>=(0:Int))) ((idx s.tasks (ka s.tasks s.run)).bind λe11=>(idx s.tasks (ka s.tasks s.run)).bind λe12=>(idx e11.ar e12.at_).bind λe13=>some (inB s.left (1:Int) e13)) (some false))=some (JG s):=by
  intro h;unfold JG;cases s.run==0
  ·simp only[cond_false]
   cases hf:s.tasks.findIdx? λt=>t.id==s.run with
   |none=>rw[uX hf];rfl
   |some i=>rw[ik hf,ab,if_pos (by omega),HP h i hf];rfl
  ·rfl
 simp only[lb (s:=s) (id:=s.run) (k:=k) (by omega) (by omega),aa];cases h:gv s
 ·simp only[cond_false,RP];simp only[oG,SZ]
 ·simp only[cond_true,Q6,hr h,oG]
theorem CJ {k:Nat} {s:aj} (hk:s.tot<k) (hN:s.tot<=aU):gO k s=some (gv s&&decide ((s.tasks.length:Int)<=12)):=by
 have hM:=ao;unfold aj.tot at hk hN;have hlen:=bw Task.tot s.tasks;unfold gO
 rw[EH s.tasks.length (λi=>(s.tasks[i]?).elim false λt=>im t&&(decide (t.id<s.next)&&(decide (t.born<=s.now)&&(cond (decide (0<i)) ((s.tasks[i-1]?).elim false λu=>decide (u.id<t.id)) true)))) (λi hi next=>by
  have hm:=fl Task.tot (Q7 hi);have hm0:s.tasks[i].tot=s.tasks[i].ar.length+0:=rfl;simp only[fo];rw[ab,if_pos (by omega),aD,ai hi,aa,yU (by omega) (by omega),aa,au hi (by omega)]
  exact(AZ hi (by omega)).trans (by rw[ai hi])) (λnext=>by
  simp only[fo];rw[ab,if_neg (by omega)]) (by omega)]
 exact oG _ _
theorem ke {k:Nat} {s:aj} (hk:s.tot<k) (hN:s.tot<=aU):lH k s=some (bu s):=by
 have hM:=ao;have hk2:=hk;have hN2:=hN;unfold aj.tot at hk hN;have hlen:=bw Task.tot s.tasks;unfold lH bu;simp only[fw,sa,aa,cond_not,CJ hk2 hN2,tG (s:=s) (id:=s.run) (k:=k) (by omega) (by omega)]
 have hr:gv s=true->cond (s.run==(0:Int)) (cond (s.run==(0:Int)) (some (s.left==(0:Int))) (some false)) (cond (decide (ka s.tasks s.run<(0:Int))) (cond (s.run==(0:Int)) (some (s.left==(0:Int))) (some false)) ((idx s.tasks (ka s.tasks s.run)).bind λe8=>(idx s.tasks (ka s.tasks s.run)).bind λe9=>(idx e8.ar e9.at_).bind λe10=>some (inB s.left (1:Int) e10)))=some (JG s):=by
  intro h;unfold JG;cases s.run==0
  ·simp only[cond_false]
   cases hf:s.tasks.findIdx? λt=>t.id==s.run with
   |none=>rw[uX hf];rfl
   |some i=>rw[ik hf,ab,if_neg (by omega),HP h i hf];rfl
  ·rfl
 cases h:gv s
 ·simp only[cond_false,RP];simp only[oG,SZ]
 ·rw[hr h];simp only[Q6,oG]
  congr 1
  generalize inB s.now 0 1000000=a;generalize inB s.ag 0 1000=b;generalize inB s.age 0 20=c;generalize decide ((s.tasks.length:Int)<=12)=d;generalize inB s.turns 0 1000000=e;generalize inB s.next 1 1000000=f;generalize JG s=g;cases a<;>cases b<;>cases c<;>cases d<;>cases e<;>cases f<;>cases g<;>rfl
theorem bF {s:aj} (h:bu s=true):(0<=s.now/\s.now<=1000000)/\(0<=s.ag/\s.ag<=1000)/\(0<=s.age/\s.age<=20)/\s.tasks.length<=12/\(0<=s.turns/\s.turns<=1000000)/\(1<=s.next/\s.next<=1000000)/\gv s=true/\JG s=true:=by
 unfold bu inB at h;simp only[QX,decide_eq_true_eq]at h;obtain⟨h1,h2,h3,h4,h5,h6,h7,h8⟩:=h;exact⟨h1,h2,h3,by omega,h5,h6,h7,h8⟩
end
section
theorem pY {k:Nat} {s:aj} (hk:s.tot<k) (hN:s.tot<=aU):lF k s=some s:=by
 have hM:=ao;unfold aj.tot at hk hN;have hlen:=bw Task.tot s.tasks;unfold lF
 refine(sT s.tasks (λt=>t) (g:=λu4 n4=>jW k (s.now,s.ag,s.age,s.tasks,s.run,s.left,s.turns,s.next,(0:Int),(0:Int),(0:Int),(0:Int),(0:Int),(0:Int),(0:Int),s.now,s.ag,s.age,s.run,s.left,s.turns,s.next) u4 n4 (λy3=>some (⟨s.now,s.ag,s.age,y3,s.run,s.left,s.turns,s.next⟩:aj)))
  (fin:=λy3=>some (⟨s.now,s.ag,s.age,y3,s.run,s.left,s.turns,s.next⟩:aj)) (λi ys hi next hl=>by
  have hm:=fl Task.tot (Q7 hi);have hm0:s.tasks[i].tot=s.tasks[i].ar.length+0:=rfl;simp only[jW]
  rw[ab,if_pos (by omega),aD,ai hi,aa,j6 (by omega) (by omega),aa,cy (by omega),au hi (by omega)]) (λys next=>by
  simp only[jW];rw[ab,if_neg (by omega)]) (by omega)).trans ?_
 simp
theorem jq {k:Nat} {s:aj} (hk:s.tot<k) (hN:s.tot<=aU):fI k s=some s:=by
 have hM:=ao;unfold aj.tot at hk hN;have hlen:=bw Task.tot s.tasks;unfold fI
 refine(sT s.tasks (λt=>t) (g:=λu4 n4=>eX k (s.tasks,(s.tasks.length:Int),s.now,s.ag,s.age,s.run,s.left,s.turns,s.next,(0:Int),(0:Int),(0:Int),(0:Int),(0:Int),(0:Int),(0:Int)) u4 n4 (λy3=>some (⟨s.now,s.ag,s.age,y3,s.run,s.left,s.turns,s.next⟩:aj)))
  (fin:=λy3=>some (⟨s.now,s.ag,s.age,y3,s.run,s.left,s.turns,s.next⟩:aj)) (λi ys hi next hl=>by
  have hm:=fl Task.tot (Q7 hi);have hm0:s.tasks[i].tot=s.tasks[i].ar.length+0:=rfl;simp only[eX]
  rw[ab,if_pos (by omega),aD,ai hi,aa,cT (by omega),aa,cy (by omega),au hi (by omega)]) (λys next=>by
  simp only[eX];rw[ab,if_neg (by omega)]) (by omega)).trans ?_
 simp
def gw (t:Task):Int:=(t.ar.drop t.at_.toNat).sum
def ff (t:Task):Int:=(idx t.ar t.at_).getD 0
def dV (s:aj) (t:Task):Int:=cond (s.run==t.id) (gw t-ff t+s.left) (gw t)
theorem fg {t:Task} (h:im t=true):idx t.ar t.at_=some (ff t)/\1<=ff t/\ff t<=1000:=by
 have ht:=cf h
 have hlt:t.at_.toNat<t.ar.length:=by omega
 have e:idx t.ar t.at_=some t.ar[t.at_.toNat]:=by rw[rN _ ht.2.2.1.1];exact ai hlt
 unfold ff;rw[e,Sm];exact⟨rfl,ht.2.2.2.2.2 _ (Q7 hlt)⟩
theorem yV {t:Task} (h:im t=true):ff t<=gw t/\gw t-ff t<=5000/\0<=gw t-ff t:=by
 have ht:=cf h
 have hlt:t.at_.toNat<t.ar.length:=by omega
 have e:idx t.ar t.at_=some t.ar[t.at_.toNat]:=by rw[rN _ ht.2.2.1.1];exact ai hlt
 have hc:ff t=t.ar[t.at_.toNat]:=by unfold ff;rw[e];rfl
 have hb:=yR (f:=λx:Int=>x) (B:=1000) (t.ar.drop (t.at_.toNat+1)) (λx hx=>by have:=ht.2.2.2.2.2 x (List.mem_of_mem_drop hx);omega);rw[Tk,R5]at hb;unfold gw;rw[gF hlt,Sy,hc];omega
theorem qU {s:aj} (h:bu s=true) {t:Task} (hm:t∈s.tasks) (hr:s.run=t.id):1<=s.left/\s.left<=ff t:=by
 have hs:=bF h;obtain⟨i,hi,rfl⟩:=Rz.1 hm;have hT:=(cg hs.2.2.2.2.2.2.1 hi).1;have ht:=cf hT;have hrun:=hs.2.2.2.2.2.2.2;unfold JG at hrun
 have h0:(s.run==0)=false:=by rw[hr];simp;omega
 rw[h0,cond_false,hr,CI hs.2.2.2.2.2.2.1 hi,Q1,ai hi,Q1,(fg hT).1,Q1]at hrun;exact of_decide_eq_true hrun
theorem yW {s:aj} (h:bu s=true) {t:Task} (hm:t∈s.tasks):0<=dV s t/\dV s t<=6000:=by
 have hs:=bF h;obtain⟨i,hi,e⟩:=Rz.1 hm;have hT:im t=true:=e▸(cg hs.2.2.2.2.2.2.1 hi).1;have hc:=fg hT;have hb:=yV hT;unfold dV;cases hr:s.run==t.id
 ·simp only[cond_false];omega
 ·have:=qU h hm (by simpa using hr);simp only[cond_true];omega
theorem CK {k:Nat} {s:aj} (hk:s.tot<k) (hN:s.tot<=aU) (h:bu s=true) {t:Task} (hm:t∈s.tasks):qH k s t.id=some (dV s t):=by
  have hM:=ao;have hs:=bF h;obtain⟨i,hi,rfl⟩:=Rz.1 hm;have hT:=(cg hs.2.2.2.2.2.2.1 hi).1;have ht:=cf hT;have hlen:=bw Task.tot s.tasks;have htm:=fl Task.tot hm;have hm0:s.tasks[i].tot=s.tasks[i].ar.length+0:=rfl;have hst:s.tot=fJ Task.tot s.tasks+0:=rfl;have hc:=fg hT;have hb:=yV hT;unfold qH;rw[lb (by omega) (by omega),aa,dI hk hN,aa,h,ik (CI hs.2.2.2.2.2.2.1 hi)];simp only[Q3,cond_false];rw[ab,if_neg (by omega),aD,ai hi,aa]
  have hat:s.tasks[i].at_=((s.tasks[i].at_.toNat:Nat):Int):=by omega
  have e:=EI (R:=Int) s.tasks[i].ar s.tasks[i].at_.toNat (by omega) (B:=1000) (by omega) (λx hx=>by have:=ht.2.2.2.2.2 x hx;omega)
    (g:=λu7 n7=>iF k (s.tasks[i].id,s.now,s.ag,s.age,s.tasks,s.run,s.left,s.turns,s.next,s.tasks[i].id,s.tasks[i].ar,s.tasks[i].at_,s.tasks[i].due,s.tasks[i].born) u7 n7 (λy5=>cond (s.run==s.tasks[i].id) ((idx s.tasks[i].ar s.tasks[i].at_).bind λe6=>some (IntKind.i64.wrap ((IntKind.i64.wrap (y5-e6))+s.left))) (some y5)))
    (fin:=λy5=>cond (s.run==s.tasks[i].id) ((idx s.tasks[i].ar s.tasks[i].at_).bind λe6=>some (IntKind.i64.wrap ((IntKind.i64.wrap (y5-e6))+s.left))) (some y5))
    (λj z hj next h0 h1=>by
      have:=ht.2.2.2.2.2 _ (Q7 hj);simp only[iF]
      rw[ab,if_pos (by omega),aD,ai hj,aa,aH (by omega) (by omega),au hj (by omega)])
    (λz next=>by simp only[iF];rw[ab,if_neg (by omega)]) (k:=k) (by omega)
  rw[<-hat]at e;refine e.trans ?_;show cond _ _ _=some (dV s s.tasks[i]);unfold dV;rw[hc.1,aa];cases hr:s.run==s.tasks[i].id
  · rfl
  · have:=qU h hm (by simpa using hr);simp only[cond_true];have e2:(s.tasks[i].ar.drop s.tasks[i].at_.toNat).sum=gw s.tasks[i]:=rfl;rw[e2,aH (n:=gw s.tasks[i]-ff s.tasks[i]) (by omega) (by omega),aH (by omega) (by omega)]
theorem HQ {B:Int}:∀(xs:List Int) (s:Int) (hf:∀x∈xs,0<=x/\x<=B) (h0:0<=s) (h1:s+B*xs.length<=9223372036854775807),xs.foldl (λs x=>IntKind.i64.wrap (s+x)) s=s+xs.sum
 |[],s,_,_,_=>by simp
 |x::xs,s,hf,h0,h1=>by
  have hx:=hf x (by simp);rw[Q4,Int.natCast_add,Int.mul_add]at h1;have h2:0<=B*(xs.length:Int):=SQ (by omega) (by omega);rw[RQ,Sy,aH (by omega) (by omega),HQ xs (s+x) (λy hy=>hf y (by simp[hy])) (by omega) (by omega)];omega
theorem Gy {k:Nat} {s:aj} (hk:s.tot<k) (hN:s.tot<=aU) (h:bu s=true) {t:Task} (hm:t∈s.tasks):jy k s t=some (dV s t):=by
 have hM:=ao;have hs:=bF h;obtain⟨i,hi,rfl⟩:=Rz.1 hm;have hT:=(cg hs.2.2.2.2.2.2.1 hi).1;have ht:=cf hT;have htm:=fl Task.tot hm;have hm0:s.tasks[i].tot=s.tasks[i].ar.length+0:=rfl;have hst:s.tot=fJ Task.tot s.tasks+0:=rfl;have hc:=fg hT;have hb:=yV hT;unfold jy;rw[ab,if_pos (by omega),So (Rd _),Cp (by simp;omega) (by simp;omega),aa,HQ (B:=1000) _ 0 (λx hx=>by have:=ht.2.2.2.2.2 x (List.mem_of_mem_drop hx);omega) (by omega) (by simp;omega),hc.1,aa,Int.zero_add];have e2:(s.tasks[i].ar.drop s.tasks[i].at_.toNat).sum=gw s.tasks[i]:=rfl;rw[e2];unfold dV;cases hr:s.run==s.tasks[i].id
 ·rfl
 ·have:=qU h hm (by simpa using hr);simp only[cond_true];rw[aH (n:=s.left-ff s.tasks[i]) (by omega) (by omega),aH (by omega) (by omega)]
  congr 1;omega
def tH (s:aj) (d:Int):Int:=(s.tasks.map λt=>cond (decide (t.due<=d)) (dV s t) 0).sum
def block (s:aj) (d:Int):Int:=(s.tasks.findIdx? λt=>t.id==s.run).elim 0 λi=>(s.tasks[i]?).elim 0 λt=>cond (decide (t.due>d)) s.left 0
theorem uY {s:aj} (h:bu s=true) (d:Int):∀t∈s.tasks,0<=cond (decide (t.due<=d)) (dV s t) 0/\cond (decide (t.due<=d)) (dV s t) 0<=6000:=λt ht=>by
 have:=yW h ht;cases decide (t.due<=d)
 ·simp
 ·simpa using this
theorem LC {s:aj} (h:bu s=true) (d:Int):0<=tH s d/\tH s d<=72000:=by
 have hs:=bF h;have:=yR (B:=6000) s.tasks (uY h d);unfold tH;omega
theorem CL {k:Nat} {s:aj} {d:Int} (hk:s.tot<k) (hN:s.tot<=aU) (h:bu s=true):qI k s d=some (tH s d):=by
  have hM:=ao;have hs:=bF h;have hlen:=bw Task.tot s.tasks;have hst:s.tot=fJ Task.tot s.tasks+0:=rfl;unfold qI;rw[dI hk hN,aa,h];simp only[Q3,cond_false]
  exact HN s.tasks (λt=>cond (decide (t.due<=d)) (dV s t) 0) (B:=6000) (uY h d) (g:=λu6 n6=>iG k (d,s.now,s.ag,s.age,s.tasks,s.run,s.left,s.turns,s.next) u6 n6 (λy5=>some y5)) (fin:=some)
    (λi z hi next h0 h1=>by
      have hr:=yW h (Q7 hi);have e:=CK hk hN h (Q7 hi);simp only[iG];rw[ab,if_pos (by omega),aD,ai hi,aa,au hi (by omega),aa];by_cases c:s.tasks[i].due<=d
      · rw[decide_eq_true c,cond_true,cond_true,show(⟨s.now,s.ag,s.age,s.tasks,s.run,s.left,s.turns,s.next⟩:aj)=s from rfl,e,aa,aH (by omega) (by omega)]
      · rw[decide_eq_false c,cond_false,cond_false,S3])
    (λz next=>by simp only[iG];rw[ab,if_neg (by omega)]) (by omega)
theorem Gz {k:Nat} {s:aj} {d:Int} (hk:s.tot<k) (hN:s.tot<=aU) (h:bu s=true):jz k s d=some (tH s d):=by
  have hM:=ao;have hs:=bF h;have hlen:=bw Task.tot s.tasks;have hst:s.tot=fJ Task.tot s.tasks+0:=rfl;unfold jz
  exact HN s.tasks (λt=>cond (decide (t.due<=d)) (dV s t) 0) (B:=6000) (uY h d) (g:=λu4 n4=>eY k (d,s.tasks,(s.tasks.length:Int),s.now,s.ag,s.age,s.tasks,s.run,s.left,s.turns,s.next) u4 n4 (λy3=>some y3)) (fin:=some)
    (λi z hi next h0 h1=>by
      have hr:=yW h (Q7 hi);have e:=Gy hk hN h (Q7 hi);simp only[eY];rw[ab,if_pos (by omega),aD,ai hi,aa,au hi (by omega)];by_cases c:s.tasks[i].due<=d
      · rw[decide_eq_true c,cond_true,cond_true,show(⟨s.now,s.ag,s.age,s.tasks,s.run,s.left,s.turns,s.next⟩:aj)=s from rfl,e,aa,aH (by omega) (by omega)]
      · rw[decide_eq_false c,cond_false,cond_false,S3])
    (λz next=>by simp only[eY];rw[ab,if_neg (by omega)]) (by omega)
theorem Nm {s:aj} (h:bu s=true) (d:Int):0<=block s d/\block s d<=1000:=by
 have hs:=bF h;unfold block
 cases hf:s.tasks.findIdx? λt=>t.id==s.run with
 |none=>exact⟨Int.le_refl _,by show(0:Int)<=1000;omega⟩
 |some i=>
  obtain⟨hi,hid⟩:=pX hf;have hT:=(cg hs.2.2.2.2.2.2.1 hi).1;have:=qU h (Q7 hi) hid.symm;have:=fg hT;rw[Q1,ai hi,Q1];cases decide (s.tasks[i].due>d)
  ·exact⟨Int.le_refl _,by show(0:Int)<=1000;omega⟩
  ·simp only[cond_true];omega
theorem A9 {s:aj} {d:Int} (h:bu s=true):cond (decide (ka s.tasks s.run>=(0:Int))) ((idx s.tasks (ka s.tasks s.run)).bind λe3=>cond (decide (e3.due>d)) (some s.left) (some (0:Int))) (some (0:Int))=some (block s d):=by
 unfold block
 cases hf:s.tasks.findIdx? λt=>t.id==s.run with
 |none=>rw[uX hf];rfl
 |some i=>
  obtain⟨hi,_⟩:=pX hf;rw[ik hf,ab,if_pos (by omega),aD,ai hi,aa,Q1,ai hi,Q1];cases decide (s.tasks[i].due>d)<;>rfl
theorem EJ {k:Nat} {s:aj} {d:Int} (hk:s.tot<k) (hN:s.tot<=aU) (h:bu s=true):tj k s d=some (block s d):=by
 have hlen:=bw Task.tot s.tasks;have hst:s.tot=fJ Task.tot s.tasks+0:=rfl;unfold tj;rw[dI hk hN,aa,h];simp only[Q3,cond_false];rw[lb (by omega) (by omega),aa,A9 h]
theorem Jo {k:Nat} {s:aj} {d:Int} (hk:s.tot<k) (hN:s.tot<=aU) (h:bu s=true):kH k s d=some (block s d):=by
 have hlen:=bw Task.tot s.tasks;have hst:s.tot=fJ Task.tot s.tasks+0:=rfl;unfold kH;rw[tG (by omega) (by omega),aa,A9 h]
def dY (s:aj) (t:Task):Bool:=decide (t.due<=s.now)
def GA (s:aj) (t:Task):Bool:=decide (tH s t.due+block s t.due+s.ag<=t.due-s.now)
def yX (s:aj):Bool:=bu s&&s.tasks.all λt=>!dY s t&&GA s t
theorem LD {α:Type} (p q:α->Bool):∀xs:List α,(xs.all p&&xs.all q)=xs.all λx=>p x&&q x
 |[]=>rfl
 |x::xs=>by
  rw[Tt,Tt,Tt,<-LD p q xs];cases p x<;>cases q x<;>cases xs.all p<;>cases xs.all q<;>rfl
theorem GC {k:Nat} {s:aj} (hk:s.tot<k) (hN:s.tot<=aU) (h:bu s=true):wz k s=some ((s.tasks.filter (dY s)).map (·.id)):=by
  have hM:=ao;have hlen:=bw Task.tot s.tasks;have hst:s.tot=fJ Task.tot s.tasks+0:=rfl;unfold wz;rw[dI hk hN,aa,h];simp only[Q3,cond_false]
  exact lL s.tasks (dY s) (·.id) (g:=λu5 n5=>lG k (s.now,s.ag,s.age,s.tasks,s.run,s.left,s.turns,s.next) u5 n5 (λy4=>some y4)) (fin:=some)
    (λi ys hi next hl=>by
      simp only[lG];rw[ab,if_pos (by omega),aD,ai hi,aa,au hi (by omega),aa,cy (by simp;omega)]
      rfl)
    (λys next=>by simp only[lG];rw[ab,if_neg (by omega)]) (by omega)
theorem LF {s:aj} (h:bu s=true) {t:Task} (hm:t∈s.tasks):decide ((IntKind.i64.wrap ((IntKind.i64.wrap (tH s t.due+block s t.due))+s.ag))>(IntKind.i64.wrap (t.due-s.now)))=!GA s t:=by
 have hs:=bF h;have hd:=LC h t.due;have hb:=Nm h t.due;obtain⟨i,hi,e⟩:=Rz.1 hm;have ht:=cf (t:=t) (e▸(cg hs.2.2.2.2.2.2.1 hi).1);rw[aH (n:=tH s t.due+block s t.due) (by omega) (by omega),aH (n:=tH s t.due+block s t.due+s.ag) (by omega) (by omega),aH (by omega) (by omega),LA];rfl
theorem GD {k:Nat} {s:aj} (hk:s.tot<k) (hN:s.tot<=aU):wA k s=some (yX s):=by
 have hM:=ao;have hlen:=bw Task.tot s.tasks;have hst:s.tot=fJ Task.tot s.tasks+0:=rfl;unfold wA yX;rw[dI hk hN,aa];cases h:bu s
 ·rfl
 simp only[Q3,cond_false,Q6]
 rw[GC hk hN h,aa,ky s.tasks (GA s) (yes:=some true) (no:=some false) (λi hi next=>by
  simp only[ou]
  rw[ab,if_pos (by omega),aD,ai hi,aa,show(⟨s.now,s.ag,s.age,s.tasks,s.run,s.left,s.turns,s.next⟩:aj)=s from rfl,CL hk hN h,aa,EJ hk hN h,aa,LF h (Q7 hi),cond_not,au hi (by omega)]) (λnext=>by
  simp only[ou];rw[ab,if_neg (by omega)]) (by omega)]
 rw[<-LD,List.length_map]
 have hz:decide (((s.tasks.filter (dY s)).length:Int)>0)=!(s.tasks.all λt=>!dY s t):=by
  cases ha:s.tasks.all λt=>!dY s t
  ·rw[List.all_eq_false]at ha;obtain⟨t,ht,hl⟩:=ha;have:0<(s.tasks.filter (dY s)).length:=List.length_pos_of_mem (RM.2 ⟨ht,by simpa using hl⟩);rw[decide_eq_true (by omega)];rfl
  ·rw[Su]at ha
   have:s.tasks.filter (dY s)=[]:=List.filter_eq_nil_iff.2 λt ht=>by simpa using ha t ht
   rw[this];rfl
 rw[hz];cases s.tasks.all λt=>!dY s t
 ·rfl
 ·simp only[Q3,cond_false,Q6];cases s.tasks.all (GA s)<;>rfl
theorem GF {k:Nat} {s:aj} (hk:s.tot<k) (hN:s.tot<=aU):wB k s=some (yX s):=by
  have hM:=ao;have hlen:=bw Task.tot s.tasks;have hst:s.tot=fJ Task.tot s.tasks+0:=rfl;unfold wB yX;rw[ke hk hN,aa];cases h:bu s
  · rfl
  simp only[cond_true,Q6];unfold cF cX;simp only[decide_true,cond_true]
  rw [eR s.tasks (λ t => !(!dY s t && GA s t)) (yes := some (-1)) (no := some) (λ i hi next => by
    simp only[bK,decide_true,cond_true];rw[ab,if_pos (by omega),aD,ai hi,aa,show(⟨s.now,s.ag,s.age,s.tasks,s.run,s.left,s.turns,s.next⟩:aj)=s from rfl]
    have e:kI k s.tasks[i] s=some (!(!dY s s.tasks[i]&&GA s s.tasks[i])):=by
      unfold kI cZ;rw[aa,Gz hk hN h,Jo hk hN h];simp only[decide_true,cond_true,aa,LF h (Q7 hi)];unfold dY;cases decide (s.tasks[i].due<=s.now)<;>cases GA s s.tasks[i]<;>rfl
    rw[e,aa,au hi (by omega)]) (λnext=>by
    simp only[bK,decide_true,cond_true];rw[ab,if_neg (by omega)]) (by omega)]
  rw[cS];simp only[aa,nw];rw[SC];simp only[Ti]
def fL (s:aj) (ar:List Int) (due:Int):aj× Int× Int:=
  cond (bu s&&im ⟨s.next,ar,0,due,s.now⟩)
    (cond ((s.tasks.length:Int)==12||s.next==1000000) (s,0,2)
      (cond (yX ⟨s.now,s.ag,s.age,s.tasks++[⟨s.next,ar,0,due,s.now⟩],s.run,s.left,s.turns,s.next+1⟩)
        (⟨s.now,s.ag,s.age,s.tasks++[⟨s.next,ar,0,due,s.now⟩],s.run,s.left,s.turns,s.next+1⟩,s.next,0) (s,0,3))) (s,0,1)
theorem Jp {k:Nat} {s:aj} {ar:List Int} {due:Int} (hk:s.tot+ar.length+1<k) (hN:s.tot+ar.length+1<=aU):Ck k s ar due=some (fL s ar due):=by
 have hM:=ao;have hlen:=bw Task.tot s.tasks;have hst:s.tot=fJ Task.tot s.tasks+0:=rfl;have hT:Task.tot ⟨s.next,ar,0,due,s.now⟩=ar.length+0:=rfl;unfold Ck fL;rw[pY (by omega) (by omega),aa,j6 (by omega) (by omega),aa,dI (by omega) (by omega),aa,yS (t:=⟨s.next,ar,0,due,s.now⟩) (by show ar.length<k;omega) (by show ar.length<=aU;omega),aa];cases h:bu s
 ·rfl
 have hs:=bF h;simp only[Q3,cond_false,Q6];cases im ⟨s.next,ar,0,due,s.now⟩
 ·rfl
 simp only[Q3,cond_false,cond_true];cases((s.tasks.length:Int)==12)
 case true=>rfl
 cases(s.next==(1000000:Int))
 case true=>rfl
 simp only[cond_false,Bool.or_false]
 have ht2:aj.tot ⟨s.now,s.ag,s.age,s.tasks++[⟨s.next,ar,0,due,s.now⟩],s.run,s.left,s.turns,s.next+1⟩=s.tot+(ar.length+1):=by
  unfold aj.tot;simp only[rO,xH,hT];simp[fJ]
 rw[cy (by omega),aH (by omega) (by omega),GD (by omega) (by omega),aa,cond_not];cases yX _<;>rfl
theorem Jq {k:Nat} {s:aj} {ar:List Int} {due:Int} (hk:s.tot+ar.length+1<k) (hN:s.tot+ar.length+1<=aU):Cl k s ar due=some (fL s ar due):=by
 have hM:=ao;have hlen:=bw Task.tot s.tasks;have hst:s.tot=fJ Task.tot s.tasks+0:=rfl;have hT:Task.tot ⟨s.next,ar,0,due,s.now⟩=ar.length+0:=rfl;unfold Cl fL;rw[cT (by omega),aa,jq (by omega) (by omega),aa,ke (by omega) (by omega),aa,yU (t:=⟨s.next,ar,0,due,s.now⟩) (by show ar.length<k;omega) (by show ar.length<=aU;omega),aa];cases h:bu s
 ·rfl
 have hs:=bF h;simp only[Q3,cond_false,Q6];cases im ⟨s.next,ar,0,due,s.now⟩
 ·rfl
 simp only[Q3,cond_false,cond_true];cases((s.tasks.length:Int)==12)
 case true=>rfl
 cases(s.next==(1000000:Int))
 case true=>rfl
 simp only[cond_false,Bool.or_false]
 have ht2:aj.tot ⟨s.now,s.ag,s.age,s.tasks++[⟨s.next,ar,0,due,s.now⟩],s.run,s.left,s.turns,s.next+1⟩=s.tot+(ar.length+1):=by
  unfold aj.tot;simp only[rO,xH,hT];simp[fJ]
 rw[aa,cy (by omega),aH (by omega) (by omega),GF (by omega) (by omega),aa,cond_not];cases yX _<;>rfl
end
section
def Po (n:Nat) (t:Task):bZ:=⟨t.id,n+1,t.at_,t.due,t.born⟩
def pZ:Nat->List Task->List bZ
 |_,[]=>[]
 |n,t::l=>Po n t::pZ (n+5) l
theorem yY:∀(ts:List Task) (n:Nat),vq .task .cO n ts=some (pZ n ts)
 |[],n=>rfl
 |t::l,n=>by
  have ih:=yY l (n+5);show((S.cO.eA (l6 n (Ma t))).bind λy=>(vq .task .cO (n+S.task.sz) l).bind λys=>some (y::ys))=_;rw[show S.task.sz=5 from rfl,ih];rfl
theorem ez:∀(ts:List Task) (n:Nat),(pZ n ts).length=ts.length
 |[],n=>rfl
 |t::l,n=>by simp[pZ,ez l]
theorem Ba:∀zs:List bZ,CX (dj .cO zs)=zs.map (·.ar)
 |[]=>rfl
 |z::l=>by
  show CX (zO z++dj .cO l)=_;rw[RB,<-Ba l];rfl
theorem EK:∀{l:List Nat},l.Nodup->gB l=true
 |[],_=>rfl
 |x::l,h=>by
  rw[RZ]at h;simp only[gB];cases hm:mem x l
  ·exact EK h.2
  ·exact(h.1 ((mem_iff x l).1 hm)).elim
theorem Bb:∀(ts:List Task) (n:Nat),(∀z∈pZ n ts,n<z.ar)/\(pZ n ts).Pairwise λa b=>a.ar<b.ar
 |[],n=>⟨(λz hz=>by simp[pZ]at hz),List.Pairwise.nil⟩
 |t::l,n=>by
  obtain⟨h1,h2⟩:=Bb l (n+5);refine⟨λz hz=>?_,List.Pairwise.cons (λz hz=>?_) h2⟩
  ·rcases Rk.1 hz with rfl|hz
   ·show n<n+1;omega
   ·have:=h1 z hz;omega
  ·have:=h1 z hz;show n+1<z.ar;omega
theorem mB {ts:List Task} {n:Nat} (q:bZ->Bool):ji ((pZ n ts).filter q)=true:=by
 have h:=((Bb ts n).2.filter q)
 have h2:gB (((pZ n ts).filter q).map (·.ar))=true:=by
  refine EK ?_;rw[List.Nodup,List.pairwise_map]
  exact h.imp λh e=>by omega
 unfold ji;exact(congrArg gB (Ba ((pZ n ts).filter q))).trans h2
theorem Jr (C:List R) (y:bZ) (l:List bZ):vQ .task .cO C (y::l)=(uC C (zO y)).bind λc=>(S.task.eA c).bind λx=>(vQ .task .cO C l).bind λxs=>some (x::xs):=rfl
theorem Bc (p:Task->Bool) (q:bZ->Bool) (hq:∀n t,q (Po n t)=p t) (C:List R):∀(ts:List Task) (n:Nat),(∀(i:Nat) (h:i<ts.length),C[n+5*i]? =some (.ints ts[i].ar))->
  vQ .task .cO C ((pZ n ts).filter q)=some (ts.filter p)
 |[],n,_=>rfl
 |t::l,n,hC=>by
  have ih:=Bc p q hq C l (n+5) λi hi=>by
   have:=hC (i+1) (by simpa using hi);rw[show n+5+5*i=n+5*(i+1)from by omega,this];rfl
  have h0:C[n]? =some (.ints t.ar):=by
   have:=hC 0 (by simp);simpa using this
  have e1:(pZ n (t::l)).filter q=cond (p t) (Po n t::(pZ (n+5) l).filter q) ((pZ (n+5) l).filter q):=by
   simp only[pZ,Sv,hq];cases p t<;>rfl
  have e2:(t::l).filter p=cond (p t) (t::l.filter p) (l.filter p):=by
   rw[Sv];cases p t<;>rfl
  refine(congrArg (vQ .task .cO C) e1).trans (Eq.trans ?_ (congrArg some e2.symm));clear e1 e2;cases p t
  ·exact ih
  ·have hc:uC C (zO (Po n t))=some (Ma t):=by
    have hu:pB C (.tok (n+1))=some (.ints t.ar):=by
     show(match C[n]? with|some (.sl t xs)=>some (R.sl t xs)|_=>none)=_;rw[h0]
    show((pB C (.i t.id)).bind λx=>((pB C (.tok (n+1))).bind λx=>((pB C (.i t.at_)).bind λx=>((pB C (.i t.due)).bind λx=>((pB C (.i t.born)).bind λx=>(some []).bind λxs=>some (x::xs)).bind λxs=>some (x::xs)).bind λxs=>some (x::xs)).bind λxs=>some (x::xs)).bind λxs=>some (x::xs))=_;rw[hu];rfl
   refine(Jr C (Po n t) _).trans ?_;rw[hc];exact congrArg (λr:Option (List Task)=>r.bind λxs=>some (t::xs)) ih
theorem CM (ts:List Task) (i:Nat) (h:i<ts.length):(dj .task ts)[1+5*i]? =some (.ints ts[i].ar):=by
 have:=nY (s:=.task) (xs:=ts) (i:=i) (j:=1) (r:=.ints ts[i].ar) ⟨ts[i],ai h,rfl⟩;rw[show S.task.sz=5 from rfl]at this;rw[show 1+5*i=i*5+1 from by omega];exact this
theorem qV (ts:List Task):kr ts=some (pZ 1 ts):=yY ts 1
theorem oH (ts:List Task) (p:Task->Bool) (q:bZ->Bool) (hq:∀n t,q (Po n t)=p t):oQ ts ((pZ 1 ts).filter q)=some (ts.filter p):=
 Bc p q hq _ ts 1 λi hi=>CM ts i hi
theorem jr {α R:Type} (xs:List α) (p:α->Bool) {g:Int× Int× List α->(Int× Int× List α->Option R)->Option R} {fin:Int× List α->Option R}
    (h:∀(i j:Nat) (ys:List α) (hj:j<xs.length) (next:Int× Int× List α->Option R),i<=j->ys.length=xs.length->ys[j]? =some xs[j]->
      g ((i:Int),(j:Int),ys) next=cond (p xs[j]) (next ((i:Int),((j+1:Nat):Int),ys)) (next (((i+1:Nat):Int),((j+1:Nat):Int),ys.set i xs[j])))
    (hn:∀(i:Nat) (ys:List α) next,ys.length=xs.length->g ((i:Int),(xs.length:Int),ys) next=fin ((i:Int),ys)):
    ∀ (d i j : Nat) (ys : List α) (k : Nat), j + d = xs.length -> d < k -> i <= j -> ys.length = xs.length -> ys.drop j = xs.drop j -> ys.take i = (xs.take j).filter (λ x => !p x) ->
      ∃(i':Nat) (ys':List α),i'<=xs.length/\ys'.length=xs.length/\ys'.take i'=xs.filter (λx=>!p x)/\iter g k ((i:Int),(j:Int),ys)=fin ((i':Int),ys')
  |d,i,j,ys,0,_,h2,_,_,_,_=>by omega
  | 0, i, j, ys, k + 1, h1, _, h3, h4, _, h6 => by
    have hj:j=xs.length:=by omega
    subst hj;refine⟨i,ys,h3,h4,by rw[h6,RR],?_⟩
    rw[aF];exact hn i ys _ h4
  | d + 1, i, j, ys, k + 1, h1, h2, h3, h4, h5, h6 => by
    have hj:j<xs.length:=by omega
    have hg:ys[j]? =some xs[j]:=by
      have:(ys.drop j)[0]? =(xs.drop j)[0]? :=by rw[h5]
      rw[Rc,Rc,Rw]at this;rw[this];exact ai hj
    rw[aF,h i j ys hj _ h3 h4 hg]
    have hdrop:∀zs:List α,(∀m,j<m->zs[m]? =ys[m]?)->zs.drop (j+1)=xs.drop (j+1):=λzs hz=>by
      apply List.ext_getElem?;intro m;rw[Rc,Rc,hz _ (by omega)]
      have:(ys.drop j)[m+1]? =(xs.drop j)[m+1]? :=by rw[h5]
      rw[Rc,Rc]at this;rw[show j+1+m=j+(m+1)from by omega];exact this
    cases hp:p xs[j]
    · simp only[cond_false];refine jr xs p h hn d (i+1) (j+1) (ys.set i xs[j]) k (by omega) (by omega) (by omega) (by simp[h4]) (hdrop _ λm hm=>Sn (by omega)) ?_;rw[dB hj,SI,<-h6]
      have hi:i<ys.length:=by omega
      rw[dB (show i<(ys.set i xs[j]).length by simp;omega),List.take_set_of_le (Rd _)];simp[hp]
    · simp only[cond_true];refine jr xs p h hn d i (j+1) ys k (by omega) (by omega) (by omega) h4 (hdrop _ λm hm=>rfl) ?_;rw[dB hj,SI,<-h6];simp[hp]
theorem filter_none {α:Type} {p:α->Bool} {xs:List α} (h:xs.findIdx? p=none):xs.filter (λx=>!p x)=xs:=by
 rw[Sr]at h
 exact R8.2 λx hx=>by rw[h x hx];rfl
theorem mC {α:Type} {p:α->Bool} {xs:List α} {i:Nat} (h:xs.findIdx? p=some i):i<xs.length/\xs.take i=(xs.take (i+1)).filter (λx=>!p x):=by
 obtain⟨hi,hp,hlt⟩:=R4.1 h;refine⟨hi,?_⟩;rw[dB hi,SI]
 have h1:(xs.take i).filter (λx=>!p x)=xs.take i:=R8.2 λx hx=>by
  obtain⟨j,hj,rfl⟩:=Rz.1 hx
  have hj':j<i:=by simp at hj;omega
  rw[List.getElem_take];have:=hlt j hj';simpa using this
 rw[h1];simp[hp]
theorem qW {α:Type} {ys:List α} {i n:Nat} (z:α) (hi:i<=n) (hy:ys.length=n):((ys.take i++List.replicate (n-i) z++ys.drop (i+(n-i))).take (i-0))=ys.take i/\(ys.take i++List.replicate (n-i) z++ys.drop (i+(n-i))).length=n:=by
 refine⟨?_,by simp;omega⟩;rw[RF,Rj,R9 (by simp;omega),List.take_take,Nat.min_self]
theorem yZ {k:Nat} {zs:List bZ} {id:Int} (hk:zs.length<k) (hN:zs.length<=aU):ca k zs id=some ((zs.findIdx? λz=>z.id==id).elim (-1) λi=>(i:Int)):=by
 have hM:=ao;unfold ca
 rw[eR zs (λt=>t.id==id) (yes:=some (-1)) (no:=some) (λi hi next=>by
  simp only[bL,dQ,decide_true,cond_true,aa]
  rw[ab,if_pos (by omega),aD,ai hi,aa,au hi (by omega)]) (λnext=>by
  simp only[bL,decide_true,cond_true];rw[ab,if_neg (by omega)]) hk]
 exact cS _
theorem oS {k:Nat} {zs:List bZ} {id:Int} (hk:zs.length<k) (hN:zs.length<=aU):bg k zs id=some (zs.filter λz=>!(z.id==id)):=by
  have hM:=ao;unfold bg;rw[yZ hk hN,aa]
  cases hf:zs.findIdx? λz=>z.id==id with
  | none =>
    rw[SF,filter_none hf]
    simp
  | some i =>
    obtain⟨hi,hfi⟩:=mC hf;rw[Q1,bJ,if_neg (by omega),au hi (by omega)];simp only[decide_true,cond_true]
    obtain⟨i',ys',h1,h2,h3,h4⟩:=jr zs (λz=>z.id==id) (R:=List bZ) (g:=λu5 n5=>aX k id u5 n5 (λy4=>cond (decide (0<=y4.1/\y4.1<=(y4.2.length:Int))) (cond (decide (0<=y4.1/\y4.1<=(((y4.2).take y4.1.toNat++List.replicate (y4.2.length-y4.1.toNat) (⟨(0:Int),(0:Nat),(0:Int),(0:Int),(0:Int)⟩:bZ)++(y4.2).drop (y4.1.toNat+(y4.2.length-y4.1.toNat))).length:Int))) (some (((y4.2).take y4.1.toNat++List.replicate (y4.2.length-y4.1.toNat) (⟨(0:Int),(0:Nat),(0:Int),(0:Int),(0:Int)⟩:bZ)++(y4.2).drop (y4.1.toNat+(y4.2.length-y4.1.toNat))).take (y4.1.toNat-0))) none) none))
      (fin:=λy4=>cond (decide (0<=y4.1/\y4.1<=(y4.2.length:Int))) (cond (decide (0<=y4.1/\y4.1<=(((y4.2).take y4.1.toNat++List.replicate (y4.2.length-y4.1.toNat) (⟨(0:Int),(0:Nat),(0:Int),(0:Int),(0:Int)⟩:bZ)++(y4.2).drop (y4.1.toNat+(y4.2.length-y4.1.toNat))).length:Int))) (some (((y4.2).take y4.1.toNat++List.replicate (y4.2.length-y4.1.toNat) (⟨(0:Int),(0:Nat),(0:Int),(0:Int),(0:Int)⟩:bZ)++(y4.2).drop (y4.1.toNat+(y4.2.length-y4.1.toNat))).take (y4.1.toNat-0))) none) none)
      (λi j ys hj next hij hl hg=>by
        simp only[aX,dQ,decide_true,cond_true,aa,hl]
        rw[ab,if_pos (by omega),ab,if_pos (by omega),QY,hg,aa,cond_not,ab,if_pos (by omega),au hj (by omega),au (show i<zs.length by omega) (by omega),QY])
      (λi ys next hl=>by simp only[aX,hl];rw[ab,if_neg (by omega)])
      (zs.length-(i+1)) i (i+1) zs k (by omega) (by omega) (by omega) rfl rfl hfi
    refine h4.trans ?_;obtain⟨c1,c2⟩:=qW (⟨0,0,0,0,0⟩:bZ) h1 h2;simp only[QY,h2];rw[c2,c1,ab,if_pos (by omega),ab,if_pos (by omega),h3]
theorem vG {k:Nat} {zs:List bZ} {a b c d e f g id:Int} (hk:zs.length<k) (hN:zs.length<=aU):fq k a b c zs d e f g id=some (zs.filter λz=>!(z.id==id)):=by
 have hM:=ao;unfold fq;simp only[decide_true,cond_true]
 refine(lL zs (λz=>!(z.id==id)) (λz=>z) (g:=λu4 n4=>eF k (id,a,b,c,d,e,f,g,zs) u4 n4 (λy3=>some y3)) (fin:=some) (λi ys hi next hl=>by
  simp only[eF];rw[ab,if_pos (by omega),ab,if_pos (by omega),QY,ai hi,aa,ab,if_pos (by omega),aa,cy (by simp;omega),au hi (by omega)]
  rfl) (λys next=>by
  simp only[eF];rw[ab,if_neg (by omega)]) hk).trans ?_
 simp
def JH (ts:List Task) (id:Int):List Task:=ts.filter λt=>!(t.id==id)
def p6 (s:aj) (id:Int):aj× Bool:=
 cond (bu s&&decide (0<=ka s.tasks id)) (⟨s.now,s.ag,s.age,JH s.tasks id,cond (s.run==id) 0 s.run,cond (s.run==id) 0 s.left,s.turns,s.next⟩,true) (s,false)
theorem Js {k:Nat} {zs:List bZ} {a b c d e f g id:Int} (hk:zs.length<k) (hN:zs.length<=aU):du k a b c zs d e f g id=some (zs.filter λz=>!(z.id==id),cond (d==id) 0 d,cond (d==id) 0 e):=by
 unfold du;rw[oS hk hN,aa];simp only[decide_true,cond_true];cases d==id<;>rfl
theorem p7 {k:Nat} {s:aj} {id:Int} (hk:s.tot<k) (hN:s.tot<=aU):jY k s id=some (p6 s id):=by
 have hlen:=bw Task.tot s.tasks;have hst:s.tot=fJ Task.tot s.tasks+0:=rfl;unfold jY p6;rw[pY hk hN,aa,dI hk hN,aa];cases bu s
 ·rfl
 simp only[Q3,cond_false,Q6];rw[lb (by omega) (by omega),aa];by_cases c:ka s.tasks id<0
 ·rw[decide_eq_true c,decide_eq_false (by omega)];rfl
 rw[decide_eq_false c,decide_eq_true (by omega)];simp only[cond_false,cond_true];rw[qV,aa,vG (by rw[ez];omega) (by rw[ez];omega),aa,mB,cond_true,oH s.tasks (λt=>!(t.id==id)) (λz=>!(z.id==id)) (λn t=>rfl),aa];unfold JH;cases s.run==id<;>rfl
end
end Go.Proofs.Ev
