/- Typed functions and what holds of them: part 5. -/
import Derived.Test.YtpiopmjbcadfbaaGreatEvL4
set_option linter.unusedVariables false
set_option linter.unusedSimpArgs false
set_option linter.unusedSectionVars false
namespace Go.Proofs.Ev
section
def Pw (xs ws:List Int):Int:=(List.range xs.length).foldl (λs i=>oX s (yX (xs.getD i 0)*yX (ws.getD i 0))) 0
theorem Qr (a b:Int):IntKind.i64.wrap (yX a*yX b)=yX a*yX b:=by
 have h1:=yY a;have h2:=yY b;have:=Pu (A:=128) (B:=128) (x:=yX a) (y:=yX b) (by omega) (by omega);exact aG (by omega) (by omega)
theorem JG {k:Nat} {xs ws:List Int} (hk:xs.length<k) (hl:ws.length=xs.length) (hN:xs.length<=aN):Cv k xs ws=some (Pw xs ws):=by
 have hM:=aq;unfold Cv Pw
 exact nF xs.length (λs i=>oX s (yX (xs.getD i 0)*yX (ws.getD i 0))) 0 (fin:=some) (λi a next hi=>by
  simp only[qG,EJ,oK]
  rw[ab,if_pos (by omega),ab,if_pos (by omega),aC,ag hi,aa,aa,aC,ag (by omega),aa,aa,aa,Qr,ay hi (by omega),bJ hi,bJ (by omega)]) (λa next=>by
  simp only[qG]
  rw[ab,if_neg (by omega)]) hk
theorem JH {k:Nat} {xs ws:List Int} (hk:xs.length<k) (hl:ws.length=xs.length) (hN:xs.length<=aN):Cw k xs ws=some (Pw xs ws):=by
 have hM:=aq;unfold Cw Pw;rw[if_neg (by omega)]
 exact nF xs.length (λs i=>oX s (yX (xs.getD i 0)*yX (ws.getD i 0))) 0 (fin:=some) (λi a next hi=>by
  simp only[qK,EK,yZ]
  rw[ab,if_pos (by omega),aC,ag hi,aa,aa,aC,ag (by omega),aa,aa,aa,Qr,ay hi (by omega),bJ hi,bJ (by omega)]) (λa next=>by
  simp only[qK]
  rw[ab,if_neg (by omega)]) hk
def sw (l:aj) (xs:List Int) (o:Nat):Int:=
 zd (oX (Pw xs ((l.weights.take (o*xs.length+xs.length)).drop (o*xs.length))) (l.cG.getD o 0)) l.mult l.shift l.zero
theorem zf {k:Nat} {l:aj} {xs:List Int} {o:Nat} (hk:xs.length<k) (hN:xs.length<=aN) (hw:o*xs.length+xs.length<=l.weights.length) (hwN:l.weights.length<=aN) (hb:o<l.cG.length) (ho:o<8):
  fu k l xs o=some (sw l xs o):=by
 have hM:=aq
 have e:(o+1)*xs.length=o*xs.length+xs.length:=by rw[RQ,Nat.one_mul]
 have e1:IntKind.i64.wrap (IntKind.i64.wrap ((o:Int)+1)*(xs.length:Int))=((o*xs.length+xs.length:Nat):Int):=by
  rw[ay ho (by omega),EP (by omega),e]
 have e2:IntKind.i64.wrap ((o:Int)*(xs.length:Int))=((o*xs.length:Nat):Int):=EP (by omega);unfold fu sw;rw[e1,e2,ab,if_pos (by omega),ab,if_pos (by omega),Rr,Rr,JH hk (by simp;omega) hN,aa,aC,ag hb,aa,yZ,aa,EO,aa,bJ hb]
def kS:List Int->Int
 |[]=>0
 |x::xs=>xs.foldl (λm y=>if y>m then y else m) x
theorem Ic {R:Type} {xs:List Int} {x:Int} {g:Int× Int->(Int× Int->Option R)->Option R} {fin:Int->Option R} {k:Nat}
  (h:∀(i:Nat) a next (hi:i<xs.length),g (a,((i+1:Nat):Int)) next=next (if xs[i]>a then xs[i]else a,((i+1+1:Nat):Int))) (hn:∀a next,g (a,((xs.length+1:Nat):Int)) next=fin a) (hk:xs.length<k):
  iter g k (x,(1:Int))=fin (kS (x::xs)):=by
 have:=fb (g:=g) (st:=λi=>((xs.take i).foldl (λm y=>if y>m then y else m) x,((i+1:Nat):Int))) (n:=xs.length) (r:=fin (kS (x::xs))) (λi hi next=>by
  rw[h i _ next hi,dy hi,So];rfl) (λnext=>by rw[hn,Sr];rfl) hk
 exact this
theorem p8:∀(xs:List Int) (x:Int),kS (x::xs)∈x::xs
 |[],x=>by simp[kS]
 |y::xs,x=>by
  show xs.foldl _ (if y>x then y else x)∈_;by_cases c:y>x
  ·rw[if_pos c];exact RK _ (p8 xs y)
  ·rw[if_neg c]
   rcases RN.1 (p8 xs x)with h|h
   ·have h:xs.foldl (λm y=>if y>m then y else m) x=x:=h;rw[h];simp
   ·exact RK _ (RK _ h)
theorem zg:∀{xs:List Int},(∀x∈xs,-128<=x/\x<=127)->-128*(xs.length:Int)<=xs.sum/\xs.sum<=127*(xs.length:Int)
 |[],_=>by simp
 |x::xs,h=>by
  have h1:=zg λy hy=>h y (RK _ hy);have h2:=h x (by simp);rw[SY,RA];omega
theorem EV {R:Type} {xs:List Int} {g:Int× Int->(Int× Int->Option R)->Option R} {fin:Int->Option R} {k:Nat} (hx:∀x∈xs,-128<=x/\x<=127) (hN:xs.length<=aN)
  (h:∀(i:Nat) a next (hi:i<xs.length),g (a,(i:Int)) next=next (IntKind.i64.wrap (a+xs[i]),((i+1:Nat):Int))) (hn:∀a next,g (a,(xs.length:Int)) next=fin a) (hk:xs.length<k):
  iter g k ((0:Int),(0:Int))=fin xs.sum:=by
 have hM:=aq
 have:=fb (g:=g) (st:=λi=>((xs.take i).sum,(i:Int))) (n:=xs.length) (r:=fin xs.sum) (λi hi next=>by
  have hb:=zg (xs:=xs.take (i+1)) λx hm=>hx x (Tv hm)
  have e:(xs.take (i+1)).sum=(xs.take i).sum+xs[i]:=by rw[dy hi,Ti];simp
  rw[e]at hb;simp only[R8]at hb
  rw[h i _ next hi,e,aG (by omega) (by omega)]) (λnext=>by rw[hn,Sr]) hk
 exact this
def lR (W C:Nat) (xs:List Int) (l:aj) (Z S h w o:Nat):Int:=
  cond (l.kind==0) (sw l xs o) (cond (l.kind==1) (sw l (Pv W C xs Z S h w) o)
    (cond (l.kind==2) (kS (iT W C xs Z S h w o)) (cond (l.kind==3) (gq (iT W C xs Z S h w o).sum ((Z*Z:Nat):Int))
      (cond (l.kind==4) (if atN W C xs h w o<l.zero then l.zero else atN W C xs h w o) (xs.getD o 0)))))
inductive Fits (H W C:Nat) (xs:List Int) (l:aj) (Z S h w o:Nat):Prop
 |NK (h0:l.kind=0) (hb:o<l.cG.length) (h8:o<8) (hw:o*xs.length+xs.length<=l.weights.length)
 |conv (h0:l.kind=1) (hb:o<l.cG.length) (h8:o<8) (hw:o*(Z*(Z*C))+Z*(Z*C)<=l.weights.length) (v:LS H W Z S h w) (hi:∀x∈l.weights,-128<=x/\x<=127)
 |max (h0:l.kind=2) (v:LS H W Z S h w) (ho:o<C)
 |avg (h0:l.kind=3) (v:LS H W Z S h w) (ho:o<C)
 |QL (h0:l.kind=4) (h1:h<H) (h2:w<W) (h3:o<C) (hz:-128<=l.zero/\l.zero<=127)
 |flat (h0:l.kind=5) (ho:o<xs.length)
theorem wS {H W C:Nat} {xs:List Int} (r:kR H W C xs) {Z S h w o:Nat} (v:LS H W Z S h w) (ho:o<C):∀x∈iT W C xs Z S h w o,-128<=x/\x<=127:=by
 intro x hx;obtain⟨z1,z3,s2,hh,ww⟩:=v;unfold iT at hx;rw[Tx]at hx;obtain⟨i,hi,hx⟩:=hx;rw[Tx]at hx;obtain⟨j,hj,hx⟩:=hx;rw[List.mem_range]at hi hj;rw[SS]at hx;rw[hx];exact Ib r (by omega) (by omega) ho
theorem zi {H W C:Nat} {xs:List Int} {Z S h w o:Nat} (v:LS H W Z S h w):∃x ys,iT W C xs Z S h w o=x::ys:=by
 have hl:=ER W C xs Z S h w o;have:=v.z1
 have hp:1<=Z*(Z*1):=by rw[Nat.mul_one];exact Sd this this
 cases hc:iT W C xs Z S h w o with
 |nil=>rw[hc]at hl;simp only[R6]at hl;omega
 |cons x ys=>exact⟨x,ys,rfl⟩
theorem nG {H W C:Nat} {xs:List Int} {Z S h w o:Nat} (v:LS H W Z S h w):(iT W C xs Z S h w o).length=Z*Z/\1<=Z*Z/\Z*Z<=9:=by
 have hl:=ER W C xs Z S h w o;rw[Nat.mul_one]at hl;exact⟨hl,Sd v.z1 v.z1,Sd v.z3 v.z3⟩
theorem LV {k:Nat} {H W C:Nat} {xs:List Int} (r:kR H W C xs) {l:aj} {Z S h w o:Nat} (hk:512<k) (hwN:l.weights.length<=aN) (hz:l.size=Z) (hs:l.step=S) (f:Fits H W C xs l Z S h w o):
  mr k l (vn H W C xs) h w o=some (lR W C xs l Z S h w o):=by
 have hM:=aq;have hcu:=r.PK;have hlen:=r.len;unfold mr lR
 cases f with
 |NK h0 hb h8 hw=>
  rw[h0];show(fu k l xs o).bind _=_
  rw[zf (by omega) (by omega) hw hwN hb h8];rfl
 |conv h0 hb h8 hw v hi=>
  have hl:=CO W C xs Z S h w;have:Z*(Z*C)<=3*(3*8):=Sd v.z3 (Sd v.z3 r.c8);rw[h0];show(cz k l (vn H W C xs) h w (-1)).bind _=_
  rw[EU r hk hz hs v,aa,zf (by omega) (by omega) (by rw[hl];exact hw) hwN hb h8];rfl
 |max h0 v ho=>
  rw[h0];show(cz k l (vn H W C xs) h w o).bind _=_;rw[ze r hk hz hs v ho,aa];have hl:=nG (xs:=xs) (C:=C) (o:=o) v;obtain⟨x,ys,e⟩:=zi (xs:=xs) (C:=C) (o:=o) v;rw[e]at hl;simp only[RA]at hl;show(fc k (iT W C xs Z S h w o)).bind _=some (kS (iT W C xs Z S h w o));rw[e];unfold fc
  rw[ab,if_neg (by simp only[RA];omega),wG,Tj,aa,Ic (xs:=ys) (x:=x) (fin:=some) (λi a next hi=>by
   simp only[dR]
   rw[ab,if_pos (by simp only[RA];omega),aC,S7,ag hi,aa,ay (show i+1<ys.length+1 by omega) (by omega)]) (λa next=>by
   simp only[dR]
   rw[ab,if_neg (by simp only[RA];omega)]) (by omega)]
  rfl
 |avg h0 v ho=>
  rw[h0];show(cz k l (vn H W C xs) h w o).bind _=_;rw[ze r hk hz hs v ho,aa];have hl:=nG (xs:=xs) (C:=C) (o:=o) v;have hm:=wS r v ho;have hb:=zg hm;show _=some (gq (iT W C xs Z S h w o).sum ((Z*Z:Nat):Int))
  rw[EV (xs:=iT W C xs Z S h w o) (fin:=λy=>(nv k y (IntKind.i64.wrap (l.size*l.size))).bind λr9=>some r9) hm (by omega) (λi a next hi=>by
   simp only[iA]
   rw[ab,if_pos (by omega),ab,if_pos (by omega),Rr,ag hi,aa,ay hi (by omega)]) (λa next=>by
   simp only[iA]
   rw[ab,if_neg (by omega)]) (by omega)]
  rw[hz,EP (by omega),vZ (by omega) (by omega),aa]
 |QL h0 h1 h2 h3 hz=>
  simp only[h0,show((4:Int)==0)=false from rfl,show((4:Int)==1)=false from rfl,show((4:Int)==2)=false from rfl,show((4:Int)==3)=false from rfl,beq_self_eq_true,cond_true,cond_false];refine(congrArg (λo:Option Int=>o.bind _) (su (k:=k) r h1 h2 h3)).trans ?_;rw[aa];show(idx xs _).bind _=_;rw[aC,GV r h1 h2 h3]
  rfl
 |flat h0 ho=>
  rw[h0];show(idx xs (o:Int)).bind _=_;rw[aC,ag ho];show _=some (xs.getD o 0);rw[bJ ho];rfl
theorem Px {W C:Nat} {xs:List Int} {Z S h w i j c:Nat} (hi:i<Z) (hj:j<Z) (hc:c<C):(Pv W C xs Z S h w)[i*(Z*C)+(j*C+c)]? =some (atN W C xs (h*S+i) (w*S+j) c):=by
 have hb:j*C+c<Z*C:=by
  have:(j+1)*C<=Z*C:=RG _ hj;rw[RQ]at this;omega
 unfold Pv;rw[CL _ (Z*C) Z (λi hi=>gG _ C Z λj hj=>by simp) i (j*C+c) hi hb,CL _ C Z (λj hj=>by simp) j c hj hc,Sa,List.getElem?_range hc];rfl
theorem Bm {o Z i j C c:Nat}:((o*Z+i)*Z+j)*C+c=o*(Z*(Z*C))+(i*(Z*C)+(j*C+c)):=by
 simp only[RQ,Nat.mul_assoc,Sv]
theorem NL {H W C:Nat} {xs:List Int} (r:kR H W C xs) {ws:List Int} (hi:∀x∈ws,-128<=x/\x<=127) {Z S h w o:Nat} (v:LS H W Z S h w) (hw:o*(Z*(Z*C))+Z*(Z*C)<=ws.length):
  Pw (Pv W C xs Z S h w) ((ws.take (o*(Z*(Z*C))+Z*(Z*C))).drop (o*(Z*(Z*C))))=
   (List.range Z).foldl (λs i=>(List.range Z).foldl (λs j=>(List.range C).foldl (λs c=>oX s (atN W C xs (h*S+i) (w*S+j) c*ws.getD (((o*Z+i)*Z+j)*C+c) 0)) s) s) 0:=by
 obtain⟨z1,z3,s2,hh,ww⟩:=v;unfold Pw;rw[CO,CM];refine fold_congr Z _ λs i hi2=>?_;rw[CM];refine fold_congr Z _ λs j hj=>?_;refine fold_congr C _ λs c hc=>?_
 have hb:j*C+c<Z*C:=by
  have:(j+1)*C<=Z*C:=RG _ hj;rw[RQ]at this;omega
 have hb2:i*(Z*C)+(j*C+c)<Z*(Z*C):=by
  have:(i+1)*(Z*C)<=Z*(Z*C):=RG _ hi2;rw[RQ]at this;omega
 have a1:=Ib r (show h*S+i<H by omega) (show w*S+j<W by omega) hc;have a2:=hi _ (wR (xs:=ws) (i:=o*(Z*(Z*C))+(i*(Z*C)+(j*C+c))) (by omega));rw[RU,Px hi2 hj hc,SW,RU,ET hb2,<-RU,Bm];unfold yX;rw[Oj (by omega) (by omega),Oj (by omega) (by omega)]
theorem LW {k:Nat} {H W C:Nat} {xs:List Int} (r:kR H W C xs) {l:aj} {Z S h w o:Nat} (hk:512<k) (hwN:l.weights.length<=aN) (hz:l.size=Z) (hs:l.step=S) (f:Fits H W C xs l Z S h w o):
  tB k (vn H W C xs) l h w o=some (lR W C xs l Z S h w o):=by
 have hM:=aq;have hcu:=r.PK;have hlen:=r.len;unfold tB lR
 cases f with
 |NK h0 hb h8 hw=>
  rw[h0];simp only[beq_self_eq_true,cond_true]
  rw[oG,aa,show(vn H W C xs).sh.size=((xs.length:Nat):Int)from by rw[hlen];exact r.size,EP (by omega),Fo (by omega),ab,if_pos (by omega),ab,if_pos (by omega),Rr,Rr,
   show(vn H W C xs).data=xs from rfl,JG (by omega) (by simp;omega) (by omega),aa,aC,ag hb,aa,oK,aa,v5,aa]
  unfold sw
  rw[bJ hb]
 |conv h0 hb h8 hw v hi=>
  have hl:=CO W C xs Z S h w;have hvv:=v;obtain⟨z1,z3,s2,hh,ww⟩:=hvv;have:=r.h8;have:=r.w8;have hc8:=r.c8;have hq:Z*(Z*C)<=3*(3*8):=Sd v.z3 (Sd v.z3 r.c8);rw[h0];show iter _ k _=some (sw l (Pv W C xs Z S h w) o)
  refine(nF Z (λs i=>(List.range Z).foldl (λs j=>(List.range C).foldl (λs c=>oX s (atN W C xs (h*S+i) (w*S+j) c*l.weights.getD (((o*Z+i)*Z+j)*C+c) 0)) s) s) 0
   (fin:=λy=>(idx l.cG (o:Int)).bind λe14=>(mb k y e14).bind λr15=>(nu k r15 l.mult l.shift l.zero).bind λr16=>some r16) (λi a next hi2=>?_) (λa next=>?_) (by omega)).trans ?_
  ·simp only[mm,hz,hs];rw[ab,if_pos (by omega),ay hi2 (by omega)];refine nF Z (λs j=>(List.range C).foldl (λs c=>oX s (atN W C xs (h*S+i) (w*S+j) c*l.weights.getD (((o*Z+i)*Z+j)*C+c) 0)) s) a (fin:=λy=>next (y,((i+1:Nat):Int))) (λj a2 next2 hj=>?_) (λa2 next2=>?_) (by omega)
   ·simp only[mj,hz,hs];rw[ab,if_pos (by omega),ay hj (by omega)];refine nF C (λs c=>oX s (atN W C xs (h*S+i) (w*S+j) c*l.weights.getD (((o*Z+i)*Z+j)*C+c) 0)) a2 (fin:=λy=>next2 (y,((j+1:Nat):Int))) (λc a3 next3 hc=>?_) (λa3 next3=>?_) (by omega)
    ·have e1:h*S+i<H:=by omega
     have e2:w*S+j<W:=by omega
     have e:=sr (k:=k) r hk e1 e2 hc;have o1:o*Z<=7*3:=Sd (by omega) z3;have o2:(o*Z+i)*Z<=23*3:=Sd (by omega) z3;have o3:((o*Z+i)*Z+j)*C<=71*8:=Sd (by omega) hc8
     have hb:j*C+c<Z*C:=by
      have:(j+1)*C<=Z*C:=RG _ hj;rw[RQ]at this;omega
     have hb2:i*(Z*C)+(j*C+c)<Z*(Z*C):=by
      have:(i+1)*(Z*C)<=Z*(Z*C):=RG _ hi2;rw[RQ]at this;omega
     have hx:((o*Z+i)*Z+j)*C+c<l.weights.length:=by rw[Bm];omega
     have a1:=Ib r e1 e2 hc;have a2:=hi _ (wR hx);have a3:=Pu (A:=128) (B:=128) (x:=atN W C xs (h*S+i) (w*S+j) c) (y:=l.weights.getD (((o*Z+i)*Z+j)*C+c) 0) (by omega) (by omega);unfold vn at e;simp only[mi,hz,hs,vn];refine(LR (by omega) _ _).trans ?_;rw[EP (a:=h) (by omega),Fo (b:=i) (by omega),EP (a:=w) (by omega),Fo (b:=j) (by omega),e,aa,EP (a:=o) (by omega),Fo (b:=i) (by omega),EP (by omega),Fo (b:=j) (by omega),EP (by omega),Fo (b:=c) (by omega),aC,ag hx,aa,<-bJ hx 0,aG (n:=atN W C xs (h*S+i) (w*S+j) c*l.weights.getD (((o*Z+i)*Z+j)*C+c) 0) (by omega) (by omega),oK,aa,ay hc (by omega)]
    ·simp only[mi,vn];exact Q9 (by omega) _ _
   ·simp only[mj,hz];rw[ab,if_neg (by omega)]
  ·simp only[mm,hz];rw[ab,if_neg (by omega)]
  ·rw[aC,ag hb,aa,oK,aa,v5,aa];unfold sw
   rw[hl,NL r hi v hw,bJ hb]
 |max h0 v ho=>
  rw[h0];show(lD k (vn H W C xs) l h w o).bind _=_;rw[ES r hk hz hs v ho,aa];have hl:=nG (xs:=xs) (C:=C) (o:=o) v;obtain⟨x,ys,e⟩:=zi (xs:=xs) (C:=C) (o:=o) v;rw[e]at hl;simp only[RA]at hl;show _=some (kS (iT W C xs Z S h w o));rw[e,ab,if_pos (by simp only[RA];omega)];show(some x).bind _=_
  rw[aa,Ic (xs:=ys) (x:=x) (fin:=some) (λi a next hi=>by
   simp only[mn];rw[ab,if_pos (by simp only[RA];omega),ab,if_pos (by simp only[RA];omega),Rr,S7,ag hi,aa,ay (show i+1<ys.length+1 by omega) (by omega)]
   have hlt:0<=((i+1:Nat):Int)/\((i+1:Nat):Int)<(((x::ys).length:Nat):Int):=by rw[RA];omega
   rw[LR hlt,aa,ab];by_cases c:ys[i]>a
   ·rw[if_pos c,if_pos c]
   ·rw[if_neg c,if_neg c]) (λa next=>by
   simp only[mn]
   rw[ab,if_neg (by simp only[RA];omega)]) (by omega)]
 |avg h0 v ho=>
  rw[h0];show(lD k (vn H W C xs) l h w o).bind _=_;rw[ES r hk hz hs v ho,aa];have hl:=nG (xs:=xs) (C:=C) (o:=o) v;have hm:=wS r v ho;have hb:=zg hm;show _=some (gq (iT W C xs Z S h w o).sum ((Z*Z:Nat):Int))
  rw[EV (xs:=iT W C xs Z S h w o) (fin:=λy26=>(cond (decide (y26<(0:Int))) (cond (decide ((IntKind.i64.wrap ((2:Int)*((iT W C xs Z S h w o).length:Int)))=0)) none (some (IntKind.i64.wrap (0-(IntKind.i64.wrap ((IntKind.i64.wrap ((IntKind.i64.wrap ((-2:Int)*y26))+((iT W C xs Z S h w o).length:Int))).tdiv (IntKind.i64.wrap ((2:Int)*((iT W C xs Z S h w o).length:Int))))))))) (cond (decide ((IntKind.i64.wrap ((2:Int)*((iT W C xs Z S h w o).length:Int)))=0)) none (some (IntKind.i64.wrap ((IntKind.i64.wrap ((IntKind.i64.wrap ((2:Int)*y26))+((iT W C xs Z S h w o).length:Int))).tdiv (IntKind.i64.wrap ((2:Int)*((iT W C xs Z S h w o).length:Int))))))))) hm (by omega) (λi a next hi=>by
   simp only[mo]
   rw[ab,if_pos (by omega),ab,if_pos (by omega),Rr,ag hi,aa,ay hi (by omega)]) (λa next=>by
   simp only[mo]
   rw[ab,if_neg (by omega)]) (by omega)]
  rw[hl.1]at hb⊢;generalize (iT W C xs Z S h w o).sum=y at hb⊢;obtain⟨n,hn⟩:∃n:Nat,n=Z*Z:=⟨_,rfl⟩;rw[<-hn]at hb hl⊢;unfold gq;rw[aG (n:=2*(n:Int)) (by omega) (by omega),ab];by_cases c:y<0
  ·rw[if_pos c,if_pos c,ab,if_neg (by omega),aG (n:=-2*y) (by omega) (by omega),aG (n:=-2*y+(n:Int)) (by omega) (by omega),Su (by omega),show 2*-y+(n:Int)=-2*y+(n:Int)from by omega];have h:=Bj (a:=-2*y+(n:Int)) (b:=2*(n:Int)) (by omega) (by omega);generalize (-2*y+(n:Int))/(2*(n:Int))=q at h;rw[aG (n:=q) (by omega) (by omega),aG (by omega) (by omega)]
   congr 1;omega
  ·rw[if_neg c,if_neg c,ab,if_neg (by omega),aG (n:=2*y) (by omega) (by omega),aG (n:=2*y+(n:Int)) (by omega) (by omega),Su (by omega)];have h:=Bj (a:=2*y+(n:Int)) (b:=2*(n:Int)) (by omega) (by omega)
   rw[aG (by omega) (by omega)]
 |QL h0 h1 h2 h3 hz=>
  rw[h0];show(ov k (vn H W C xs) h w o).bind _=_;rw[sr r hk h1 h2 h3,aa];show cond (decide (atN W C xs h w o<l.zero)) _ _=some (if atN W C xs h w o<l.zero then l.zero else atN W C xs h w o);rw[ab];by_cases c:atN W C xs h w o<l.zero
  ·rw[if_pos c,if_pos c]
  ·rw[if_neg c,if_neg c]
 |flat h0 ho=>
  rw[h0];show(idx xs (o:Int)).bind _=_;rw[aC,ag ho];show _=some (xs.getD o 0);rw[bJ ho];rfl
end
section
theorem vo {a b:Int} {x:Int} (h:a<=x/\x<=b) (h0:0<=a):∃n:Nat,x=n:=⟨x.toNat,by omega⟩
theorem v7 {H W C Z S:Nat} {l:aj} {c:Int} (hz:l.size=Z) (hs:l.step=S) (s1:1<=S) (h8:H<=8) (w8:W<=8) (hzH:Z<=H) (hzW:Z<=W):
  qW ⟨H,W,C⟩ l c=⟨((H-Z)/S+1:Nat),((W-Z)/S+1:Nat),c⟩:=by
 have key:∀n:Nat,n<=8->Z<=n->IntKind.i64.wrap ((IntKind.i64.wrap ((IntKind.i64.wrap ((n:Int)-(Z:Int))).tdiv (S:Int)))+1)=(((n-Z)/S+1:Nat):Int):=λn h1 h2=>by
  have e1:((n:Int)-(Z:Int))=((n-Z:Nat):Int):=by omega
  have e2:(((n-Z:Nat):Int)).tdiv (S:Int)=(((n-Z)/S:Nat):Int):=rfl;have e3:(n-Z)/S<=n-Z:=Nat.div_le_self _ _;rw[e1,aG (n:=((n-Z:Nat):Int)) (by omega) (by omega),e2];generalize (n-Z)/S=q at e3;rw[aG (n:=((q:Nat):Int)) (by omega) (by omega),aG (by omega) (by omega)];omega
 unfold qW;rw[hz,hs];simp only[key H h8 hzH,key W w8 hzW]
theorem CP {n Z S:Nat} (h:n<=8) (h1:1<=Z) (h2:Z<=n):1<=(n-Z)/S+1/\(n-Z)/S+1<=8:=by
 have e3:(n-Z)/S<=n-Z:=Nat.div_le_self _ _;generalize (n-Z)/S=q at e3;omega
theorem LY {H W Z S h w:Nat} (z1:1<=Z) (z3:Z<=3) (s1:1<=S) (s2:S<=2) (hzH:Z<=H) (hzW:Z<=W) (hh:h<(H-Z)/S+1) (hw:w<(W-Z)/S+1):LS H W Z S h w:=by
 have a1:h*S<=H-Z:=(Nat.le_div_iff_mul_le (by omega)).1 (by omega);have a2:w*S<=W-Z:=(Nat.le_div_iff_mul_le (by omega)).1 (by omega);exact⟨z1,z3,s2,by omega,by omega⟩
theorem EW {l:aj} (h:H8 l=true):(1<=l.out/\l.out<=8)/\(l.cG.length:Int)=l.out/\∀x∈l.weights,-128<=x/\x<=127:=by
 simp only[H8,Rq,cd,decide_eq_true_eq]at h;obtain⟨h1,h2,h3,h4,h5,h6,h7⟩:=h;unfold rC at h7;rw[S3]at h7;exact⟨h1,h5,λx hx=>cd.1 (h7 x hx)⟩
theorem vp {H W C:Nat} {xs:List Int} (r:kR H W C xs) {l:aj} (hl:iO ⟨H,W,C⟩ l=true):
  ∃Z S H' W' C':Nat,l.size=Z/\l.step=S/\shapeOf ⟨H,W,C⟩ l=⟨H',W',C'⟩/\(1<=H'/\H'<=8)/\(1<=W'/\W'<=8)/\(1<=C'/\C'<=8)/\
   ∀h w o,h<H'->w<W'->o<C'->Fits H W C xs l Z S h w o:=by
 have hr:=r;obtain⟨h1,h8,w1,w8,c1,c8,hlen,hmem⟩:=hr;have hsz:=r.size;unfold iO at hl;rw[Rq]at hl;obtain⟨-,hl⟩:=hl;unfold shapeOf;by_cases k0:l.kind=0
 ·rw[decide_eq_true k0]at hl⊢;simp only[cond_true,Rq,decide_eq_true_eq,o5]at hl;obtain⟨⟨z0,s0⟩,hn,hs,hw⟩:=hl;obtain⟨ho,hb,hi⟩:=EW hn;obtain⟨O,hO⟩:=vo ho (by omega);rw[hO]at ho hb;refine⟨0,0,1,1,O,by omega,by omega,by rw[cond_true,hO];rfl,by omega,by omega,by omega,λh w o _ _ hlt=>.NK k0 (by omega) (by omega) ?_⟩;rw[hO,hsz]at hw;have:((O:Int)*((H*W*C:Nat):Int))=((O*(H*W*C):Nat):Int):=(SC _ _).symm;rw[this]at hw;have:(o+1)*(H*W*C)<=O*(H*W*C):=RG _ hlt;rw[RQ,Nat.one_mul]at this;rw[hlen];omega
 rw[decide_eq_false k0]at hl⊢;simp only[cond_false]at hl⊢;by_cases k1:l.kind=1
 ·rw[decide_eq_true k1]at hl⊢;simp only[cond_true,Rq,decide_eq_true_eq]at hl⊢;obtain⟨hwin,hn,hw,hw6⟩:=hl;obtain⟨z1,z3,s1,s2,zh,zw⟩:=pW hwin;obtain⟨ho,hb,hi⟩:=EW hn;obtain⟨O,hO⟩:=vo ho (by omega);obtain⟨Z,hZ⟩:=vo ⟨z1,z3⟩ (by omega);obtain⟨S,hS⟩:=vo ⟨s1,s2⟩ (by omega);rw[hO]at ho hb;rw[hZ]at z1 z3 zh zw;rw[hS]at s1 s2
  have zh:Z<=H:=by have:((Z:Nat):Int)<=(H:Int):=zh;omega
  have zw:Z<=W:=by have:((Z:Nat):Int)<=(W:Int):=zw;omega
  have d1:=CP (S:=S) h8 (show 1<=Z by omega) zh;have d2:=CP (S:=S) w8 (show 1<=Z by omega) zw;refine⟨Z,S,(H-Z)/S+1,(W-Z)/S+1,O,hZ,hS,by rw[v7 hZ hS (by omega) h8 w8 zh zw,hO],d1,d2,by omega,λh w o hh hw2 hlt=>.conv k1 (by omega) (by omega) ?_ (LY (by omega) (by omega) (by omega) (by omega) zh zw hh hw2) hi⟩;rw[hO,hZ]at hw
  have:((O:Int)*(Z:Int)*(Z:Int)*(C:Int))=((O*(Z*(Z*C)):Nat):Int):=by
   rw[SC,SC,SC,T3,T3]
  have hw:(l.weights.length:Int)=(O:Int)*(Z:Int)*(Z:Int)*(C:Int):=hw;rw[this]at hw;have:(o+1)*(Z*(Z*C))<=O*(Z*(Z*C)):=RG _ hlt;rw[RQ,Nat.one_mul]at this;omega
 rw[decide_eq_false k1]at hl⊢;simp only[cond_false]at hl⊢;by_cases k2:l.kind=2\/l.kind=3
 ·have hk:(decide (l.kind=2)||decide (l.kind=3))=true:=by simpa using k2
  rw[hk]at hl;simp only[cond_true,Rq,decide_eq_true_eq]at hl;obtain⟨hwin,hn,hw⟩:=hl;obtain⟨z1,z3,s1,s2,zh,zw⟩:=pW hwin;obtain⟨Z,hZ⟩:=vo ⟨z1,z3⟩ (by omega);obtain⟨S,hS⟩:=vo ⟨s1,s2⟩ (by omega);rw[hZ]at z1 z3 zh zw;rw[hS]at s1 s2
  have zh:Z<=H:=by have:((Z:Nat):Int)<=(H:Int):=zh;omega
  have zw:Z<=W:=by have:((Z:Nat):Int)<=(W:Int):=zw;omega
  have d1:=CP (S:=S) h8 (show 1<=Z by omega) zh;have d2:=CP (S:=S) w8 (show 1<=Z by omega) zw;rw[decide_eq_false (show¬l.kind=4 by omega),decide_eq_false (show¬l.kind=5 by omega)];simp only[cond_false];refine⟨Z,S,(H-Z)/S+1,(W-Z)/S+1,C,hZ,hS,v7 hZ hS (by omega) h8 w8 zh zw,d1,d2,by omega,λh w o hh hw2 hlt=>?_⟩;have v:=LY (by omega) (by omega) (by omega) (by omega) zh zw hh hw2
  rcases k2 with k2|k2
  ·exact .max k2 v hlt
  ·exact .avg k2 v hlt
 have hk:(decide (l.kind=2)||decide (l.kind=3))=false:=by simpa using k2
 rw[hk]at hl;simp only[cond_false]at hl;by_cases k4:l.kind=4
 ·rw[decide_eq_true k4]at hl⊢;simp only[cond_true,Rq,decide_eq_true_eq,o5,cd]at hl⊢;obtain⟨⟨z0,s0⟩,hn,hz⟩:=hl;exact⟨0,0,H,W,C,by omega,by omega,rfl,by omega,by omega,by omega,λh w o a b c=>.QL k4 a b c hz⟩
 rw[decide_eq_false k4]at hl⊢;simp only[cond_false]at hl⊢;by_cases k5:l.kind=5
 ·rw[decide_eq_true k5]at hl⊢;simp only[cond_true,Rq,decide_eq_true_eq,o5]at hl⊢;obtain⟨⟨z0,s0⟩,hn,hz,hs⟩:=hl;have p1:1<=H*W:=Sd h1 w1;have p2:1<=H*W*C:=Sd p1 c1;rw[hsz]at hs⊢;exact⟨0,0,1,1,H*W*C,by omega,by omega,rfl,by omega,by omega,by omega,λh w o a b c=>.flat k5 (by rw[hlen];exact c)⟩
 rw[decide_eq_false k5]at hl;exact nomatch hl
theorem JI {x d:Int} (hd:1<=d) (h1:-128*d<=x) (h2:x<=127*d):-128<=gq x d/\gq x d<=127:=by
 unfold gq;by_cases c:x<0
 ·rw[if_pos c];have a1:0<=(2*-x+d)/(2*d):=Int.ediv_nonneg (by omega) (by omega);have a2:(2*-x+d)/(2*d)<129:=Int.ediv_lt_of_lt_mul (by omega) (by omega);omega
 ·rw[if_neg c];have a1:0<=(2*x+d)/(2*d):=Int.ediv_nonneg (by omega) (by omega);have a2:(2*x+d)/(2*d)<128:=Int.ediv_lt_of_lt_mul (by omega) (by omega);omega
theorem NM {H W C:Nat} {xs:List Int} (r:kR H W C xs) {l:aj} {Z S h w o:Nat} (f:Fits H W C xs l Z S h w o):-128<=lR W C xs l Z S h w o/\lR W C xs l Z S h w o<=127:=by
 unfold lR
 cases f with
 |NK h0 hb h8 hw=>rw[h0];exact yY _
 |conv h0 hb h8 hw v hi=>rw[h0];exact yY _
 |max h0 v ho=>
  rw[h0];obtain⟨x,ys,e⟩:=zi (xs:=xs) (C:=C) (o:=o) v;show -128<=kS (iT W C xs Z S h w o)/\kS (iT W C xs Z S h w o)<=127;have:=wS r v ho;rw[e]at this⊢
  exact this _ (p8 ys x)
 |avg h0 v ho=>
  rw[h0];have hl:=nG (xs:=xs) (C:=C) (o:=o) v;have hb:=zg (wS r v ho);rw[hl.1]at hb;show -128<=gq (iT W C xs Z S h w o).sum ((Z*Z:Nat):Int)/\gq (iT W C xs Z S h w o).sum ((Z*Z:Nat):Int)<=127
  exact JI (by omega) hb.1 hb.2
 |QL h0 h1 h2 h3 hz=>
  rw[h0];have:=Ib r h1 h2 h3;show -128<=(if atN W C xs h w o<l.zero then l.zero else atN W C xs h w o)/\(if atN W C xs h w o<l.zero then l.zero else atN W C xs h w o)<=127;by_cases c:atN W C xs h w o<l.zero
  ·rw[if_pos c];exact hz
  ·rw[if_neg c];exact this
 |flat h0 ho=>rw[h0];exact r.mem _ (wR ho)
def runN (W C:Nat) (xs:List Int) (l:aj) (Z S H' W' C':Nat):List Int:=
 (List.range H').flatMap λh=>(List.range W').flatMap λw=>(List.range C').flatMap λo=>[lR W C xs l Z S h w o]
def My (t:al) (l:aj):al× Bool:=
 cond (t.okB&&iO t.sh l) (⟨shapeOf t.sh l,runN t.sh.w.toNat t.sh.c.toNat t.data l l.size.toNat l.step.toNat (shapeOf t.sh l).h.toNat (shapeOf t.sh l).w.toNat (shapeOf t.sh l).c.toNat⟩,true) (⟨jm,[]⟩,false)
theorem NN (W C:Nat) (xs:List Int) (l:aj) (Z S H' W' C':Nat):(runN W C xs l Z S H' W' C').length=H'*(W'*(C'*1)):=
 gG _ _ _ λi hi=>gG _ _ _ λj hj=>gG _ _ _ λo ho=>rfl
theorem JJ {t:al} {l:aj} (h1:t.okB=true) (h2:iO t.sh l=true):(My t l).1.okB=true/\(My t l).1.sh=shapeOf t.sh l/\(My t l).2=true:=by
 obtain⟨H,W,C,r,e⟩:=CN h1
 have e2:t.sh=⟨H,W,C⟩:=by rw[e];rfl
 have h2':=h2;rw[e2]at h2';obtain⟨Z,S,H',W',C',hz,hs,hsh,a1,a2,a3,hf⟩:=vp r h2';unfold My;rw[h1,h2];simp only[Bool.and_self,cond_true];refine And.intro ?_ (by simp);rw[e2,hsh,show l.size.toNat=Z from by omega,show l.step.toNat=S from by omega];simp only[Rr];refine kR.ok (H:=H') (W:=W') (C:=C') ⟨a1.1,a1.2,a2.1,a2.2,a3.1,a3.2,by rw[NN,Nat.mul_one,Nat.mul_assoc],λx hx=>?_⟩;unfold runN at hx;rw[Tx]at hx;obtain⟨i,hi,hx⟩:=hx;rw[Tx]at hx;obtain⟨j,hj,hx⟩:=hx;rw[Tx]at hx;obtain⟨o,ho,hx⟩:=hx;rw[List.mem_range]at hi hj ho;rw[SS]at hx;rw[hx];exact NM r (hf i j o hi hj ho)
theorem CQ {k:Nat} {t:al} {l:aj} (hk:512<k) (hd:t.data.length<k) (hdN:t.data.length<=aN) (hl:l.tot<k) (hlN:l.tot<=aN):qH k t l=some (My t l):=by
 have hM:=aq;unfold qH My;rw[oH hd (by unfold ue;omega),aa];cases h1:t.okB
 ·rfl
 simp only[Rw,cond_false,Ry];rw[oI hl hlN,aa];unfold gJ;cases h2:iO t.sh l
 ·rfl
 obtain⟨H,W,C,r,e⟩:=CN h1;obtain⟨sh,xs⟩:=t;have e2:sh=⟨H,W,C⟩:=congrArg al.sh e;subst e2;obtain⟨Z,S,H',W',C',hz,hs,hsh,a1,a2,a3,hf⟩:=vp r h2
 have hwN:l.weights.length<=aN:=by unfold aj.tot at hlN;omega
 simp only[cond_true,Rw,cond_false];rw[hsh,show l.size.toNat=Z from by omega,show l.step.toNat=S from by omega];simp only[Rr]
 have m1:∀w:Nat,∀h:Nat,((List.range C').flatMap λo=>[lR W C xs l Z S h w o]).length<=8:=λw h=>by
  have:=kQ (λo=>[lR W C xs l Z S h w o]) 1 C' (λ_ _=>RJ _);omega
 have m2:∀h:Nat,((List.range W').flatMap λw=>(List.range C').flatMap λo=>[lR W C xs l Z S h w o]).length<=64:=λh=>by
  have:=kQ (λw=>(List.range C').flatMap λo=>[lR W C xs l Z S h w o]) 8 W' (λw _=>m1 w h);omega
 refine(ft H' 64 (λh=>(List.range W').flatMap λw=>(List.range C').flatMap λo=>[lR W C xs l Z S h w o]) [] (fin:=λy=>some ((⟨⟨H',W',C'⟩,y⟩:al),true)) (λh _=>m2 h) (λh ys next hi hy=>?_) (λys next=>?_) (by omega)).trans (by rw[SQ];rfl)
 ·simp only[kC];rw[ab,if_pos (by omega),ay hi (by omega)];refine ft W' 8 (λw=>(List.range C').flatMap λo=>[lR W C xs l Z S h w o]) ys (fin:=λy=>next (((h+1:Nat):Int),y)) (λw _=>m1 w h) (λw zs next2 hj hz2=>?_) (λzs next2=>?_) (by omega)
  ·simp only[kB];rw[ab,if_pos (by omega),ay hj (by omega)];refine ft C' 1 (λo=>[lR W C xs l Z S h w o]) zs (fin:=λy=>next2 (((w+1:Nat):Int),y)) (λ_ _=>RJ _) (λo us next3 ho hz3=>?_) (λus next3=>?_) (by omega)
   ·simp only[kA];simp only[R6]at hy;have eq:=LW (k:=k) r (l:=l) hk hwN hz hs (hf h w o hi hj ho);rw[ab,if_pos (by omega)];refine(congrArg (λo:Option Int=>o.bind _) eq).trans ?_;rw[aa,cw (by simp;omega),ay ho (by omega)]
   ·simp only[kA];rw[ab,if_neg (by omega)]
  ·simp only[kB];rw[ab,if_neg (by omega)]
 ·simp only[kC];rw[ab,if_neg (by omega)]
theorem CS {k:Nat} {t:al} {l:aj} (hk:512<k) (hd:t.data.length<k) (hdN:t.data.length<=aN) (hl:l.tot<k) (hlN:l.tot<=aN):qL k t l=some (My t l):=by
 have hM:=aq;unfold qL My;rw[oJ hl hlN,aa,tP hd (by unfold ue;omega)];unfold gJ;cases h2:iO t.sh l
 ·cases t.okB<;>rfl
 simp only[cond_true,Rw,cond_false,aa];cases h1:t.okB
 ·rfl
 simp only[Rw,cond_false,Bool.and_self,cond_true];obtain⟨H,W,C,r,e⟩:=CN h1;obtain⟨sh,xs⟩:=t;have e2:sh=⟨H,W,C⟩:=congrArg al.sh e;subst e2;obtain⟨Z,S,H',W',C',hz,hs,hsh,a1,a2,a3,hf⟩:=vp r h2
 have hwN:l.weights.length<=aN:=by unfold aj.tot at hlN;omega
 rw[hsh,show l.size.toNat=Z from by omega,show l.step.toNat=S from by omega];simp only[Rr]
 have m1:∀w:Nat,∀h:Nat,((List.range C').flatMap λo=>[lR W C xs l Z S h w o]).length<=8:=λw h=>by
  have:=kQ (λo=>[lR W C xs l Z S h w o]) 1 C' (λ_ _=>RJ _);omega
 have m2:∀h:Nat,((List.range W').flatMap λw=>(List.range C').flatMap λo=>[lR W C xs l Z S h w o]).length<=64:=λh=>by
  have:=kQ (λw=>(List.range C').flatMap λo=>[lR W C xs l Z S h w o]) 8 W' (λw _=>m1 w h);omega
 refine(ft H' 64 (λh=>(List.range W').flatMap λw=>(List.range C').flatMap λo=>[lR W C xs l Z S h w o]) [] (fin:=λy=>some ((⟨⟨H',W',C'⟩,y⟩:al),true)) (λh _=>m2 h) (λh ys next hi hy=>?_) (λys next=>?_) (by omega)).trans (by rw[SQ];rfl)
 ·simp only[kF];rw[ab,if_pos (by omega),ay hi (by omega)];refine ft W' 8 (λw=>(List.range C').flatMap λo=>[lR W C xs l Z S h w o]) ys (fin:=λy=>next (((h+1:Nat):Int),y)) (λw _=>m1 w h) (λw zs next2 hj hz2=>?_) (λzs next2=>?_) (by omega)
  ·simp only[kE];rw[ab,if_pos (by omega),ay hj (by omega)];refine ft C' 1 (λo=>[lR W C xs l Z S h w o]) zs (fin:=λy=>next2 (((w+1:Nat):Int),y)) (λ_ _=>RJ _) (λo us next3 ho hz3=>?_) (λus next3=>?_) (by omega)
   ·simp only[kD];simp only[R6]at hy;have eq:=LV (k:=k) r (l:=l) hk hwN hz hs (hf h w o hi hj ho);rw[ab,if_pos (by omega)];refine(congrArg (λo:Option Int=>o.bind _) eq).trans ?_;rw[aa,cw (by simp;omega),ay ho (by omega)]
   ·simp only[kD];rw[ab,if_neg (by omega)]
  ·simp only[kE];rw[ab,if_neg (by omega)]
 ·simp only[kF];rw[ab,if_neg (by omega)]
end
section
end
section
end
section
def zj:aj:=⟨0,0,0,0,0,0,0,[],[]⟩
theorem Bn:∀(ls:List aj) (s:Shape) (t:List Shape),cM s ls=some t->∀i,i<ls.length->iO ((s::t).getD i jm) (ls.getD i zj)=true/\(s::t).getD (i+1) jm=shapeOf ((s::t).getD i jm) (ls.getD i zj)
 |[],s,t,h,i,hi=>by simp at hi
 |l::ls,s,t,h,i,hi=>by
  simp only[cM]at h;cases hb:iO s l<;>simp only[hb,cond_true,cond_false]at h
  ·exact nomatch h
  ·obtain⟨t',h1,rfl⟩:=Rv.1 h
   cases i with
   |zero=>exact⟨hb,rfl⟩
   |succ i=>exact Bn ls (shapeOf s l) t' h1 i (by simpa using hi)
theorem rb {m:Model} (h:et m=true):(1<=m.ao.length/\m.ao.length<=6)/\∀i,i<m.ao.length->iO ((b8 m).getD i jm) (m.ao.getD i zj)=true/\(b8 m).getD (i+1) jm=shapeOf ((b8 m).getD i jm) (m.ao.getD i zj):=by
 unfold b8;rw[h,cond_true];unfold et at h;unfold dO at h⊢;cases h1:(m.inp.okB&&inB (m.ao.length:Int) 1 6)<;>rw[h1]at h
 ·exact nomatch h
 ·simp only[cond_true]at h⊢;rw[Rq,cd]at h1
  cases h2:cM m.inp m.ao with
  |none=>rw[h2]at h;exact nomatch h
  |some t=>exact⟨by omega,Bn m.ao m.inp t h2⟩
theorem iQ {j:Job} (h:uf j=true):et j.model=true/\(0<=j.at_/\j.at_<=j.model.ao.length)/\j.act.okB=true/\j.act.sh=(b8 j.model).getD j.at_.toNat jm/\j.iR=Q7 ((bo j.model).take j.at_.toNat):=by
 unfold uf at h;simp only[Rq,cd,decide_eq_true_eq]at h;exact h
theorem LZ {j:Job} (h:uf j=true):j.act.data.length<=512/\j.tot<=j.model.tot+512:=by
 have h1:=(iQ h).2.2.1;unfold al.okB at h1;simp only[Rq,decide_eq_true_eq]at h1;have:=Shape.LH j.act.sh;unfold Job.tot al.tot;omega
def zk (j:Job):aj:=j.model.ao.getD j.at_.toNat zj
def JK (j:Job):Int:=(bo j.model).getD j.at_.toNat 0
def vq (j:Job):Job:=⟨j.model,j.at_+1,(My j.act (zk j)).1,IntKind.i64.wrap (j.iR+JK j)⟩
theorem L0 {j:Job} (h:uf j=true) (hd:j.at_≠(j.model.ao.length:Int)):uf (vq j)=true:=by
 obtain⟨hm,hat,hok,hsh,hsp⟩:=iQ h;obtain⟨hlen,hg⟩:=rb hm;obtain⟨hl,hs⟩:=hg j.at_.toNat (by omega);rw[<-hsh]at hl hs;obtain⟨r1,r2,r3⟩:=JJ hok hl;have hcl:=hJ hm
 have hi:j.at_.toNat<(bo j.model).length:=by omega
 have e:(j.at_+1).toNat=j.at_.toNat+1:=by omega
 unfold uf vq;simp only[Rq,cd,decide_eq_true_eq,hm,true_and,e];refine⟨by omega,r1,?_,?_⟩
 ·show(My j.act (zk j)).1.sh=_;rw[hs];exact r2
 ·unfold Q7 JK;rw[dy hi,So,bJ hi,hsp];rfl
theorem Py {V R:Type} {g:V->(V->Option R)->Option R} {fin:V->Option R} {st:Nat->V} {n:Nat} {k:Nat} (h:∀i,i<n->∀next,g (st i) next=next (st (i+1))) (hn:∀next,g (st n) next=fin (st n)) (hk:n<k):iter g k (st 0)=fin (st n):=
 fb (g:=g) (st:=st) (n:=n) (r:=fin (st n)) h hn hk
theorem GW {k:Nat} {j:Job} (hk:j.tot+8<k) (hN:j.tot<=aN) (h:uf j=true):wL k j=some ((bo j.model).drop j.at_.toNat):=by
 have hM:=aq;obtain⟨hm,hat,hok,hsh,hsp⟩:=iQ h;obtain⟨hlen,hg⟩:=rb hm;have hcl:=hJ hm;have ht:j.tot=j.model.tot+(j.act.tot+0):=rfl;unfold wL;rw[qX (by omega) hN,aa,h];simp only[Rw,cond_false];rw[j8 (by omega) (by omega),aa]
 have e0:(j.at_,([]:List Int))=(((j.at_.toNat+0:Nat):Int),((bo j.model).drop j.at_.toNat).take 0):=by
  rw[List.take_zero];congr 1;omega
 rw[e0];refine(Py (g:=λu5 n5=>lE k (bo j.model) u5 n5 (λy4=>some y4)) (fin:=λv=>some v.2) (st:=λi=>(((j.at_.toNat+i:Nat):Int),((bo j.model).drop j.at_.toNat).take i)) (n:=(bo j.model).length-j.at_.toNat) (λi hi next=>?_) (λnext=>?_) (by omega)).trans ?_
 ·have hi2:j.at_.toNat+i<(bo j.model).length:=by omega
  have hi3:i<((bo j.model).drop j.at_.toNat).length:=by simp;omega
  simp only[lE];rw[ab,if_pos (by omega),ab,if_pos (by omega),Rr,ag hi2,aa,cw (by simp;omega),ay hi2 (by omega),dy hi3,List.getElem_drop];rfl
 ·simp only[lE];rw[ab,if_neg (by omega)]
 ·rw[SZ (by simp)]
theorem GX {k:Nat} {j:Job} (hk:j.tot+8<k) (hN:j.tot<aN) (h:uf j=true):wM k j=some ((bo j.model).drop j.at_.toNat):=by
 obtain⟨hm,hat,hok,hsh,hsp⟩:=iQ h;have hcl:=hJ hm;have ht:j.tot=j.model.tot+(j.act.tot+0):=rfl;unfold wM;rw[Bd (by omega) hN,aa,h];simp only[Rw,cond_false];rw[j9 (by omega) (by omega),aa,ab,if_pos (by omega),SZ (by simp)]
theorem L3 (xs:List Int) (n:Nat):(xs.drop n)[0]? =if n<xs.length then some (xs.getD n 0)else none:=by
 rw[RF,RZ];by_cases c:n<xs.length
 ·rw[if_pos c,ag c,bJ c]
 ·rw[if_neg c,RR (by omega)]
theorem EX {xs:List Int} {n:Nat} (h:¬n<xs.length):xs.getD n 0=0:=by
 rw[RU,RR (by omega)];rfl
theorem CT {k:Nat} {j:Job} (hk:j.tot+8<k) (hN:j.tot<=aN) (h:uf j=true):qI k j=some (JK j):=by
 unfold qI JK;rw[GW hk hN h,aa,ED,ab,SE];by_cases c:j.at_.toNat<(bo j.model).length
 ·rw[if_neg (by omega),ab,if_pos (by omega)];show(((bo j.model).drop j.at_.toNat)[0]?).bind _=_;rw[L3,if_pos c,aa]
 ·rw[if_pos (by omega),EX c]
theorem CU {k:Nat} {j:Job} (hk:j.tot+8<k) (hN:j.tot<aN) (h:uf j=true):qJ k j=some (JK j):=by
 unfold qJ JK;rw[GX hk hN h,aa,ED,ab,SE];by_cases c:j.at_.toNat<(bo j.model).length
 ·rw[if_neg (by omega),wG,L3,if_pos c,aa]
 ·rw[if_pos (by omega),EX c]
theorem EY {k:Nat} {j:Job} (hk:j.tot<k) (hN:j.tot<=aN):tw k j=some j:=by
 have ht:j.tot=j.model.tot+(j.act.data.length+0+0):=rfl;unfold tw;rw[pY (by omega) (by omega),aa,pV (by omega) (by omega),aa]
def NP (j:Job):Job× Bool:=cond (uf j&&!(j.at_==(j.model.ao.length:Int))) (vq j,true) (j,false)
theorem EZ {k:Nat} {j:Job} (hk:j.tot<k) (hN:j.tot<=aN) (h:uf j=true):tx k j=some (j.at_==(j.model.ao.length:Int)):=by
 unfold tx;rw[qX hk hN,aa,h];rfl
theorem E0 {j:Job} (h:uf j=true) (hd:j.at_≠(j.model.ao.length:Int)):j.model.ao[j.at_.toNat]? =some (zk j)/\(zk j).tot<=j.model.tot:=by
 obtain⟨hm,hat,hok,hsh,hsp⟩:=iQ h
 have hi:j.at_.toNat<j.model.ao.length:=by omega
 unfold zk;rw[bJ hi];have:=da aj.tot (Rx hi);exact⟨ag hi,by unfold Model.tot;omega⟩
theorem v8 {k:Nat} {j:Job} (hk:j.tot+513<k) (hN:j.tot<=aN):tC k j=some (NP j):=by
 have hM:=aq;have ht:j.tot=j.model.tot+(j.act.data.length+0+0):=rfl;unfold tC NP;rw[EY (by omega) hN,aa,qX (by omega) hN,aa];cases h:uf j
 ·rfl
 simp only[Rw,cond_false,Ry];rw[EZ (by omega) hN h,aa,ED];obtain⟨hm,hat,hok,hsh,hsp⟩:=iQ h;obtain⟨hlen,_⟩:=rb hm;by_cases c:j.at_=(j.model.ao.length:Int)
 ·rw[decide_eq_true c];rfl
 rw[decide_eq_false c];simp only[cond_false,RP,cond_true];obtain⟨hl,hlt⟩:=E0 h c;rw[sa _ hat.1,hl,aa,CQ (by omega) (by omega) (by omega) (by omega) (by omega),aa,CT (by omega) hN h,aa,aG (n:=j.at_+1) (by omega) (by omega)];rfl
end
section
end
section
theorem oN (b c:Bool):cond b (some c) (some false)=some (b&&c):=by cases b<;>rfl
theorem Om (a b:Int):decide (a>=b)=!decide (a<b):=by rw[<-decide_not];exact decide_eq_decide.2 (by omega)
theorem L4 (a b:Int):decide (a>b)=!decide (a<=b):=by rw[<-decide_not];exact decide_eq_decide.2 (by omega)
theorem E3 {R:Type} (n:Nat) (p:Nat->Bool) {g:Int->(Int->Option R)->Option R} {yes no:Option R}
  (h:∀(i:Nat) (hi:i<n) (next:Int->Option R),g (i:Int) next=cond (p i) (next ((i+1:Nat):Int)) no)
  (hn:∀next,g (n:Int) next=yes) {k:Nat} (hk:n<k):iter g k 0=cond ((List.range n).all p) yes no:=
 oh (List.range n) p (g:=g) (yes:=yes) (no:=no) (λi hi next=>by rw[h i (by simpa using hi)];simp) (λnext=>by simpa using hn next) (by simpa using hk)
theorem oO {α β R:Type} (xs:List α) (p:α->Bool) (f:α->β) {g:Int× List β->(Int× List β->Option R)->Option R} {fin:List β->Option R}
  (h:∀(i:Nat) (ys:List β) (hi:i<xs.length) (next:Int× List β->Option R),ys.length<=i->g ((i:Int),ys) next=cond (p xs[i]) (next (((i+1:Nat):Int),ys++[f xs[i]])) (next (((i+1:Nat):Int),ys)))
  (hn:∀ys next,g ((xs.length:Int),ys) next=fin ys) {k:Nat} (hk:xs.length<k):iter g k (0,[])=fin ((xs.filter p).map f):=by
 have:=fb (g:=g) (st:=λi=>((i:Int),((xs.take i).filter p).map f)) (n:=xs.length) (r:=fin ((xs.filter p).map f)) (λi hi next=>by
  rw[h i _ hi next (by simp only[List.length_map];exact SN (Tg _ _) (by simp;omega)),dy hi,Td,SB];cases hp:p xs[i]
  ·simp[hp]
  ·simp[hp]) (λnext=>by rw[Sr];exact hn _ _) hk
 simpa using this
theorem zl {α:Type} {f:α->Int} {B:Int}:∀(xs:List α) (hf:∀x∈xs,0<=f x/\f x<=B),0<=(xs.map f).sum/\(xs.map f).sum<=B*xs.length
 |[],_=>by simp
 |x::xs,hf=>by
  have:=zl xs λy hy=>hf y (by simp[hy]);have h2:=hf x (by simp);simp only[R4,SY,RA];rw[Int.natCast_add,Int.mul_add];omega
theorem Ie {α R:Type} (xs:List α) (f:α->Int) {B:Int} (hf:∀x∈xs,0<=f x/\f x<=B) {g:Int× Int->(Int× Int->Option R)->Option R} {fin:Int->Option R}
  (h:∀(i:Nat) (s:Int) (hi:i<xs.length) (next:Int× Int->Option R),0<=s->s<=B*i->g (s,(i:Int)) next=next (s+f xs[i],((i+1:Nat):Int)))
  (hn:∀s next,g (s,(xs.length:Int)) next=fin s) {k:Nat} (hk:xs.length<k):iter g k (0,0)=fin ((xs.map f).sum):=by
 have:=fb (g:=g) (st:=λi=>(((xs.take i).map f).sum,(i:Int))) (n:=xs.length) (r:=fin ((xs.map f).sum)) (λi hi next=>by
  have hb:=zl (f:=f) (B:=B) (xs.take i) (λx hx=>hf x (Tv hx));rw[R8,TG (by omega)]at hb;rw[h i _ hi next hb.1 hb.2,dy hi,SB,Ti]
  simp) (λnext=>by rw[Sr];exact hn _ _) hk
 simpa using this
theorem E4 {R:Type} (xs:List Int) (a:Nat) (ha:a<=xs.length) {B:Int} (hB:0<=B) (hf:∀x∈xs,0<=x/\x<=B) {g:Int× Int->(Int× Int->Option R)->Option R} {fin:Int->Option R}
  (h:∀(i:Nat) (s:Int) (hi:i<xs.length) (next:Int× Int->Option R),0<=s->s<=B*i->g (s,(i:Int)) next=next (s+xs[i],((i+1:Nat):Int)))
  (hn:∀s next,g (s,(xs.length:Int)) next=fin s) {k:Nat} (hk:xs.length<k):iter g k (0,(a:Int))=fin ((xs.drop a).sum):=by
 have:=fb (g:=g) (st:=λi=>(((xs.drop a).take i).sum,((a+i:Nat):Int))) (n:=xs.length-a) (r:=fin ((xs.drop a).sum)) (λi hi next=>by
  have hb:=zl (f:=λx:Int=>x) (B:=B) ((xs.drop a).take i) (λx hx=>hf x (List.mem_of_mem_drop (Tv hx)));rw[R8,SE,TG (by omega),TR]at hb;have hle:B*(i:Int)<=B*((a+i:Nat):Int):=Int.mul_le_mul_of_nonneg_left (by omega) hB;rw[h (a+i) _ (by omega) next hb.1 (by omega),dy (show i<(xs.drop a).length by simp;omega),Ti]
  simp[Sv]) (λnext=>by
   rw[show a+(xs.length-a)=xs.length by omega,SZ (by simp)];exact hn _ _) (k:=k) (by omega)
 simpa using this
def ie (t:Task):Bool:=inB t.id 1 1000000&&(inB (t.av.length:Int) 1 6&&(inB t.at_ 0 ((t.av.length:Int)-1)&&(inB t.due 0 1000000&&(inB t.born 0 1000000&&t.av.all λx=>inB x 1 1000))))
theorem bW {t:Task} (h:ie t=true):(1<=t.id/\t.id<=1000000)/\(1<=t.av.length/\t.av.length<=6)/\(0<=t.at_/\t.at_<t.av.length)/\(0<=t.due/\t.due<=1000000)/\(0<=t.born/\t.born<=1000000)/\∀x∈t.av,1<=x/\x<=1000:=by
 unfold ie inB at h;simp only[Rq,decide_eq_true_eq,S3]at h;obtain⟨h1,h2,h3,h4,h5,h6⟩:=h;exact⟨h1,by omega,by omega,h4,h5,h6⟩
theorem qa (k:Nat) (x:Int):jX k x=some (inB x 0 1000000):=by unfold jX;rw[cy];rfl
theorem sx (k:Nat) (x:Int):mv k x=some (inB x 0 1000000):=by unfold mv;rw[fy];rfl
theorem zm {k:Nat} {t:Task} (hk:t.av.length<k) (hN:t.av.length<=aN):tG k t=some (ie t):=by
 have hM:=aq;unfold tG ie;simp only[cy,qa,aa,cond_not]
 rw[aG (by omega) (by omega),oh t.av (λx=>inB x 1 1000) (yes:=some true) (no:=some false) (λi hi next=>by
  simp only[oA]
  rw[ab,if_pos (by omega),aC,ag hi,aa,cy,aa,cond_not,ay hi (by omega)]) (λnext=>by
  simp only[oA];rw[ab,if_neg (by omega)]) hk]
 simp only[oN,TE]
theorem zn {k:Nat} {t:Task} (hk:t.av.length<k) (hN:t.av.length<=aN):tI k t=some (ie t):=by
 have hM:=aq;unfold tI bY cl ie
 rw[eM t.av (λx=>!inB x 1 1000) (λi hi next=>by
  simp only[bh,ab,se,fy,aa]
  rw[if_pos (by omega),aC,ag hi,aa,ay hi (by omega)]) (λnext=>by
  simp only[bh,ab];rw[if_neg (by omega)]) hk]
 rw[cK];simp only[fy,sx,aa,nB];rw[aG (by omega) (by omega),S8];simp only[TP,oN]
 congr 1
 generalize inB t.id 1 1000000=a;generalize inB (t.av.length:Int) 1 6=b;generalize inB t.at_ 0 ((t.av.length:Int)-1)=c;generalize inB t.due 0 1000000=d;generalize inB t.born 0 1000000=e;generalize (t.av.all λx=>inB x 1 1000)=f;cases a<;>cases b<;>cases c<;>cases d<;>cases e<;>cases f<;>rfl
def ka (ts:List Task) (id:Int):Int:=(ts.findIdx? λt=>t.id==id).elim (-1) λi=>(i:Int)
theorem la {k:Nat} {s:ak} {id:Int} (hk:s.tasks.length<k) (hN:s.tasks.length<=aN):ku k s id=some (ka s.tasks id):=by
 have hM:=aq;unfold ku ka
 rw[eM s.tasks (λt=>t.id==id) (yes:=some (-1)) (no:=some) (λi hi next=>by
  simp only[qO]
  rw[ab,if_pos (by omega),aC,ag hi,aa,ay hi (by omega)]) (λnext=>by
  simp only[qO];rw[ab,if_neg (by omega)]) hk]
 exact cK _
theorem tX {k:Nat} {s:ak} {id:Int} (hk:s.tasks.length<k) (hN:s.tasks.length<=aN):cZ k s id=some (ka s.tasks id):=by
 have hM:=aq;unfold cZ cU ka
 rw[eM s.tasks (λt=>t.id==id) (yes:=some (-1)) (no:=some) (λi hi next=>by
  simp only[bI,jj,decide_true,cond_true,aa]
  rw[ab,if_pos (by omega),aC,ag hi,aa,ay hi (by omega)]) (λnext=>by
  simp only[bI,decide_true,cond_true];rw[ab,if_neg (by omega)]) hk]
 rw[cK];rfl
def gi (s:ak):Bool:=(List.range s.tasks.length).all λi=>(s.tasks[i]?).elim false λt=>ie t&&(decide (t.id<s.next)&&(decide (t.born<=s.now)&&(cond (decide (0<i)) ((s.tasks[i-1]?).elim false λu=>decide (u.id<t.id)) true)))
def J5 (s:ak):Bool:=cond (s.run==0) (s.left==0) ((s.tasks.findIdx? λt=>t.id==s.run).elim false λi=>(s.tasks[i]?).elim false λt=>(idx t.av t.at_).elim false λc=>inB s.left 1 c)
def bc (s:ak):Bool:=inB s.now 0 1000000&&(inB s.ai 0 1000&&(inB s.age 0 20&&(decide ((s.tasks.length:Int)<=12)&&(inB s.turns 0 1000000&&(inB s.next 1 1000000&&(gi s&&J5 s))))))
theorem bZ {s:ak} (h:gi s=true) {i:Nat} (hi:i<s.tasks.length):ie s.tasks[i]=true/\s.tasks[i].id<s.next/\s.tasks[i].born<=s.now/\∀j,(hj:j+1=i)->s.tasks[j].id<s.tasks[i].id:=by
 unfold gi at h;rw[S3]at h;have:=h i (by simpa using hi);rw[ag hi,Ru]at this;simp only[Rq,decide_eq_true_eq]at this;obtain⟨h1,h2,h3,h4⟩:=this;refine⟨h1,h2,h3,λj hj=>?_⟩;subst hj;rw[decide_eq_true (by omega),cond_true,Nat.add_sub_cancel,ag (show j<s.tasks.length by omega),Ru]at h4;exact of_decide_eq_true h4
theorem Ig {s:ak} (h:gi s=true):∀(d i:Nat) (hd:i+d+1<s.tasks.length),s.tasks[i].id<s.tasks[i+d+1].id
 |0,i,hd=>(bZ h hd).2.2.2 i rfl
 |d+1,i,hd=>Int.lt_trans (Ig h d i (by omega)) ((bZ h (i:=i+(d+1)+1) hd).2.2.2 (i+d+1) (by omega))
theorem L5 {s:ak} (h:gi s=true) {i j:Nat} (hi:i<s.tasks.length) (hj:j<s.tasks.length) (e:s.tasks[i].id=s.tasks[j].id):i=j:=by
 rcases Tq i j with c|c|c
 ·obtain⟨d,rfl⟩:∃d,j=i+d+1:=⟨j-i-1,by omega⟩;have:=Ig h d i hj;omega
 ·exact c
 ·obtain⟨d,rfl⟩:∃d,i=j+d+1:=⟨i-j-1,by omega⟩;have:=Ig h d j hi;omega
theorem CV {s:ak} (h:gi s=true) {i:Nat} (hi:i<s.tasks.length):(s.tasks.findIdx? λt=>t.id==s.tasks[i].id)=some i:=by
 cases e:s.tasks.findIdx? λt=>t.id==s.tasks[i].id with
 |none=>
  rw[S2]at e;have:=e _ (Rx hi)
  simp at this
 |some j=>
  obtain⟨hj,hp,_⟩:=SD.1 e;rw[L5 h hj hi (by simpa using hp)]
theorem qb {ts:List Task} {id:Int} {i:Nat} (h:(ts.findIdx? λt=>t.id==id)=some i):∃hi:i<ts.length,ts[i].id=id:=by
 obtain⟨hi,hp,_⟩:=SD.1 h;exact⟨hi,by simpa using hp⟩
theorem Ih {s:ak} (h:gi s=true) (i:Nat) (hi:(s.tasks.findIdx? λt=>t.id==s.run)=some i):
  ((idx s.tasks (i:Int)).bind λe8=>(idx s.tasks (i:Int)).bind λe9=>(idx e8.av e9.at_).bind λe10=>some (inB s.left (1:Int) e10))=
  some ((s.tasks[i]?).elim false λt=>(idx t.av t.at_).elim false λc=>inB s.left 1 c):=by
 obtain⟨hl,_⟩:=qb hi;have ht:=bW (bZ h hl).1;rw[aC,ag hl,aa,aa,Ru]
 have:idx s.tasks[i].av s.tasks[i].at_=some (s.tasks[i].av[s.tasks[i].at_.toNat]'(by omega)):=by
  rw[sa _ ht.2.2.1.1];exact ag _
 rw[this,aa,Ru]
theorem ia {ts:List Task} {id:Int} {i:Nat} (h:(ts.findIdx? λt=>t.id==id)=some i):ka ts id=(i:Int):=by unfold ka;rw[h];rfl
theorem vr {ts:List Task} {id:Int} (h:(ts.findIdx? λt=>t.id==id)=none):ka ts id=-1:=by unfold ka;rw[h];rfl
theorem Bo {R:Type} {s:ak} {i:Nat} (hi:i<s.tasks.length) (hN:s.tasks.length<=aN) {next no:Option R}:
  (cond (!ie s.tasks[i]) no (cond (decide (s.tasks[i].id>=s.next)) no (cond (decide (s.tasks[i].born>s.now)) no (cond (decide ((i:Int)>(0:Int))) ((idx s.tasks (IntKind.i64.wrap ((i:Int)-(1:Int)))).bind λe8=>cond (decide (e8.id>=s.tasks[i].id)) no next) next))))=
  cond ((s.tasks[i]?).elim false λt=>ie t&&(decide (t.id<s.next)&&(decide (t.born<=s.now)&&(cond (decide (0<i)) ((s.tasks[i-1]?).elim false λu=>decide (u.id<t.id)) true)))) next no:=by
 have hM:=aq;rw[ag hi,Ru,Om s.tasks[i].id s.next,L4 s.tasks[i].born s.now];simp only[cond_not]
 cases i with
 |zero=>
  rw[decide_eq_false (show¬(((0:Nat):Int)>0) by omega),decide_eq_false (show¬(0<0) by omega)];simp only[cond_false,TE]
  cases ie s.tasks[0]<;>cases decide (s.tasks[0].id<s.next)<;>cases decide (s.tasks[0].born<=s.now)<;>rfl
 |succ j=>
  rw[decide_eq_true (show(((j+1:Nat):Int)>0) by omega),decide_eq_true (show(0<j+1) by omega),aG (by omega) (by omega),show((j+1:Nat):Int)-1=(j:Int)from by omega,aC,Nat.add_sub_cancel,ag (show j<s.tasks.length by omega),aa,Ru,Om s.tasks[j].id];simp only[cond_true,cond_not];cases ie s.tasks[j+1]<;>cases decide (s.tasks[j+1].id<s.next)<;>cases decide (s.tasks[j+1].born<=s.now)<;>cases decide (s.tasks[j].id<s.tasks[j+1].id)<;>rfl
theorem dE {k:Nat} {s:ak} (hk:s.tot<k) (hN:s.tot<=aN):eT k s=some (bc s):=by
 have hM:=aq;unfold ak.tot at hk hN;have hlen:=aS Task.tot s.tasks;unfold eT bc;rw[L4 (s.tasks.length:Int) 12];simp only[cy,qa,aa,cond_not]
 rw[E3 s.tasks.length (λi=>(s.tasks[i]?).elim false λt=>ie t&&(decide (t.id<s.next)&&(decide (t.born<=s.now)&&(cond (decide (0<i)) ((s.tasks[i-1]?).elim false λu=>decide (u.id<t.id)) true)))) (λi hi next=>by
  have hm:=da Task.tot (Rx hi);have hm0:s.tasks[i].tot=s.tasks[i].av.length+0:=rfl;simp only[mu];rw[ab,if_pos (by omega),aC,ag hi,aa,zm (by omega) (by omega),aa,ay hi (by omega)]
  exact(Bo hi (by omega)).trans (by rw[ag hi])) (λnext=>by
  simp only[mu];rw[ab,if_neg (by omega)]) (by omega)]
 rw[show((List.range s.tasks.length).all λi=>(s.tasks[i]?).elim false λt=>ie t&&(decide (t.id<s.next)&&(decide (t.born<=s.now)&&(cond (decide (0<i)) ((s.tasks[i-1]?).elim false λu=>decide (u.id<t.id)) true))))=gi s from rfl]
 have hr:gi s=true->cond (s.run==(0:Int)) (some (s.left==(0:Int))) (cond (decide (ka s.tasks s.run>=(0:Int))) ((idx s.tasks (ka s.tasks s.run)).bind λe11=>(idx s.tasks (ka s.tasks s.run)).bind λe12=>(idx e11.av e12.at_).bind λe13=>some (inB s.left (1:Int) e13)) (some false))=some (J5 s):=by
  intro h;unfold J5;cases s.run==0
  ·simp only[cond_false]
   cases hf:s.tasks.findIdx? λt=>t.id==s.run with
   |none=>rw[vr hf];rfl
   |some i=>rw[ia hf,ab,if_pos (by omega),Ih h i hf];rfl
  ·rfl
 simp only[la (s:=s) (id:=s.run) (k:=k) (by omega) (by omega),aa];cases h:gi s
 ·simp only[cond_false,Sp];simp only[oN,Tu]
 ·simp only[cond_true,Ry,hr h,oN]
theorem CW {k:Nat} {s:ak} (hk:s.tot<k) (hN:s.tot<=aN):gH k s=some (gi s&&decide ((s.tasks.length:Int)<=12)):=by
 have hM:=aq;unfold ak.tot at hk hN;have hlen:=aS Task.tot s.tasks;unfold gH
 rw[E3 s.tasks.length (λi=>(s.tasks[i]?).elim false λt=>ie t&&(decide (t.id<s.next)&&(decide (t.born<=s.now)&&(cond (decide (0<i)) ((s.tasks[i-1]?).elim false λu=>decide (u.id<t.id)) true)))) (λi hi next=>by
  have hm:=da Task.tot (Rx hi);have hm0:s.tasks[i].tot=s.tasks[i].av.length+0:=rfl;simp only[ff];rw[ab,if_pos (by omega),aC,ag hi,aa,zn (by omega) (by omega),aa,ay hi (by omega)]
  exact(Bo hi (by omega)).trans (by rw[ag hi])) (λnext=>by
  simp only[ff];rw[ab,if_neg (by omega)]) (by omega)]
 exact oN _ _
theorem ke {k:Nat} {s:ak} (hk:s.tot<k) (hN:s.tot<=aN):lH k s=some (bc s):=by
 have hM:=aq;have hk2:=hk;have hN2:=hN;unfold ak.tot at hk hN;have hlen:=aS Task.tot s.tasks;unfold lH bc;simp only[fy,sx,aa,cond_not,CW hk2 hN2,tX (s:=s) (id:=s.run) (k:=k) (by omega) (by omega)]
 have hr:gi s=true->cond (s.run==(0:Int)) (cond (s.run==(0:Int)) (some (s.left==(0:Int))) (some false)) (cond (decide (ka s.tasks s.run<(0:Int))) (cond (s.run==(0:Int)) (some (s.left==(0:Int))) (some false)) ((idx s.tasks (ka s.tasks s.run)).bind λe8=>(idx s.tasks (ka s.tasks s.run)).bind λe9=>(idx e8.av e9.at_).bind λe10=>some (inB s.left (1:Int) e10)))=some (J5 s):=by
  intro h;unfold J5;cases s.run==0
  ·simp only[cond_false]
   cases hf:s.tasks.findIdx? λt=>t.id==s.run with
   |none=>rw[vr hf];rfl
   |some i=>rw[ia hf,ab,if_neg (by omega),Ih h i hf];rfl
  ·rfl
 cases h:gi s
 ·simp only[cond_false,Sp];simp only[oN,Tu]
 ·rw[hr h];simp only[Ry,oN]
  congr 1
  generalize inB s.now 0 1000000=a;generalize inB s.ai 0 1000=b;generalize inB s.age 0 20=c;generalize decide ((s.tasks.length:Int)<=12)=d;generalize inB s.turns 0 1000000=e;generalize inB s.next 1 1000000=f;generalize J5 s=g;cases a<;>cases b<;>cases c<;>cases d<;>cases e<;>cases f<;>cases g<;>rfl
theorem bw {s:ak} (h:bc s=true):(0<=s.now/\s.now<=1000000)/\(0<=s.ai/\s.ai<=1000)/\(0<=s.age/\s.age<=20)/\s.tasks.length<=12/\(0<=s.turns/\s.turns<=1000000)/\(1<=s.next/\s.next<=1000000)/\gi s=true/\J5 s=true:=by
 unfold bc inB at h;simp only[Rq,decide_eq_true_eq]at h;obtain⟨h1,h2,h3,h4,h5,h6,h7,h8⟩:=h;exact⟨h1,h2,h3,by omega,h5,h6,h7,h8⟩
end
section
theorem qc {k:Nat} {s:ak} (hk:s.tot<k) (hN:s.tot<=aN):lF k s=some s:=by
 have hM:=aq;unfold ak.tot at hk hN;have hlen:=aS Task.tot s.tasks;unfold lF
 refine(tb s.tasks (λt=>t) (g:=λu4 n4=>jW k (s.now,s.ai,s.age,s.tasks,s.run,s.left,s.turns,s.next,(0:Int),(0:Int),(0:Int),(0:Int),(0:Int),(0:Int),(0:Int),s.now,s.ai,s.age,s.run,s.left,s.turns,s.next) u4 n4 (λy3=>some (⟨s.now,s.ai,s.age,y3,s.run,s.left,s.turns,s.next⟩:ak)))
  (fin:=λy3=>some (⟨s.now,s.ai,s.age,y3,s.run,s.left,s.turns,s.next⟩:ak)) (λi ys hi next hl=>by
  have hm:=da Task.tot (Rx hi);have hm0:s.tasks[i].tot=s.tasks[i].av.length+0:=rfl;simp only[jW]
  rw[ab,if_pos (by omega),aC,ag hi,aa,j7 (by omega) (by omega),aa,cw (by omega),ay hi (by omega)]) (λys next=>by
  simp only[jW];rw[ab,if_neg (by omega)]) (by omega)).trans ?_
 simp
theorem jo {k:Nat} {s:ak} (hk:s.tot<k) (hN:s.tot<=aN):fv k s=some s:=by
 have hM:=aq;unfold ak.tot at hk hN;have hlen:=aS Task.tot s.tasks;unfold fv
 refine(tb s.tasks (λt=>t) (g:=λu4 n4=>eU k (s.tasks,(s.tasks.length:Int),s.now,s.ai,s.age,s.run,s.left,s.turns,s.next,(0:Int),(0:Int),(0:Int),(0:Int),(0:Int),(0:Int),(0:Int)) u4 n4 (λy3=>some (⟨s.now,s.ai,s.age,y3,s.run,s.left,s.turns,s.next⟩:ak)))
  (fin:=λy3=>some (⟨s.now,s.ai,s.age,y3,s.run,s.left,s.turns,s.next⟩:ak)) (λi ys hi next hl=>by
  have hm:=da Task.tot (Rx hi);have hm0:s.tasks[i].tot=s.tasks[i].av.length+0:=rfl;simp only[eU]
  rw[ab,if_pos (by omega),aC,ag hi,aa,cL (by omega),aa,cw (by omega),ay hi (by omega)]) (λys next=>by
  simp only[eU];rw[ab,if_neg (by omega)]) (by omega)).trans ?_
 simp
def gj (t:Task):Int:=(t.av.drop t.at_.toNat).sum
def eX (t:Task):Int:=(idx t.av t.at_).getD 0
def dQ (s:ak) (t:Task):Int:=cond (s.run==t.id) (gj t-eX t+s.left) (gj t)
theorem eY {t:Task} (h:ie t=true):idx t.av t.at_=some (eX t)/\1<=eX t/\eX t<=1000:=by
 have ht:=bW h
 have hlt:t.at_.toNat<t.av.length:=by omega
 have e:idx t.av t.at_=some t.av[t.at_.toNat]:=by rw[sa _ ht.2.2.1.1];exact ag hlt
 unfold eX;rw[e,SW];exact⟨rfl,ht.2.2.2.2.2 _ (Rx hlt)⟩
theorem zo {t:Task} (h:ie t=true):eX t<=gj t/\gj t-eX t<=5000/\0<=gj t-eX t:=by
 have ht:=bW h
 have hlt:t.at_.toNat<t.av.length:=by omega
 have e:idx t.av t.at_=some t.av[t.at_.toNat]:=by rw[sa _ ht.2.2.1.1];exact ag hlt
 have hc:eX t=t.av[t.at_.toNat]:=by unfold eX;rw[e];rfl
 have hb:=zl (f:=λx:Int=>x) (B:=1000) (t.av.drop (t.at_.toNat+1)) (λx hx=>by have:=ht.2.2.2.2.2 x (List.mem_of_mem_drop hx);omega);rw[TR,SE]at hb;unfold gj;rw[gx hlt,SY,hc];omega
theorem re {s:ak} (h:bc s=true) {t:Task} (hm:t∈s.tasks) (hr:s.run=t.id):1<=s.left/\s.left<=eX t:=by
 have hs:=bw h;obtain⟨i,hi,rfl⟩:=R5.1 hm;have hT:=(bZ hs.2.2.2.2.2.2.1 hi).1;have ht:=bW hT;have hrun:=hs.2.2.2.2.2.2.2;unfold J5 at hrun
 have h0:(s.run==0)=false:=by rw[hr];simp;omega
 rw[h0,cond_false,hr,CV hs.2.2.2.2.2.2.1 hi,Ru,ag hi,Ru,(eY hT).1,Ru]at hrun;exact of_decide_eq_true hrun
theorem zp {s:ak} (h:bc s=true) {t:Task} (hm:t∈s.tasks):0<=dQ s t/\dQ s t<=6000:=by
 have hs:=bw h;obtain⟨i,hi,e⟩:=R5.1 hm;have hT:ie t=true:=e▸(bZ hs.2.2.2.2.2.2.1 hi).1;have hc:=eY hT;have hb:=zo hT;unfold dQ;cases hr:s.run==t.id
 ·simp only[cond_false];omega
 ·have:=re h hm (by simpa using hr);simp only[cond_true];omega
theorem CX {k:Nat} {s:ak} (hk:s.tot<k) (hN:s.tot<=aN) (h:bc s=true) {t:Task} (hm:t∈s.tasks):qP k s t.id=some (dQ s t):=by
  have hM:=aq;have hs:=bw h;obtain⟨i,hi,rfl⟩:=R5.1 hm;have hT:=(bZ hs.2.2.2.2.2.2.1 hi).1;have ht:=bW hT;have hlen:=aS Task.tot s.tasks;have htm:=da Task.tot hm;have hm0:s.tasks[i].tot=s.tasks[i].av.length+0:=rfl;have hst:s.tot=dj Task.tot s.tasks+0:=rfl;have hc:=eY hT;have hb:=zo hT;unfold qP;rw[la (by omega) (by omega),aa,dE hk hN,aa,h,ia (CV hs.2.2.2.2.2.2.1 hi)];simp only[Rw,cond_false];rw[ab,if_neg (by omega),aC,ag hi,aa]
  have hat:s.tasks[i].at_=((s.tasks[i].at_.toNat:Nat):Int):=by omega
  have e:=E4 (R:=Int) s.tasks[i].av s.tasks[i].at_.toNat (by omega) (B:=1000) (by omega) (λx hx=>by have:=ht.2.2.2.2.2 x hx;omega)
    (g:=λu7 n7=>iD k (s.tasks[i].id,s.now,s.ai,s.age,s.tasks,s.run,s.left,s.turns,s.next,s.tasks[i].id,s.tasks[i].av,s.tasks[i].at_,s.tasks[i].due,s.tasks[i].born) u7 n7 (λy5=>cond (s.run==s.tasks[i].id) ((idx s.tasks[i].av s.tasks[i].at_).bind λe6=>some (IntKind.i64.wrap ((IntKind.i64.wrap (y5-e6))+s.left))) (some y5)))
    (fin:=λy5=>cond (s.run==s.tasks[i].id) ((idx s.tasks[i].av s.tasks[i].at_).bind λe6=>some (IntKind.i64.wrap ((IntKind.i64.wrap (y5-e6))+s.left))) (some y5))
    (λj z hj next h0 h1=>by
      have:=ht.2.2.2.2.2 _ (Rx hj);simp only[iD]
      rw[ab,if_pos (by omega),aC,ag hj,aa,aG (by omega) (by omega),ay hj (by omega)])
    (λz next=>by simp only[iD];rw[ab,if_neg (by omega)]) (k:=k) (by omega)
  rw[<-hat]at e;refine e.trans ?_;show cond _ _ _=some (dQ s s.tasks[i]);unfold dQ;rw[hc.1,aa];cases hr:s.run==s.tasks[i].id
  · rfl
  · have:=re h hm (by simpa using hr);simp only[cond_true];have e2:(s.tasks[i].av.drop s.tasks[i].at_.toNat).sum=gj s.tasks[i]:=rfl;rw[e2,aG (n:=gj s.tasks[i]-eX s.tasks[i]) (by omega) (by omega),aG (by omega) (by omega)]
theorem Ii {B:Int}:∀(xs:List Int) (s:Int) (hf:∀x∈xs,0<=x/\x<=B) (h0:0<=s) (h1:s+B*xs.length<=9223372036854775807),xs.foldl (λs x=>IntKind.i64.wrap (s+x)) s=s+xs.sum
 |[],s,_,_,_=>by simp
 |x::xs,s,hf,h0,h1=>by
  have hx:=hf x (by simp);rw[RA,Int.natCast_add,Int.mul_add]at h1;have h2:0<=B*(xs.length:Int):=Tl (by omega) (by omega);rw[Sq,SY,aG (by omega) (by omega),Ii xs (s+x) (λy hy=>hf y (by simp[hy])) (by omega) (by omega)];omega
theorem GY {k:Nat} {s:ak} (hk:s.tot<k) (hN:s.tot<=aN) (h:bc s=true) {t:Task} (hm:t∈s.tasks):jB k s t=some (dQ s t):=by
 have hM:=aq;have hs:=bw h;obtain⟨i,hi,rfl⟩:=R5.1 hm;have hT:=(bZ hs.2.2.2.2.2.2.1 hi).1;have ht:=bW hT;have htm:=da Task.tot hm;have hm0:s.tasks[i].tot=s.tasks[i].av.length+0:=rfl;have hst:s.tot=dj Task.tot s.tasks+0:=rfl;have hc:=eY hT;have hb:=zo hT;unfold jB;rw[ab,if_pos (by omega),SZ (RJ _),CB (by simp;omega) (by simp;omega),aa,Ii (B:=1000) _ 0 (λx hx=>by have:=ht.2.2.2.2.2 x (List.mem_of_mem_drop hx);omega) (by omega) (by simp;omega),hc.1,aa,Int.zero_add];have e2:(s.tasks[i].av.drop s.tasks[i].at_.toNat).sum=gj s.tasks[i]:=rfl;rw[e2];unfold dQ;cases hr:s.run==s.tasks[i].id
 ·rfl
 ·have:=re h hm (by simpa using hr);simp only[cond_true];rw[aG (n:=s.left-eX s.tasks[i]) (by omega) (by omega),aG (by omega) (by omega)]
  congr 1;omega
def tY (s:ak) (d:Int):Int:=(s.tasks.map λt=>cond (decide (t.due<=d)) (dQ s t) 0).sum
def block (s:ak) (d:Int):Int:=(s.tasks.findIdx? λt=>t.id==s.run).elim 0 λi=>(s.tasks[i]?).elim 0 λt=>cond (decide (t.due>d)) s.left 0
theorem vt {s:ak} (h:bc s=true) (d:Int):∀t∈s.tasks,0<=cond (decide (t.due<=d)) (dQ s t) 0/\cond (decide (t.due<=d)) (dQ s t) 0<=6000:=λt ht=>by
 have:=zp h ht;cases decide (t.due<=d)
 ·simp
 ·simpa using this
theorem L6 {s:ak} (h:bc s=true) (d:Int):0<=tY s d/\tY s d<=72000:=by
 have hs:=bw h;have:=zl (B:=6000) s.tasks (vt h d);unfold tY;omega
theorem CY {k:Nat} {s:ak} {d:Int} (hk:s.tot<k) (hN:s.tot<=aN) (h:bc s=true):qQ k s d=some (tY s d):=by
  have hM:=aq;have hs:=bw h;have hlen:=aS Task.tot s.tasks;have hst:s.tot=dj Task.tot s.tasks+0:=rfl;unfold qQ;rw[dE hk hN,aa,h];simp only[Rw,cond_false]
  exact Ie s.tasks (λt=>cond (decide (t.due<=d)) (dQ s t) 0) (B:=6000) (vt h d) (g:=λu6 n6=>iE k (d,s.now,s.ai,s.age,s.tasks,s.run,s.left,s.turns,s.next) u6 n6 (λy5=>some y5)) (fin:=some)
    (λi z hi next h0 h1=>by
      have hr:=zp h (Rx hi);have e:=CX hk hN h (Rx hi);simp only[iE];rw[ab,if_pos (by omega),aC,ag hi,aa,ay hi (by omega),aa];by_cases c:s.tasks[i].due<=d
      · rw[decide_eq_true c,cond_true,cond_true,show(⟨s.now,s.ai,s.age,s.tasks,s.run,s.left,s.turns,s.next⟩:ak)=s from rfl,e,aa,aG (by omega) (by omega)]
      · rw[decide_eq_false c,cond_false,cond_false,Int.add_zero])
    (λz next=>by simp only[iE];rw[ab,if_neg (by omega)]) (by omega)
theorem GZ {k:Nat} {s:ak} {d:Int} (hk:s.tot<k) (hN:s.tot<=aN) (h:bc s=true):jC k s d=some (tY s d):=by
  have hM:=aq;have hs:=bw h;have hlen:=aS Task.tot s.tasks;have hst:s.tot=dj Task.tot s.tasks+0:=rfl;unfold jC
  exact Ie s.tasks (λt=>cond (decide (t.due<=d)) (dQ s t) 0) (B:=6000) (vt h d) (g:=λu4 n4=>eV k (d,s.tasks,(s.tasks.length:Int),s.now,s.ai,s.age,s.tasks,s.run,s.left,s.turns,s.next) u4 n4 (λy3=>some y3)) (fin:=some)
    (λi z hi next h0 h1=>by
      have hr:=zp h (Rx hi);have e:=GY hk hN h (Rx hi);simp only[eV];rw[ab,if_pos (by omega),aC,ag hi,aa,ay hi (by omega)];by_cases c:s.tasks[i].due<=d
      · rw[decide_eq_true c,cond_true,cond_true,show(⟨s.now,s.ai,s.age,s.tasks,s.run,s.left,s.turns,s.next⟩:ak)=s from rfl,e,aa,aG (by omega) (by omega)]
      · rw[decide_eq_false c,cond_false,cond_false,Int.add_zero])
    (λz next=>by simp only[eV];rw[ab,if_neg (by omega)]) (by omega)
theorem NQ {s:ak} (h:bc s=true) (d:Int):0<=block s d/\block s d<=1000:=by
 have hs:=bw h;unfold block
 cases hf:s.tasks.findIdx? λt=>t.id==s.run with
 |none=>exact⟨Int.le_refl _,by show(0:Int)<=1000;omega⟩
 |some i=>
  obtain⟨hi,hid⟩:=qb hf;have hT:=(bZ hs.2.2.2.2.2.2.1 hi).1;have:=re h (Rx hi) hid.symm;have:=eY hT;rw[Ru,ag hi,Ru];cases decide (s.tasks[i].due>d)
  ·exact⟨Int.le_refl _,by show(0:Int)<=1000;omega⟩
  ·simp only[cond_true];omega
theorem Bp {s:ak} {d:Int} (h:bc s=true):cond (decide (ka s.tasks s.run>=(0:Int))) ((idx s.tasks (ka s.tasks s.run)).bind λe3=>cond (decide (e3.due>d)) (some s.left) (some (0:Int))) (some (0:Int))=some (block s d):=by
 unfold block
 cases hf:s.tasks.findIdx? λt=>t.id==s.run with
 |none=>rw[vr hf];rfl
 |some i=>
  obtain⟨hi,_⟩:=qb hf;rw[ia hf,ab,if_pos (by omega),aC,ag hi,aa,Ru,ag hi,Ru];cases decide (s.tasks[i].due>d)<;>rfl
theorem E5 {k:Nat} {s:ak} {d:Int} (hk:s.tot<k) (hN:s.tot<=aN) (h:bc s=true):tH k s d=some (block s d):=by
 have hlen:=aS Task.tot s.tasks;have hst:s.tot=dj Task.tot s.tasks+0:=rfl;unfold tH;rw[dE hk hN,aa,h];simp only[Rw,cond_false];rw[la (by omega) (by omega),aa,Bp h]
theorem JL {k:Nat} {s:ak} {d:Int} (hk:s.tot<k) (hN:s.tot<=aN) (h:bc s=true):kG k s d=some (block s d):=by
 have hlen:=aS Task.tot s.tasks;have hst:s.tot=dj Task.tot s.tasks+0:=rfl;unfold kG;rw[tX (by omega) (by omega),aa,Bp h]
def dU (s:ak) (t:Task):Bool:=decide (t.due<=s.now)
def G1 (s:ak) (t:Task):Bool:=decide (tY s t.due+block s t.due+s.ai<=t.due-s.now)
def zq (s:ak):Bool:=bc s&&s.tasks.all λt=>!dU s t&&G1 s t
theorem L7 {α:Type} (p q:α->Bool):∀xs:List α,(xs.all p&&xs.all q)=xs.all λx=>p x&&q x
 |[]=>rfl
 |x::xs=>by
  rw[T1,T1,T1,<-L7 p q xs];cases p x<;>cases q x<;>cases xs.all p<;>cases xs.all q<;>rfl
theorem G2 {k:Nat} {s:ak} (hk:s.tot<k) (hN:s.tot<=aN) (h:bc s=true):wN k s=some ((s.tasks.filter (dU s)).map (·.id)):=by
  have hM:=aq;have hlen:=aS Task.tot s.tasks;have hst:s.tot=dj Task.tot s.tasks+0:=rfl;unfold wN;rw[dE hk hN,aa,h];simp only[Rw,cond_false]
  exact oO s.tasks (dU s) (·.id) (g:=λu5 n5=>lG k (s.now,s.ai,s.age,s.tasks,s.run,s.left,s.turns,s.next) u5 n5 (λy4=>some y4)) (fin:=some)
    (λi ys hi next hl=>by
      simp only[lG];rw[ab,if_pos (by omega),aC,ag hi,aa,ay hi (by omega),aa,cw (by simp;omega)]
      rfl)
    (λys next=>by simp only[lG];rw[ab,if_neg (by omega)]) (by omega)
theorem L8 {s:ak} (h:bc s=true) {t:Task} (hm:t∈s.tasks):decide ((IntKind.i64.wrap ((IntKind.i64.wrap (tY s t.due+block s t.due))+s.ai))>(IntKind.i64.wrap (t.due-s.now)))=!G1 s t:=by
 have hs:=bw h;have hd:=L6 h t.due;have hb:=NQ h t.due;obtain⟨i,hi,e⟩:=R5.1 hm;have ht:=bW (t:=t) (e▸(bZ hs.2.2.2.2.2.2.1 hi).1);rw[aG (n:=tY s t.due+block s t.due) (by omega) (by omega),aG (n:=tY s t.due+block s t.due+s.ai) (by omega) (by omega),aG (by omega) (by omega),L4];rfl
theorem G3 {k:Nat} {s:ak} (hk:s.tot<k) (hN:s.tot<=aN):wO k s=some (zq s):=by
 have hM:=aq;have hlen:=aS Task.tot s.tasks;have hst:s.tot=dj Task.tot s.tasks+0:=rfl;unfold wO zq;rw[dE hk hN,aa];cases h:bc s
 ·rfl
 simp only[Rw,cond_false,Ry]
 rw[G2 hk hN h,aa,oh s.tasks (G1 s) (yes:=some true) (no:=some false) (λi hi next=>by
  simp only[oB]
  rw[ab,if_pos (by omega),aC,ag hi,aa,show(⟨s.now,s.ai,s.age,s.tasks,s.run,s.left,s.turns,s.next⟩:ak)=s from rfl,CY hk hN h,aa,E5 hk hN h,aa,L8 h (Rx hi),cond_not,ay hi (by omega)]) (λnext=>by
  simp only[oB];rw[ab,if_neg (by omega)]) (by omega)]
 rw[<-L7,List.length_map]
 have hz:decide (((s.tasks.filter (dU s)).length:Int)>0)=!(s.tasks.all λt=>!dU s t):=by
  cases ha:s.tasks.all λt=>!dU s t
  ·rw[List.all_eq_false]at ha;obtain⟨t,ht,hl⟩:=ha;have:0<(s.tasks.filter (dU s)).length:=List.length_pos_of_mem (Sg.2 ⟨ht,by simpa using hl⟩);rw[decide_eq_true (by omega)];rfl
  ·rw[S3]at ha
   have:s.tasks.filter (dU s)=[]:=List.filter_eq_nil_iff.2 λt ht=>by simpa using ha t ht
   rw[this];rfl
 rw[hz];cases s.tasks.all λt=>!dU s t
 ·rfl
 ·simp only[Rw,cond_false,Ry];cases s.tasks.all (G1 s)<;>rfl
theorem G4 {k:Nat} {s:ak} (hk:s.tot<k) (hN:s.tot<=aN):wP k s=some (zq s):=by
  have hM:=aq;have hlen:=aS Task.tot s.tasks;have hst:s.tot=dj Task.tot s.tasks+0:=rfl;unfold wP zq;rw[ke hk hN,aa];cases h:bc s
  · rfl
  simp only[cond_true,Ry];unfold cC cO;simp only[decide_true,cond_true]
  rw [eM s.tasks (λ t => !(!dU s t && G1 s t)) (yes := some (-1)) (no := some) (λ i hi next => by
    simp only[bC,decide_true,cond_true];rw[ab,if_pos (by omega),aC,ag hi,aa,show(⟨s.now,s.ai,s.age,s.tasks,s.run,s.left,s.turns,s.next⟩:ak)=s from rfl]
    have e:kH k s.tasks[i] s=some (!(!dU s s.tasks[i]&&G1 s s.tasks[i])):=by
      unfold kH cR;rw[aa,GZ hk hN h,JL hk hN h];simp only[decide_true,cond_true,aa,L8 h (Rx hi)];unfold dU;cases decide (s.tasks[i].due<=s.now)<;>cases G1 s s.tasks[i]<;>rfl
    rw[e,aa,ay hi (by omega)]) (λnext=>by
    simp only[bC,decide_true,cond_true];rw[ab,if_neg (by omega)]) (by omega)]
  rw[cK];simp only[aa,nB];rw[S8];simp only[TP]
def eZ (s:ak) (av:List Int) (due:Int):ak× Int× Int:=
  cond (bc s&&ie ⟨s.next,av,0,due,s.now⟩)
    (cond ((s.tasks.length:Int)==12||s.next==1000000) (s,0,2)
      (cond (zq ⟨s.now,s.ai,s.age,s.tasks++[⟨s.next,av,0,due,s.now⟩],s.run,s.left,s.turns,s.next+1⟩)
        (⟨s.now,s.ai,s.age,s.tasks++[⟨s.next,av,0,due,s.now⟩],s.run,s.left,s.turns,s.next+1⟩,s.next,0) (s,0,3))) (s,0,1)
theorem JM {k:Nat} {s:ak} {av:List Int} {due:Int} (hk:s.tot+av.length+1<k) (hN:s.tot+av.length+1<=aN):Cy k s av due=some (eZ s av due):=by
 have hM:=aq;have hlen:=aS Task.tot s.tasks;have hst:s.tot=dj Task.tot s.tasks+0:=rfl;have hT:Task.tot ⟨s.next,av,0,due,s.now⟩=av.length+0:=rfl;unfold Cy eZ;rw[qc (by omega) (by omega),aa,j7 (by omega) (by omega),aa,dE (by omega) (by omega),aa,zm (t:=⟨s.next,av,0,due,s.now⟩) (by show av.length<k;omega) (by show av.length<=aN;omega),aa];cases h:bc s
 ·rfl
 have hs:=bw h;simp only[Rw,cond_false,Ry];cases ie ⟨s.next,av,0,due,s.now⟩
 ·rfl
 simp only[Rw,cond_false,cond_true];cases((s.tasks.length:Int)==12)
 case true=>rfl
 cases(s.next==(1000000:Int))
 case true=>rfl
 simp only[cond_false,Bool.or_false]
 have ht2:ak.tot ⟨s.now,s.ai,s.age,s.tasks++[⟨s.next,av,0,due,s.now⟩],s.run,s.left,s.turns,s.next+1⟩=s.tot+(av.length+1):=by
  unfold ak.tot;simp only[sb,pN,hT];simp[dj]
 rw[cw (by omega),aG (by omega) (by omega),G3 (by omega) (by omega),aa,cond_not];cases zq _<;>rfl
theorem JN {k:Nat} {s:ak} {av:List Int} {due:Int} (hk:s.tot+av.length+1<k) (hN:s.tot+av.length+1<=aN):Cz k s av due=some (eZ s av due):=by
 have hM:=aq;have hlen:=aS Task.tot s.tasks;have hst:s.tot=dj Task.tot s.tasks+0:=rfl;have hT:Task.tot ⟨s.next,av,0,due,s.now⟩=av.length+0:=rfl;unfold Cz eZ;rw[cL (by omega),aa,jo (by omega) (by omega),aa,ke (by omega) (by omega),aa,zn (t:=⟨s.next,av,0,due,s.now⟩) (by show av.length<k;omega) (by show av.length<=aN;omega),aa];cases h:bc s
 ·rfl
 have hs:=bw h;simp only[Rw,cond_false,Ry];cases ie ⟨s.next,av,0,due,s.now⟩
 ·rfl
 simp only[Rw,cond_false,cond_true];cases((s.tasks.length:Int)==12)
 case true=>rfl
 cases(s.next==(1000000:Int))
 case true=>rfl
 simp only[cond_false,Bool.or_false]
 have ht2:ak.tot ⟨s.now,s.ai,s.age,s.tasks++[⟨s.next,av,0,due,s.now⟩],s.run,s.left,s.turns,s.next+1⟩=s.tot+(av.length+1):=by
  unfold ak.tot;simp only[sb,pN,hT];simp[dj]
 rw[aa,cw (by omega),aG (by omega) (by omega),G4 (by omega) (by omega),aa,cond_not];cases zq _<;>rfl
end
section
def PL (n:Nat) (t:Task):dA:=⟨t.id,n+1,t.at_,t.due,t.born⟩
def qd:Nat->List Task->List dA
 |_,[]=>[]
 |n,t::l=>PL n t::qd (n+5) l
theorem zr:∀(ts:List Task) (n:Nat),vM .task .cS n ts=some (qd n ts)
 |[],n=>rfl
 |t::l,n=>by
  have ih:=zr l (n+5);show((S.cS.ey (l5 n (Mz t))).bind λy=>(vM .task .cS (n+S.task.sz) l).bind λys=>some (y::ys))=_;rw[show S.task.sz=5 from rfl,ih];rfl
theorem eu:∀(ts:List Task) (n:Nat),(qd n ts).length=ts.length
 |[],n=>rfl
 |t::l,n=>by simp[qd,eu l]
theorem Bq:∀zs:List dA,De (dc .cS zs)=zs.map (·.av)
 |[]=>rfl
 |z::l=>by
  show De (Af z++dc .cS l)=_;rw[R4,<-Bq l];rfl
theorem E6:∀{l:List Nat},l.Nodup->gu l=true
 |[],_=>rfl
 |x::l,h=>by
  rw[SA]at h;simp only[gu];cases hm:mem x l
  ·exact E6 h.2
  ·exact(h.1 ((mem_iff x l).1 hm)).elim
theorem Br:∀(ts:List Task) (n:Nat),(∀z∈qd n ts,n<z.av)/\(qd n ts).Pairwise λa b=>a.av<b.av
 |[],n=>⟨(λz hz=>by simp[qd]at hz),List.Pairwise.nil⟩
 |t::l,n=>by
  obtain⟨h1,h2⟩:=Br l (n+5);refine⟨λz hz=>?_,List.Pairwise.cons (λz hz=>?_) h2⟩
  ·rcases RN.1 hz with rfl|hz
   ·show n<n+1;omega
   ·have:=h1 z hz;omega
  ·have:=h1 z hz;show n+1<z.av;omega
theorem mD {ts:List Task} {n:Nat} (q:dA->Bool):jh ((qd n ts).filter q)=true:=by
 have h:=((Br ts n).2.filter q)
 have h2:gu (((qd n ts).filter q).map (·.av))=true:=by
  refine E6 ?_;rw[List.Nodup,List.pairwise_map]
  exact h.imp λh e=>by omega
 unfold jh;exact(congrArg gu (Bq ((qd n ts).filter q))).trans h2
theorem JO (C:List R) (y:dA) (l:List dA):wi .task .cS C (y::l)=(uT C (Af y)).bind λc=>(S.task.ey c).bind λx=>(wi .task .cS C l).bind λxs=>some (x::xs):=rfl
theorem Bs (p:Task->Bool) (q:dA->Bool) (hq:∀n t,q (PL n t)=p t) (C:List R):∀(ts:List Task) (n:Nat),(∀(i:Nat) (h:i<ts.length),C[n+5*i]? =some (.ints ts[i].av))->
  wi .task .cS C ((qd n ts).filter q)=some (ts.filter p)
 |[],n,_=>rfl
 |t::l,n,hC=>by
  have ih:=Bs p q hq C l (n+5) λi hi=>by
   have:=hC (i+1) (by simpa using hi);rw[show n+5+5*i=n+5*(i+1)from by omega,this];rfl
  have h0:C[n]? =some (.ints t.av):=by
   have:=hC 0 (by simp);simpa using this
  have e1:(qd n (t::l)).filter q=cond (p t) (PL n t::(qd (n+5) l).filter q) ((qd (n+5) l).filter q):=by
   simp only[qd,S4,hq];cases p t<;>rfl
  have e2:(t::l).filter p=cond (p t) (t::l.filter p) (l.filter p):=by
   rw[S4];cases p t<;>rfl
  refine(congrArg (wi .task .cS C) e1).trans (Eq.trans ?_ (congrArg some e2.symm));clear e1 e2;cases p t
  ·exact ih
  ·have hc:uT C (Af (PL n t))=some (Mz t):=by
    have hu:pF C (.tok (n+1))=some (.ints t.av):=by
     show(match C[n]? with|some (.sl t xs)=>some (R.sl t xs)|_=>none)=_;rw[h0]
    show((pF C (.i t.id)).bind λx=>((pF C (.tok (n+1))).bind λx=>((pF C (.i t.at_)).bind λx=>((pF C (.i t.due)).bind λx=>((pF C (.i t.born)).bind λx=>(some []).bind λxs=>some (x::xs)).bind λxs=>some (x::xs)).bind λxs=>some (x::xs)).bind λxs=>some (x::xs)).bind λxs=>some (x::xs))=_;rw[hu];rfl
   refine(JO C (PL n t) _).trans ?_;rw[hc];exact congrArg (λr:Option (List Task)=>r.bind λxs=>some (t::xs)) ih
theorem CZ (ts:List Task) (i:Nat) (h:i<ts.length):(dc .task ts)[1+5*i]? =some (.ints ts[i].av):=by
 have:=oc (s:=.task) (xs:=ts) (i:=i) (j:=1) (r:=.ints ts[i].av) ⟨ts[i],ag h,rfl⟩;rw[show S.task.sz=5 from rfl]at this;rw[show 1+5*i=i*5+1 from by omega];exact this
theorem rf (ts:List Task):kt ts=some (qd 1 ts):=zr ts 1
theorem oQ (ts:List Task) (p:Task->Bool) (q:dA->Bool) (hq:∀n t,q (PL n t)=p t):oW ts ((qd 1 ts).filter q)=some (ts.filter p):=
 Bs p q hq _ ts 1 λi hi=>CZ ts i hi
theorem jq {α R:Type} (xs:List α) (p:α->Bool) {g:Int× Int× List α->(Int× Int× List α->Option R)->Option R} {fin:Int× List α->Option R}
    (h:∀(i j:Nat) (ys:List α) (hj:j<xs.length) (next:Int× Int× List α->Option R),i<=j->ys.length=xs.length->ys[j]? =some xs[j]->
      g ((i:Int),(j:Int),ys) next=cond (p xs[j]) (next ((i:Int),((j+1:Nat):Int),ys)) (next (((i+1:Nat):Int),((j+1:Nat):Int),ys.set i xs[j])))
    (hn:∀(i:Nat) (ys:List α) next,ys.length=xs.length->g ((i:Int),(xs.length:Int),ys) next=fin ((i:Int),ys)):
    ∀ (d i j : Nat) (ys : List α) (k : Nat), j + d = xs.length -> d < k -> i <= j -> ys.length = xs.length -> ys.drop j = xs.drop j -> ys.take i = (xs.take j).filter (λ x => !p x) ->
      ∃(i':Nat) (ys':List α),i'<=xs.length/\ys'.length=xs.length/\ys'.take i'=xs.filter (λx=>!p x)/\iter g k ((i:Int),(j:Int),ys)=fin ((i':Int),ys')
  |d,i,j,ys,0,_,h2,_,_,_,_=>by omega
  | 0, i, j, ys, k + 1, h1, _, h3, h4, _, h6 => by
    have hj:j=xs.length:=by omega
    subst hj;refine⟨i,ys,h3,h4,by rw[h6,Sr],?_⟩
    rw[aF];exact hn i ys _ h4
  | d + 1, i, j, ys, k + 1, h1, h2, h3, h4, h5, h6 => by
    have hj:j<xs.length:=by omega
    have hg:ys[j]? =some xs[j]:=by
      have:(ys.drop j)[0]? =(xs.drop j)[0]? :=by rw[h5]
      rw[RF,RF,RZ]at this;rw[this];exact ag hj
    rw[aF,h i j ys hj _ h3 h4 hg]
    have hdrop:∀zs:List α,(∀m,j<m->zs[m]? =ys[m]?)->zs.drop (j+1)=xs.drop (j+1):=λzs hz=>by
      apply List.ext_getElem?;intro m;rw[RF,RF,hz _ (by omega)]
      have:(ys.drop j)[m+1]? =(xs.drop j)[m+1]? :=by rw[h5]
      rw[RF,RF]at this;rw[show j+1+m=j+(m+1)from by omega];exact this
    cases hp:p xs[j]
    · simp only[cond_false];refine jq xs p h hn d (i+1) (j+1) (ys.set i xs[j]) k (by omega) (by omega) (by omega) (by simp[h4]) (hdrop _ λm hm=>SX (by omega)) ?_;rw[dy hj,Td,<-h6]
      have hi:i<ys.length:=by omega
      rw[dy (show i<(ys.set i xs[j]).length by simp;omega),List.take_set_of_le (RJ _)];simp[hp]
    · simp only[cond_true];refine jq xs p h hn d i (j+1) ys k (by omega) (by omega) (by omega) h4 (hdrop _ λm hm=>rfl) ?_;rw[dy hj,Td,<-h6];simp[hp]
theorem filter_none {α:Type} {p:α->Bool} {xs:List α} (h:xs.findIdx? p=none):xs.filter (λx=>!p x)=xs:=by
 rw[S2]at h
 exact SG.2 λx hx=>by rw[h x hx];rfl
theorem mE {α:Type} {p:α->Bool} {xs:List α} {i:Nat} (h:xs.findIdx? p=some i):i<xs.length/\xs.take i=(xs.take (i+1)).filter (λx=>!p x):=by
 obtain⟨hi,hp,hlt⟩:=SD.1 h;refine⟨hi,?_⟩;rw[dy hi,Td]
 have h1:(xs.take i).filter (λx=>!p x)=xs.take i:=SG.2 λx hx=>by
  obtain⟨j,hj,rfl⟩:=R5.1 hx
  have hj':j<i:=by simp at hj;omega
  rw[List.getElem_take];have:=hlt j hj';simpa using this
 rw[h1];simp[hp]
theorem rh {α:Type} {ys:List α} {i n:Nat} (z:α) (hi:i<=n) (hy:ys.length=n):((ys.take i++List.replicate (n-i) z++ys.drop (i+(n-i))).take (i-0))=ys.take i/\(ys.take i++List.replicate (n-i) z++ys.drop (i+(n-i))).length=n:=by
 refine⟨?_,by simp;omega⟩;rw[Sc,RM,SI (by simp;omega),List.take_take,Nat.min_self]
theorem zt {k:Nat} {zs:List dA} {id:Int} (hk:zs.length<k) (hN:zs.length<=aN):bT k zs id=some ((zs.findIdx? λz=>z.id==id).elim (-1) λi=>(i:Int)):=by
 have hM:=aq;unfold bT
 rw[eM zs (λt=>t.id==id) (yes:=some (-1)) (no:=some) (λi hi next=>by
  simp only[bD,dL,decide_true,cond_true,aa]
  rw[ab,if_pos (by omega),aC,ag hi,aa,ay hi (by omega)]) (λnext=>by
  simp only[bD,decide_true,cond_true];rw[ab,if_neg (by omega)]) hk]
 exact cK _
theorem oY {k:Nat} {zs:List dA} {id:Int} (hk:zs.length<k) (hN:zs.length<=aN):bd k zs id=some (zs.filter λz=>!(z.id==id)):=by
  have hM:=aq;unfold bd;rw[zt hk hN,aa]
  cases hf:zs.findIdx? λz=>z.id==id with
  | none =>
    rw[Tb,filter_none hf]
    simp
  | some i =>
    obtain⟨hi,hfi⟩:=mE hf;rw[Ru,bH,if_neg (by omega),ay hi (by omega)];simp only[decide_true,cond_true]
    obtain⟨i',ys',h1,h2,h3,h4⟩:=jq zs (λz=>z.id==id) (R:=List dA) (g:=λu5 n5=>aT k id u5 n5 (λy4=>cond (decide (0<=y4.1/\y4.1<=(y4.2.length:Int))) (cond (decide (0<=y4.1/\y4.1<=(((y4.2).take y4.1.toNat++List.replicate (y4.2.length-y4.1.toNat) (⟨(0:Int),(0:Nat),(0:Int),(0:Int),(0:Int)⟩:dA)++(y4.2).drop (y4.1.toNat+(y4.2.length-y4.1.toNat))).length:Int))) (some (((y4.2).take y4.1.toNat++List.replicate (y4.2.length-y4.1.toNat) (⟨(0:Int),(0:Nat),(0:Int),(0:Int),(0:Int)⟩:dA)++(y4.2).drop (y4.1.toNat+(y4.2.length-y4.1.toNat))).take (y4.1.toNat-0))) none) none))
      (fin:=λy4=>cond (decide (0<=y4.1/\y4.1<=(y4.2.length:Int))) (cond (decide (0<=y4.1/\y4.1<=(((y4.2).take y4.1.toNat++List.replicate (y4.2.length-y4.1.toNat) (⟨(0:Int),(0:Nat),(0:Int),(0:Int),(0:Int)⟩:dA)++(y4.2).drop (y4.1.toNat+(y4.2.length-y4.1.toNat))).length:Int))) (some (((y4.2).take y4.1.toNat++List.replicate (y4.2.length-y4.1.toNat) (⟨(0:Int),(0:Nat),(0:Int),(0:Int),(0:Int)⟩:dA)++(y4.2).drop (y4.1.toNat+(y4.2.length-y4.1.toNat))).take (y4.1.toNat-0))) none) none)
      (λi j ys hj next hij hl hg=>by
        simp only[aT,dL,decide_true,cond_true,aa,hl]
        rw[ab,if_pos (by omega),ab,if_pos (by omega),Rr,hg,aa,cond_not,ab,if_pos (by omega),ay hj (by omega),ay (show i<zs.length by omega) (by omega),Rr])
      (λi ys next hl=>by simp only[aT,hl];rw[ab,if_neg (by omega)])
      (zs.length-(i+1)) i (i+1) zs k (by omega) (by omega) (by omega) rfl rfl hfi
    refine h4.trans ?_;obtain⟨c1,c2⟩:=rh (⟨0,0,0,0,0⟩:dA) h1 h2;simp only[Rr,h2];rw[c2,c1,ab,if_pos (by omega),ab,if_pos (by omega),h3]
theorem v9 {k:Nat} {zs:List dA} {a b c d e f g id:Int} (hk:zs.length<k) (hN:zs.length<=aN):fH k a b c zs d e f g id=some (zs.filter λz=>!(z.id==id)):=by
 have hM:=aq;unfold fH;simp only[decide_true,cond_true]
 refine(oO zs (λz=>!(z.id==id)) (λz=>z) (g:=λu4 n4=>gD k (id,a,b,c,d,e,f,g,zs) u4 n4 (λy3=>some y3)) (fin:=some) (λi ys hi next hl=>by
  simp only[gD];rw[ab,if_pos (by omega),ab,if_pos (by omega),Rr,ag hi,aa,ab,if_pos (by omega),aa,cw (by simp;omega),ay hi (by omega)]
  rfl) (λys next=>by
  simp only[gD];rw[ab,if_neg (by omega)]) hk).trans ?_
 simp
def J6 (ts:List Task) (id:Int):List Task:=ts.filter λt=>!(t.id==id)
def qe (s:ak) (id:Int):ak× Bool:=
 cond (bc s&&decide (0<=ka s.tasks id)) (⟨s.now,s.ai,s.age,J6 s.tasks id,cond (s.run==id) 0 s.run,cond (s.run==id) 0 s.left,s.turns,s.next⟩,true) (s,false)
theorem JP {k:Nat} {zs:List dA} {a b c d e f g id:Int} (hk:zs.length<k) (hN:zs.length<=aN):dq k a b c zs d e f g id=some (zs.filter λz=>!(z.id==id),cond (d==id) 0 d,cond (d==id) 0 e):=by
 unfold dq;rw[oY hk hN,aa];simp only[decide_true,cond_true];cases d==id<;>rfl
theorem qf {k:Nat} {s:ak} {id:Int} (hk:s.tot<k) (hN:s.tot<=aN):jY k s id=some (qe s id):=by
 have hlen:=aS Task.tot s.tasks;have hst:s.tot=dj Task.tot s.tasks+0:=rfl;unfold jY qe;rw[qc hk hN,aa,dE hk hN,aa];cases bc s
 ·rfl
 simp only[Rw,cond_false,Ry];rw[la (by omega) (by omega),aa];by_cases c:ka s.tasks id<0
 ·rw[decide_eq_true c,decide_eq_false (by omega)];rfl
 rw[decide_eq_false c,decide_eq_true (by omega)];simp only[cond_false,cond_true];rw[rf,aa,v9 (by rw[eu];omega) (by rw[eu];omega),aa,mD,cond_true,oQ s.tasks (λt=>!(t.id==id)) (λz=>!(z.id==id)) (λn t=>rfl),aa];unfold J6;cases s.run==id<;>rfl
end
end Go.Proofs.Ev
