/- Typed functions and what holds of them: part 2. -/
import Derived.Test.YtimmojehndbiiaaEvL1
set_option linter.unusedVariables false
set_option linter.unusedSimpArgs false
set_option linter.unusedSectionVars false
namespace Go.Proofs.Ev
open IntKind(i64 u8 u64)
set_option maxRecDepth 100000
set_option maxHeartbeats 4000000
section
section
variable {ds:List Int}
def iF (ds:List Int) (N L:Nat) (F:List Int->Int->Int->Int->List Int->Option (List Int)):Prop:=∀P U V Q:List Int,U.length+V.length<=L->1<=U.length->1<=V.length->P.length+U.length+V.length+Q.length=N->lg ds U->lg ds V->Srt (LtD ds) U->Srt (LtD ds) V->lf ds U V->
 vr ds P U V Q (F (P++(U++(V++Q))) (P.length:Int) ((P.length+U.length:Nat):Int) ((P.length+U.length+V.length:Nat):Int) ds)
theorem lg.app {U V:List Int}:lg ds (U++V)↔lg ds U/\lg ds V:=by
 unfold lg;constructor
 ·exactλh=>⟨λx hx=>h x (Gg _ hx),λx hx=>h x (Gu _ hx)⟩
 ·rintro ⟨h1,h2⟩ x hx
  rcases F7.1 hx with hx|hx
  ·exact h1 x hx
  ·exact h2 x hx
theorem pn {N L:Nat} {F:List Int->Int->Int->Int->List Int->Option (List Int)} (hF:iF ds N L F) {P U V Q:List Int} {R:Type} {j:List Int->Option R} {a m b:Int} (hL:U.length+V.length<=L) (hn:P.length+U.length+V.length+Q.length=N) (hU:lg ds U) (hV:lg ds V) (sU:Srt (LtD ds) U) (sV:Srt (LtD ds) V) (hA:lf ds U V)
  (ha:a=P.length) (hm:m=(P.length+U.length:Nat)) (hb:b=(P.length+U.length+V.length:Nat)) {Q2:R->Prop} (hj:∀W,W.Perm (U++V)->Srt (LtD ds) W->al (j (P++(W++Q))) Q2):
  al (cond (decide (a<m)) (cond (decide (m<b)) ((F (P++(U++(V++Q))) a m b ds).bind λr=>j r) (j (P++(U++(V++Q))))) (j (P++(U++(V++Q))))) Q2:=by
 subst ha hm hb;refine al.cond (λc=>al.cond (λd=>?_) λd=>?_) λc=>?_
 ·have c:=of_decide_eq_true c;have d:=of_decide_eq_true d;obtain⟨W,h1,h2,h3⟩:=hF P U V Q hL (by omega) (by omega) hn hU hV sU sV hA;rw[h1];exact hj W h2 h3
 ·have d:=of_decide_eq_false d;have hV0:V=[]:=FK.1 (by omega);subst hV0;exact hj U (by simp) sU
 ·have c:=of_decide_eq_false c;have hU0:U=[]:=FK.1 (by omega);subst hU0;exact hj V (by simp) sV
theorem al.Fs {R α β:Type} {B:(α->β->Option R)->Option R} {K:α->β->Option R} {Q:R->Prop} (P:α->β->Prop) (hK:∀x y,P x y->al (K x y) Q) (hB:∀j:α->β->Option R,(∀x y,P x y->al (j x y) Q)->al (B j) Q):al (Go.Proofs.Ev.bej B K) Q:=hB K hK
theorem qw {N k hf s0 s1:Nat} {P U V Q:List Int} {a1 a2 a3 mid n n1:Int} (hk:N+20<k) (hN:N<=1000000000000) (hn:P.length+U.length+V.length+Q.length=N) (aU:lg ds U) (aV:lg ds V) (sU:Srt (LtD ds) U) (sV:Srt (LtD ds) V)
    (h01:s0<=s1) (h1u:s1<=U.length) (h1f:s1<=hf) (h0v:hf<=s0+V.length) (hn1:n1=((P.length+hf+P.length+U.length:Nat):Int)-1) {R:Type} {fin:Int->Option R} {Qr:R->Prop} {st sr:Int} (hst:st=((P.length+s0:Nat):Int)) (hsr:sr=((P.length+s1:Nat):Int))
    (rp:∀s,s0<=s->s<=s1->(s0<s->¬eP ds (V.getD (hf-1-(s-1)) 0)<eP ds (U.getD (s-1) 0))->(s<s1->eP ds (V.getD (hf-1-s) 0)<eP ds (U.getD s 0))->al (fin ((P.length+s:Nat):Int)) Qr):
    al (iter (λu41 n41=>ar k (a1,a2,a3,mid,n,n1,P++(U++(V++Q)),ds) u41 n41 fin) k (st,sr)) Qr:=by
  subst hst hsr hn1
  have hlen:(P++(U++(V++Q))).length=N:=by simp;omega
  have hatU:∀x,x<U.length->(P++(U++(V++Q)))[P.length+x]? =some (U.getD x 0):=λx hx=>by
    rw[Fz (by omega),FB (by omega),FV,Fw hx,<-cz hx 0]
  have hatV:∀y,y<V.length->(P++(U++(V++Q)))[P.length+U.length+y]? =some (V.getD y 0):=λy hy=>by
    rw[Fz (by omega),Fz (by omega),FB (by omega),show P.length+U.length+y-P.length-U.length=y from by omega,Fw hy,<-cz hy 0]
  have inU:∀i,i<U.length->InD ds (U.getD i 0):=λi hi=>by rw[cz hi];exact aU _ (F0 hi)
  have inV:∀i,i<V.length->InD ds (V.getD i 0):=λi hi=>by rw[cz hi];exact aV _ (F0 hi)
  obtain⟨c,c1,c2,c3,c4,c5⟩:=nH (g:=λu41 n41=>ar k (a1,a2,a3,mid,n,((P.length+hf+P.length+U.length:Nat):Int)-1,P++(U++(V++Q)),ds) u41 n41 fin) (fin:=fin)
    (lo:=P.length+s0) (hi:=P.length+s1) (B:=λh=>!decide (eP ds (V.getD (hf-1-(h-P.length)) 0)<eP ds (U.getD (h-P.length) 0)))
    (λh h' h1 h2 h3 hb=>by
      have a1:=gn sU (show h-P.length<=h'-P.length by omega) (by omega);have a2:=gn sV (show hf-1-(h'-P.length)<=hf-1-(h-P.length) by omega) (by omega);rw[GH]at hb⊢;have hb:=of_decide_eq_false hb
      exact decide_eq_false (by omega))
    (λi j h1 h2 h3 next=>by
      show ar k _ _ next fin=_
      unfold ar;simp only;rw[decide_eq_true (show(i:Int)<(j:Int) by omega),cond_true,qv (x:=(i:Int)+(j:Int)) (by omega) (by omega),show((i:Int)+(j:Int))/2=(((i+j)/2:Nat):Int)from by omega];generalize hc:(i+j)/2=c
      rw[bw (n:=((P.length+hf+P.length+U.length:Nat):Int)-1-(c:Int)) (by omega) (by omega),decide_eq_true (by omega),cond_true,
        show(((P.length+hf+P.length+U.length:Nat):Int)-1-(c:Int)).toNat=P.length+U.length+(hf-1-(c-P.length))from by omega,hatV _ (by omega),aa,decide_eq_true (by omega),cond_true,
        show(c:Int).toNat=P.length+(c-P.length)from by omega,hatU _ (by omega),aa]
      obtain⟨r,hr,hr2⟩:=vq (ds:=ds) (k:=k) (inV (hf-1-(c-P.length)) (by omega)) (inU (c-P.length) (by omega));rw[hr,aa,bw (by omega) (by omega),show(c:Int)+1=((c+1:Nat):Int)from by omega];by_cases q:r<0
      · rw[decide_eq_true q,decide_eq_true (hr2.1 q)]
      · rw[decide_eq_false q,decide_eq_false (λh=>q (hr2.2 h))])
    (λi next=>by
      show ar k _ _ next fin=_
      unfold ar;simp only
      rw[decide_eq_false (by omega),cond_false]) (s1-s0) (P.length+s0) (P.length+s1) k (by omega) (by omega) (FQ _) (by omega) (FQ _) (λh _ _=>by omega) (λh _ _=>by omega)
  obtain⟨s,rfl⟩:∃s,c=P.length+s:=⟨c-P.length,by omega⟩
  obtain⟨r,hr,hq⟩:=rp s (by omega) (by omega) (λh=>by
    have hb:=c3 (P.length+(s-1)) (by omega) (by omega);rw[GH,FV]at hb
    exact of_decide_eq_false hb) (λh=>by
    have hb:=c4 (P.length+s) (by omega) (by omega);rw[Bool.not_eq_false',FV]at hb
    exact of_decide_eq_true hb)
  exact⟨r,c5.trans hr,hq⟩
theorem wH {k:Nat} {P U1 U2 V1 V2 Q:List Int} (hk:P.length+U1.length+U2.length+V1.length+V2.length+Q.length<k) (hN:k<=k/\P.length+U1.length+U2.length+V1.length+V2.length+Q.length<=4000000000000) {y m e:Int} (hy:y=(P.length+U1.length:Nat)) (hm:m=(P.length+U1.length+U2.length:Nat)) (he:e=(P.length+U1.length+U2.length+V1.length:Nat))
  {R:Type} {K:List Int->Option R} {Qr:R->Prop} (hK:al (K (P++(U1++(V1++(U2++(V2++Q)))))) Qr):
  al (cond (decide (y<m)) (bej (λ(j28:(List Int)->Option R)=>cond (decide (m<e)) ((bd k (P++(U1++U2++(V1++V2++Q))) y m e ds).bind λr27=>(j28 r27)) ((j28 (P++(U1++U2++(V1++V2++Q)))))) K) (K (P++(U1++U2++(V1++V2++Q))))) Qr:=by
 refine al.cond (λc=>al.bej (al.cond (λd=>?_) λd=>?_)) λc=>?_
 ·have c:=of_decide_eq_true c;have d:=of_decide_eq_true d;have:=zv (k:=k) (ds:=ds) (P:=P++U1) (U:=U2) (V:=V1) (Q:=V2++Q) (by omega) (by omega) (by simp;omega) (by simp;omega) (a:=y) (m:=m) (b:=e) (by rw[hy];simp) (by rw[hm];simp) (by rw[he];simp);rw[show P++(U1++U2++(V1++V2++Q))=P++U1++(U2++(V1++(V2++Q)))from by simp,this,aa,FE];exact hK
 ·have d:=of_decide_eq_false d;have hV:V1=[]:=FK.1 (by omega);subst hV;rw[show P++(U1++U2++([]++V2++Q))=P++(U1++([]++(U2++(V2++Q))))from by simp];exact hK
 ·have c:=of_decide_eq_false c;have hU:U2=[]:=FK.1 (by omega);subst hU;rw[show P++(U1++[]++(V1++V2++Q))=P++(U1++(V1++([]++(V2++Q))))from by simp];exact hK
theorem si {W:List Int} {Qr:List Int->Prop} (h:Qr W):al (cond (decide (ds=ds)) (some W) none) Qr:=by rw[decide_eq_true rfl,cond_true];exact al.some h
theorem wI {N L k:Nat} {F:List Int->Int->Int->Int->List Int->Option (List Int)} (hk:N+20<k) (hN:N<=1000000000000) (hF:iF ds N L F):iF ds N (L+1) (bf k F):=by
 intro P U V Q hL hu hv hn aU aV sU sV hA
 have EG:((P.length+U.length+V.length:Nat):Int)-((P.length+U.length:Nat):Int)=(V.length:Int):=by omega
 unfold bf
 rw[bw (n:=((P.length+U.length:Nat):Int)-(P.length:Int)) (by omega) (by omega),bw (n:=((P.length+U.length+V.length:Nat):Int)-((P.length+U.length:Nat):Int)) (by omega) (by omega),EG,
  show((P.length+U.length:Nat):Int)-(P.length:Int)=(U.length:Int)from by omega]
 by_cases u1:U.length=1
 ·obtain⟨u,rfl⟩:=List.length_eq_one_iff.1 u1;rw[show((([u]:List Int).length:Int)==1)=true from rfl,cond_true];have:=A5 (ds:=ds) (k:=k) (u:=u) (P:=P) (V:=V) (Q:=Q) (by simp at hn;omega) (by simp at hn;omega) (aU u (by simp)) aV sV hA;exact this
 rw[show((U.length:Int)==1)=false from by simp;omega,cond_false];by_cases v1:V.length=1
 ·obtain⟨v,rfl⟩:=List.length_eq_one_iff.1 v1;rw[show((([v]:List Int).length:Int)==1)=true from rfl,cond_true];have:=zw (ds:=ds) (k:=k) (v:=v) (P:=P) (U:=U) (Q:=Q) (by simp at hn;omega) (by simp at hn;omega) (aV v (by simp)) aU sU hA;exact this
 rw[show((V.length:Int)==1)=false from by simp;omega,cond_false];obtain⟨hf,hhf⟩:∃hf:Nat,hf=(U.length+V.length)/2:=⟨_,rfl⟩
 have Ft:i64.wrap ((u64.wrap (i64.wrap ((P.length:Int)+((P.length+U.length+V.length:Nat):Int)))).fdiv (2^(min (1:Int).toNat u64.bits)))=((P.length+hf:Nat):Int):=by
  rw[qv (by omega) (by omega)];omega
 rw[Ft];generalize he:((P.length+hf:Nat):Int)=mid;rw[bw (n:=mid+((P.length+U.length:Nat):Int)) (by omega) (by omega),bw (n:=mid+((P.length+U.length:Nat):Int)-((P.length+U.length+V.length:Nat):Int)) (by omega) (by omega),bw (n:=mid+((P.length+U.length:Nat):Int)-1) (by omega) (by omega)]
 suffices h:al _ (λr=>∃W,r=P++(W++Q)/\W.Perm (U++V)/\Srt (LtD ds) W) by
  obtain⟨r,h1,W,rfl,h2,h3⟩:=h;exact⟨W,h1,h2,h3⟩
 refine al.Fs (λst sr=>∃s0 s1:Nat,s0<=s1/\s1<=U.length/\s1<=hf/\hf<=s0+V.length/\(s0=0\/hf=s0+V.length)/\(s1=hf\/s1=U.length)/\st=((P.length+s0:Nat):Int)/\sr=((P.length+s1:Nat):Int)) ?_ ?_
 ·rintro st sr ⟨s0,s1,h01,h1u,h1f,h0v,hz,ho,hst,hsr⟩
  refine qw (N:=N) (hf:=hf) hk hN hn aU aV sU sV h01 h1u h1f h0v (by omega) hst hsr λs g0 g1 g2 g3=>?_;obtain⟨t,ht⟩:∃t,t=hf-s:=⟨_,rfl⟩;obtain⟨U1,U2,rfl,l1⟩:=ld U s (by omega);obtain⟨V1,V2,rfl,l2⟩:=ld V t (by omega);have hlU:(U1++U2).length=U1.length+U2.length:=FD;have hlV:(V1++V2).length=V1.length+V2.length:=FD;obtain⟨aU1,aU2⟩:=lg.app.1 aU;obtain⟨aV1,aV2⟩:=lg.app.1 aV;obtain⟨sU1,sU2,sU12⟩:=dV.1 sU;obtain⟨sV1,sV2,sV12⟩:=dV.1 sV
  have k12:∀x∈U1,∀y∈V2,LtD ds x y:=λx hx y hy=>by
   refine hA.lt (Gg _ hx) (Gu _ hy) ?_;obtain⟨i,hi,rfl⟩:=Gs hx;obtain⟨j,hj,rfl⟩:=Gs hy
   have hs0:s0<s:=by omega
   have hb:=g2 hs0;rw[show hf-1-(s-1)=t from by omega]at hb;have b1:=gn sU (show i<=s-1 by omega) (by simp;omega);have b2:=gn sV (show t<=t+j by omega) (by simp;omega)
   have e1:(U1++U2).getD i 0=U1[i]:=by rw[cz (by simp;omega),List.getElem_append_left hi]
   have e2:(V1++V2).getD (t+j) 0=V2[j]:=by
    rw[cz (by simp;omega),List.getElem_append_right (by omega)]
    congr 1
    omega
   rw[e1]at b1;rw[e2]at b2;omega
  have k21:∀y∈V1,∀x∈U2,LtD ds y x:=λy hy x hx=>by
   obtain⟨i,hi,rfl⟩:=Gs hx;obtain⟨j,hj,rfl⟩:=Gs hy
   have hs1:s<s1:=by omega
   have hb:=g3 hs1;rw[show hf-1-s=t-1 from by omega]at hb;have b1:=gn sU (show s<=s+i by omega) (by simp;omega);have b2:=gn sV (show j<=t-1 by omega) (by simp;omega)
   have e1:(U1++U2).getD (s+i) 0=U2[i]:=by
    rw[cz (by simp;omega),List.getElem_append_right (by omega)]
    congr 1
    omega
   have e2:(V1++V2).getD j 0=V1[j]:=by rw[cz (by simp;omega),List.getElem_append_left hj]
   rw[e1]at b1;rw[e2]at b2;exact se (by omega)
  have hA1:lf ds U1 V1:=λx hx y hy=>hA x (Gg _ hx) y (Gg _ hy);have hA2:lf ds U2 V2:=λx hx y hy=>hA x (Gu _ hx) y (Gu _ hy)
  have fin2:∀W1,W1.Perm (U1++V1)->Srt (LtD ds) W1->∀W2,W2.Perm (U2++V2)->Srt (LtD ds) W2->∃W,P++W1++(W2++Q)=P++(W++Q)/\W.Perm (U1++U2++(V1++V2))/\Srt (LtD ds) W:=λW1 p1 q1 W2 p2 q2=>by
   refine⟨W1++W2,by simp,?_,dV.2 ⟨q1,q2,λx hx y hy=>?_⟩⟩
   ·refine(p1.append p2).trans ?_;rw[FE,FE];refine List.Perm.append_left _ ?_;rw[<-FE,<-FE];exact List.Perm.append_right _ GZ
   ·rcases F7.1 (p1.mem_iff.1 hx)with hx|hx<;>rcases F7.1 (p2.mem_iff.1 hy)with hy|hy
    ·exact sU12 x hx y hy
    ·exact k12 x hx y hy
    ·exact k21 x hx y hy
    ·exact sV12 x hx y hy
  have DA:i64.wrap (mid+((P.length+(U1++U2).length:Nat):Int)-((P.length+s:Nat):Int))=((P.length+(U1.length+U2.length)+t:Nat):Int):=by
   rw[bw (by omega) (by omega)];omega
  rw[DA];refine wH (k:=k) (P:=P) (U1:=U1) (U2:=U2) (V1:=V1) (V2:=V2) (Q:=Q) (by omega) ⟨FQ _,by omega⟩ (by omega) (by omega) (by omega) ?_;refine pn hF (P:=P) (U:=U1) (V:=V1) (Q:=U2++(V2++Q)) (by omega) (by simp;omega) aU1 aV1 sU1 sV1 hA1 rfl (by omega) (by omega) λW1 p1 q1=>?_
  have lW:W1.length=U1.length+V1.length:=by rw[p1.length_eq,FD]
  have e:P++(W1++(U2++(V2++Q)))=(P++W1)++(U2++(V2++Q)):=by simp
  rw[e];exact pn hF (P:=P++W1) (U:=U2) (V:=V2) (Q:=Q) (j:=λr=>cond (decide (ds=ds)) (some r) none) (by omega) (by simp;omega) aU2 aV2 sU2 sV2 hA2 (by simp;omega) (by simp;omega) (by simp;omega) λW2 p2 q2=>si (fin2 W1 p1 q1 W2 p2 q2)
 ·intro j hj;refine al.cond (λc=>?_) λc=>?_
  ·have c:=of_decide_eq_true c;exact hj _ _ ⟨hf-V.length,hf,by omega,by omega,by omega,by omega,by omega,by omega,by omega,by omega⟩
  ·have c:=of_decide_eq_false c;exact hj _ _ ⟨0,U.length,by omega,by omega,by omega,by omega,by omega,by omega,by omega,by omega⟩
end
end
set_option maxRecDepth 100000
set_option maxHeartbeats 4000000
section
section
variable {ds:List Int}
theorem Bz {N:Nat} (hN:N<=1000000000000):∀(L k:Nat),N+21+L<k->iF ds N L (aE k)
 |0,_,_=>λP U V Q h hu hv=>by omega
 |L+1,0,h=>by omega
 |L+1,k+1,h=>wI (by omega) hN (Bz hN L k (by omega))
theorem vt {N k:Nat} (hN:N<=1000000000000) (hk:2*N+21<k) {P U V Q:List Int} (hu:1<=U.length) (hv:1<=V.length) (hn:P.length+U.length+V.length+Q.length=N) (aU:lg ds U) (aV:lg ds V) (sU:Srt (LtD ds) U) (sV:Srt (LtD ds) V) (hA:lf ds U V)
  {a m b:Int} (ha:a=P.length) (hm:m=(P.length+U.length:Nat)) (hb:b=(P.length+U.length+V.length:Nat)):vr ds P U V Q (aE k (P++(U++(V++Q))) a m b ds):=by
 subst ha hm hb;exact Bz hN N k (by omega) P U V Q (by omega) hu hv hn aU aV sU sV hA
theorem vu {R:Type} {fin:List Int->Option R} {k N:Nat} {a b i:Int} {v:Int} {P Q:List Int} {Qr:R->Prop} (hN:N<=4000000000000) (hv:InD ds v) (ha:a=P.length):∀(n:Nat) (W1 W2:List Int) (kf:Nat),W1.length=n->n<kf->P.length+W1.length+1+W2.length+Q.length=N->lg ds W1->Srt (LtD ds) (W1++W2)->lf ds W1 [v]->(∀y∈W2,LtD ds v y)->
    (∀W,W.Perm (W1++W2++[v])->Srt (LtD ds) W->al (fin (P++(W++Q))) Qr)->
    al (iter (λu7 n7=>aD k (a,b,i,ds) u7 n7 fin) kf (((P.length+W1.length:Nat):Int),P++(W1++v::(W2++Q)))) Qr
  |_,_,_,0,_,h,_,_,_,_,_,_=>by omega
  | n, W1, W2, kf + 1, hn, hk, hl, a1, s1, hA, h2, rp => by
    rw[cI]
    have stop:(∀x∈W1,LtD ds x v)->al (fin (P++(W1++v::(W2++Q)))) Qr:=λh=>by
      have:=rp (W1++v::W2) (by
        refine(List.perm_middle).trans ?_
        exact(GZ (l₁:=[v]))) (by
        rw[dV]at s1
        exact dV.2 ⟨s1.1,GC.2 ⟨h2,s1.2.1⟩,λx hx y hy=>(FM.1 hy).elim (λe=>e▸h x hx) (λhy=>s1.2.2 x hx y hy)⟩)
      rwa [FE]at this
    show al (aD k (a,b,i,ds) _ _ fin) Qr;unfold aD;simp only
    match n,W1,hn with
    | 0, [], _ =>
      rw[decide_eq_false (by simp;omega),cond_false]
      exact stop λx hx=>nomatch hx
    | n + 1, W1, hn =>
      obtain⟨V1,y,V2,rfl,hl1⟩:=sd W1 n (by omega);have hV2:V2=[]:=FK.1 (by simp at hn;omega);subst hV2
      have hlen:(P++(V1++[y]++v::(W2++Q))).length=P.length+V1.length+2+W2.length+Q.length:=by simp;omega
      have hz:(P.length+(V1++[y]).length:Nat)=P.length+V1.length+1:=by simp;omega
      rw[hz,decide_eq_true (by omega),cond_true,bw (n:=((P.length+V1.length+1:Nat):Int)-1) (by omega) (by omega),decide_eq_true (by omega),cond_true,
        show(((P.length+V1.length+1:Nat):Int)-1).toNat=P.length+V1.length from by omega,show((P.length+V1.length+1:Nat):Int).toNat=P.length+V1.length+1 from by omega]
      have h1:(P++(V1++[y]++v::(W2++Q)))[P.length+V1.length]? =some y:=by
        rw[show P++(V1++[y]++v::(W2++Q))=(P++V1)++y::(v::(W2++Q))from by simp];exact ju (by simp)
      have h3:(P++(V1++[y]++v::(W2++Q)))[P.length+V1.length+1]? =some v:=by
        rw[show P++(V1++[y]++v::(W2++Q))=(P++V1++[y])++v::(W2++Q)from by simp];exact ju (by simp;omega)
      have h4:((P++(V1++[y]++v::(W2++Q))).set (P.length+V1.length+1) y).set (P.length+V1.length) v=P++(V1++v::(y::W2++Q)):=by
        rw[show P++(V1++[y]++v::(W2++Q))=(P++V1++[y])++v::(W2++Q)from by simp,jv (by simp;omega),show P++V1++[y]++y::(W2++Q)=(P++V1)++y::(y::(W2++Q))from by simp,jv (by simp)];simp
      rw[h1,h3,aa,decide_eq_true (by omega),cond_true,aa];have iy:InD ds y:=a1 y (by simp);obtain⟨r,hr,hr2⟩:=vq (ds:=ds) (k:=k) hv iy;rw[hr,aa];have a2:lg ds V1:=(lg.app.1 a1).1;have s2:=s1;rw[dV,dV]at s2;by_cases q:r<0
      · rw [decide_eq_true q];simp only[cond_true,aa,h4]
        have ih:=vu (fin:=fin) (k:=k) (N:=N) (a:=a) (b:=b) (i:=i) (v:=v) (P:=P) (Q:=Q) (Qr:=Qr) hN hv ha n V1 (y::W2) kf hl1 (by omega) (by simp;omega) a2 (by simpa using s1) (λx hx z hz=>hA x (Gg _ hx) z hz)
          (λz hz=>by
            have lvy:=se (pos:=id) (hr2.1 q)
            rcases FM.1 hz with rfl|hz
            · exact lvy
            · exact h2 z hz)
          (λW p s=>rp W (by simpa using p) s)
        rw[show((P.length+V1.length+1:Nat):Int)-1=((P.length+V1.length:Nat):Int)from by omega];exact ih
      · rw[decide_eq_false q];simp only[cond_false];refine stop λx hx=>?_;have lyv:LtD ds y v:=hA.lt (by simp) (by simp) (by have:=mt hr2.2 q;omega)
        rcases F7.1 hx with hx|hx
        · exact(s2.1.2.2 x hx y (by simp)).trans lyv
        · obtain rfl:=FW.1 hx;exact lyv
theorem pq {R:Type} {fin:List Int->Option R} {k N:Nat} {a b:Int} {P Q:List Int} {Qr:R->Prop} (hN:N<=4000000000000) (hkN:N+10<k) (ha:a=P.length):∀(V W:List Int) (kf:Nat),V.length<kf->b=(P.length+W.length+V.length:Nat)->P.length+W.length+V.length+Q.length=N->lg ds W->lg ds V->Srt (LtD ds) W->V.Pairwise (·<·)->(∀x∈W,∀y∈V,x<y)->
    (∀W',W'.Perm (W++V)->Srt (LtD ds) W'->al (fin (P++(W'++Q))) Qr)->
    al (iter (λu9 n9=>ai k (a,b,ds) u9 n9 fin) kf (((P.length+W.length:Nat):Int),P++(W++(V++Q)))) Qr
  |_,_,0,h,_,_,_,_,_,_,_,_=>by omega
  | [], W, kf + 1, _, hb, hn, _, _, sW, _, _, rp => by
    rw[cI];show al (ai k (a,b,ds) _ _ fin) Qr;unfold ai;simp only;rw[decide_eq_false (by simp at hb;omega),cond_false]
    exact rp W (by simp) sW
  | v :: V, W, kf + 1, hk, hb, hn, aW, aV, sW, iV, hWV, rp => by
    simp only[F4]at hk hb hn;rw[cI];show al (ai k (a,b,ds) _ _ fin) Qr;unfold ai;simp only;rw[decide_eq_true (by omega),cond_true];have hi:=GC.1 iV
    have := vu (ds := ds) (k := k) (N := N) (a := a) (b := b) (i := ((P.length + W.length : Nat) : Int)) (v := v) (P := P) (Q := V ++ Q) (Qr := Qr) (fin := λ y6 => iter (λ u9 n9 => ai k (a, b, ds) u9 n9 fin) kf (i64.wrap (((P.length + W.length : Nat) : Int) + 1), y6)) hN (aV v (by simp)) ha W.length W [] k rfl (by omega) (by simp; omega) aW (by simpa using sW) (λ x hx y hy _ => by obtain rfl := FW.1 hy; exact hWV x hx _ (by simp)) (λ y hy => nomatch hy)
      (λW1 p1 s1=>by
        simp only[FR]at p1
        have l1:W1.length=W.length+1:=by rw[p1.length_eq];simp
        rw[bw (by omega) (by omega),show((P.length+W.length:Nat):Int)+1=((P.length+W1.length:Nat):Int)from by omega];refine pq hN hkN ha V W1 kf (by omega) (by omega) (by omega) (λx hx=>?_) (λx hx=>aV x (FZ _ hx)) s1 hi.2 (λx hx y hy=>?_) λW' p s=>?_
        · rcases F7.1 (p1.mem_iff.1 hx)with h|h
          · exact aW x h
          · obtain rfl:=FW.1 h;exact aV x (by simp)
        · rcases F7.1 (p1.mem_iff.1 hx)with h|h
          · exact hWV x h y (FZ _ hy)
          · obtain rfl:=FW.1 h;exact hi.1 y hy
        · exact rp W' (p.trans (by simpa using p1.append_right V)) s)
    exact this
theorem mm {k N:Nat} {a b:Int} {P U Q:List Int} (hN:N<=4000000000000) (hkN:N+10<k) (hn:P.length+U.length+Q.length=N) (ha:a=P.length) (hb:b=(P.length+U.length:Nat)) (aU:lg ds U) (iU:U.Pairwise (·<·)):
  al (aI k (P++(U++Q)) a b ds) λr=>∃W,r=P++(W++Q)/\W.Perm U/\Srt (LtD ds) W:=by
 unfold aI
 match U with
 |[]=>
  obtain⟨kf,rfl⟩:∃kf,k=kf+1:=⟨k-1,by omega⟩;rw[cI];show al (ai _ (a,b,ds) _ _ _) _;unfold ai;simp only;rw[bw (by omega) (by omega),decide_eq_false (by simp at hb;omega),cond_false]
  exact al.must trivial (al.some ⟨[],rfl,.refl _,List.Pairwise.nil⟩)
 |u::U=>
  simp only[F4]at hn hb;have hi:=GC.1 iU;rw[bw (by omega) (by omega),show a+1=((P.length+[u].length:Nat):Int)from by simp;omega]
  exact pq (ds:=ds) (N:=N) hN hkN ha U [u] k (by omega) (by simp;omega) (by simp;omega) (λx hx=>by obtain rfl:=FW.1 hx;exact aU x (by simp)) (λx hx=>aU x (FZ _ hx)) (List.pairwise_singleton _ _) hi.2 (λx hx y hy=>by obtain rfl:=FW.1 hx;exact hi.1 y hy)
   λW p s=>si ⟨W,rfl,p,s⟩
end
end
set_option maxRecDepth 100000
set_option maxHeartbeats 4000000
section
section
variable {ds:List Int}
inductive Full (ds:List Int) (bs:Nat):List Int->List Int->Prop
 |nil:Full ds bs [] []
 |snoc {O A U W:List Int}:Full ds bs O A->U.length=bs->W.Perm U->Srt (LtD ds) W->Full ds bs (O++U) (A++W)
inductive sD (ds:List Int) (bs:Nat):List Int->List Int->Prop
 |last {O L:List Int}:O.length<=bs->L.Perm O->Srt (LtD ds) L->sD ds bs O L
 |cons {U W O L:List Int}:U.length=bs->W.Perm U->Srt (LtD ds) W->sD ds bs O L->sD ds bs (U++O) (W++L)
theorem Full.runs {bs:Nat} {O A:List Int} (h:Full ds bs O A):∀{O2 L:List Int},sD ds bs O2 L->sD ds bs (O++O2) (A++L):=by
 induction h with
 |nil=>exactλh=>h
 |snoc _ h1 h2 h3 ih=>
  intro O2 L h;rw[FE,FE];exact ih (.cons h1 h2 h3 h)
theorem Full.perm {bs:Nat} {O A:List Int} (h:Full ds bs O A):A.Perm O:=by
 induction h with
 |nil=>exact .refl _
 |snoc _ h1 h2 h3 ih=>exact ih.append h2
theorem sD.perm {bs:Nat} {O L:List Int} (h:sD ds bs O L):L.Perm O:=by
 induction h with
 |last _ h _=>exact h
 |cons _ h2 _ _ ih=>exact h2.append ih
theorem sD.all {bs:Nat} {O L:List Int} (h:sD ds bs O L) (hs:O.length<=bs):Srt (LtD ds) L:=by
 cases h with
 |last _ _ h=>exact h
 |cons h1 h2 h3 h4=>
  rename_i U W O L;rw[FD]at hs;have hO:O=[]:=FK.1 (by omega);have hL:L=[]:=FK.1 (by rw[h4.perm.length_eq,hO];rfl);rw[hL,FR];exact h3
theorem sD.cut {bs:Nat} {O L:List Int} (h:sD ds bs O L) (hs:bs<=O.length):∃U W O2 L2,O=U++O2/\L=W++L2/\U.length=bs/\W.Perm U/\Srt (LtD ds) W/\sD ds bs O2 L2:=by
 cases h with
 |last h1 h2 h3=>exact⟨O,L,[],[],by simp,by simp,by omega,h2,h3,.last (by simp) (.refl _) List.Pairwise.nil⟩
 |cons h1 h2 h3 h4=>exact⟨_,_,_,_,rfl,rfl,h1,h2,h3,h4⟩
structure sj (ds O:List Int):Prop where
 all:lg ds O
 inc:O.Pairwise (·<·)
theorem sj.right {A B:List Int} (h:sj ds (A++B)):sj ds B:=⟨(lg.app.1 h.all).2,(GG.1 h.inc).2.1⟩
theorem sj.left {A B:List Int} (h:sj ds (A++B)):sj ds A:=⟨(lg.app.1 h.all).1,(GG.1 h.inc).1⟩
theorem sj.ahead {A B W V:List Int} (h:sj ds (A++B)) (hW:W.Perm A) (hV:V.Perm B):lf ds W V:=λx hx y hy _=>(GG.1 h.inc).2.2 x (hW.mem_iff.1 hx) y (hV.mem_iff.1 hy)
theorem lg.perm {A B:List Int} (h:lg ds B) (hp:A.Perm B):lg ds A:=λx hx=>h x (hp.mem_iff.1 hx)
theorem sk {R:Type} {fin:Int× List Int->Option R} {k N:Nat} {Qr:R->Prop} {O:List Int} (hN:N<=1000000000000) (hkN:2*N+100<k) (hO:sj ds O) (hl:O.length=N)
  (rp:∀O1 A B,O=O1++B->Full ds 20 O1 A->B.length<20->al (fin ((A.length:Int),A++B)) Qr):
  al (iter (λu10 n10=>bg k ((N:Int),(20:Int),ds) u10 n10 fin) k ((0:Int),(20:Int),O)) Qr:=by
 refine al.iter (Inv:=λv=>∃O1 A B,O=O1++B/\Full ds 20 O1 A/\v=((A.length:Int),(A.length:Int)+20,A++B)) (m:=λv=>N-v.1.toNat) ?_ k _ ⟨[],[],O,rfl,.nil,rfl⟩ (by simp only;omega)
 rintro v next ⟨O1,A,B,hO1,hF,rfl⟩ hn
 unfold bg;simp only;have hp:=hF.perm.length_eq
 have hN1:A.length+B.length=N:=by rw[<-hl,hO1,FD];omega
 refine al.cond (λc=>?_) λc=>?_
 ·have c:=of_decide_eq_true c;obtain⟨U,B2,rfl,hU⟩:=ld B 20 (by omega)
  have oB:sj ds (U++B2):=by rw[hO1]at hO;exact hO.right
  rw[FD]at hN1;have:=mm (ds:=ds) (k:=k) (N:=N) (a:=(A.length:Int)) (b:=(A.length:Int)+20) (P:=A) (U:=U) (Q:=B2) (by omega) (by omega) (by omega) rfl (by omega) oB.left.all oB.left.inc;refine al.bind this ?_
  rintro r ⟨W,rfl,h1,h2⟩
  have lW:=h1.length_eq;refine hn _ ⟨O1++U,A++W,B2,by rw[hO1];simp,.snoc hF hU h1 h2,?_⟩ (by simp only;omega);rw[bw (by omega) (by omega),FD,FE]
  congr 1
  ·omega
  ·congr 1;omega
 ·have c:=of_decide_eq_false c;exact rp O1 A B hO1 hF (by omega)
theorem wJ {R:Type} {fin:Int× List Int->Option R} {k N bs:Nat} {Qr:R->Prop} {O L:List Int} (hN:N<=1000000000000) (hkN:2*N+100<k) (hO:sj ds O) (hl:O.length=N) (hb:1<=bs) (hbN:bs<=N) (hL:sD ds bs O L)
  (rp:∀O1 A O2 B,O=O1++O2->Full ds (2*bs) O1 A->sD ds bs O2 B->O2.length<2*bs->al (fin ((A.length:Int),A++B)) Qr):
  al (iter (λu7 n7=>bh k ((N:Int),(bs:Int),ds) u7 n7 fin) k ((0:Int),i64.wrap ((2:Int)*(bs:Int)),L)) Qr:=by
 rw[bw (by omega) (by omega)];refine al.iter (Inv:=λv=>∃O1 A O2 B,O=O1++O2/\Full ds (2*bs) O1 A/\sD ds bs O2 B/\v=((A.length:Int),(A.length:Int)+2*bs,A++B)) (m:=λv=>N-v.1.toNat) ?_ k _ ⟨[],[],O,L,rfl,.nil,hL,by simp⟩ (by simp only;omega)
 rintro v next ⟨O1,A,O2,B,hO1,hF,hR,rfl⟩ hn
 unfold bh;simp only;have hp:=hF.perm.length_eq;have hq:=hR.perm.length_eq
 have hN1:A.length+B.length=N:=by rw[<-hl,hO1,FD];omega
 refine al.cond (λc=>?_) λc=>?_
 ·have c:=of_decide_eq_true c;obtain⟨U,W,O3,B3,rfl,rfl,hU,pU,sU,hR2⟩:=hR.cut (by omega);have hq2:=hR2.perm.length_eq;have lU:=pU.length_eq;have lB:(W++B3).length=W.length+B3.length:=FD;obtain⟨U2,W2,O4,B4,rfl,rfl,hU2,pU2,sU2,hR4⟩:=hR2.cut (by omega);have lU2:=pU2.length_eq;have lB2:(W2++B4).length=W2.length+B4.length:=FD
  have oB:sj ds (U++(U2++O4)):=by rw[hO1]at hO;exact hO.right
  have oB2:sj ds (U++U2):=by rw[<-FE]at oB;exact oB.left
  obtain⟨V,e,pV,sV⟩:=vt (ds:=ds) (k:=k) (N:=N) hN (by omega) (P:=A) (U:=W) (V:=W2) (Q:=B4) (by omega) (by omega) (by omega) (oB.left.all.perm pU) (oB.right.left.all.perm pU2) sU sU2 (oB2.ahead pU pU2) (a:=(A.length:Int)) (m:=(A.length:Int)+(bs:Int)) (b:=(A.length:Int)+2*bs) rfl (by omega) (by omega);rw[bw (n:=(A.length:Int)+(bs:Int)) (by omega) (by omega),e,aa];have lV:=pV.length_eq;rw[FD]at lV;refine hn _ ⟨O1++(U++U2),A++V,O4,B4,by rw[hO1];simp,.snoc hF (by simp;omega) (pV.trans (pU.append pU2)) sV,hR4,?_⟩ (by simp only;omega);rw[bw (n:=(2:Int)*(bs:Int)) (by omega) (by omega),bw (by omega) (by omega),FD,FE]
  congr 1
  ·omega
  ·congr 1;omega
 ·have c:=of_decide_eq_false c;have:O2.length=B.length:=hq.symm;exact rp O1 A O2 B hO1 hF hR (by omega)
theorem sm {k N:Nat} {O:List Int} (hN:N<=1000000000000) (hkN:2*N+100<k) (hO:sj ds O) (hl:O.length=N):
  al (br k O (N:Int) ds) λr=>r.Perm O/\Srt (LtD ds) r:=by
 unfold br;refine sk hN hkN hO hl λO1 A B hO1 hF hB=>?_;have hp:=hF.perm.length_eq
 have hN1:A.length+B.length=N:=by rw[<-hl,hO1,FD];omega
 have oB:sj ds B:=by rw[hO1]at hO;exact hO.right
 have h1:=mm (ds:=ds) (k:=k) (N:=N) (a:=(A.length:Int)) (b:=(N:Int)) (P:=A) (U:=B) (Q:=[]) (by omega) (by omega) (by simp;omega) rfl (by omega) oB.all oB.inc;rw[FR]at h1;refine al.bind h1 ?_
 rintro r ⟨W,rfl,pW,sW⟩
 refine al.iter (Inv:=λv=>∃(bs:Nat) (L:List Int),v=((bs:Int),L)/\1<=bs/\sD ds bs O L) (m:=λv=>N-v.1.toNat) ?_ k _ ⟨20,A++(W++[]),rfl,by omega,by rw[FR,hO1];exact hF.runs (.last (by omega) pW sW)⟩ (by simp only;omega)
 rintro v next ⟨bs,L,rfl,hb,hR⟩ hn
 unfold bA;simp only;refine al.cond (λc=>?_) λc=>?_
 ·have c:=of_decide_eq_true c;refine wJ hN hkN hO hl hb (by omega) hR λO1 A O2 B hO1 hF hR2 hs=>?_;have hp:=hF.perm.length_eq;have hq:=hR2.perm.length_eq
  have hN1:A.length+B.length=N:=by rw[<-hl,hO1,FD];omega
  have oB:sj ds O2:=by rw[hO1]at hO;exact hO.right
  simp only;rw[bw (n:=(A.length:Int)+(bs:Int)) (by omega) (by omega),bw (n:=(bs:Int)*2) (by omega) (by omega),show(bs:Int)*2=((2*bs:Nat):Int)from by omega];refine al.cond (λc=>?_) λc=>?_
  ·have c:=of_decide_eq_true c;obtain⟨U,W,O3,B3,rfl,rfl,hU,pU,sU,hR3⟩:=hR2.cut (by omega);have hq2:=hR3.perm.length_eq;have lU:=pU.length_eq;have lB:(W++B3).length=W.length+B3.length:=FD;have lO:(U++O3).length=U.length+O3.length:=FD;have sB:=hR3.all (by omega);obtain⟨V,e,pV,sV⟩:=vt (ds:=ds) (k:=k) (N:=N) hN (by omega) (P:=A) (U:=W) (V:=B3) (Q:=[]) (by omega) (by omega) (by simp;omega) (oB.left.all.perm pU) (oB.right.all.perm hR3.perm) sU sB (oB.ahead pU hR3.perm) (a:=(A.length:Int)) (m:=(A.length:Int)+(bs:Int)) (b:=(N:Int)) rfl (by omega) (by omega);rw[FR]at e;rw[e,aa,FR];exact hn _ ⟨2*bs,A++V,rfl,by omega,by rw[hO1];exact hF.runs (.last (by omega) (pV.trans (pU.append hR3.perm)) sV)⟩ (by simp only;omega)
  ·have c:=of_decide_eq_false c;exact hn _ ⟨2*bs,A++B,rfl,by omega,by rw[hO1];exact hF.runs (.last (by omega) hR2.perm (hR2.all (by omega)))⟩ (by simp only;omega)
 ·have c:=of_decide_eq_false c;exact al.must (by trivial) (al.some ⟨hR.perm,hR.all (by omega)⟩)
def upto (n:Nat):List Int:=(List.range n).map Int.ofNat
theorem lh (n:Nat):upto (n+1)=upto n++[(n:Int)]:=by unfold upto;rw[List.range_succ,Gb];rfl
theorem dQ (n:Nat):(upto n).length=n:=by simp[upto]
theorem fm {n:Nat} {x:Int}:x∈upto n↔0<=x/\x<n:=by
 unfold upto;rw[Hd];constructor
 ·rintro ⟨i,hi,rfl⟩
  rw[List.mem_range]at hi;simp;omega
 ·rintro ⟨h0,h1⟩
  exact⟨x.toNat,List.mem_range.2 (by omega),by simp;omega⟩
theorem vw:∀n,(upto n).Pairwise (·<·)
 |0=>List.Pairwise.nil
 |n+1=>by
  rw[lh,GG];exact⟨vw n,List.pairwise_singleton _ _,λx hx y hy=>by obtain rfl:=FW.1 hy;exact(fm.1 hx).2⟩
theorem sn:sj ds (upto ds.length):=⟨λx hx=>fm.1 hx,vw _⟩
end
end
set_option maxRecDepth 100000
set_option maxHeartbeats 4000000
section
section
variable {ds:List Int} {k:Nat}
theorem oe (hn:ds.length<=1048576) (hk:2*ds.length+100<k):al (bN k ds) λr=>r.Perm (upto ds.length)/\Srt (LtD ds) r:=by
 have hM:=cy;unfold bN;refine al.iter (Inv:=λv=>∃i,i<=ds.length/\v=((i:Int),upto i)) (m:=λv=>ds.length-v.1.toNat) ?_ k _ ⟨0,by omega,rfl⟩ (by simp only;omega)
 rintro v next ⟨i,hi,rfl⟩ hnx
 unfold cc;simp only;refine al.cond (λc=>?_) λc=>?_
 ·have c:=of_decide_eq_true c;refine al.ble (by rw[dQ];simp;omega) ?_;rw[bw (by omega) (by omega)];exact hnx _ ⟨i+1,by omega,by rw[lh];rfl⟩ (by simp only;omega)
 ·have c:=of_decide_eq_false c
  obtain rfl:i=ds.length:=by omega
  unfold aC;rw[dQ];refine al.bind (al.bind (sm (ds:=ds) (k:=k) (N:=ds.length) (by omega) hk sn (dQ _)) λr h=>?_) λr h=>al.some h;exact al.must (by trivial) (al.some h)
theorem gp (hn:ds.length<=1048576) (hk:2*ds.length+100<k):al (du k ds) λr=>r.Perm (upto ds.length)/\Srt (LtD ds) r:=by
 unfold du;exact al.bind (oe hn hk) λr h=>al.some h
theorem wK {R:Type} {i:Nat} {out:List Int} {fin:Bool× List Int->Option R} {Q:R->Prop} (hi:i<ds.length) (hp:out.Perm (upto i)) (hs:Srt (LtD ds) out) (hN:ds.length<=1048576) (hk:ds.length+10<k)
    (h0:(∀x∈out,eP ds x<=eP ds i)->al (fin (false,out)) Q) (h1:∀A B,out=A++B->(∀x∈A,eP ds x<=eP ds i)->(∀x∈B,eP ds i<eP ds x)->al (fin (true,A++(i:Int)::B)) Q):
    al (iter (λu8 n8=>fj k (ds,(i:Int),out) u8 n8 fin) k (false,(0:Int),([]:List Int))) Q:=by
  have hM:=cy
  have lo:out.length=i:=by rw[hp.length_eq,dQ]
  refine al.iter (Inv:=λv=>∃X Y acc,out=X++Y/\v=(v.1,(X.length:Int),acc)/\((v.1=false/\acc=X/\∀x∈X,eP ds x<=eP ds i)\/(v.1=true/\∃A B,X=A++B/\acc=A++(i:Int)::B/\(∀x∈A,eP ds x<=eP ds i)/\∀x∈B++Y,eP ds i<eP ds x)))
    (m:=λv=>out.length-v.2.1.toNat) ?_ k _ ⟨[],out,[],rfl,rfl,.inl ⟨rfl,rfl,λx hx=>nomatch hx⟩⟩ (by simp only;omega)
  rintro ⟨b,j,acc'⟩ next ⟨X,Y,acc,hXY,hv,hinv⟩ hnx
  simp only[FI,true_and]at hv hinv;obtain⟨rfl,rfl⟩:=hv;unfold fj;simp only
  have lXY:X.length+Y.length=i:=by rw[<-lo,hXY,FD]
  match Y,hXY,hinv,lXY with
  | [], hXY, hinv, lXY =>
    rw[FR]at hXY;subst hXY;rw[decide_eq_false (by omega),cond_false]
    rcases hinv with⟨rfl,rfl,h⟩|⟨rfl,A,B,rfl,rfl,hA,hB⟩
    · exact h0 h
    · rw[FR]at hB
      exact h1 A B rfl hA hB
  | y :: Y, hXY, hinv, lXY =>
    simp only[F4]at lXY
    have hj:((X.length:Int)<(out.length:Int)):=by omega
    have hy:y∈out:=by rw[hXY];simp
    have iy:InD ds y:=by have:=fm.1 (hp.mem_iff.1 hy);exact⟨this.1,by omega⟩
    have ey:out[(X.length:Int).toNat]? =some y:=by
      rw[hXY];exact ju (by omega)
    have eX:X++y::Y=(X++[y])++Y:=by simp
    have kj:i64.wrap ((X.length:Int)+1)=((X++[y]).length:Int):=by rw[bw (by omega) (by omega),FD];simp
    rw[decide_eq_true hj,cond_true,kj]
    have e1:idx ds (i:Int)=some (eP ds i):=by rw[dd,aR hi];unfold eP;rw[show((i:Int)).toNat=i from by omega,cz hi]
    have e2:idx ds y=some (eP ds y):=by
      unfold InD at iy;rw[iz _ iy.1,aR (by omega)];unfold eP;rw[cz (by omega)]
    have go:∀(b:Bool) (a2:List Int),((b=false/\a2=X++[y]/\∀x∈X++[y],eP ds x<=eP ds i)\/(b=true/\∃A B,X++[y]=A++B/\a2=A++(i:Int)::B/\(∀x∈A,eP ds x<=eP ds i)/\∀x∈B++Y,eP ds i<eP ds x))->al (next (b,((X++[y]).length:Int),a2)) Q:=λb a2 h=>
      hnx _ ⟨X++[y],Y,a2,by rw[hXY,eX],rfl,h⟩ (by simp only[FD,F4,GS];omega)
    rcases hinv with⟨rfl,rfl,h⟩|⟨rfl,A,B,rfl,rfl,hA,hB⟩
    · simp only[Bool.not_false,cond_true];rw[e1,aa,decide_eq_true (by omega),cond_true,ey,aa,e2,aa];refine al.cond (λc=>?_) λc=>?_
      · have c:=of_decide_eq_true c;refine al.ble (by simp;omega) ?_;simp only[cond_true,aa];refine al.ble (by simp;omega) ?_;refine go _ _ (.inr ⟨rfl,acc',[y],rfl,by simp,h,λx hx=>?_⟩);have hs2:=hs;rw[hXY,dV]at hs2
        rcases FM.1 (show x∈y::Y from hx)with rfl|hx
        · exact c
        · have:=((GC.1 hs2.2.1).1 x hx).le;omega
      · have c:=of_decide_eq_false c;simp only[cond_true,aa];refine al.ble (by simp;omega) ?_;refine go _ _ (.inl ⟨rfl,rfl,λx hx=>?_⟩)
        rcases F7.1 hx with hx|hx
        · exact h x hx
        · obtain rfl:=FW.1 hx;omega
    · simp only[GF,cond_false];rw[decide_eq_true (by omega),cond_true,ey,aa];simp only[FD]at lXY;refine al.ble (by simp;omega) ?_;refine go _ _ (.inr ⟨rfl,A,B++[y],by simp,by simp,hA,λx hx=>hB x (by simpa using hx)⟩)
theorem iL (hn:ds.length<=1048576) (hk:ds.length+10<k):al (fx k ds) λr=>r.Perm (upto ds.length)/\Srt (LtD ds) r:=by
 have hM:=cy;unfold fx;refine al.iter (Inv:=λv=>∃(i:Nat) (W:List Int),i<=ds.length/\v=((i:Int),W)/\W.Perm (upto i)/\Srt (LtD ds) W) (m:=λv=>ds.length-v.1.toNat) ?_ k _ ⟨0,[],by omega,rfl,.refl _,List.Pairwise.nil⟩ (by simp only;omega)
 rintro v next ⟨i,W,hi,rfl,hp,hs⟩ hnx
 unfold iB;simp only
 have lo:W.length=i:=by rw[hp.length_eq,dQ]
 have hlt:∀x∈W,x<(i:Int):=λx hx=>(fm.1 (hp.mem_iff.1 hx)).2
 have lt1:∀x∈W,eP ds x<=eP ds i->LtD ds x i:=λx hx h=>by
  have:=hlt x hx;unfold LtD Lt;simp only[id];omega
 refine al.cond (λc=>?_) λc=>?_
 ·have c:=of_decide_eq_true c;rw[bw (n:=(i:Int)+1) (by omega) (by omega),show(i:Int)+1=((i+1:Nat):Int)from by omega];refine wK (by omega) hp hs hn hk (λh=>?_) λA B e hA hB=>?_
  ·simp only[Bool.not_false,cond_true];refine al.ble (by simp;omega) ?_;refine hnx _ ⟨i+1,W++[(i:Int)],by omega,rfl,by rw[lh];exact hp.append_right _,dV.2 ⟨hs,List.pairwise_singleton _ _,λx hx y hy=>?_⟩⟩ (by simp only;omega);obtain rfl:=FW.1 hy;exact lt1 x hx (h x hx)
  ·simp only[GF,cond_false];subst e;have hs2:=dV.1 hs;refine hnx _ ⟨i+1,A++(i:Int)::B,by omega,rfl,?_,dV.2 ⟨hs2.1,GC.2 ⟨λy hy=>se (hB y hy),hs2.2.1⟩,λx hx y hy=>?_⟩⟩ (by simp only;omega)
   ·rw[lh];refine(List.perm_middle).trans ?_;exact(GZ (l₁:=[(i:Int)])).trans (hp.append_right _)
   ·rcases FM.1 hy with rfl|hy
    ·exact lt1 x (Gg _ hx) (hA x hx)
    ·exact hs2.2.2 x hx y hy
 ·have c:=of_decide_eq_false c
  obtain rfl:i=ds.length:=by omega
  exact al.some ⟨hp,hs⟩
theorem wL (hn:ds.length<=1048576) (hk:2*ds.length+100<k):∃r,dZ k ds=some r/\du k ds=some r/\r.length=ds.length:=by
 obtain⟨r,h1,p1,s1⟩:=iL hn (show ds.length+10<k by omega);obtain⟨r2,h2,p2,s2⟩:=gp hn hk;obtain rfl:=Bx s1 s2 (p1.trans p2.symm);refine⟨r,?_,h2,by rw[p1.length_eq,dQ]⟩;unfold dZ;rw[h1];rfl
end
end
set_option maxRecDepth 100000
set_option maxHeartbeats 4000000
section
def Sim {α β:Type} (a:Option α) (b:Option β) (t:α->β):Prop:=∀x,a=some x->b=some (t x)
section
variable {α β γ δ:Type}
theorem Sim.none {b:Option β} {t:α->β}:Sim Option.none b t:=λx h=>nomatch h
theorem Sim.some {x:α} {y:β} {t:α->β} (h:y=t x):Sim (Option.some x) (Option.some y) t:=λ_ e=>by cases e;rw[h]
theorem Sim.cond {c c':Bool} {a a':Option α} {b b':Option β} {t:α->β} (h:c'=c) (h1:Sim a b t) (h2:Sim a' b' t):Sim (cond c a a') (cond c' b b') t:=by
 subst h;cases c'<;>assumption
theorem Sim.must {c:Bool} {a:Option α} {b:Option β} {t:α->β} (h:Sim a b t):Sim (_root_.cond c a Option.none) b t:=by
 cases c
 ·exact Sim.none
 ·exact h
theorem Sim.bind {a:Option γ} {b:Option δ} {s:γ->δ} {F:γ->Option α} {G:δ->Option β} {t:α->β} (h:Sim a b s) (g:∀x,Sim (F x) (G (s x)) t):Sim (a.bind F) (b.bind G) t:=λx e=>by
 rw[An]at e;obtain⟨y,e1,e2⟩:=e;rw[h y e1];exact g y x e2
theorem Sim.get {f:γ->δ} {l:List γ} {i:Nat} {F:γ->Option α} {G:δ->Option β} {t:α->β} (g:∀x,Sim (F x) (G (f x)) t):Sim ((l[i]?).bind F) (((l.map f)[i]?).bind G) t:=
 Sim.bind (s:=f) (λx e=>by rw[F3,e];rfl) g
theorem Sim.iter {V W:Type} (σ:V->W) {g:V->(V->Option α)->Option α} {g':W->(W->Option β)->Option β} {t:α->β} (h:∀s n m,(∀s,Sim (n s) (m (σ s)) t)->Sim (g s n) (g' (σ s) m) t):
  ∀(k:Nat) {s:V} {s':W},s'=σ s->Sim (Ev.iter g k s) (Ev.iter g' k s') t
 |0,_,_,_=>λ_ e=>nomatch e
 |k+1,s,_,rfl=>h s _ _ λs=>Sim.iter σ h k rfl
theorem Sim.bej {V W:Type} (R:V->W->Prop) {B:V->Option α} {B':W->Option β} {K:V} {K':W} {t:α->β} (hB:∀j j',R j j'->Sim (B j) (B' j') t) (hK:R K K'):Sim (Ev.bej B K) (Ev.bej B' K') t:=hB K K' hK
end
section
variable {ds:List Int} {f:Int->Wish} (hf:∀k x y,Sim (bC k x y ds) (bV k (f x) (f y)) id)
abbrev sg1 (f:Int->Wish) (v:Int× List Int):Int× List Wish:=(v.1,v.2.map f)
abbrev sg2 (f:Int->Wish) (v:Int× Int× List Int):Int× Int× List Wish:=(v.1,v.2.1,v.2.2.map f)
include hf
theorem CB (k:Nat) (L:List Int) (a b n:Int):Sim (aB k L a b n ds) (aX k (L.map f) a b n) (List.map f):=by
 refine Sim.iter (sg1 f) (λs n m hn=>?_) k rfl;unfold aK bD;simp only
 repeat' (first
  |exact Sim.none
  |assumption
  |exact Sim.some rfl
  |(refine Sim.get λe=>?_)
  |(refine Sim.bind (hf _ _ _) λr=>?_)
  |(refine Sim.cond (by first|rfl|simp only[Ga]) ?_ ?_)
  |exact hn _
  |(simp only[<-GP];exact hn _)
  |(refine Sim.must ?_))
theorem zx (k:Nat) (L:List Int) (a b n:Int):Sim (bd k L a b n ds) (cd k (L.map f) a b n) (List.map f):=by
 have h1:=λL a b n=>CB hf k L a b n;refine Sim.iter (sg2 f) (λs n m hn=>?_) k rfl;unfold ay bP;simp only
 repeat' (first
  |(refine Sim.bind (h1 _ _ _ _) λr=>?_)
  |repeat' (first
 |exact Sim.none
 |assumption
 |exact Sim.some rfl
 |(refine Sim.get λe=>?_)
 |(refine Sim.bind (hf _ _ _) λr=>?_)
 |(refine Sim.cond (by first|rfl|simp only[Ga]) ?_ ?_)
 |exact hn _
 |(simp only[<-GP];exact hn _)
 |(refine Sim.must ?_)))
theorem sq (k:Nat) (L:List Int) (a b:Int):Sim (aI k L a b ds) (bc k (L.map f) a b) (List.map f):=by
 refine Sim.iter (sg1 f) (λs n m hn=>?_) k rfl;unfold ai bo;simp only;refine Sim.cond rfl (Sim.iter (sg1 f) (λs' n' m' hn'=>?_) k rfl) (Sim.must (Sim.some rfl));unfold aD bn;simp only;have hn0:=hn;clear hn;have hn:=hn';clear hn'
 repeat' (first
  |exact Sim.none
  |assumption
  |exact Sim.some rfl
  |(refine Sim.get λe=>?_)
  |(refine Sim.bind (hf _ _ _) λr=>?_)
  |(refine Sim.cond (by first|rfl|simp only[Ga]) ?_ ?_)
  |exact hn _
  |(simp only[<-GP];exact hn _)
  |(refine Sim.must ?_))
 all_goals exact hn0 _
theorem zy (k:Nat) {self:List Int->Int->Int->Int->List Int->Option (List Int)} {self':List Wish->Int->Int->Int->Option (List Wish)} (hs:∀L a b c,Sim (self L a b c ds) (self' (L.map f) a b c) (List.map f)) (L:List Int) (a b c:Int):
  Sim (bf k self L a b c ds) (bI k self' (L.map f) a b c) (List.map f):=by
 have hr:=λL a b n=>zx hf k L a b n;unfold bf bI;refine Sim.cond rfl ?_ (Sim.cond rfl ?_ ?_)
 ·refine Sim.iter id (λs n m hn=>?_) k rfl;unfold ao aM;simp only[id]
  repeat' (first
   |exact Sim.none
   |assumption
   |exact Sim.some rfl
   |(refine Sim.get λe=>?_)
   |(refine Sim.bind (hf _ _ _) λr=>?_)
   |(refine Sim.cond (by first|rfl|simp only[Ga]) ?_ ?_)
   |exact hn _
   |(simp only[<-GP];exact hn _)
   |(refine Sim.must ?_))
  clear hn;refine Sim.iter (sg1 f) (λs n m hn=>?_) k rfl;unfold ae aN;simp only
  repeat' (first
   |exact Sim.none
   |assumption
   |exact Sim.some rfl
   |(refine Sim.get λe=>?_)
   |(refine Sim.bind (hf _ _ _) λr=>?_)
   |(refine Sim.cond (by first|rfl|simp only[Ga]) ?_ ?_)
   |exact hn _
   |(simp only[<-GP];exact hn _)
   |(refine Sim.must ?_))
 ·refine Sim.iter id (λs n m hn=>?_) k rfl;unfold aq aO;simp only[id]
  repeat' (first
   |exact Sim.none
   |assumption
   |exact Sim.some rfl
   |(refine Sim.get λe=>?_)
   |(refine Sim.bind (hf _ _ _) λr=>?_)
   |(refine Sim.cond (by first|rfl|simp only[Ga]) ?_ ?_)
   |exact hn _
   |(simp only[<-GP];exact hn _)
   |(refine Sim.must ?_))
  clear hn;refine Sim.iter (sg1 f) (λs n m hn=>?_) k rfl;unfold ag aP;simp only
  repeat' (first
   |exact Sim.none
   |assumption
   |exact Sim.some rfl
   |(refine Sim.get λe=>?_)
   |(refine Sim.bind (hf _ _ _) λr=>?_)
   |(refine Sim.cond (by first|rfl|simp only[Ga]) ?_ ?_)
   |exact hn _
   |(simp only[<-GP];exact hn _)
   |(refine Sim.must ?_))
 ·refine Sim.bej (λ(j:Int->Int->Option (List Int)) (j':Int->Int->Option (List Wish))=>∀x y,Sim (j x y) (j' x y) (List.map f)) (λj j' hj=>Sim.cond rfl (hj _ _) (hj _ _)) λx y=>?_;refine Sim.iter id (λs n m hn=>?_) k rfl;unfold ar aQ;simp only[id]
  repeat' (first
   |exact Sim.none
   |assumption
   |exact Sim.some rfl
   |(refine Sim.get λe=>?_)
   |(refine Sim.bind (hf _ _ _) λr=>?_)
   |(refine Sim.cond (by first|rfl|simp only[Ga]) ?_ ?_)
   |exact hn _
   |(simp only[<-GP];exact hn _)
   |(refine Sim.must ?_))
  all_goals repeat' (first
 |exact Sim.none
 |assumption
 |exact Sim.some rfl
 |exact hj _
 |(refine Sim.bind (hs _ _ _ _) λr=>?_)
 |(refine Sim.bind (hr _ _ _ _) λr=>?_)
 |(refine Sim.cond (by first|rfl|simp only[Ga]) ?_ ?_)
 |(refine Sim.must ?_)
 |(refine Sim.bej (λ(j:List Int->Option (List Int)) (j':List Wish->Option (List Wish))=>∀L,Sim (j L) (j' (L.map f)) (List.map f)) (λj j' hj=>?_) λL=>?_))
theorem merge_le:∀(k:Nat) (L:List Int) (a b c:Int),Sim (aE k L a b c ds) (aL k (L.map f) a b c) (List.map f)
 |0,_,_,_,_=>Sim.none
 |k+1,L,a,b,c=>zy hf k (merge_le k) L a b c
theorem zz (k:Nat) (L:List Int) (n:Int):Sim (br k L n ds) (cf k (L.map f) n) (List.map f):=by
 have hi:=λL a b=>sq hf k L a b;have hm:=λL a b c=>merge_le hf k L a b c;refine Sim.iter (sg2 f) (λs x m hn=>?_) k rfl;unfold bg bQ;simp only;refine Sim.cond rfl (Sim.bind (hi _ _ _) λr=>hn _) (Sim.bind (hi _ _ _) λr=>?_);clear hn;refine Sim.iter (sg1 f) (λs x m hn=>?_) k rfl;unfold bA bS;simp only;refine Sim.cond rfl ?_ (Sim.must (Sim.some rfl));refine Sim.iter (sg2 f) (λs' x' m' hn'=>?_) k rfl;unfold bh bR;simp only;refine Sim.cond rfl (Sim.bind (hm _ _ _ _) λr=>hn' _) (Sim.cond rfl (Sim.bind (hm _ _ _ _) λr=>hn _) (hn _))
theorem CC (k:Nat) (L:List Int):Sim (aC k L ds) (aJ k (L.map f)) (List.map f):=by
 unfold aC aJ;rw[Ga];exact Sim.bind (zz hf k L _) λr=>Sim.must (Sim.some rfl)
end
end
section
end
section
end
set_option maxRecDepth 100000
set_option maxHeartbeats 4000000
section
def wS (most:Int) (x:Wish) (q:List Int× Int):Bool:=q.2==x.model&&decide ((q.1.length:Int)<most)
def ui (most:Int) (st:List (List Int)× List Int) (x:Wish):List (List Int)× List Int:=
 ((st.1.zip st.2).findIdx? (wS most x)).elim (st.1++[[x.id]],st.2++[x.model]) λj=>(st.1.set j ((st.1[j]?).getD []++[x.id]),st.2)
structure uj (most:Int) (i:Nat) (st:List (List Int)× List Int):Prop where
 len:st.1.length=st.2.length
 sum:(st.1.map List.length).sum=i
 inn:∀g∈st.1,1<=g.length/\(g.length:Int)<=most
theorem DB {l:List (List Int)} (h:∀g∈l,1<=g.length):l.length<=(l.map List.length).sum:=by
 induction l with
 |nil=>simp
 |cons g l ih=>
  have:=h g (by simp);have:=ih λg hg=>h g (by simp[hg]);simp;omega
theorem uj.le {most:Int} {i:Nat} {st:List (List Int)× List Int} (h:uj most i st):st.1.length<=i:=by
 have:=DB λg hg=>(h.inn g hg).1;rw[h.sum]at this;exact this
theorem zA:∀{l:List (List Int)} {j:Nat} {g:List Int} {x:Int},l[j]? =some g->((l.set j (g++[x])).map List.length).sum=(l.map List.length).sum+1
 |[],j,g,x,h=>by simp at h
 |y::l,0,g,x,h=>by simp at h;subst h;simp;omega
 |y::l,j+1,g,x,h=>by
  have:=zA (x:=x) (show l[j]? =some g from by simpa using h);simp only[List.set_cons_succ,F9,List.sum_cons,this];omega
theorem nI {most:Int} {st:List (List Int)× List Int} {x:Wish} {j:Nat} (hl:st.1.length=st.2.length) (h:(st.1.zip st.2).findIdx? (wS most x)=some j):∃g,st.1[j]? =some g/\(g.length:Int)<most/\j<st.1.length:=by
 rw[List.findIdx?_eq_some_iff_getElem]at h;obtain⟨h1,h2,_⟩:=h
 have h3:j<st.1.length:=by rw[GX]at h1;omega
 rw[G4]at h2;unfold wS at h2;rw[Fy,decide_eq_true_eq]at h2;exact⟨_,Fw h3,h2.2,h3⟩
theorem A6 {most:Int} (hm:1<=most) {i:Nat} {st:List (List Int)× List Int} (h:uj most i st) (x:Wish):uj most (i+1) (ui most st x):=by
 unfold ui
 cases hf:(st.1.zip st.2).findIdx? (wS most x)with
 |none=>
  refine⟨by simp[h.len],by simp[h.sum],λg hg=>?_⟩
  rcases F7.1 hg with hg|hg
  ·exact h.inn g hg
  ·rw[FW]at hg;subst hg;simp;omega
 |some j=>
  obtain⟨g,hg,hgl,hj⟩:=nI h.len hf;simp only[Option.elim_some,hg,Gq];refine⟨by simp[h.len],by rw[zA hg,h.sum],λu hu=>?_⟩
  rcases List.mem_or_eq_of_mem_set hu with hu|rfl
  ·exact h.inn u hu
  ·simp;omega
theorem qx {most:Int} (hm:1<=most):∀(l:List Wish) {i:Nat} {st:List (List Int)× List Int},uj most i st->uj most (i+l.length) (l.foldl (ui most) st)
 |[],i,st,h=>h
 |x::l,i,st,h=>by
  have:=qx hm l (A6 hm h x);rw[show i+(x::l).length=i+1+l.length from by simp;omega];exact this
theorem uj.zero (most:Int):uj most 0 ([],[]):=⟨rfl,rfl,λg h=>nomatch h⟩
theorem vx {most:Int} (hm:1<=most) {l:List Wish} {i:Nat} (hi:i<=l.length):uj most i ((l.take i).foldl (ui most) ([],[])):=by
 have:=qx hm (l.take i) (uj.zero most);rwa [FT,Nat.min_eq_left hi,FC]at this
section
variable {R:Type} {k:Nat} {most:Int} {st:List (List Int)× List Int} {x:Wish}
theorem DC {a b:Int} {W:List Wish} {i:Nat} (hI:uj most i st) (hi:i<=300) (hk:1000<k) {K:Int->Option R}:
  iter (λu13 n13=>c7 k (most,-1,a,b,(st.2.length:Int),st.1,st.2,x.id,x.model,x.due,W) u13 n13 K) k (0:Int)=((st.1.zip st.2).findIdx? (wS most x)).elim (K (-1)) λj=>K j:=by
 have hl:=hI.len;have hle:=hI.le
 have hz:(st.1.zip st.2).length=st.2.length:=by rw[GX];omega
 refine rY (st.1.zip st.2) (wS most x) (no:=K) (λj hj next=>?_) (λnext=>?_) (by omega)
 ·rw[hz]at hj;unfold c7;simp only[G4,wS];rw[decide_eq_true (by omega),cond_true,decide_eq_true (by omega),cond_true,Gk,aR hj,aa,decide_eq_true (by omega),cond_true,aR (by omega),aa,dg hj (by omega)];cases(st.2[j]==x.model)<;>cases decide (((st.1[j]'(by omega)).length:Int)<most)<;>rfl
 ·unfold c7;simp only[hz];rw[decide_eq_false (by omega),cond_false]
theorem DD {r:List Int} {c:Int} {W:List Wish} {i:Nat} (hI:uj most i st) (hi:i<=300) (hk:1000<k) {K:Int->Option R}:
  iter (λu21 n21=>c6 k (W,most,c,r,st.1,st.2,x.id,x.model,x.due) u21 n21 K) k (0:Int)=((st.1.zip st.2).findIdx? (wS most x)).elim (K st.1.length) λj=>K j:=by
 have hl:=hI.len;have hle:=hI.le
 have hz:(st.1.zip st.2).length=st.2.length:=by rw[GX];omega
 refine rY (st.1.zip st.2) (wS most x) (no:=K) (λj hj next=>?_) (λnext=>?_) (by omega)
 ·rw[hz]at hj;unfold c6;simp only[G4,wS];rw[decide_eq_true (by omega),cond_true,decide_eq_true (by omega),cond_true,Gk,aR hj,aa,decide_eq_true (by omega),cond_true,aR (by omega),aa,dg hj (by omega)];by_cases h1:st.2[j]=x.model
  ·by_cases h2:((st.1[j]'(by omega)).length:Int)<most
   ·rw[h1,dP,if_pos rfl,decide_eq_false (by omega),cond_false,decide_eq_true h2,beq_self_eq_true];rfl
   ·rw[h1,dP,if_pos rfl,decide_eq_true (by omega),cond_true,decide_eq_false h2,beq_self_eq_true];rfl
  ·rw[dP,if_neg h1,show(st.2[j]==x.model)=false from by simpa using h1];rfl
 ·unfold c6;simp only[hz];rw[<-hl,decide_eq_false (by omega),cond_false]
theorem zB {α:Type} (l:List α) (y:α):(l++[y])[l.length]? =some y:=by simp
theorem zC {α:Type} (l:List α) (y z:α):(l++[y]).set l.length z=l++[z]:=by simp
theorem DE {n:Int} {W:List Wish} {i:Nat} (hI:uj most i st) (hi:i<300) (hm:most<=8) (hk:1000<k) (hx:W[i]? =some x) (hn:n=W.length) {next:Int× List (List Int)× List Int->Option R} {fin:List (List Int)->Option R}:
  cl k (most,n,W) ((i:Int),st.1,st.2) next fin=next (((i+1:Nat):Int),(ui most st x).1,(ui most st x).2):=by
 have hM:=cy;have hl:=hI.len;have hle:=hI.le;have hiW:=(Fv.1 hx).1;unfold cl;simp only;rw[decide_eq_true (by omega),cond_true,decide_eq_true (by omega),cond_true,Gk,hx,aa,DC hI (by omega) hk];unfold ui
 cases hf:(st.1.zip st.2).findIdx? (wS most x)with
 |none=>
  simp only[Option.elim_none,G6];rw[decide_eq_true (by decide),cond_true,gl (by omega),gl (by simp;omega),decide_eq_true (by simp;omega),cond_true,Gk,zB,aa,gl (by simp;omega),decide_eq_true (by rw[gm];simp;omega),cond_true,jM,aa,zC,bw (by omega) (by omega)]
  rfl
 |some j=>
  obtain⟨g,hg,hgl,hj⟩:=nI hI.len hf;simp only[Option.elim_some,hg,Gq];rw[decide_eq_false (by omega),cond_false,decide_eq_true (by omega),cond_true,Gk,hg,aa,gl (by simp;omega),decide_eq_true (by rw[gm];omega),cond_true,jM,aa,bw (by omega) (by omega)];rfl
theorem DF {r:List Int} {W:List Wish} {i:Nat} {c:Int} (hI:uj most i st) (hi:i<300) (hm:most<=8) (hk:1000<k) (hr:r[i]? =some c) (hx:idx W c=some x) {next:Int× List (List Int)× List Int->Option R} {fin:List (List Int)->Option R}:
  cj k (W,most,r) ((i:Int),st.1,st.2) next fin=next (((i+1:Nat):Int),(ui most st x).1,(ui most st x).2):=by
 have hM:=cy;have hl:=hI.len;have hle:=hI.le;have hiW:=(Fv.1 hr).1;unfold cj;simp only;rw[decide_eq_true (by omega),cond_true,decide_eq_true (by omega),cond_true,Gk,hr,aa,hx,aa,DD hI (by omega) hk];unfold ui
 cases hf:(st.1.zip st.2).findIdx? (wS most x)with
 |none=>
  simp only[Option.elim_none,G6,beq_self_eq_true,cond_true];rw[gl (by omega),gl (by simp;omega),decide_eq_true (by simp;omega),cond_true,Gk,zB,aa,gl (by simp;omega),decide_eq_true (by rw[gm];simp;omega),cond_true,jM,aa,zC,bw (by omega) (by omega)]
  rfl
 |some j=>
  obtain⟨g,hg,hgl,hj⟩:=nI hI.len hf;simp only[Option.elim_some,hg,Gq];rw[AX,if_neg (by omega),decide_eq_true (by omega),cond_true,Gk,hg,aa,gl (by simp;omega),decide_eq_true (by rw[gm];omega),cond_true,jM,aa,bw (by omega) (by omega)];rfl
end
def lj (most:Int) (l:List Wish):List (List Int):=(l.foldl (ui most) ([],[])).1
theorem DG {k:Nat} {most:Int} {W:List Wish} (h1:1<=most) (hm:most<=8) (hk:1000<k) (hW:W.length<=300):
    iter (λu15 n15=>cl k (most,(W.length:Int),W) u15 n15 (λy14=>some (y14,true))) k ((0:Int),([]:List (List Int)),([]:List Int))=some (lj most W,true):=by
  have run:=gj (g:=λu15 n15=>cl k (most,(W.length:Int),W) u15 n15 (λy14=>some (y14,true)))
    (st:=λi=>((i:Int),((W.take i).foldl (ui most) ([],[])).1,((W.take i).foldl (ui most) ([],[])).2)) (n:=W.length) (r:=some (lj most W,true)) (λi hi next=>by
      rw[DE (vx h1 (by omega)) (by omega) hm hk (aR hi) rfl,dq hi,List.foldl_append];rfl) (λnext=>by
      unfold cl;simp only
      rw[decide_eq_false (by omega),cond_false,Gr];rfl) (k:=k) (by omega)
  exact run
theorem DH {k:Nat} {most:Int} {W:List Wish} {r:List Int} {f:Int->Wish} (hf:∀c∈r,idx W c=some (f c)) (h1:1<=most) (hm:most<=8) (hk:1000<k) (hW:r.length<=300):
    iter (λu23 n23=>cj k (W,most,r) u23 n23 (λy22=>some (y22,true))) k ((0:Int),([]:List (List Int)),([]:List Int))=some (lj most (r.map f),true):=by
  have run:=gj (g:=λu23 n23=>cj k (W,most,r) u23 n23 (λy22=>some (y22,true)))
    (st:=λi=>((i:Int),(((r.map f).take i).foldl (ui most) ([],[])).1,(((r.map f).take i).foldl (ui most) ([],[])).2)) (n:=r.length) (r:=some (lj most (r.map f),true)) (λi hi next=>by
      have hi':i<(r.map f).length:=by simpa using hi
      rw[DF (vx h1 (by omega)) (by omega) hm hk (aR hi) (hf _ (F0 hi)),dq hi',List.foldl_append,List.getElem_map];rfl) (λnext=>by
      unfold cj;simp only
      rw[decide_eq_false (by omega),cond_false,List.take_of_length_le (by simp)];rfl) (k:=k) (by omega)
  exact run
end
set_option maxRecDepth 100000
set_option maxHeartbeats 4000000
section
theorem su (k:Nat) (x:Wish):lb k x=some (decide (x.id>=1)&&(decide (x.model>=0)&&inB x.due 0 1000000)):=by
 unfold lb;rw[sa];cases decide (x.id>=1)<;>cases decide (x.model>=0)<;>rfl
section
variable {R:Type} {k:Nat} {most:Int} {W:List Wish} {x:Wish}
theorem DI {i:Nat} {dues:List Int} (hi:i<300) (hk:1000<k) (hx:W[i]? =some x) {X2:Unit->Option R} {Xr:Bool->Option R}:
  iter (λu9 n9=>cZ k (W,most,(i:Int),dues) u9 n9 X2 Xr) k (0:Int)=cond ((W.take i).all λy=>!(y.id==x.id)) (X2 ()) (Xr false):=by
 have hiW:=(Fv.1 hx).1
 have hl:(W.take i).length=i:=by rw[FT];omega
 refine vn (W.take i) (λy=>!(y.id==x.id)) (λj hj next=>?_) (λnext=>?_) (by omega)
 ·rw[hl]at hj;unfold cZ;simp only[List.getElem_take];rw[decide_eq_true (by omega),cond_true,dd,aR (by omega),aa,dd,hx,aa,dg hj (by omega),cond_not]
 ·unfold cZ;simp only[hl];rw[decide_eq_false (by omega),cond_false]
theorem A7 (l:List Wish) (x:Wish):(l.all λy=>!(y.id==x.id))=!((l.map Wish.id).contains x.id):=by
 induction l with
 |nil=>rfl
 |cons y l ih=>
  rw[List.all_cons,ih,F9,List.contains_cons,Bool.not_or]
  congr 2
  exact BEq.comm
theorem CD (hW:W.length<=300) (hk:1000<k) {X0:List Int->Option R} {Xr:Bool->Option R}:
    iter (λu25 n25=>cD k (W,most) u25 n25 X0 Xr) k ((0:Int),([]:List Int))=cond (areB [] W) (X0 (W.map Wish.due)) (Xr false):=by
  have hM:=cy
  have := gi (g := λ u25 n25 => cD k (W, most) u25 n25 X0 Xr) (st := λ i => ((i : Int), (W.take i).map Wish.due)) (n := W.length)
    (P := λ i => cond (areB ((W.take i).map Wish.id) (W.drop i)) (X0 (W.map Wish.due)) (Xr false)) (λ i hi next e => by
      unfold cD;simp only;rw[decide_eq_true (by omega),cond_true,dd,aR hi,aa,su,aa,DI (by omega) hk (aR hi),A7,aa,gl (by simp;omega),dg hi (by omega),gS hi,areB]
      have e2:next (((i+1:Nat):Int),(W.take i).map Wish.due++[W[i].due])=cond (areB ((W.take (i+1)).map Wish.id) (W.drop (i+1))) (X0 (W.map Wish.due)) (Xr false):=by
        rw[<-e,dq hi,Gb];rfl
      rw[e2,dq hi,Gb,cond_not];unfold inB
      have d1:decide (W[i].id<1)=!decide (W[i].id>=1):=by rw[<-decide_not];exact decide_eq_decide.2 (by omega)
      have d2:decide (W[i].model<0)=!decide (W[i].model>=0):=by rw[<-decide_not];exact decide_eq_decide.2 (by omega)
      have d3:(decide (0<=W[i].due)&&decide (W[i].due<=1000000))=decide (0<=W[i].due/\W[i].due<=1000000):=(Bool.decide_and ..).symm;rw[d1,d2,d3]
      cases decide (W[i].id>=1)<;>cases decide (W[i].model>=0)<;>cases decide (0<=W[i].due/\W[i].due<=1000000)<;>cases((W.take i).map Wish.id).contains W[i].id<;>rfl) (λnext=>by
      unfold cD;simp only
      rw[decide_eq_false (by omega),cond_false,Gr,GM,areB];rfl) k 0 (F2 _) (by omega)
  simpa using this
end
def jY (W:List Wish) (c:Int):Wish:=(idx W c).getD ⟨0,0,0⟩
theorem zD {α β:Type} (f:α->β) (l:List α) (i:Int):idx (l.map f) i=(idx l i).map f:=by
 unfold idx;cases decide (0<=i)<;>simp
theorem CE (W:List Wish) (k:Nat) (x y:Int):Sim (bC k x y (W.map Wish.due)) (bV k (jY W x) (jY W y)) id:=λr h=>by
 unfold bC dt at h;unfold bV jY;rw[zD,zD]at h
 cases hx:idx W x with
 |none=>rw[hx]at h;exact nomatch h
 |some u=>
  cases hy:idx W y with
  |none=>rw[hx,hy]at h;exact nomatch h
  |some v=>
   rw[hx,hy,decide_eq_true rfl]at h;exact h
theorem zE (W:List Wish):(upto W.length).map (jY W)=W:=by
 refine List.ext_getElem (by simp[upto]) λi h1 h2=>?_;simp only[upto,List.map_map,List.getElem_map,List.getElem_range,Function.comp,jY];rw[show Int.ofNat i=(i:Int)from rfl,dd,aR h2];rfl
theorem sw {k:Nat} {W:List Wish} (hW:W.length<=300) (hk:1000<k):∃r:List Int,fx k (W.map Wish.due)=some r/\aJ k W=some (r.map (jY W))/\r.length=W.length/\∀c∈r,idx W c=some (jY W c):=by
 have hl:(W.map Wish.due).length=W.length:=by simp
 obtain⟨r,h1,p1,s1⟩:=iL (ds:=W.map Wish.due) (k:=k) (by omega) (by omega);have h2:=sm (ds:=W.map Wish.due) (k:=k) (N:=(W.map Wish.due).length) (O:=upto (W.map Wish.due).length) (by omega) (by omega) sn (dQ _);obtain⟨r2,h2,p2,s2⟩:=h2;obtain rfl:=Bx s1 s2 (p1.trans p2.symm);refine⟨r,h1,?_,by rw[p1.length_eq,dQ,hl],λc hc=>?_⟩
 ·have h3:aC k (upto (W.map Wish.due).length) (W.map Wish.due)=some r:=by
   unfold aC;rw[dQ,h2,aa,decide_eq_true rfl];rfl
  have h4:=CC (CE W) k _ _ h3;rw[hl,zE]at h4;exact h4
 ·have:=fm.1 (p1.mem_iff.1 hc);rw[hl]at this;obtain⟨i,rfl⟩:∃i:Nat,c=i:=⟨c.toNat,by omega⟩;unfold jY;rw[dd,aR (by omega)];rfl
theorem DJ {n:Int} (h:okI n):(Go.Lit.int .i64 n).wf=true:=by
 unfold Go.Lit.wf;simp only[Fy,decide_eq_true_eq];exact h
theorem wM {k:Nat} {W:List Wish} {most:Int} (hk:1000<k) (hW:W.length<=1048576) (ho:∀x∈W,x.Ok):
  ∃out ok,fk k W most=some (out,ok)/\fl k W most=some (out,ok)/\(ok=false->out=[])/\(ok=true->(out.map List.length).sum=W.length/\W.length<=300/\∀g∈out,1<=g.length/\(g.length:Int)<=most)/\Bu List.length out<=600:=by
 have hM:=cy
 have hA:I_areWishes k W=some (areB [] W&&decide (W.length<=300)):=by
  unfold I_areWishes;rw[decide_eq_true (by omega),Bool.true_and,show(W.all λx=>(Go.Lit.int .i64 x.id).wf)=true from List.all_eq_true.2 λx hx=>DJ (ho x hx).1];rfl
 unfold fk fl;rw[ph,Cz,aa,aa,hA,aa];cases hm:inB most 1 8
 ·exact⟨[],false,rfl,rfl,λ_=>rfl,λe=>(nomatch e),by simp[Bu]⟩
 rw[vp]at hm;simp only[GF,cond_false];by_cases hL:W.length>300
 ·rw[decide_eq_true (by omega),decide_eq_false (by omega),Bool.and_false];exact⟨[],false,rfl,rfl,λ_=>rfl,λe=>(nomatch e),by simp[Bu]⟩
 rw[decide_eq_false (by omega),decide_eq_true (by omega),Bool.and_true,cond_false,CD (by omega) hk];cases hv:areB [] W
 ·exact⟨[],false,rfl,rfl,λ_=>rfl,λe=>(nomatch e),by simp[Bu]⟩
 obtain⟨r,h1,h2,h3,h4⟩:=sw (k:=k) (W:=W) (by omega) hk
 have hC:bO k W=some W:=by
  unfold bO
  cases W with
  |nil=>simp only[isNil,cond_true,FR];exact zr _
  |cons x l=>simp only[isNil,cond_false];rw[gl (by simp at hW⊢;omega)];rfl
 have hlen:(r.map (jY W)).length<=300:=by simp;omega
 simp only[cond_true,GF,cond_false];rw[h1,aa,hC,aa,h2,aa,DH h4 hm.1 hm.2 hk (by omega),DG hm.1 hm.2 hk hlen];have inv:=qx hm.1 (r.map (jY W)) (uj.zero most);have hs:=inv.sum;rw[FC,Ga,h3]at hs;have hle:=inv.le;rw[FC,Ga,h3]at hle;exact⟨_,true,rfl,rfl,λe=>(nomatch e),λ_=>⟨hs,by omega,inv.inn⟩,by unfold Bu lj;omega⟩
end
set_option maxRecDepth 100000
section
theorem size_eq {b:List Int} (hb:b.length<=1048576) (k:Nat) {most:Int} (h0:2<=most) (h1:most<=1000000):al (k9 k b most) λn=>2<=n/\n<=most:=by
 unfold k9
 have e:i64.wrap ((b.length:Int).tdiv 16)=(b.length:Int).tdiv 16:=by
  have h2:(b.length:Int).tdiv 16=(b.length:Int)/16:=Int.tdiv_eq_ediv_of_nonneg (by omega);rw[h2,bw (by omega) (by omega)]
 have h2:(b.length:Int).tdiv 16=(b.length:Int)/16:=Int.tdiv_eq_ediv_of_nonneg (by omega);rw[e,h2,bw (n:=2+(b.length:Int)/16) (by omega) (by omega)];refine al.cond (λh=>al.some ⟨by omega,by omega⟩) λh=>?_;have h:=of_decide_eq_false h;exact al.some ⟨by omega,by omega⟩
end
set_option maxRecDepth 100000
set_option maxHeartbeats 4000000
section
def WOk (n:Int) (l:List Wish):Prop:=(l.length:Int)=n/\∀x∈l,x.Ok
theorem nJ {R:Type} {k:Nat} {b:List Int} {i h n:Int} (hb:b.length<=1048576) (hc:Cur b i) (hn0:0<=n) (hn:n<=400) (hk:1000<k) {fin:Int× Int× List Wish->Option R} {Q:R->Prop}
  (hf:∀c h l,Cur b c->WOk n l->al (fin (c,h,l)) Q):al (iter (λu16 n16=>cr k (n,b) u16 n16 fin) k ((0:Int),i,h,([]:List Wish))) Q:=by
 have hM:=cy;refine al.iter (Inv:=λv=>0<=v.1/\v.1<=n/\Cur b v.2.1/\WOk v.1 v.2.2.2) (m:=λv=>n.toNat-v.1.toNat) ?_ k _ ⟨Ha _,hn0,hc,rfl,λx hx=>nomatch hx⟩ (by simp only;omega)
 rintro ⟨j,c,h,l⟩ next ⟨h0,h1,hc,hl,ho⟩ hnx
 unfold cr;simp only at h0 h1 hc hl ho⊢;refine al.cond (λa=>?_) λa=>?_
 ·have a:=of_decide_eq_true a;refine(cw hb hc).bind λr5 ⟨⟨a5,b5,_⟩,hc5⟩=>(cw hb hc5).bind λr6 ⟨⟨a6,b6,_⟩,hc6⟩=>?_;have b5:=b5 (by omega);have b6:=b6 (by omega);refine al.ble (by simp;omega) ?_;rw[bw (by omega) (by omega)];refine hnx _ ⟨by simp only;omega,by simp only;omega,hc6,by simp;omega,λx hx=>?_⟩ (by simp only;omega)
  rcases F7.1 hx with hx|hx
  ·exact ho x hx
  ·rw[FW]at hx;subst hx;exact⟨⟨by simp only;omega,by simp only;omega⟩,⟨by simp only;omega,by simp only;omega⟩,⟨by simp only;omega,by simp only;omega⟩⟩
 ·have a:=of_decide_eq_false a
  obtain rfl:j=n:=by omega
  exact hf c h l hc ⟨hl,ho⟩
def D4 (r:List Wish× Int× Int) (b:List Int):Prop:=(r.1.length<=400/\∀x∈r.1,x.Ok)/\Cur b r.2.1
theorem DK {l:List Wish} (ho:∀x∈l,x.Ok) (i:Nat) {y:Wish} (hy:y.Ok):∀x∈l.set i y,x.Ok:=λx hx=>by
 rcases List.mem_or_eq_of_mem_set hx with hx|rfl
 ·exact ho x hx
 ·exact hy
theorem zF {α R:Type} {l:List α} {i:Int} {K:α->Option R} {Q:R->Prop} (h0:0<=i) (h1:i<l.length) (hK:∀x∈l,al (K x) Q):al (bif decide (0<=i/\i<(l.length:Int))then(l[i.toNat]?).bind K else none) Q:=by
 rw[decide_eq_true ⟨h0,h1⟩,cond_true,aR (by omega),aa];exact hK _ (F0 _)
theorem sx {k:Nat} {b:List Int} {i h:Int} (hb:b.length<=1048576) (hc:Cur b i) (hk:1000<k):al (dF k b i h b) λr=>D4 r b:=by
 unfold dF
 have fin:∀{n:Int} {c h:Int} {l:List Wish},0<=n->n<=400->Cur b c->WOk n l->al ((dr k b c h (10:Int)).bind λr8=>cond (r8.1) (cond (decide (n>(0:Int))) ((ba k b r8.2.1 r8.2.2 n).bind λr9=>(ba k b r9.2.1 r9.2.2 (3:Int)).bind λr10=>cond (r10.1==(0:Int)) ((bB k b r10.2.1 r10.2.2 [(0:Int),(1:Int)]).bind λr11=>cond (decide (0<=r9.1/\r9.1<(l.length:Int))) ((l[r9.1.toNat]?).bind λe12=>cond (decide (b=b)) (some (l.set r9.1.toNat (⟨r11.1,e12.model,e12.due⟩:Wish),r11.2.1,r11.2.2)) none) none) (cond (r10.1==(1:Int)) (cond (decide (0<=r9.1/\r9.1<(l.length:Int))) ((l[r9.1.toNat]?).bind λe13=>cond (decide (b=b)) (some (l.set r9.1.toNat (⟨e13.id,(-1:Int),e13.due⟩:Wish),r10.2.1,r10.2.2)) none) none) (cond (r10.1==(2:Int)) ((bB k b r10.2.1 r10.2.2 [(-1:Int),(1000000:Int),(1000001:Int)]).bind λr14=>cond (decide (0<=r9.1/\r9.1<(l.length:Int))) ((l[r9.1.toNat]?).bind λe15=>cond (decide (b=b)) (some (l.set r9.1.toNat (⟨e15.id,e15.model,r14.1⟩:Wish),r14.2.1,r14.2.2)) none) none) (cond (decide (b=b)) (some (l,r10.2.1,r10.2.2)) none)))) (cond (decide (b=b)) (some (l,r8.2.1,r8.2.2)) none)) (cond (decide (b=b)) (some (l,r8.2.1,r8.2.2)) none)) λr=>D4 r b:=by
  intro n c h l hn0 hn hc ⟨hl,ho⟩
  have hlen:l.length<=400:=by omega
  have bp:∀{c h:Int},Cur b c->al (cond (decide (b=b)) (some (l,c,h)) none) λr=>D4 r b:=λhc=>al.must rfl (al.some ⟨⟨hlen,ho⟩,hc⟩);refine(l5 hb hc).bind λr8 hc8=>al.cond (λ_=>al.cond (λa=>?_) λ_=>bp hc8) λ_=>bp hc8;have a:=of_decide_eq_true a;refine(cw hb hc8).bind λr9 ⟨⟨a9,b9,_⟩,hc9⟩=>(cw hb hc9).bind λr10 ⟨_,hc10⟩=>?_;have b9:=b9 (by omega)
  have put:∀{c h:Int} {f:Wish->Wish},Cur b c->(∀x,x.Ok->(f x).Ok)->al (bif decide (0<=r9.1/\r9.1<(l.length:Int))then(l[r9.1.toNat]?).bind λe=>cond (decide (b=b)) (some (l.set r9.1.toNat (f e),c,h)) none else none) λr=>D4 r b:=
   λhc hf=>zF a9 (by omega) λx hx=>al.must rfl (al.some ⟨⟨by simpa using hlen,DK ho _ (hf x (ho x hx))⟩,hc⟩)
  refine al.cond (λ_=>?_) λ_=>al.cond (λ_=>?_) λ_=>al.cond (λ_=>?_) λ_=>bp hc10
  ·refine(jL hb hc10 (by simp)).bind λr11 ⟨hm,hc11⟩=>?_;refine put (f:=λe=>⟨r11.1,e.model,e.due⟩) hc11 λx hx=>⟨?_,hx.2⟩;simp only[FM,List.not_mem_nil,or_false]at hm;unfold okI;simp only;omega
  ·exact put (f:=λe=>⟨e.id,-1,e.due⟩) hc10 λx hx=>⟨hx.1,⟨by simp only;omega,by simp only;omega⟩,hx.2.2⟩
  ·refine(jL hb hc10 (by simp)).bind λr14 ⟨hm,hc14⟩=>?_;refine put (f:=λe=>⟨e.id,e.model,r14.1⟩) hc14 λx hx=>⟨hx.1,hx.2.1,?_⟩;simp only[FM,List.not_mem_nil,or_false]at hm;unfold okI;simp only;omega
 refine(size_eq hb k (by omega) (by omega)).bind λr1 ⟨p1,q1⟩=>(cw hb hc).bind λr2 ⟨⟨a2,b2,_⟩,hc2⟩=>(l5 hb hc2).bind λr3 hc3=>?_;have b2:=b2 (by omega);refine al.cond (λ_=>?_) λ_=>?_
 ·refine(cw hb hc3).bind λr4 ⟨⟨a4,b4,_⟩,hc4⟩=>?_;have b4:=b4 (by omega);rw[bw (n:=300+r4.1) (by omega) (by omega)];exact nJ hb hc4 (by omega) (by omega) hk λc h l hc hl=>fin (by omega) (by omega) hc hl
 ·exact nJ hb hc3 a2 (by omega) hk λc h l hc hl=>fin a2 (by omega) hc hl
theorem l6 {k:Nat} {b:List Int} (hb:b.length<=1048576) (hk:b.length+1000<k):al (dG k b) λr=>r.1.length<=400/\∀x∈r.1,x.Ok:=by
 unfold dG;refine(sb hb (by omega)).bind λr1 hc1=>(sx hb hc1 (by omega)).bind λr2 ⟨h2,hc2⟩=>(jL hb hc2 (by simp)).bind λr3 _=>al.some h2
theorem zG {k:Nat} {b:List Int} {a:Int} (hk:b.length<k):al (wF k b a) λr=>r.length<=3001:=by
 have hM:=cy;unfold wF;refine al.iter (Inv:=λ(v:Int× List Int)=>0<=v.1/\v.1<=(b.length:Int)/\v.1<=3000/\v.2.length=v.1.toNat+1) (m:=λ(v:Int× List Int)=>b.length-v.1.toNat) ?_ k _ ⟨Ha _,by simp only;omega,by simp only;omega,rfl⟩ (by simp only;omega)
 rintro ⟨j,l⟩ next ⟨h0,h1,h2,hl⟩ hnx
 unfold qu;simp only at h0 h1 h2 hl⊢;refine al.cond (λa=>al.cond (λc=>?_) λc=>al.some (by omega)) λa=>al.some (by omega);have a:=of_decide_eq_true a;have c:=of_decide_eq_true c;rw[iz _ h0,aR (by omega),aa];refine al.ble (by simp;omega) ?_;rw[bw (by omega) (by omega)];exact hnx _ ⟨by simp only;omega,by simp only;omega,by simp only;omega,by simp;omega⟩ (by simp only;omega)
def DL (r:List Int× List Int× Int):Prop:=r.1.length<=6/\r.2.1.length<=7/\(∀c∈r.1,1<=c/\c<=8)/\(∀d∈r.2.1,-1000<=d/\d<=1000)/\0<=r.2.2/\r.2.2<=9
theorem nK {k:Nat} {b:List Int} (hb:b.length<=1048576) (hk:b.length+1000<k):al (cT k b) DL:=by
 have hM:=cy;unfold cT;refine(sb hb (by omega)).bind λr1 hc1=>(cw hb hc1).bind λr2 ⟨⟨a2,b2,_⟩,hc2⟩=>(cw hb hc2).bind λr3 ⟨⟨a3,b3,_⟩,hc3⟩=>?_;have b2:=b2 (by omega);have b3:=b3 (by omega)
 refine al.iter (Inv:=λ(v:Int× Int× Int× Int× List Int× List Int)=>0<=v.2.1/\Cur b v.2.2.1/\(v.2.2.2.2.1.length:Int)+v.2.1=r3.1/\v.2.2.2.2.2.length=v.2.2.2.2.1.length/\0<=v.1/\v.1<=9+8*v.2.2.2.2.1.length/\(∀c∈v.2.2.2.2.1,1<=c/\c<=8)/\∀d∈v.2.2.2.2.2,-1000<=d/\d<=1000)
  (m:=λ(v:Int× Int× Int× Int× List Int× List Int)=>v.2.1.toNat) ?_ k _ ⟨a3,hc3,by simp,rfl,a2,by simp only[GS];omega,(λc hc=>nomatch hc),(λc hc=>nomatch hc)⟩ (by simp only;omega)
 rintro ⟨at_,kk,c,h,cs,ds⟩ next ⟨h0,hc,hl,hd,ha0,ha1,hcs,hds⟩ hnx
 unfold eA;simp only at h0 hc hl hd ha0 ha1 hcs hds⊢;refine al.cond (λa=>?_) λa=>?_
 ·have a:=of_decide_eq_true a;refine(cw hb hc).bind λr4 ⟨⟨a4,b4,_⟩,hc4⟩=>?_;have b4:=b4 (by omega);refine al.ble (by simp;omega) ?_;refine(jL hb hc4 (by simp)).bind λr5 ⟨hm,hc5⟩=>al.ble (by simp;omega) ?_;simp only[FM,List.not_mem_nil,or_false]at hm;rw[bw (n:=1+r4.1) (by omega) (by omega),bw (n:=at_+(1+r4.1)) (by omega) (by omega),bw (n:=kk-1) (by omega) (by omega),bw (n:=at_+(1+r4.1)+r5.1) (by omega) (by omega)];refine hnx _ ⟨by simp only;omega,hc5,by simp;omega,by simp;omega,by simp only;omega,by simp;omega,λx hx=>?_,λx hx=>?_⟩ (by simp only;omega)
  ·rcases F7.1 hx with hx|hx
   ·exact hcs x hx
   ·rw[FW]at hx;omega
  ·rcases F7.1 hx with hx|hx
   ·exact hds x hx
   ·rw[FW]at hx;omega
 ·refine(l5 hb hc).bind λr7 _=>al.cond (λ_=>al.ble (by simp;omega) (al.some ⟨by simp only;omega,by simp;omega,hcs,λd hd=>?_,a2,by simp only;omega⟩)) λ_=>al.some ⟨by simp only;omega,by simp only;omega,hcs,hds,a2,by simp only;omega⟩
  rcases F7.1 hd with hd|hd
  ·exact hds d hd
  ·rw[FW]at hd;omega
end
set_option maxRecDepth 100000
section
end
section
end
set_option maxRecDepth 100000
section
theorem nL {k:Nat} {xs:List Int} (hk:xs.length<k) (hN:xs.length<=fC):ml k xs xs=some true:=by
 have hM:=cy;unfold ml;rw[dP,if_pos rfl];refine(zn xs xs rfl (yes:=some true) (no:=some false) (λi hi _ next=>?_) (λnext=>?_) hk).trans (by simp)
 ·simp only[la];rw[k7,if_pos (by omega),dd,aR hi,aa,aa,dP,if_pos rfl,dg hi (by omega)];simp
 ·simp only[la];rw[k7,if_neg (by omega)]
end
set_option maxRecDepth 100000
set_option maxHeartbeats 4000000
section
def uk:Int->List (Int× Int)->Bool
 |_,[]=>true
 |t,(c,d)::l=>cond (decide (t+c>d)) false (uk (t+c) l)
def sE (l:List (Int× Int)):Int:=(l.map (·.1)).sum
theorem vy (A B:List (Int× Int)):sE (A++B)=sE A+sE B:=by unfold sE;rw[Gb,G7]
theorem dO (x:Int× Int) (B:List (Int× Int)):sE (x::B)=x.1+sE B:=by unfold sE;rw[F9,List.sum_cons]
theorem mG:sE []=0:=rfl
theorem qy:∀(l:List (Int× Int)) (t:Int),uk t l=true↔∀A x B,l=A++x::B->t+sE A+x.1<=x.2
  |[],t=>by simp[uk]
  | (c, d) :: l, t => by
    rw[uk];constructor
    · intro h A x B e;by_cases hd:t+c>d
      · rw[decide_eq_true hd]at h;cases h
      rw[decide_eq_false hd,cond_false]at h
      cases A with
      |nil=>cases e;rw[mG];simp only;omega
      | cons a A =>
        cases e;have:=(qy _ _).1 h A x B rfl;rw[dO];simp only;omega
    · intro h;have h0:=h [] (c,d) l rfl;rw[mG]at h0;simp only at h0;rw[decide_eq_false (by omega),cond_false,qy];intro A x B e;have:=h ((c,d)::A) x B (by rw[e];rfl);rw[dO]at this;simp only at this;omega
theorem zH {A B:List (Int× Int)} (h:A.Perm B):sE A=sE B:=by
 induction h with
 |nil=>rfl
 |cons x _ ih=>rw[dO,dO,ih]
 |swap x y l=>simp only[dO];omega
 |trans _ _ h1 h2=>rw[h1,h2]
theorem kq (p:Int× Int->Bool):∀(l:List (Int× Int)),(∀x∈l,0<=x.1)->sE (l.filter p)<=sE l
 |[],_=>Ha _
 |x::l,h=>by
  have ih:=kq p l λy hy=>h y (FZ _ hy);have:=h x F5;rw[List.filter_cons];cases p x
  ·simp only[Gv,if_false];rw[dO];omega
  ·simp only[if_true];rw[dO,dO];omega
theorem uo (l:List (Int× Int)) (h:∀x∈l,0<=x.1):0<=sE l:=by
 have:=kq (λ_=>false) l h;rw[List.filter_eq_nil_iff.2 (by simp),mG]at this;exact this
theorem zI (p:Int× Int->Bool):∀(l:List (Int× Int)) (x:Int× Int),x∈l->p x=true->∃A y B,l=A++y::B/\p y=true/\∀z∈B,p z=false
 |[],_,h,_=>nomatch h
 |a::l,x,h,hp=>by
  by_cases c:∃y∈l,p y=true
  ·obtain⟨y,hy,hpy⟩:=c;obtain⟨A,z,B,e,h1,h2⟩:=zI p l y hy hpy;exact⟨a::A,z,B,by rw[e];rfl,h1,h2⟩
  ·rcases FM.1 h with rfl|h
   ·exact⟨[],x,l,rfl,hp,λz hz=>by cases e:p z;rfl;exact absurd ⟨z,hz,e⟩ c⟩
   ·exact absurd ⟨x,h,hp⟩ c
theorem uq {t:Int} {l l':List (Int× Int)} (hp:l'.Perm l) (hs:l'.Pairwise λx y=>x.2<=y.2) (hc:∀x∈l,0<=x.1) (h:uk t l=true):uk t l'=true:=by
 rw[qy]at h⊢
 rintro A x B rfl
 obtain⟨A0,y,B0,e,h1,h2⟩:=zI (λz=>decide (z.2<=x.2)) l x (hp.mem_iff.1 (by simp)) (by simp);have h3:=h A0 y B0 e;have h1:=of_decide_eq_true h1;have hA:∀z∈A,z.2<=x.2:=λz hz=>(GG.1 hs).2.2 z hz x F5;have e1:sE ((A++x::B).filter λz=>decide (z.2<=x.2))=sE (l.filter λz=>decide (z.2<=x.2)):=zH (hp.filter _);have fA:A.filter (λz=>decide (z.2<=x.2))=A:=List.filter_eq_self.2 λz hz=>decide_eq_true (hA z hz)
 have fB:B0.filter (λz=>decide (z.2<=x.2))=[]:=List.filter_eq_nil_iff.2 λz hz=>by rw[h2 z hz];simp
 rw[List.filter_append,List.filter_cons,if_pos (by simp),fA,e,List.filter_append,List.filter_cons,if_pos (decide_eq_true h1),fB,vy,dO,vy,dO,mG]at e1;have m1:=kq (λz=>decide (z.2<=x.2)) A0 λz hz=>hc z (by rw[e];simp[hz]);have m2:=uo (B.filter λz=>decide (z.2<=x.2)) λz hz=>hc z (hp.mem_iff.1 (by simp[(List.mem_filter.1 hz).1]));omega
def fc (g:List Int) (st:Int× Bool) (x:Wish):Int× Bool:=cond (g.contains x.id) (cond (!st.2) (x.due,true) (cond (decide (x.due<st.1)) (x.due,true) st)) st
def oh (W:List Wish) (g:List Int):Int:=(W.foldl (fc g) (-1,false)).1
theorem contains_eq {k:Nat} {g:List Int} {x:Int} (hk:g.length<k) (hN:g.length<=fC):ch k g x=some (g.contains x):=by
 have hM:=cy;unfold ch dv
 have:al (iter (λu4 n4=>cg k (g,x,(g.length:Int)) u4 n4 (λy2=>some (-1:Int)) (λy3=>some y3)) k (0:Int)) λr=>decide (r>=(0:Int))=g.contains x:=by
  refine al.iter (Inv:=λ(v:Int)=>0<=v/\v<=(g.length:Int)/\∀y∈g.take v.toNat,x≠y) (m:=λ(v:Int)=>g.length-v.toNat) ?_ k _ ⟨Ha _,by omega,λy hy=>by simp at hy⟩ (by simpa using hk)
  rintro v next ⟨h0,h1,h2⟩ hnx
  unfold cg;simp only;refine al.cond (λc=>?_) λc=>?_
  ·have c:=of_decide_eq_true c;rw[iz _ h0,aR (by omega),aa];refine al.cond (λq=>al.some ?_) λq=>?_
   ·have q:=eq_of_beq q;rw[decide_eq_true h0,q];exact(List.contains_iff_mem.2 (F0 _)).symm
   ·have q:=ne_of_beq_false q;rw[bw (by omega) (by omega)];refine hnx _ ⟨by omega,by omega,λy hy=>?_⟩ (by omega);rw[show(v+1).toNat=v.toNat+1 by omega,dq (by omega)]at hy
    rcases F7.1 hy with hy|hy
    ·exact h2 y hy
    ·rw[FW]at hy;subst hy;exact q
  ·have c:=of_decide_eq_false c;refine al.some ?_;rw[List.take_of_length_le (by omega)]at h2;rw[decide_eq_false (by omega)];cases e:g.contains x
   ·rfl
   ·exact absurd rfl (h2 x (List.contains_iff_mem.1 e))
 obtain⟨r,h1,h2⟩:=this;rw[h1,aa,h2]
theorem DM {k:Nat} {g:List Int} {x:Int} (hk:g.length<k) (hN:g.length<=fC):mF k g x=some (g.contains x):=by
 have hM:=cy;unfold mF;refine(vn g (λy=>!(y==x)) (yes:=some false) (no:=some true) (λi hi next=>?_) (λnext=>?_) hk).trans ?_
 ·unfold iD;simp only;rw[decide_eq_true (by omega),cond_true,dd,aR hi,aa,dg hi (by omega)];cases g[i]==x<;>rfl
 ·unfold iD;simp only;rw[decide_eq_false (by omega),cond_false]
 ·have:g.contains x=!(g.all λy=>!(y==x)):=by
   induction g with
   |nil=>rfl
   |cons y l ih=>
    rw[List.all_cons,List.contains_cons,ih (by simp at hk;omega) (by simp at hN;omega),Bool.not_and,Bool.not_not]
    congr 1
    exact BEq.comm
  rw[this];cases g.all λy=>!(y==x)<;>rfl
theorem mn {W:List Wish} {g:List Int} {i:Nat} (hi:i<W.length):(W.take (i+1)).foldl (fc g) (-1,false)=fc g ((W.take i).foldl (fc g) (-1,false)) W[i]:=by
 rw[dq hi,List.foldl_append];rfl
theorem EH {R:Type} {k:Nat} {W:List Wish} {g:List Int} {G:List (List Int)} {a c:Int} {o:List Int} (hk:1000<k) (hW:W.length<=300) (hg:g.length<=600) {K:Int->Option R}:
  iter (λu5 n5=>c9 k (W,g,G,a,c,W,(W.length:Int),o) u5 n5 K) k ((-1:Int),false,(0:Int))=K (oh W g):=by
 have hM:=cy;refine gj (g:=λu5 n5=>c9 k (W,g,G,a,c,W,(W.length:Int),o) u5 n5 K) (st:=λi=>(((W.take i).foldl (fc g) (-1,false)).1,((W.take i).foldl (fc g) (-1,false)).2,(i:Int))) (n:=W.length) (r:=K (oh W g)) (λi hi next=>?_) (λnext=>?_) (by omega)
 ·unfold c9;simp only;rw[decide_eq_true (by omega),cond_true,dd,aR hi,aa,contains_eq (by omega) (by omega),aa,dg hi (by omega),mn hi];generalize (W.take i).foldl (fc g) (-1,false)=st;obtain⟨u,v⟩:=st;unfold fc;simp only;cases g.contains W[i].id
  ·rfl
  cases v
  ·rfl
  cases decide (W[i].due<u)<;>rfl
 ·unfold c9;simp only;rw[decide_eq_false (by omega),cond_false,Gr];rfl
theorem EI {R:Type} {k:Nat} {W:List Wish} {G:List (List Int)} {j:Nat} {o:List Int} (hj:j<G.length) (hk:1000<k) (hW:W.length<=300) (hg:G[j].length<=600) {K:Int->Option R}:
  iter (λu8 n8=>da k (W,G,(j:Int),o) u8 n8 K) k ((-1:Int),false,(0:Int))=K (oh W G[j]):=by
 have hM:=cy;refine gj (g:=λu8 n8=>da k (W,G,(j:Int),o) u8 n8 K) (st:=λi=>(((W.take i).foldl (fc G[j]) (-1,false)).1,((W.take i).foldl (fc G[j]) (-1,false)).2,(i:Int))) (n:=W.length) (r:=K (oh W G[j])) (λi hi next=>?_) (λnext=>?_) (by omega)
 ·unfold da;simp only;rw[decide_eq_true (by omega),cond_true,dd,aR hj,aa,dd,aR hi,aa,DM (by omega) (by omega),aa,dg hi (by omega),mn hi];generalize (W.take i).foldl (fc G[j]) (-1,false)=st;obtain⟨u,v⟩:=st;unfold fc;simp only;cases G[j].contains W[i].id
  ·rfl
  cases v
  ·rfl
  simp only[aa,GF,cond_false,cond_true];cases decide (W[i].due<u)<;>rfl
 ·unfold da;simp only;rw[decide_eq_false (by omega),cond_false,Gr];rfl
theorem zJ {k:Nat} {W:List Wish} {G:List (List Int)} (hk:1000<k) (hW:W.length<=300) (hG:G.length<=600) (hg:∀g∈G,g.length<=600):
  iC k W G=some (G.map (oh W))/\iE k W G=some (G.map (oh W)):=by
 have hM:=cy;constructor
 ·unfold iC;refine(gj (g:=λu7 n7=>dK k (W,G,(G.length:Int)) u7 n7 (λy6=>some y6)) (st:=λi=>((i:Int),(G.take i).map (oh W))) (n:=G.length) (r:=some (G.map (oh W))) (λi hi next=>?_) (λnext=>?_) (by omega))
  ·unfold dK;simp only;rw[decide_eq_true (by omega),cond_true,dd,aR hi,aa,EH hk hW (hg _ (F0 hi)),gl (by simp;omega),dg hi (by omega),dq hi,Gb];rfl
  ·unfold dK;simp only;rw[decide_eq_false (by omega),cond_false,Gr]
 ·unfold iE;refine(gj (g:=λu10 n10=>dL k (W,G) u10 n10 (λy9=>some y9)) (st:=λi=>((i:Int),(G.take i).map (oh W))) (n:=G.length) (r:=some (G.map (oh W))) (λi hi next=>?_) (λnext=>?_) (by omega))
  ·unfold dL;simp only;rw[decide_eq_true (by omega),cond_true,EI hi hk hW (hg _ (F0 hi)),gl (by simp;omega),dg hi (by omega),dq hi,Gb];rfl
  ·unfold dL;simp only;rw[decide_eq_false (by omega),cond_false,Gr]
def sF (t:Int) (cs:List Int) (i:Nat):Int:=t+(cs.take i).sum
theorem zK:∀{l:List Int},(∀c∈l,1<=c/\c<=8)->0<=l.sum/\l.sum<=8*l.length
 |[],_=>by simp
 |x::l,h=>by
  have⟨a,b⟩:=zK λc hc=>h c (FZ _ hc);have:=h x F5;rw[List.sum_cons,F4];omega
theorem zL {t:Int} {cs:List Int} {i:Nat} (hc:∀c∈cs,1<=c/\c<=8) (hn:cs.length<=6) (ht:0<=t/\t<=9):0<=sF t cs i/\sF t cs i<=57:=by
 have⟨a,b⟩:=zK (l:=cs.take i) λc h=>hc c (List.mem_of_mem_take h)
 have:(cs.take i).length<=6:=by rw[FT];omega
 unfold sF;omega
theorem lk {t:Int} {cs:List Int} {i:Nat} (hi:i<cs.length):sF t cs (i+1)=sF t cs i+cs[i]:=by
 unfold sF;rw[dq hi,G7];simp;omega
theorem vz {cs ds:List Int} (hl:cs.length=ds.length) {i:Nat} (hi:i<cs.length):(cs.zip ds).drop i=(cs[i],ds[i])::(cs.zip ds).drop (i+1):=by
 rw[gS (show i<(cs.zip ds).length by rw[GX];omega),G4]
section
variable {k:Nat} {cs ds:List Int} {t:Int} (hk:100<k) (hl:cs.length=ds.length) (hc:∀c∈cs,1<=c/\c<=8) (hn:cs.length<=6) (ht:0<=t/\t<=9)
include hk hl hc hn ht
theorem BA:cu k cs ds t=some (uk t (cs.zip ds)):=by
  have hM:=cy;unfold cu;rw[dP,if_pos (by omega)]
  have:=gi (g:=λu5 n5=>dM k (ds,cs,(cs.length:Int)) u5 n5 (λy3=>some true) (λy4=>some y4)) (st:=λi=>(sF t cs i,(i:Int))) (n:=cs.length)
    (P:=λi=>some (uk (sF t cs i) ((cs.zip ds).drop i))) (λi hi next e=>by
      have hs:=zL (i:=i) hc hn ht;have hci:=hc _ (F0 hi);unfold dM;simp only;rw[decide_eq_true (by omega),cond_true,dd,aR hi,aa,dd,aR (by omega),aa,bw (n:=sF t cs i+cs[i]) (by omega) (by omega),dg hi (by omega),<-lk hi,e,vz hl hi,uk,<-lk hi]
      cases decide (sF t cs (i+1)>ds[i])<;>rfl) (λnext=>by
      unfold dM;simp only
      rw[decide_eq_false (by omega),cond_false,List.drop_of_length_le (by rw[GX];omega),uk]) k 0 (F2 _) (by omega)
  simpa[sF]using this
theorem DN:dw k cs ds t=some (uk t (cs.zip ds)):=by
  have hM:=cy;unfold dw;rw[dP,if_pos (by omega)]
  have:=gi (g:=λu5 n5=>dN k (cs,ds) u5 n5 (λy3=>some true) (λy4=>some y4)) (st:=λi=>(sF t cs i,(i:Int))) (n:=cs.length)
    (P:=λi=>some (uk (sF t cs i) ((cs.zip ds).drop i))) (λi hi next e=>by
      have hs:=zL (i:=i) hc hn ht;have hci:=hc _ (F0 hi);unfold dN;simp only;rw[decide_eq_true (by omega),cond_true,dd,aR hi,aa,dd,aR (by omega),aa,bw (n:=sF t cs i+cs[i]) (by omega) (by omega),dg hi (by omega),<-lk hi,e,vz hl hi,uk,<-lk hi]
      cases decide (sF t cs (i+1)>ds[i])<;>rfl) (λnext=>by
      unfold dN;simp only
      rw[decide_eq_false (by omega),cond_false,List.drop_of_length_le (by rw[GX];omega),uk]) k 0 (F2 _) (by omega)
  simpa[sF]using this
end
theorem zM {k:Nat} {cs ds:List Int} {t:Int} (hk:100<k) (hc:∀c∈cs,1<=c/\c<=8) (hn:cs.length<=6) (ht:0<=t/\t<=9):
  ∃b,cu k cs ds t=some b/\dw k cs ds t=some b/\(cs.length≠ds.length->b=false)/\(cs.length=ds.length->b=uk t (cs.zip ds)):=by
 by_cases hl:cs.length=ds.length
 ·exact⟨_,BA hk hl hc hn ht,DN hk hl hc hn ht,λh=>absurd hl h,λ_=>rfl⟩
 ·refine⟨false,?_,?_,λ_=>rfl,λh=>absurd h hl⟩
  ·unfold cu;rw[dP,if_neg (by omega)]
  ·unfold dw;rw[dP,if_neg (by omega)]
end
set_option maxRecDepth 100000
set_option maxHeartbeats 4000000
section
def atI (l:List Int) (j:Int):Int:=(idx l j).getD 0
theorem qz {l:List Int} {j:Int} (h0:0<=j) (h1:j<l.length):l[j.toNat]? =some (atI l j):=by
 unfold atI;rw[iz _ h0,aR (by omega)];rfl
theorem wN {k:Nat} {cs ds o:List Int} {t:Int} {b:Bool} {R:Type} {fin:List Int× List Int->Option R} (hk:100<k) (ho:o.length<=7) (hi:∀j∈o,0<=j/\j<cs.length) (hl:cs.length=ds.length):
  iter (λu28 n28=>ca k (t,b,cs,ds,o) u28 n28 fin) k ((0:Int),([]:List Int),([]:List Int))=fin (o.map (atI cs),o.map (atI ds)):=by
 have hM:=cy;refine(gj (g:=λu28 n28=>ca k (t,b,cs,ds,o) u28 n28 fin) (st:=λi=>((i:Int),(o.take i).map (atI cs),(o.take i).map (atI ds))) (n:=o.length) (r:=fin (o.map (atI cs),o.map (atI ds))) (λi h next=>?_) (λnext=>?_) (by omega))
 ·have hj:=hi _ (F0 h);unfold ca;simp only;rw[decide_eq_true (by omega),cond_true,decide_eq_true (by omega),cond_true,Gk,aR h,aa,decide_eq_true (by omega),cond_true,qz hj.1 hj.2,aa,gl (by simp;omega),cond_true,aa,decide_eq_true (by omega),cond_true,qz hj.1 (by omega),aa,gl (by simp;omega),dg h (by omega),dq h,Gb,Gb];rfl
 ·unfold ca;simp only;rw[decide_eq_false (by omega),cond_false,Gr]
theorem zip_map {α β γ:Type} (f:α->β) (g:α->γ) (l:List α):(l.map f).zip (l.map g)=l.map λx=>(f x,g x):=by
 induction l with
 |nil=>rfl
 |cons x l ih=>simp only[F9,List.zip_cons_cons,ih]
theorem A8 {cs ds:List Int} (hl:cs.length=ds.length):(upto cs.length).map (λj=>(atI cs j,atI ds j))=cs.zip ds:=by
 refine List.ext_getElem (by simp[dQ];omega) λi h1 h2=>?_
 have hi:i<cs.length:=by simpa[dQ]using h1
 rw[List.getElem_map,G4]
 have:(upto cs.length)[i]'(by simpa[dQ]using hi)=(i:Int):=by unfold upto;simp
 rw[this];unfold atI;rw[dd,dd,aR hi,aR (by omega)];rfl
section
variable {k:Nat} {b:List Int}
theorem zN (hb:b.length<=1048576) (hk:10000<k) (hkb:b.length<k):
  ((wF k b (1:Int)).bind λr15=>(cT k r15).bind λr16=>(cu k r16.1 r16.2.1 r16.2.2).bind λr17=>(du k r16.2.1).bind λr18=>(dw k r16.1 r16.2.1 r16.2.2).bind λr19=>cond (!(r17==r19)) (some false) ((dZ k r16.2.1).bind λr20=>(ml k r18 r20).bind λr21=>cond (!r21) (some false) (cond ((r16.1.length:Int) !=(r16.2.1.length:Int)) (some (!r17)) (iter (λu28 n28=>ca k (r16.2.2,r17,r16.1,r16.2.1,r18) u28 n28 (λy26=>cond (!r17) (some true) ((cu k y26.1 y26.2 r16.2.2).bind λr27=>some r27))) k ((0:Int),([]:List Int),([]:List Int))))))=some true:=by
 have hM:=cy;obtain⟨r15,e15,h15⟩:=zG (k:=k) (b:=b) (a:=1) hkb;obtain⟨⟨cs,ds,t⟩,e16,q1,q2,q3,q4,q5,q6⟩:=nK (k:=k) (b:=r15) (by omega) (by omega);simp only at q1 q2 q3 q4 q5 q6;obtain⟨f,f1,f2,f3,f4⟩:=zM (k:=k) (cs:=cs) (ds:=ds) (t:=t) (by omega) q3 q1 ⟨q5,q6⟩;obtain⟨o,p1,p2⟩:=gp (ds:=ds) (k:=k) (by omega) (by omega);obtain⟨o',o1,o2,o3⟩:=wL (ds:=ds) (k:=k) (by omega) (by omega)
 obtain rfl:o=o':=by rw[p1]at o2;exact Gn o2
 simp only[e15,e16,aa,f1,f2,o1,o2];rw[nL (by omega) (by omega),aa,beq_self_eq_true];simp only[GF,cond_false];rw[dP];by_cases hl:cs.length=ds.length
 ·have ol:o.length<=7:=by rw[o3];omega
  rw[if_pos (by omega),wN (by omega) ol (λj hj=>by
   have:=fm.1 (p2.1.mem_iff.1 hj);omega) hl]
  simp only
  cases f with
  |false=>rfl
  |true=>
   simp only[GF,cond_false];have hz:(o.map (atI cs)).zip (o.map (atI ds))=o.map λj=>(atI cs j,atI ds j):=zip_map _ _ _
   have hm:∀c∈o.map (atI cs),1<=c/\c<=8:=λc hc=>by
    obtain⟨j,hj,rfl⟩:=Hd.1 hc;have hj:=fm.1 (p2.1.mem_iff.1 hj);have:=qz (l:=cs) hj.1 (by omega);exact q3 _ (FG this)
   have EJ:(o.map λj=>(atI cs j,atI ds j)).Perm (cs.zip ds):=by
    rw[<-A8 hl,hl];exact p2.1.map _
   rw[BA (by omega) (by simp) hm (by simp;omega) ⟨q5,q6⟩,aa,hz,uq EJ ?_ ?_ (f4 hl).symm]
   ·rw[List.pairwise_map];refine List.Pairwise.imp_of_mem ?_ p2.2;intro x y hx hy h;have hx:=fm.1 (p2.1.mem_iff.1 hx);have hy:=fm.1 (p2.1.mem_iff.1 hy);have:=h.le
    have key:∀j,0<=j/\j<(ds.length:Int)->eP ds j=atI ds j:=λj hj=>by
     unfold eP;rw[Gl,qz hj.1 (by omega)];rfl
    rw[key x hx,key y hy]at this;exact this
   ·rintro ⟨c,d⟩ hx
    have:=q3 c (List.of_mem_zip hx).1;simp only;omega
 ·rw[if_neg (by omega),f3 hl];rfl
theorem CF {g:List Int} {G:List (List Int)} (h:g∈G):g.length<=(G.map List.length).sum:=by
 obtain⟨A,B,rfl⟩:=List.append_of_mem h;rw[Gb,G7,F9,List.sum_cons];omega
theorem nM {most:Int} {f:Bool} {W:List Wish} {G:List (List Int)} {R:Type} {fin:Int->Option R} {ret:Bool->Option R} (hk:1000<k) (hG:Bu List.length G<=600) (hg:∀g∈G,1<=g.length/\(g.length:Int)<=most):
  iter (λu44 n44=>cJ k (b,most,f,W,G,G) u44 n44 fin ret) k ((0:Int),(0:Int))=fin ((G.map List.length).sum:Nat):=by
 have hM:=cy;unfold Bu at hG;refine(gj (g:=λu44 n44=>cJ k (b,most,f,W,G,G) u44 n44 fin ret) (st:=λi=>((((G.take i).map List.length).sum:Nat),(i:Int))) (n:=G.length) (r:=fin ((G.map List.length).sum:Nat)) (λi hi next=>?_) (λnext=>?_) (by omega))
 ·have h1:=hg _ (F0 hi)
  have hs:((G.take (i+1)).map List.length).sum=((G.take i).map List.length).sum+G[i].length:=by
   rw[dq hi,Gb,G7];simp
  have hs2:((G.take (i+1)).map List.length).sum<=(G.map List.length).sum:=by
   conv=>rhs;rw[<-FU (i+1) G,Gb,G7]
   omega
  have hd:decide (0<=(i:Int)/\(i:Int)<(G.length:Int))=true:=decide_eq_true (by omega);unfold cJ;simp only[hd,cond_true,Gk,aR hi,aa];rw[decide_eq_true (by omega),cond_true,nL (by omega) (by omega),aa];simp only[GF,cond_false];rw[decide_eq_false (by omega),cond_false];rw[show((G[i].length:Int)==(0:Int))=false from by simp;intro h;rw[h]at h1;simp at h1];simp only[cond_false];rw[bw (n:=(((G.take i).map List.length).sum:Nat)+(G[i].length:Int)) (by omega) (by omega),dg hi (by omega),hs];rfl
 ·unfold cJ;simp only;rw[decide_eq_false (by omega),cond_false,Gr]
end
theorem qA (xs:List Int) (hx:okS okB xs):∃k,gU k xs=some true:=by
 have hM:=cy;refine⟨xs.length+20000,?_⟩;obtain⟨k,hk0⟩:∃k,k=xs.length+20000:=⟨_,rfl⟩;rw[<-hk0];unfold gU Cy;rw[aa,k7];by_cases c:(xs.length:Int)>1048576
 ·rw[if_pos c]
 rw[if_neg c];obtain⟨⟨W,most⟩,e2,h1,h2⟩:=l6 (k:=k) (b:=xs) (by omega) (by omega);simp only at h1 h2;obtain⟨G,f,s1,s2,s3,s4,s5⟩:=wM (k:=k) (W:=W) (most:=most) (by omega) (by omega) h2;rw[e2,aa];simp only;rw[s1,aa,s2,aa];simp only[beq_self_eq_true,GF,cond_false];rw[dP,if_pos rfl];have hT:=zN (k:=k) (b:=xs) (by omega) (by omega) (by omega)
 cases f with
 |false=>
  obtain rfl:=s3 rfl;rw[nM (by omega) s5 (λg hg=>nomatch hg)];simp only[cond_false]
  rw[hT]
 |true=>
  obtain⟨m1,m2,m3⟩:=s4 rfl;rw[nM (by omega) s5 m3];simp only[cond_true]
  have hlen:∀g∈G,g.length<=600:=λg hg=>by
   have:=CF hg;omega
  have hGl:G.length<=600:=by unfold Bu at s5;omega
  obtain⟨d1,d2⟩:=zJ (k:=k) (W:=W) (G:=G) (by omega) m2 hGl hlen;rw[dP,if_pos (by omega),d1,aa,d2,aa,nL (by simp;omega) (by simp;omega),aa];simp only[GF,cond_false];rw[hT]
end
end Go.Proofs.Ev
