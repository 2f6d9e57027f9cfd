/- Typed functions and what holds of them: part 7. -/
import Derived.Test.YtpiopmjbcadfbaaGreatEvL6
set_option linter.unusedVariables false
set_option linter.unusedSimpArgs false
set_option linter.unusedSectionVars false
namespace Go.Proofs.Ev
open IntKind(i64 u8 u64)
section
def vb:Nat->Nat->List Int
 |0,u=>[(u:Int)]
 |f+1,u=>if 128<=u then((128+u %128:Nat):Int)::vb f (u/128)else[(u:Int)]
def zig (x:Int):Nat:=if x<0 then(-2*x-1).toNat else(2*x).toNat
def wide (x:Int):List Int:=vb 6 (zig x)
def tI (x:Int):Bool:=inB x (-1099511627776) 1099511627775
theorem Rj:∀f u,(vb f u).length<=f+1
 |0,u=>by simp[vb]
 |f+1,u=>by
  simp only[vb];split
  ·have:=Rj f (u/128);simp;omega
  ·simp
theorem FC (x:Int):(wide x).length<=7:=Rj 6 _
theorem Rk {x:Int} (h:tI x=true):zig x<2199023255552:=by
 have:=cd.1 h;unfold zig;split<;>omega
theorem QJ (u:Nat):u8.wrap (i64.wrap ((128:Int)+((u:Int).tmod (128:Int))))=((128+u %128:Nat):Int):=by
 have e:((u:Int).tmod 128)=((u %128:Nat):Int):=rfl;rw[e,aE (by omega) (by omega),N4 (by omega) (by omega)];rfl
section
variable {R:Type}
theorem O3 {g:Int× List Int->(Int× List Int->Option R)->Option R} {F:List Int->Option R} {L:Nat}
  (hgo:∀(u:Nat) (out:List Int) (next:Int× List Int->Option R),128<=u->u<2^62->out.length<=L->g ((u:Int),out) next=next (((u/128:Nat):Int),out++[((128+u %128:Nat):Int)]))
  (SB:∀(u:Nat) (out:List Int) (next:Int× List Int->Option R),u<128->out.length<=L->g ((u:Int),out) next=F (out++[(u:Int)])):
  ∀(f u k:Nat) (out:List Int),u<2^(7*(f+1))->u<2^62->out.length+f<=L->f<k->iter g k ((u:Int),out)=F (out++vb f u)
 |f,u,0,_,_,_,_,hk=>by omega
 |0,u,k+1,out,hu,_,hl,_=>by
  rw[aI]
  exact SB u out _ (by simpa using hu) (by omega)
 |f+1,u,k+1,out,hu,hu2,hl,hk=>by
  rw[aI];simp only[vb];by_cases c:128<=u
  ·rw[if_pos c,hgo u out _ c hu2 (by omega)]
   have hd:u/128<2^(7*(f+1)):=by
    rw[show 7*(f+1+1)=7*(f+1)+7 from by omega,Nat.pow_add]at hu;exact Nat.div_lt_of_lt_mul (by omega)
   rw[O3 hgo SB f (u/128) k _ hd (by omega) (by simp;omega) (by omega)];rw[Wd];rfl
  ·rw[if_neg c];exact SB u out _ (by omega) (by omega)
end
theorem yS {k:Nat} {x:Int} (hk:6<k):rO k x=some (cond (tI x) (wide x) []):=by
 have hM:=al;unfold rO;rw[cp,aa];show cond (!tI x) _ _=_;cases h:tI x
 ·rfl
 simp only[VT,cond_false,cond_true];have hx:=cd.1 h;have hz:=Rk h
 have run:∀(u:Nat),u<2199023255552->iter (λu3 n3=>jk k () u3 n3 (λy2=>cond (Nat.ble (y2.2.length+[(u8.wrap (y2.1))].length) aU) (some (y2.2++[(u8.wrap (y2.1))])) none)) k ((u:Int),([]:List Int))=some (vb 6 u):=λu hu=>by
  refine(O3 (F:=some) (L:=100) (λu out next hu1 hu2 ho=>?_) (λu out next hu1 ho=>?_) 6 u k [] (by omega) (by omega) (by simp) hk)
  ·simp only[jk];have e2:(u:Int).tdiv 128=((u/128:Nat):Int):=rfl;rw[ab,if_pos (by omega),QJ,bJ (by simp;omega),e2,aE (by omega) (by omega)]
  ·simp only[jk];rw[ab,if_neg (by omega),bJ (by simp;omega),N4 (by omega) (by omega)]
 unfold wide zig at*;by_cases c:x<0
 ·rw[ab,if_pos c];rw[if_pos c]at hz⊢;rw[aE (n:=-2*x) (by omega) (by omega),aE (n:=-2*x-1) (by omega) (by omega)];have:=run (-2*x-1).toNat (by omega);rw[show(((-2*x-1).toNat:Nat):Int)=-2*x-1 from by omega]at this;exact this
 ·rw[ab,if_neg c];rw[if_neg c]at hz⊢;rw[aE (n:=2*x) (by omega) (by omega)];have:=run (2*x).toNat (by omega);rw[show(((2*x).toNat:Nat):Int)=2*x from by omega]at this;exact this
def tJ (xs:List Int):List Int:=xs.flatMap wide
theorem nw:∀xs:List Int,(tJ xs).length<=7*xs.length
 |[]=>by simp[tJ]
 |x::l=>by
  have h1:=nw l;have h2:=FC x;unfold tJ at*;rw[List.flatMap_cons,VR,VS];omega
theorem O4 (xs ys:List Int):tJ (xs++ys)=tJ xs++tJ ys:=XJ
section
variable {R:Type}
theorem DQ {xs out0:List Int} {g:Int× List Int->(Int× List Int->Option R)->Option R} {F:List Int->Option R}
  (h:∀(i:Nat) (out:List Int) (hi:i<xs.length) (next:Int× List Int->Option R),out.length<=out0.length+7*i->g ((i:Int),out) next=next (((i+1:Nat):Int),out++wide xs[i]))
  (hn:∀(out:List Int) (next:Int× List Int->Option R),out.length<=out0.length+7*xs.length->g ((xs.length:Int),out) next=F out) {k:Nat} (hk:xs.length<k):iter g k (0,out0)=F (out0++tJ xs):=by
 have hl:∀i,i<=xs.length->(out0++tJ (xs.take i)).length<=out0.length+7*i:=λi hi=>by
  have:=nw (xs.take i);rw[Wn,XE hi]at this;rw[VR];omega
 have:=eW (g:=g) (st:=λi=>((i:Int),out0++tJ (xs.take i))) (n:=xs.length) (r:=F (out0++tJ xs)) (λi hi next=>by
  rw[h i _ hi next (hl i (by omega)),dy hi,O4,Wd]
  simp[tJ]) (λnext=>by
  have:=hl xs.length (Wc _);rw[WH]at this;simp only[WH]
  exact hn _ next this) hk
 simpa[tJ]using this
end
theorem KK {R:Type} {xs out0:List Int} {g:Int× List Int->(Int× List Int->Option R)->Option R} {F:List Int->Option R} (hN:out0.length+xs.length<=aU)
  (h:∀(i:Nat) (out:List Int) (hi:i<xs.length) (next:Int× List Int->Option R),out.length+1<=aU->g ((i:Int),out) next=next (((i+1:Nat):Int),out++[xs[i]]))
  (hn:∀(out:List Int) (next:Int× List Int->Option R),g ((xs.length:Int),out) next=F out) {k:Nat} (hk:xs.length<k):iter g k (0,out0)=F (out0++xs):=by
 have:=eW (g:=g) (st:=λi=>((i:Int),out0++xs.take i)) (n:=xs.length) (r:=F (out0++xs)) (λi hi next=>by
  rw[h i _ hi next (by rw[VR,Wn,XE (by omega)];omega),dy hi,Wd]) (λnext=>by
  simp only[WH];exact hn _ next) hk
 simpa using this
theorem kZ {k:Nat} {a xs:List Int} (hk:xs.length+7<k) (hN:a.length+7*xs.length+7<=aU) (hw:xs.all tI=true):iX k a xs=some (a++tJ xs):=by
 have hM:=al;unfold iX;refine(DQ (xs:=xs) (out0:=a) (F:=some) (λi out hi next hl=>?_) (λout next _=>?_) (by omega))
 ·simp only[kV];rw[ab,if_pos (by omega),ab,if_pos (by omega),show(i:Int).toNat=i from rfl,aj hi,aa,yS (by omega),aa,Wo.1 hw _ (VV hi),cond_true];have h7:=FC xs[i];refine KK (F:=λo=>next (i64.wrap ((i:Int)+1),o)) (xs:=wide xs[i]) (out0:=out) (by omega) (λj o hj nx ho=>?_) (λo nx=>?_) (by omega)|>.trans ?_
  ·simp only[kU];rw[ab,if_pos (by omega),ab,if_pos (by omega),show(j:Int).toNat=j from rfl,aj hj,aa,bJ (by simp;omega),aq hj (by omega)]
  ·simp only[kU];rw[ab,if_neg (by omega)]
  ·rw[aq hi (by omega)]
 ·simp only[kV];rw[ab,if_neg (by omega)];rfl
theorem tX {k:Nat} {a xs:List Int} (hk:xs.length+7<k) (hN:a.length+7*xs.length+7<=aU) (hw:xs.all tI=true):nm k a xs=some (a++tJ xs):=by
 have hM:=al;unfold nm;refine(DQ (xs:=xs) (out0:=a) (F:=some) (λi out hi next hl=>?_) (λout next _=>?_) (by omega))
 ·simp only[kX];rw[ab,if_pos (by omega),aL,aj hi,aa,yS (by omega),aa,Wo.1 hw _ (VV hi),cond_true];have h7:=FC xs[i];refine KK (F:=λo=>next (i64.wrap ((i:Int)+1),o)) (xs:=wide xs[i]) (out0:=out) (by omega) (λj o hj nx ho=>?_) (λo nx=>?_) (by omega)|>.trans ?_
  ·simp only[kW];rw[ab,if_pos (by omega),ab,if_pos (by omega),show(j:Int).toNat=j from rfl,aj hj,aa,bJ (by simp;omega),aq hj (by omega)]
  ·simp only[kW];rw[ab,if_neg (by omega)]
  ·rw[aq hi (by omega)]
 ·simp only[kX];rw[ab,if_neg (by omega)]
end
set_option maxRecDepth 100000
set_option maxHeartbeats 4000000
section
theorem TU:∀(f u:Nat),u<128^(f+1)->∀y∈vb f u,okB y
 |0,u,h,y,hy=>by
  obtain rfl:y=(u:Int):=by simpa[vb]using hy
  unfold okB;omega
 |f+1,u,h,y,hy=>by
  unfold vb at hy;split at hy
  ·rcases V0.1 hy with rfl|hy
   ·unfold okB;omega
   ·exact TU f (u/128) (Nat.div_lt_of_lt_mul (by rw[Nat.pow_succ]at h;omega)) y hy
  ·obtain rfl:y=(u:Int):=by simpa using hy
   unfold okB;omega
theorem SF {x:Int} (h:tI x=true):∀y∈wide x,okB y:=TU 6 _ (X4 (Rk h) (by decide))
theorem tA {xs:List Int} (h:xs.all tI=true):∀y∈tJ xs,okB y:=λy hy=>by
 obtain⟨x,hx,hy⟩:=XL.1 hy;exact SF (Wo.1 h x hx) y hy
theorem Mk {s:Shape} {l:av} (h:fN s l=true):(0<=l.kind/\l.kind<=5/\0<=l.out/\l.out<=8/\0<=l.size/\l.size<=3/\0<=l.step/\l.step<=2/\0<=l.mult/\l.mult<=2147483647/\0<=l.shift/\l.shift<=31/\-128<=l.zero/\l.zero<=127)/\(∀x∈l.weights,-128<=x/\x<=127)/\(∀x∈l.ny,-1000000<=x/\x<=1000000):=by
 have none_of:∀{xs:List Int} {P:Int->Prop},(xs.length:Int)=0->∀x∈xs,P x:=λ{xs P} e x hx=>by
  have:xs.length=0:=by omega
  rw[WN.1 this]at hx;exact absurd hx (by simp)
 unfold fN at h;rw[VP]at h;obtain⟨_,h⟩:=h;by_cases k0:l.kind=0
 ·rw[decide_eq_true k0,cond_true]at h;simp only[HG,oT,inB,qN,VP,decide_eq_true_eq,Wo]at h;exact⟨by omega,h.2.1.2.2.2.2.2.2,h.2.1.2.2.2.2.2.1⟩
 rw[decide_eq_false k0,cond_false]at h;by_cases k1:l.kind=1
 ·rw[decide_eq_true k1,cond_true]at h;simp only[HG,LH,inB,qN,VP,decide_eq_true_eq,Wo]at h;exact⟨by omega,h.2.1.2.2.2.2.2.2,h.2.1.2.2.2.2.2.1⟩
 rw[decide_eq_false k1,cond_false]at h;by_cases k2:l.kind=2\/l.kind=3
 ·rw[show(decide (l.kind=2)||decide (l.kind=3))=true from by simpa using k2,cond_true]at h;simp only[qV,LH,inB,VP,decide_eq_true_eq]at h;exact⟨by omega,none_of h.2.1.2.2.2.1,none_of h.2.1.2.2.2.2⟩
 rw[show(decide (l.kind=2)||decide (l.kind=3))=false from by simpa using k2,cond_false]at h;by_cases k4:l.kind=4
 ·rw[decide_eq_true k4,cond_true]at h;simp only[qV,oT,inB,VP,decide_eq_true_eq]at h;exact⟨by omega,none_of h.2.1.2.2.2.1,none_of h.2.1.2.2.2.2⟩
 rw[decide_eq_false k4,cond_false]at h;by_cases k5:l.kind=5
 ·rw[decide_eq_true k5,cond_true]at h;simp only[qV,oT,inB,VP,decide_eq_true_eq]at h;exact⟨by omega,none_of h.2.1.2.2.2.1,none_of h.2.1.2.2.2.2⟩
 ·rw[decide_eq_false k5,cond_false]at h;exact nomatch h
theorem wD:∀(ls:List av) (s:Shape),(cq s ls).isSome=true->∀l∈ls,∃s,fN s l=true
 |[],s,_,l,hl=>absurd hl (by simp)
 |m::ls,s,h,l,hl=>by
  simp only[cq]at h;cases hb:fN s m<;>rw[hb]at h
  ·exact nomatch h
  ·rcases V0.1 hl with rfl|hl
   ·exact⟨s,hb⟩
   ·rw[cond_true,Option.isSome_map]at h;exact wD ls _ h l hl
theorem tB {xs:List Int} (h:∀x∈xs,-1099511627776<=x/\x<=1099511627775):xs.all tI=true:=by
 rw[Wo];intro x hx;unfold tI inB;exact decide_eq_true (h x hx)
theorem O5:∀(b:List Int) (s:Int),(∀x∈b,okB x)->0<=s->s<=1000002->0<=b.foldl rX s/\b.foldl rX s<=1000002
 |[],s,_,h0,h1=>⟨h0,h1⟩
 |x::b,s,hb,h0,h1=>by
  have hx:=hb x V6;unfold okB at hx
  have:0<=rX s x/\rX s x<=1000002:=by
   unfold rX;rw[aE (n:=257*s) (by omega) (by omega),aE (n:=x) (by omega) (by omega),aE (n:=257*s+x) (by omega) (by omega),aE (n:=257*s+x+1) (by omega) (by omega),Int.tmod_eq_emod_of_nonneg (by omega)];omega
  exact O5 b _ (λy hy=>hb y (VY _ hy)) this.1 this.2
theorem QK (b:List Int) (hb:∀x∈b,okB x):0<=zc b/\zc b<=1099511627775:=by
 have:=O5 b 1 hb (by omega) (by omega);unfold zc;omega
theorem yU {k:Nat} {m:Model} (hk:400000<k) (ht:m.tot<=8100):ar (jW k m) λr=>(∀y∈r.1,okB y)/\r.1.length<=6000:=by
 have hM:=al;have no:ar (some (([]:List Int),false)) λr=>(∀y∈r.1,okB y)/\r.1.length<=6000:=ar.some ⟨λy hy=>absurd hy (by simp),by simp⟩;unfold jW;rw[rT (by omega) (by omega),aa];cases hm:eH m
 ·exact no
 have hmi:=Mi.1 hm;have hin:=Shape.ta hmi.1
 have hll:m.aC.length<=6:=by
  have:=hmi.2.1;unfold inB at this;have:=of_decide_eq_true this;omega
 have VN:=wD m.aC m.inp hmi.2.2
 have hw0:[m.inp.h,m.inp.w,m.inp.c,(m.aC.length:Int)].all tI=true:=tB λx hx=>by
  simp only[V0,XM,or_false]at hx
  rcases hx with rfl|rfl|rfl|rfl<;>omega
 simp only[VT,cond_false];rw[kZ (by simp;omega) (by simp;omega) hw0,aa];have hl0:=nw [m.inp.h,m.inp.w,m.inp.c,(m.aC.length:Int)];refine ar.iter (Inv:=λv:Int× List Int=>0<=v.1/\v.1<=m.aC.length/\(∀y∈v.2,okB y)/\(v.2.length:Int)<=40+60000*v.1) (m:=λv=>(m.aC.length-v.1).toNat) (λv next hv hx=>?_) k _ ⟨by simp,by simp,λy hy=>?_,by simp at hl0⊢;omega⟩ (by simp;omega)
 ·obtain⟨v1,v2,v3,v4⟩:=hv;unfold lV;refine ar.cond (λq=>?_) λ_=>?_
  ·have q:v.1<(m.aC.length:Int):=of_decide_eq_true q
   have hi:v.1.toNat<m.aC.length:=by omega
   rw[nc _ v1,aj hi,aa];generalize hl:m.aC[v.1.toNat]=l;have FE:l∈m.aC:=hl▸VV hi;obtain⟨s,hs⟩:=VN l FE;obtain⟨n1,n2,n3⟩:=Mk hs;have hlt:=kO av.tot FE
   have hmt:jj av.tot m.aC<=8100:=by simpa[Model.tot]using ht
   have hlw:l.weights.length+l.ny.length<=l.tot:=by unfold av.tot;omega
   have w1:[l.kind,l.out,l.size,l.step,l.mult,l.shift,l.zero,(l.weights.length:Int)].all tI=true:=tB λx hx=>by
    simp only[V0,XM,or_false]at hx
    rcases hx with rfl|rfl|rfl|rfl|rfl|rfl|rfl|rfl<;>omega
   have w2:l.weights.all tI=true:=tB λx hx=>by have:=n2 x hx;omega
   have w3:[(l.ny.length:Int)].all tI=true:=tB λx hx=>by
    simp only[V0,XM,or_false]at hx;subst hx;omega
   have w4:l.ny.all tI=true:=tB λx hx=>by have:=n3 x hx;omega
   have e1:=nw [l.kind,l.out,l.size,l.step,l.mult,l.shift,l.zero,(l.weights.length:Int)];have e2:=nw l.weights;have e3:=nw [(l.ny.length:Int)];have e4:=nw l.ny;simp only[VS,V5]at e1 e3
   rw[kZ (by simp;omega) (by simp only[VS,V5];omega) w1,aa,
    tX (by omega) (by simp only[VR];omega) w2,aa,
    kZ (by simp;omega) (by simp only[VR,VS,V5];omega) w3,aa,
    tX (by omega) (by simp only[VR];omega) w4,aa]
   refine hx _ ⟨?_,?_,?_,?_⟩ ?_
   ·simp only;rw[aE (n:=v.1+1) (by omega) (by omega)];omega
   ·simp only;rw[aE (n:=v.1+1) (by omega) (by omega)];omega
   ·intro y hy;simp only[Wh]at hy
    rcases hy with(((hy|hy)|hy)|hy)|hy
    ·exact v3 y hy
    ·exact tA w1 y hy
    ·exact tA w2 y hy
    ·exact tA w3 y hy
    ·exact tA w4 y hy
   ·simp only[VR];rw[aE (n:=v.1+1) (by omega) (by omega)];omega
   ·simp only;rw[aE (n:=v.1+1) (by omega) (by omega)];omega
  ·show ar ((xv k v.2).bind _) _;rw[Dx (by omega) (by omega),aa];have hs:=QK v.2 v3
   have w5:[zc v.2].all tI=true:=tB λx hx=>by
    simp only[V0,XM,or_false]at hx;subst hx;omega
   rw[kZ (by simp;omega) (by simp only[VS,V5];omega) w5,aa];refine ar.cond (λ_=>no) λq=>ar.some ⟨λy hy=>?_,?_⟩
   ·rcases Wh.1 hy with hy|hy
    ·exact v3 y hy
    ·exact tA w5 y hy
   ·have:=of_decide_eq_false q;show(v.2++tJ [zc v.2]).length<=6000;omega
 ·rcases Wh.1 hy with hy|hy
  ·simp only[V0,XM,or_false]at hy;unfold okB
   rcases hy with rfl|rfl|rfl<;>omega
  ·exact tA hw0 y hy
end
set_option maxRecDepth 100000
set_option maxHeartbeats 4000000
section
theorem ar.VO {R α β γ δ ε:Type} {B:(α->β->γ->δ->ε->Option R)->Option R} {K:α->β->γ->δ->ε->Option R} {Q:R->Prop} (P:α->β->γ->δ->ε->Prop) (hK:∀x y z u v,P x y z u v->ar (K x y z u v) Q)
  (hB:∀j:α->β->γ->δ->ε->Option R,(∀x y z u v,P x y z u v->ar (j x y z u v) Q)->ar (B j) Q):ar (Go.Proofs.Ev.bej B K) Q:=hB K hK
theorem ar.Vf {R α β γ δ ε ζ η:Type} {B:(α->β->γ->δ->ε->ζ->η->Option R)->Option R} {K:α->β->γ->δ->ε->ζ->η->Option R} {Q:R->Prop} (P:α->β->γ->δ->ε->ζ->η->Prop) (hK:∀x y z u v w t,P x y z u v w t->ar (K x y z u v w t) Q)
  (hB:∀j:α->β->γ->δ->ε->ζ->η->Option R,(∀x y z u v w t,P x y z u v w t->ar (j x y z u v w t) Q)->ar (B j) Q):ar (Go.Proofs.Ev.bej B K) Q:=hB K hK
theorem ar.TV {R α β γ:Type} {B:(α->β->γ->Option R)->Option R} {K:α->β->γ->Option R} {Q:R->Prop} (P:α->β->γ->Prop) (hK:∀x y z,P x y z->ar (K x y z) Q)
  (hB:∀j:α->β->γ->Option R,(∀x y z,P x y z->ar (j x y z) Q)->ar (B j) Q):ar (Go.Proofs.Ev.bej B K) Q:=hB K hK
section
variable {b:List Int} {k:Nat}
theorem kK (hb:b.length<=1048576) {R:Type} {Q:R->Prop} {c h kd a B0:Int} {K:Int->Int->Int->Int->Int->Option R} (hc:Cur b c) (hK:∀c h kd a b0,Cur b c->ar (K c h kd a b0) Q):
  ar ((b9 k b c h (40:Int)).bind λr32=>bej (λ(j40:Int->Int->Int->Int->Int->Option R)=>cond (r32.1) ((ag k b r32.2.1 r32.2.2 (3:Int)).bind λr33=>cond (r33.1==(0:Int)) ((az k b r33.2.1 r33.2.2 [(-1:Int),(3:Int),(4:Int),(200:Int),(201:Int)]).bind λr34=>(j40 r34.2.1 r34.2.2 kd r34.1 B0)) (cond (r33.1==(1:Int)) ((az k b r33.2.1 r33.2.2 [(-1:Int),(1000000:Int),(1000001:Int)]).bind λr35=>(j40 r35.2.1 r35.2.2 kd a r35.1)) (cond (r33.1==(2:Int)) ((az k b r33.2.1 r33.2.2 [(-1:Int),(6:Int)]).bind λr36=>(j40 r36.2.1 r36.2.2 r36.1 a B0)) ((j40 r33.2.1 r33.2.2 kd a B0))))) ((j40 r32.2.1 r32.2.2 kd a B0))) K) Q:=by
 refine(gw hb hc).bind λr32 hc1=>ar.VO (λc _ _ _ _=>Cur b c) (λc h kd a b0 hc=>hK c h kd a b0 hc) λj hj=>?_;refine ar.cond (λ_=>?_) λ_=>hj _ _ _ _ _ hc1;refine(aK hb hc1).bind λr33 ⟨_,hc2⟩=>?_;refine ar.cond (λ_=>(eS hb hc2 (by simp)).bind λr34 ⟨_,hc3⟩=>hj _ _ _ _ _ hc3) λ_=>?_;refine ar.cond (λ_=>(eS hb hc2 (by simp)).bind λr34 ⟨_,hc3⟩=>hj _ _ _ _ _ hc3) λ_=>?_;exact ar.cond (λ_=>(eS hb hc2 (by simp)).bind λr34 ⟨_,hc3⟩=>hj _ _ _ _ _ hc3) λ_=>hj _ _ _ _ _ hc2
theorem sq (hb:b.length<=1048576) (hk:10000<k) {c h:Int} (hc:Cur b c):ar (gp k b c h) λr=>r.1.tot<=8055/\Cur b r.2.1:=by
 unfold gp;refine(sn hb hc (by omega) (by omega)).bind λr1 ⟨ok1,hc1⟩=>(aK hb hc1).bind λr2 ⟨⟨p1,p2,_⟩,hc2⟩=>?_;have p2:=p2 (by omega);refine(Cz hb hk ok1 hc2 ?_).bind λr3 ⟨⟨_,l3,_⟩,hc3⟩=>ar.must rfl (ar.some ⟨l3,hc3⟩);rw[aE (by omega) (by omega)];omega
abbrev DV:=Int× Int× Int× List Step× Int× Int× Int× Int× Int× Int× Int× List Task× List Model× List Bool× List Request
def rtD (v:DV):Runtime:=⟨(⟨v.2.2.2.2.1,v.2.2.2.2.2.1,v.2.2.2.2.2.2.1,v.2.2.2.2.2.2.2.2.2.2.2.1,v.2.2.2.2.2.2.2.1,v.2.2.2.2.2.2.2.2.1,v.2.2.2.2.2.2.2.2.2.1,v.2.2.2.2.2.2.2.2.2.2.1⟩:ak),v.2.2.2.2.2.2.2.2.2.2.2.2.1,v.2.2.2.2.2.2.2.2.2.2.2.2.2.1,v.2.2.2.2.2.2.2.2.2.2.2.2.2.2⟩
structure SG (b:List Int) (n:Int) (v:DV):Prop where
 cur:Cur b v.2.1
 lo:0<=v.1
 hi:v.1<=400
 len:(v.2.2.2.1.length:Int)=v.1
 small:∀x∈v.2.2.2.1,cy x
 ok:qR (rtD v)
theorem pI (hk:20000000<=k) {n:Int} {R:Type} {Q:R->Prop} {v:DV} (hv:SG b n v) (hn:v.1<n) (h4:n<=400) {next:DV->Option R} (hx:∀w,SG b n w->(n-w.1).toNat<(n-v.1).toNat->ar (next w) Q) {c h:Int} (hc:Cur b c) {x:Step} (hs:cy x):
  ar (cond (Nat.ble (v.2.2.2.1.length+1) aU) ((fK k (rtD v) x).bind λr41=>next (i64.wrap (v.1+(1:Int)),c,h,v.2.2.2.1++[x],r41.2.1,r41.2.2.1,r41.2.2.2.1,r41.2.2.2.2.2.1,r41.2.2.2.2.2.2.1,r41.2.2.2.2.2.2.2.1,r41.2.2.2.2.2.2.2.2.1,r41.2.2.2.2.1,r41.2.2.2.2.2.2.2.2.2.1,r41.2.2.2.2.2.2.2.2.2.2.1,r41.2.2.2.2.2.2.2.2.2.2.2)) none) Q:=by
 have hM:=al;have hl:=hv.len;have h1:=hv.lo;have h2:=hv.hi;obtain⟨e,r',ok',_,_,hS,_⟩:=OU hk hv.ok hs;rw[hS,aa,aE (by omega) (by omega)];refine ar.ble (by omega) (hx _ ⟨hc,by simp only;omega,by simp only;omega,by simp only[VR,VS,V5];omega,λy hy=>?_,ok'⟩ (by simp only;omega))
 rcases Wh.1 hy with hy|hy
 ·exact hv.small y hy
 ·rw[WD.1 hy];exact hs
theorem TW (x:Int):okB (u8.wrap x):=by show 0<=x %256/\x %256<=255;omega
theorem B8 (hb:b.length<=1048576) (hk:20000000<=k) {c h n:Int} (hc:Cur b c) (hn:n<=400):ar (iN k b c h n) λr=>((∀x∈r.1,cy x)/\r.1.length<=400)/\Cur b r.2.1:=by
 have hM:=al;unfold iN;rw[nu (by omega),aa]
 have Ud:bf (uN 1 1)=true:=by decide
 rw[Ud];simp only[cond_true];refine ar.iter (Inv:=SG b n) (m:=λv=>(n-v.1).toNat) (λv next hv hx=>?_) k _ ⟨hc,by simp,by simp,by simp,λx hx=>absurd hx (by simp),KE Ud⟩ (by simp;omega);have h4:=hn;have nil0:∀{kd a b0:Int},cy ⟨kd,a,b0,[],⟨⟨0,0,0⟩,[]⟩⟩:=λ{kd a b0}=>⟨λy hy=>absurd hy (by simp),by simp,by show 0<=_;omega⟩;have inp0:∀{kd a b0:Int} {s:Shape} {data:List Int},data.length<=513->cy ⟨kd,a,b0,[],⟨s,data⟩⟩:=λ{kd a b0 s data} hd=>⟨λy hy=>absurd hy (by simp),by simp,by show data.length<=_;omega⟩;have dat0:∀{kd a b0:Int} {data:List Int},(∀y∈data,okB y)->data.length<=6000->cy ⟨kd,a,b0,data,⟨⟨0,0,0⟩,[]⟩⟩:=λ{kd a b0 data} hd hl=>⟨hd,by show data.length<=aU;omega,by show 0<=_;omega⟩;unfold jc;refine ar.cond (λq=>?_) λ_=>ar.must (by first|rfl|trivial) (ar.some ⟨⟨hv.small,by have:=hv.len;have:=hv.hi;simp only;omega⟩,hv.cur⟩);have q:v.1<n:=of_decide_eq_true q;refine(eS hb hv.cur (by simp)).bind λr2 ⟨_,hc2⟩=>(aK hb hc2).bind λr3 ⟨⟨a1,a2,_⟩,hc3⟩=>?_;have a2:=a2 (by omega);refine ar.cond (λ_=>?_) λ_=>?_
 ·refine(eS hb hc3 (by simp)).bind λr4 ⟨_,hc4⟩=>?_;refine ar.TV (λc _ _=>Cur b c) (λc h a hc=>kK hb hc λc h kd a b0 hc=>pI hk hv q h4 hx hc nil0) λj53 hj53=>?_;refine ar.Vf (λc _ _ _ _ _ data=>Cur b c/\data.length<=513) (λc h b0 s1 s2 s3 data ⟨hc,hd⟩=>kK hb hc λc h kd a b0 hc=>pI hk hv q h4 hx hc (inp0 hd)) λj42 hj42=>?_;refine ar.TV (λc _ data=>Cur b c/\(∀y∈data,okB y)/\data.length<=6000) (λc h data ⟨hc,hd,hl⟩=>kK hb hc λc h kd a b0 hc=>pI hk hv q h4 hx hc (dat0 hd hl)) λj31 hj31=>?_;refine ar.cond (λ_=>?_) λ_=>?_
  ·refine(sq hb (by omega) hc4).bind λr5 ⟨t5,hc5⟩=>(yU (by omega) (by omega)).bind λr6 ⟨o6,l6⟩=>(gw hb hc5).bind λr7 hc7=>?_;refine ar.cond (λ_=>?_) λ_=>hj31 _ _ _ ⟨hc7,o6,l6⟩;refine ar.cond (λq2=>?_) λ_=>hj31 _ _ _ ⟨hc7,o6,l6⟩;have q2:(r6.1.length:Int)>0:=of_decide_eq_true q2;refine(aK hb hc7).bind λr8 ⟨⟨p1,p2,_⟩,hc8⟩=>(aK hb hc8).bind λr9 ⟨_,hc9⟩=>ar.must ⟨p1,p2 (by omega)⟩ (hj31 _ _ _ ⟨hc9,λy hy=>?_,by rw[Wx];exact l6⟩)
   rcases Xo hy with hy|rfl
   ·exact o6 y hy
   ·exact TW _
  refine ar.cond (λ_=>?_) λ_=>?_
  ·refine(aK hb hc4).bind λr11 ⟨_,hc11⟩=>?_;have hml:v.2.2.2.2.2.2.2.2.2.2.2.2.1.length=4:=hv.ok.ml
   have hi:r3.1.toNat<v.2.2.2.2.2.2.2.2.2.2.2.2.1.length:=by omega
   refine ar.must (by omega) ?_;rw[On hi,aa];refine(iO hb (by omega) hc11).bind λr13 ⟨⟨_,t13⟩,hc13⟩=>(gw hb hc13).bind λr14 hc14=>?_;refine ar.cond (λ_=>(qT hb (by omega) hc14).bind λr15 ⟨t15,hc15⟩=>hj42 _ _ _ _ _ _ _ ⟨hc15,t15⟩) λ_=>hj42 _ _ _ _ _ _ _ ⟨hc14,?_⟩;have:=Shape.EU (v.2.2.2.2.2.2.2.2.2.2.2.2.1[r3.1.toNat]'hi).inp;omega
  refine ar.cond (λ_=>?_) λ_=>?_
  ·refine(aK hb hc4).bind λr17 ⟨_,hc17⟩=>ar.cond (λq2=>?_) λ_=>hj53 _ _ _ hc17;have q2:=of_decide_eq_true q2;refine(gw hb hc17).bind λr18 hc18=>ar.cond (λ_=>?_) λ_=>hj53 _ _ _ hc18;refine(aK hb hc18).bind λr19 ⟨⟨p1,p2,_⟩,hc19⟩=>?_;have p2:=p2 (by omega);refine ar.must ⟨p1,p2⟩ ?_;rw[On (show r19.1.toNat<_ by omega),aa];exact hj53 _ _ _ hc19
  refine ar.cond (λ_=>(aK hb hc4).bind λr ⟨_,hc5⟩=>hj53 _ _ _ hc5) λ_=>?_;exact ar.cond (λ_=>(aK hb hc4).bind λr ⟨_,hc5⟩=>hj53 _ _ _ hc5) λ_=>hj53 _ _ _ hc4
 ·refine(gw hb hc3).bind λr64 hc64=>ar.TV (λc _ _=>Cur b c) (λc4 h4' kd hc4=>?_) λj66 hj66=>ar.cond (λ_=>(eS hb hc64 (by simp)).bind λr65 ⟨_,hc65⟩=>hj66 _ _ _ hc65) λ_=>hj66 _ _ _ hc64;refine ar.TV (λc _ _=>Cur b c) (λc h a hc=>kK hb hc λc h kd a b0 hc=>pI hk hv q h4 hx hc nil0) λj53 hj53=>?_;refine ar.Vf (λc _ _ _ _ _ data=>Cur b c/\data.length<=513) (λc h b0 s1 s2 s3 data ⟨hc,hd⟩=>kK hb hc λc h kd a b0 hc=>pI hk hv q h4 hx hc (inp0 hd)) λj42 hj42=>?_;refine ar.TV (λc _ data=>Cur b c/\(∀y∈data,okB y)/\data.length<=6000) (λc h data ⟨hc,hd,hl⟩=>kK hb hc λc h kd a b0 hc=>pI hk hv q h4 hx hc (dat0 hd hl)) λj31 hj31=>?_;refine ar.cond (λ_=>?_) λ_=>?_
  ·refine(sq hb (by omega) hc4).bind λr5 ⟨t5,hc5⟩=>(yU (by omega) (by omega)).bind λr6 ⟨o6,l6⟩=>(gw hb hc5).bind λr7 hc7=>?_;refine ar.cond (λ_=>?_) λ_=>hj31 _ _ _ ⟨hc7,o6,l6⟩;refine ar.cond (λq2=>?_) λ_=>hj31 _ _ _ ⟨hc7,o6,l6⟩;have q2:(r6.1.length:Int)>0:=of_decide_eq_true q2;refine(aK hb hc7).bind λr8 ⟨⟨p1,p2,_⟩,hc8⟩=>(aK hb hc8).bind λr9 ⟨_,hc9⟩=>ar.must ⟨p1,p2 (by omega)⟩ (hj31 _ _ _ ⟨hc9,λy hy=>?_,by rw[Wx];exact l6⟩)
   rcases Xo hy with hy|rfl
   ·exact o6 y hy
   ·exact TW _
  refine ar.cond (λ_=>?_) λ_=>?_
  ·refine(aK hb hc4).bind λr11 ⟨_,hc11⟩=>?_;have hml:v.2.2.2.2.2.2.2.2.2.2.2.2.1.length=4:=hv.ok.ml
   have hi:r3.1.toNat<v.2.2.2.2.2.2.2.2.2.2.2.2.1.length:=by omega
   refine ar.must (by omega) ?_;rw[On hi,aa];refine(iO hb (by omega) hc11).bind λr13 ⟨⟨_,t13⟩,hc13⟩=>(gw hb hc13).bind λr14 hc14=>?_;refine ar.cond (λ_=>(qT hb (by omega) hc14).bind λr15 ⟨t15,hc15⟩=>hj42 _ _ _ _ _ _ _ ⟨hc15,t15⟩) λ_=>hj42 _ _ _ _ _ _ _ ⟨hc14,?_⟩;have:=Shape.EU (v.2.2.2.2.2.2.2.2.2.2.2.2.1[r3.1.toNat]'hi).inp;omega
  refine ar.cond (λ_=>?_) λ_=>?_
  ·refine(aK hb hc4).bind λr17 ⟨_,hc17⟩=>ar.cond (λq2=>?_) λ_=>hj53 _ _ _ hc17;have q2:=of_decide_eq_true q2;refine(gw hb hc17).bind λr18 hc18=>ar.cond (λ_=>?_) λ_=>hj53 _ _ _ hc18;refine(aK hb hc18).bind λr19 ⟨⟨p1,p2,_⟩,hc19⟩=>?_;have p2:=p2 (by omega);refine ar.must ⟨p1,p2⟩ ?_;rw[On (show r19.1.toNat<_ by omega),aa];exact hj53 _ _ _ hc19
  refine ar.cond (λ_=>(aK hb hc4).bind λr ⟨_,hc5⟩=>hj53 _ _ _ hc5) λ_=>?_;exact ar.cond (λ_=>(aK hb hc4).bind λr ⟨_,hc5⟩=>hj53 _ _ _ hc5) λ_=>hj53 _ _ _ hc4
theorem Ju (hb:b.length<=1048576) (hk:b.length+20000000<=k):ar (qu k b) λr=>(∀x∈r.1.2.2.2,cy x)/\r.1.2.2.2.length<=400:=by
 have hM:=al;unfold qu;refine(OD hb (by omega)).bind λr1 hc1=>(size_eq hb k (by omega) (by omega)).bind λr2 ⟨h20,h21⟩=>(aK hb hc1).bind λr3 ⟨⟨_,h3,_⟩,hc3⟩=>?_;have h3:=h3 (by omega);refine(B8 hb (by omega) hc3 (by omega)).bind λr4 ⟨⟨s4,l4⟩,hc4⟩=>(gw hb hc4).bind λr5 hc5=>?_
 have fin:∀{c h:Int} {xs:List Step},Cur b c->(∀x∈xs,cy x)->xs.length<=400->ar ((az k b c h [(0:Int),(1:Int),(3:Int),(3:Int),(-1:Int)]).bind λr8=>(az k b r8.2.1 r8.2.2 [(0:Int),(1:Int),(2:Int),(21:Int)]).bind λr9=>cond (decide (b=b)) (some (((),r8.1,r9.1,xs),r9.2.1,r9.2.2)) none) λr=>(∀x∈r.1.2.2.2,cy x)/\r.1.2.2.2.length<=400:=λhc hs hl=>
  (eS hb hc (by simp)).bind λr8 ⟨_,hc8⟩=>(eS hb hc8 (by simp)).bind λr9 _=>ar.must rfl (ar.some ⟨hs,hl⟩)
 refine ar.cond (λ_=>?_) λ_=>fin hc5 s4 l4;refine ar.iter (Inv:=λv:Int× Int× List Step=>Cur b v.1/\(∀x∈v.2.2,cy x)/\v.2.2.length<=400) (m:=λv=>500-v.2.2.length) (λv next hv hx=>?_) k _ ⟨hc5,s4,l4⟩ (by simp only;omega);obtain⟨v1,v2,v3⟩:=hv;unfold oS;refine(aK hb v1).bind λr6 ⟨⟨p1,p2,_⟩,hc6⟩=>?_;have p2:=p2 (by omega);refine ar.cond (λq=>?_) λ_=>fin hc6 v2 v3;have q:=of_decide_eq_true q;rw[aE (by omega) (by omega)]at q;refine ar.ble (by omega) (hx _ ⟨hc6,λy hy=>?_,by simp only[VR,VS,V5];omega⟩ (by simp only[VR,VS,V5];omega))
 rcases Wh.1 hy with hy|hy
 ·exact v2 y hy
 ·rw[WD.1 hy];exact⟨λy hy=>absurd hy (by simp),by simp,by show 0<=_;omega⟩
end
end
set_option maxRecDepth 100000
set_option maxHeartbeats 4000000
section
def sr (E:List Entry):List Int:=(E.filter λy=>y.done&&decide (y.end_>y.due)).map (·.id)
theorem CA {k:Nat} {a b:Int} {xs:List Step} {E:List Entry} (hE:E.length<=1000) (hk:20000000<=k) (h:fU k a b xs=some E):qv k a b xs=some (sr E):=by
 have hM:=al;unfold qv;rw[h,aa];refine fk E (λy=>y.done&&decide (y.end_>y.due)) (·.id) (g:=λu4 n4=>iF k ((E.length:Int),E) u4 n4 (λy3=>some y3)) (fin:=some) (λi ys hi next hy=>?_) (λys next=>?_) (by omega)
 ·have hd:decide (0<=(i:Int)/\(i:Int)<(E.length:Int))=true:=decide_eq_true (by omega);simp only[iF,hd,cond_true,VQ,aj hi,aa];rw[decide_eq_true (by omega),cond_true,bJ (by simp;omega),aq hi (by omega)];cases E[i].done<;>cases decide (E[i].end_>E[i].due)<;>rfl
 ·simp only[iF];rw[ab,if_neg (by omega)]
theorem CB {k:Nat} {a b:Int} {xs:List Step} {E:List Entry} (hE:E.length<=1000) (hk:20000000<=k) (h:kC k a b xs=some E):qw k a b xs=some (sr E):=by
 have hM:=al;unfold qw;rw[h,aa];refine fk E (λy=>y.done&&decide (y.end_>y.due)) (·.id) (g:=λu4 n4=>iG k E u4 n4 (λy3=>some y3)) (fin:=some) (λi ys hi next hy=>?_) (λys next=>?_) (by omega)
 ·have hd:decide (0<=(i:Int)/\(i:Int)<(E.length:Int))=true:=decide_eq_true (by omega);simp only[iG,hd,cond_true,VQ,aj hi,aa];rw[decide_eq_true (by omega),cond_true,bJ (by simp;omega),aq hi (by omega)];cases E[i].done<;>cases decide (E[i].end_>E[i].due)<;>rfl
 ·simp only[iG];rw[ab,if_neg (by omega)]
theorem Jv {k:Nat} {a b:Int} {xs:List Step} (hk:20000000<=k) (hs:∀x∈xs,cy x) {r:Runtime} {E:List Entry} {evs:List Event} (hst:xO r E evs xs.length) (hl:xs.length<=200) (h:nq k a b xs=some (r,evs,E,true)):
  jm k a b xs=some ((E.filter (jv a xs r.sched.now)).map (·.id)):=by
 have hM:=al;have hE:=hst.SE;have hf:=WJ (jv a xs r.sched.now) E;unfold jm;rw[qI hk hs hst hl h,aa];refine(qb (E.filter (jv a xs r.sched.now)) (·.id) (g:=λu4 n4=>cX k (((E.filter (jv a xs r.sched.now)).length:Int),E.filter (jv a xs r.sched.now)) u4 n4 (λy3=>some y3)) (fin:=some) (λi ys hi next hy=>?_) (λys next=>?_) (by omega))
 ·have hd:decide (0<=(i:Int)/\(i:Int)<((E.filter (jv a xs r.sched.now)).length:Int))=true:=decide_eq_true (by omega);simp only[cX,hd,cond_true,VQ,aj hi,aa];rw[decide_eq_true (by omega),cond_true,bJ (by simp;omega),aq hi (by omega)]
 ·simp only[cX];rw[ab,if_neg (by omega)]
theorem O6 {k:Nat} {a b:Int} {xs:List Step} (hk:20000000<=k) (hs:∀x∈xs,cy x) {r:Runtime} {E:List Entry} {evs:List Event} (hst:xO r E evs xs.length) (hl:xs.length<=200) (h:nq k a b xs=some (r,evs,E,true)) (hK:KeptAt a xs r E):
  fj k a b xs=some true:=by
 have hM:=al;have hE:=hst.SE;have hf:=WJ (jv a xs r.sched.now) E;have Mq:=KJ hK;unfold fj;rw[qI hk hs hst hl h,aa];refine(kN (E.filter (jv a xs r.sched.now)) (λ_=>true) (g:=λu5 n5=>dA k (true,((E.filter (jv a xs r.sched.now)).length:Int),E.filter (jv a xs r.sched.now)) u5 n5 (λy3=>some true) (λy4=>some y4)) (yes:=some true) (no:=some false) (λi hi next=>?_) (λnext=>?_) (by omega)).trans (by rw[Wo.2 λ_ _=>rfl];rfl)
 ·have hd:decide (0<=(i:Int)/\(i:Int)<((E.filter (jv a xs r.sched.now)).length:Int))=true:=decide_eq_true (by omega);simp only[dA,hd,cond_true,VQ,aj hi,aa];rw[decide_eq_true (by omega),cond_true,aq hi (by omega)];obtain⟨m1,m2⟩:=Wz.1 (VV hi);have hk:=Mq _ m1 m2;unfold QG at hk;rw[VP]at hk;have:=of_decide_eq_true hk.2;rw[hk.1,decide_eq_false (by omega)];rfl
 ·simp only[dA];rw[ab,if_neg (by omega)]
theorem Ml {k:Nat} {xs:List Int} {x:Int} (hk:xs.length<k) (hl:xs.length<=1000) (h:x∉xs):zE k xs x=some false:=by
 unfold zE;refine(kN xs (λy=>!(y==x)) (g:=λu n=>nr k (xs,x) u n (λy=>some false) (λy=>some y)) (yes:=some false) (no:=some true) (λi hi next=>?_) (λnext=>?_) (by omega)).trans ?_
 ·simp only[nr];rw[decide_eq_true (by omega),cond_true,aL,aj hi,aa,aq hi (by omega)];cases(xs[i]==x)<;>rfl
 ·simp only[nr];rw[ab,if_neg (by omega)]
 ·rw[show(xs.all λy=>!(y==x))=true from Wo.2 λy hy=>by simp;exactλe=>h (e▸hy)];rfl
theorem QL {k:Nat} {e acc:List Event} {R:Type} {p:List Step× Int× List Event× Int× Int× Int× Int× Int× Int× Int× Int× Int× Int× Int× Int× Int× Int× List Request× List Task× List Model× List Bool× List Request} {fin:List Event->Option R}
  (hp:p.2.2.1=e) (hk:2000000<=k) (he:e.length<=1000) (ha:acc.length<=1000000):iter (λu n=>eQ k p u n fin) k ((0:Int),acc)=fin (acc++e):=by
 have hM:=al;subst hp
 have:=GU p.2.2.1 id acc (g:=λu n=>eQ k p u n fin) (fin:=fin) (λi ys hi next hy=>by
  simp only[eQ]
  rw[decide_eq_true (by omega),cond_true,aL,aj hi,aa,bJ (by omega),aq hi (by omega)];rfl) (λys next=>by
  simp only[eQ];rw[ab,if_neg (by omega)]) (k:=k) (by omega)
 rwa [List.map_id]at this
theorem HC {k:Nat} (hk:20000000<=k) {steps:List Step} (hs:∀x∈steps,cy x) (hl:steps.length<=200) {a1 a2 a3 a4 a5 a6 a7:Int}:∀(qs pre:List Step) (r:Runtime) (evs:List Event),steps=pre++qs->qR r->evs.length<=1000*pre.length->
  ∃(r':Runtime) (evs':List Event),∀{R:Type} {fin:_->Option R} {kf:Nat},qs.length<kf->iter (λu8 n8=>dS k (steps,a1,a2,a3,a4,a5,a6,a7,[]) u8 n8 fin) kf ((pre.length:Int),r.sched.now,r.sched.ai,r.sched.age,r.sched.run,r.sched.left,r.sched.turns,r.sched.next,evs,r.sched.tasks,r.ao,r.au,r.ae)=fin (r'.sched.now,r'.sched.ai,r'.sched.age,r'.sched.run,r'.sched.left,r'.sched.turns,r'.sched.next,evs',r'.sched.tasks,r'.ao,r'.au,r'.ae)
 |[],pre,r,evs,hp,h,hv=>by
  have hlen:steps.length=pre.length:=by rw[hp];simp
  refine⟨r,evs,λ{R} {fin} {kf} hkf=>?_⟩;obtain⟨kf,rfl⟩:∃m,kf=m+1:=⟨kf-1,by simp at hkf;omega⟩;rw[aI];show dS k _ _ _ fin=_;unfold dS;simp only
  rw[decide_eq_false (by omega)];rfl
 |x::qs,pre,r,evs,hp,h,hv=>by
  have hM:=al
  have hlen:steps.length=pre.length+(qs.length+1):=by rw[hp];simp
  have hat:idx steps (pre.length:Int)=some x:=by rw[aL,hp];simp
  obtain⟨e,r',h',he,ht,e1,e2⟩:=OU hk h (hs x (by rw[hp];simp))
  have hw:i64.wrap ((pre.length:Int)+1)=((pre++[x]).length:Int):=by rw[aE (by omega) (by omega),VR];rfl
  obtain⟨r2,evs2,g⟩:=HC hk hs hl (a1:=a1) (a2:=a2) (a3:=a3) (a4:=a4) (a5:=a5) (a6:=a6) (a7:=a7) qs (pre++[x]) r' (evs++e) (by rw[hp];simp) h' (by simp only[VR,VS,V5];omega);refine⟨r2,evs2,λ{R} {fin} {kf} hkf=>?_⟩;obtain⟨kf,rfl⟩:∃m,kf=m+1:=⟨kf-1,by simp at hkf;omega⟩;rw[aI,<-g (fin:=fin) (kf:=kf) (by simp at hkf;omega)]
  have st:∀next,dS k (steps,a1,a2,a3,a4,a5,a6,a7,[]) ((pre.length:Int),r.sched.now,r.sched.ai,r.sched.age,r.sched.run,r.sched.left,r.sched.turns,r.sched.next,evs,r.sched.tasks,r.ao,r.au,r.ae) next fin=next (((pre++[x]).length:Int),r'.sched.now,r'.sched.ai,r'.sched.age,r'.sched.run,r'.sched.left,r'.sched.turns,r'.sched.next,evs++e,r'.sched.tasks,r'.ao,r'.au,r'.ae):=λnext=>by
   unfold dS;simp only;rw[decide_eq_true (by omega),cond_true,hat,aa,show(⟨⟨r.sched.now,r.sched.ai,r.sched.age,r.sched.tasks,r.sched.run,r.sched.left,r.sched.turns,r.sched.next⟩,r.ao,r.au,r.ae⟩:Runtime)=r from rfl,e1,aa,hw];exact QL rfl (by omega) he (by omega)
  exact st _
theorem O7 {k:Nat} (hk:20000000<=k) {a b:Int} {xs:List Step} (hs:∀x∈xs,cy x):∃(r:Runtime) (evs:List Event),mx k a b xs=some (r,evs,bf (uN a b)&&decide (xs.length<=200)):=by
 unfold mx;rw[nu (by omega),aa];cases c:bf (uN a b)
 ·exact⟨_,_,rfl⟩
 simp only[cond_true,VT,cond_false,VZ];by_cases c2:(xs.length:Int)>200
 ·rw[decide_eq_true c2,decide_eq_false (show¬xs.length<=200 by omega)];exact⟨_,_,rfl⟩
 rw[decide_eq_false c2,decide_eq_true (show xs.length<=200 by omega)];obtain⟨r,evs,g⟩:=HC hk hs (by omega) (a1:=0) (a2:=0) (a3:=0) (a4:=0) (a5:=0) (a6:=0) (a7:=0) xs [] (rt0 (uN a b)) [] rfl (KE c) (by simp);exact⟨_,_,g (by omega)⟩
end
set_option maxRecDepth 100000
set_option maxHeartbeats 4000000
section
theorem B9 (code:List Int) (hb:okS okB code):∃k,jn k code=some true:=by
  suffices h:∀k,code.length+20000000<=k->jn k code=some true from⟨_,h _ (Wc _)⟩
  intro k hk0;have hM:=al;unfold jn Sj;rw[aa];by_cases c:(code.length:Int)>1048576
  · rw[decide_eq_true c];rfl
  rw[decide_eq_false c,cond_false];unfold jX kF;obtain⟨⟨⟨⟨⟩,a,b,xs⟩,c1,c2⟩,e,hsm,hlen⟩:=Ju (b:=code) (by omega) (k:=k) (by omega);simp only at hsm hlen;rw[e];simp only[aa]
  have hk:20000000<=k:=by omega
  obtain⟨rp,ep,hp⟩:=O7 hk (a:=a) (b:=b) hsm;rw[hp,aa]
  rcases BV hk hsm (a:=a) (b:=b) (Q:=KeptAt a) (λpre x r r' E E1 evs e h1 h2 h3 h4 h5=>O1 pre x r r' E E1 evs e h1 h2 h3 h4 h5) Mh with⟨_,h2,_,hf⟩|⟨r,E,evs,hst,hl,⟨hK,Ud⟩,h1,h2⟩
  · rw[hf];simp only[Wj,cond_true]
    have:fj k a b xs=some false:=by
      unfold fj kE;rw[h2,aa];obtain⟨k,rfl⟩:∃m,k=m+1:=⟨k-1,by omega⟩;rw[aI];show(ek (k+1) _ _ _ _).bind _=_;simp only[ek,Rh];rw[decide_eq_false (by simp),cond_false,aa,aI];show dA (k+1) _ _ _ _ _=_;simp only[dA];rw[decide_eq_false (by simp),cond_false]
    rw[this];rfl
  · rw [Ud, decide_eq_true hl];simp only[Bool.and_self,VT,cond_false];have hE:=hst.SE;have q1:=Jv hk hsm hst hl h2;obtain⟨E',_,s1,s2⟩:=yO hk hsm (a:=a) (b:=b)
    have hEE:E'=E:=by
      unfold fU at s2;rw[h2]at s2;exact(WR s2).symm
    subst hEE;have q2:=CA (show E'.length<=1000 by omega) hk s2;have q3:=CB (show E'.length<=1000 by omega) hk s1;obtain⟨o,ol,t1,t2⟩:=BW hk (a:=a) (b:=b) hsm
    have ho:o=(E'.filter (jv a xs r.sched.now)).map (·.id):=by rw[q1]at t2;exact(WR t2).symm
    subst ho;have q4:=O6 hk hsm hst hl h2 hK;obtain⟨w,wl,u1,u2,E2,v1,v2⟩:=Hx hk (a:=a) (b:=b) hsm
    have hll:(sr E').length<=E'.length:=by unfold sr;rw[Xz];exact WJ _ _
    rw[q1,aa,q2,aa,t1,aa,BO (by omega) (by omega),aa];simp only[VT,cond_false];rw[q3,aa,BO (by omega) (by omega),aa];simp only[VT,cond_false];rw[q4,aa];simp only[VT,cond_false]
    have hwl:w.length<=E'.length:=by rw[s2]at v1;rw[WR v1];exact v2
    have hpl:((E'.filter (jv a xs r.sched.now)).map (·.id)).length<=E'.length:=by rw[Xz];exact WJ _ _
    have key:∀fin:Unit->Option Bool,fin ()=some true->iter (λu20 n20=>eG k (a,b,xs,(E'.filter (jv a xs r.sched.now)).map (·.id),sr E') u20 n20 fin (λy19=>some y19)) k (0:Int)=some true:=λfin SL=>by
      refine(kN (sr E') (λ_=>true) (yes:=some true) (no:=some false) (λi hi next=>?_) (λnext=>?_) (k:=k) (by omega)).trans (by rw[Wo.2 λ_ _=>rfl];rfl)
      · have hd:decide (0<=(i:Int)/\(i:Int)<((sr E').length:Int))=true:=decide_eq_true (by omega);simp only[eG,hd,cond_true,VQ,aj hi,aa];rw[decide_eq_true (by omega),cond_true,Ml (by omega) (by omega) ?_,aa,aq hi (by omega)]
        · rfl
        · intro hm;obtain⟨y,hy,ey⟩:=XG.1 hm;obtain⟨m1,m2⟩:=Wz.1 hy;have hz:=VV hi;unfold sr at hz;obtain⟨z,hz,ez⟩:=XG.1 hz;obtain⟨n1,n2⟩:=Wz.1 hz;have:=xP hst.nv m1 n1 (by rw[ey,ez];rfl);subst this;have hk:=KJ hK y m1 m2;unfold QG at hk;rw[VP]at hk n2;have:=of_decide_eq_true hk.2;have:=of_decide_eq_true n2.2;omega
      · simp only[eG];rw[ab,if_neg (by omega)];exact SL
    refine key _ ?_;rw[s2,aa,u2,aa,decide_eq_true (by omega),cond_true,decide_eq_true (by omega),cond_true,u1,aa,BO (xs:=w) (by omega) (by omega)];rfl
end
end Go.Proofs.Ev
