/- Typed functions and what holds of them: part 3. -/
import Derived.Test.YtimmojehndbiiaaGreatEvL2
import Derived.KernelRfl
set_option linter.unusedVariables false
set_option linter.unusedSimpArgs false
set_option linter.unusedSectionVars false
namespace Go.Proofs.Ev
open IntKind(i64 u8 u64)
set_option maxRecDepth 100000
section
theorem aj.bej {A R:Type} {B:A->Option R} {K:A} {Q:R->Prop} (h:aj (B K) Q):aj (bej B K) Q:=h
theorem aj.Jy {R α:Type} {B:(α->Option R)->Option R} {K:α->Option R} {Q:R->Prop} (P:α->Prop) (hK:∀x,P x->aj (K x) Q) (hB:∀j:α->Option R,(∀x,P x->aj (j x) Q)->aj (B j) Q):aj (Go.Proofs.Ev.bej B K) Q:=hB K hK
theorem aj.J1 {R α β γ:Type} {B:(α->β->γ->Option R)->Option R} {K:α->β->γ->Option R} {Q:R->Prop} (P:α->β->γ->Prop) (hK:∀x y z,P x y z->aj (K x y z) Q) (hB:∀j:α->β->γ->Option R,(∀x y z,P x y z->aj (j x y z) Q)->aj (B j) Q):aj (Go.Proofs.Ev.bej B K) Q:=hB K hK
theorem aj.J2 {R α β γ δ:Type} {B:(α->β->γ->δ->Option R)->Option R} {K:α->β->γ->δ->Option R} {Q:R->Prop} (P:α->β->γ->δ->Prop) (hK:∀x y z u,P x y z u->aj (K x y z u) Q) (hB:∀j:α->β->γ->δ->Option R,(∀x y z u,P x y z u->aj (j x y z u) Q)->aj (B j) Q):aj (Go.Proofs.Ev.bej B K) Q:=hB K hK
theorem aj.of {α β:Type} {a:α} {f:α->Option β} {Q:β->Prop} (h:aj (f a) Q):aj ((Option.some a).bind f) Q:=h
theorem Shape.nc {s:Shape}:s.okB=true↔(1<=s.h/\s.h<=8)/\(1<=s.w/\s.w<=8)/\(1<=s.c/\s.c<=8):=by
 unfold Shape.okB;simp only[J8,bC]
theorem Shape.lE (s:Shape):0<=s.size/\s.size<=512:=by
 unfold Shape.size;cases h:s.okB
 ·simp
 ·obtain⟨⟨a1,a2⟩,⟨b1,b2⟩,c1,c2⟩:=Shape.nc.1 h;simp only[cond_true];have h1:0<=s.h*s.w:=KM (by omega) (by omega);have h2:s.h*s.w<=8*8:=K7 a2 b2 (by omega) (by omega);refine⟨KM h1 (by omega),?_⟩;have h3:s.h*s.w*s.c<=64*8:=K7 (by omega) c2 (by omega) (by omega);omega
theorem Shape.size_pos {s:Shape} (h:s.okB=true):1<=s.size:=by
 unfold Shape.size;rw[h];obtain⟨⟨a1,a2⟩,⟨b1,b2⟩,c1,c2⟩:=Shape.nc.1 h;simp only[cond_true];have h1:0<s.h*s.w:=Int.mul_pos (by omega) (by omega);have h2:0<s.h*s.w*s.c:=Int.mul_pos h1 (by omega);omega
section
variable {b:List Int} {k:Nat}
theorem lF (hb:b.length<=1048576) {i h m:Int} (hc:Cur b i) (h0:1<=m) (h1:m<=8):aj (cF k b i h m) λr=>r.1.okB=true/\Cur b r.2.1:=by
 unfold cF;refine(az hb hc).bind λr1 ⟨⟨p1,p2,_⟩,hc1⟩=>(az hb hc1).bind λr2 ⟨⟨q1,q2,_⟩,hc2⟩=>(az hb hc2).bind λr3 ⟨⟨u1,u2,_⟩,hc3⟩=>aj.must rfl (aj.some ⟨?_,hc3⟩);have p2:=p2 (by omega);have q2:=q2 (by omega);have u2:=u2 (by omega);refine Shape.nc.2 ?_;simp only;rw[aH (n:=1+r1.1) (by omega) (by omega),aH (n:=1+r2.1) (by omega) (by omega),aH (n:=1+r3.1) (by omega) (by omega)];omega
theorem mC (hb:b.length<=1048576) {i h:Int} (hc:Cur b i):aj (dg k b i h) λr=>(-128<=r.1/\r.1<=127)/\Cur b r.2.1:=by
 unfold dg;refine(az hb hc).bind λr1 ⟨⟨p1,p2,_⟩,hc1⟩=>(az hb hc1).bind λr2 ⟨⟨q1,q2,_⟩,hc2⟩=>(fo hb hc2 (by simp)).bind λr3 ⟨h3,hc3⟩=>aj.must rfl (aj.some ⟨?_,hc3⟩);have p2:=p2 (by omega);have q2:=q2 (by omega);rw[aH (n:=r1.1-128) (by omega) (by omega),aH (n:=r2.1-128) (by omega) (by omega)]at h3;simp only[Kq,List.not_mem_nil,or_false]at h3;omega
theorem fY (hb:b.length<=1048576) (hk:1000<k) {i h:Int} {s:Shape} (hc:Cur b i):aj (bd k b i h s) λr=>(r.1.sh=s/\(r.1.data.length:Int)=s.size)/\Cur b r.2.1:=by
 have hM:=aL;have hs:=s.lE;unfold bd;refine aj.iter (Inv:=λv:Int× Int× Int× List Int=>Cur b v.2.1/\0<=v.1/\v.1<=s.size/\(v.2.2.2.length:Int)=v.1) (m:=λv=>(s.size-v.1).toNat) (λv next hv hn=>?_) k _ ⟨hc,by simp;omega⟩ (by simp only;omega);obtain⟨v1,v2,v3,v4⟩:=hv;unfold dz;rw[dZ];refine aj.of (aj.cond (λh1=>?_) λh1=>aj.must rfl (aj.some ⟨⟨rfl,?_⟩,v1⟩))
 ·have h1:v.1<s.size:=of_decide_eq_true h1;refine(mC hb v1).bind λr2 ⟨_,hc2⟩=>aj.ble (by simp;omega) (hn _ ⟨hc2,?_⟩ ?_)
  ·simp only[Kt,Kl,KF];rw[aH (n:=v.1+1) (by omega) (by omega)];omega
  ·simp only;rw[aH (n:=v.1+1) (by omega) (by omega)];omega
 ·have h1:¬v.1<s.size:=of_decide_eq_false h1;simp only;omega
theorem kF (hb:b.length<=1048576) (hk:1000<k) {i h:Int} (hc:Cur b i):aj (cG k b i h) λr=>r.1.data.length<=513/\Cur b r.2.1:=by
 have hM:=aL;unfold cG;refine(lF hb hc (by omega) (by omega)).bind λr1 ⟨ok1,hc1⟩=>(fY hb hk hc1).bind λr2 ⟨⟨e2,l2⟩,hc2⟩=>(gH hb hc2).bind λr3 hc3=>?_;have hs:=r1.1.lE;have hp:=Shape.size_pos ok1;refine aj.cond (λ_=>(az hb hc3).bind λr4 ⟨_,hc4⟩=>?_) λ_=>aj.must rfl (aj.some ⟨by simp only;omega,hc3⟩);refine aj.cond (λ_=>?_) λ_=>aj.cond (λ_=>?_) λ_=>aj.cond (λ_=>?_) λ_=>aj.cond (λ_=>?_) λ_=>?_
 ·exact(fo hb hc4 (by simp)).bind λr5 ⟨_,hc5⟩=>aj.must rfl (aj.some ⟨by simp only;omega,hc5⟩)
 ·exact aj.ble (by simp;omega) (aj.must rfl (aj.some ⟨by simp;omega,hc4⟩))
 ·refine(az hb hc4).bind λr6 ⟨⟨a1,a2,_⟩,hc6⟩=>(fo hb hc6 (by simp)).bind λr7 ⟨_,hc7⟩=>aj.must ⟨a1,a2 (by omega)⟩ (aj.must rfl (aj.some ⟨by simp;omega,hc7⟩))
 ·exact(fY hb hk hc4).bind λr8 ⟨⟨e8,l8⟩,hc8⟩=>aj.must rfl (aj.some ⟨by have:=(⟨8,8,8⟩:Shape).lE;simp only;omega,hc8⟩)
 ·exact aj.must rfl (aj.some ⟨by simp only;omega,hc4⟩)
end
end
set_option maxRecDepth 100000
section
section
variable {b:List Int} {k:Nat}
theorem xk (hb:b.length<=1048576) (hk:2000<k) {R:Type} {Q:R->Prop} {fin:(Int× Int× List Int)->Option R} {p:Int× List Int× Int× Int× Int× Int× Int× Int× Int× Int× Int× Int× Int× Int× Int× Int} (hp:p.2.1=b) (h0:0<=p.1) (h1:p.1<=1600) {c h:Int} (hc:Cur b c)
  (hf:∀c' h' ws,Cur b c'->(ws.length:Int)<=1600->aj (fin (c',h',ws)) Q):aj (iter (λu n=>aZ k p u n fin) k ((0:Int),c,h,([]:List Int))) Q:=by
 have hM:=aL;refine aj.iter (Inv:=λv:Int× Int× Int× List Int=>Cur b v.2.1/\0<=v.1/\v.1<=p.1/\(v.2.2.2.length:Int)=v.1) (m:=λv=>(p.1-v.1).toNat) (λv next hv hn=>?_) k _ ⟨hc,by simp;omega⟩ (by simp only;omega);obtain⟨v1,v2,v3,v4⟩:=hv;unfold aZ;rw[hp];refine aj.cond (λq=>?_) λq=>hf _ _ _ v1 (by omega);have q:v.1<p.1:=of_decide_eq_true q;refine(mC hb v1).bind λr2 ⟨_,hc2⟩=>aj.ble (by simp;omega) (hn _ ⟨hc2,?_⟩ ?_)
 ·simp only[Kt,Kl,KF];rw[aH (n:=v.1+1) (by omega) (by omega)];omega
 ·simp only;rw[aH (n:=v.1+1) (by omega) (by omega)];omega
theorem Ec (hb:b.length<=1048576) (hk:2000<k) {R:Type} {Q:R->Prop} {fin:(Int× Int× List Int)->Option R} {p:List Int× Int× Int× Int× Int× Int× Int× Int× Int× Int× Int× Int× Int× Int× Int× List Int} (hp:p.1=b) (h0:0<=p.2.2.2.2.2.2.2.2.2.1) (h1:p.2.2.2.2.2.2.2.2.2.1<=3) {c h:Int} (hc:Cur b c)
  (hf:∀c' h' ws,Cur b c'->(ws.length:Int)<=3->aj (fin (c',h',ws)) Q):aj (iter (λu n=>ba k p u n fin) k ((0:Int),c,h,([]:List Int))) Q:=by
 have hM:=aL;refine aj.iter (Inv:=λv:Int× Int× Int× List Int=>Cur b v.2.1/\0<=v.1/\v.1<=p.2.2.2.2.2.2.2.2.2.1/\(v.2.2.2.length:Int)=v.1) (m:=λv=>(p.2.2.2.2.2.2.2.2.2.1-v.1).toNat) (λv next hv hn=>?_) k _ ⟨hc,by simp;omega⟩ (by simp only;omega);obtain⟨v1,v2,v3,v4⟩:=hv;unfold ba;rw[hp];refine aj.cond (λq=>?_) λq=>hf _ _ _ v1 (by omega);have q:v.1<p.2.2.2.2.2.2.2.2.2.1:=of_decide_eq_true q;refine(az hb v1).bind λr2 ⟨_,hc2⟩=>aj.ble (by simp;omega) (hn _ ⟨hc2,?_⟩ ?_)
 ·simp only[Kt,Kl,KF];rw[aH (n:=v.1+1) (by omega) (by omega)];omega
 ·simp only;rw[aH (n:=v.1+1) (by omega) (by omega)];omega
def vf (b:List Int) (r:al× Int× Int):Prop:=r.1.tot<=1610/\Cur b r.2.1
theorem fT (hb:b.length<=1048576) {R:Type} {Q:R->Prop} {s:Shape} (hs:s.okB=true) {K c h:Int} (hc:Cur b c) {Z:Int->Int->Int->Int->Option R}
  (hZ:∀c h sz st,Cur b c->0<=sz->sz<=3->aj (Z c h sz st) Q):aj ((bn k K (1:Int) (3:Int)).bind λr96=>bej (λ(j105:Int->Int->Int->Int->Option R)=>cond (r96) (bej (λ(j97:Int->Option R)=>cond (decide (s.h<(3:Int))) ((j97 s.h)) ((j97 (3:Int)))) (λ(j97_0:Int)=>cond (decide (s.w<j97_0)) ((ae k b c h s.w).bind λr101=>(ae k b r101.2.1 r101.2.2 (2:Int)).bind λr102=>(j105 r102.2.1 r102.2.2 (i64.wrap ((1:Int)+r101.1)) (i64.wrap ((1:Int)+r102.1)))) ((ae k b c h j97_0).bind λr103=>(ae k b r103.2.1 r103.2.2 (2:Int)).bind λr104=>(j105 r104.2.1 r104.2.2 (i64.wrap ((1:Int)+r103.1)) (i64.wrap ((1:Int)+r104.1)))))) ((j105 c h (0:Int) (0:Int)))) Z) Q:=by
 obtain⟨⟨a1,a2⟩,⟨b1,b2⟩,c1,c2⟩:=Shape.nc.1 hs;rw[bY];refine aj.of (aj.J2 (λc _ sz _=>Cur b c/\0<=sz/\sz<=3) (λc h sz st ⟨q1,q2,q3⟩=>hZ c h sz st q1 q2 q3) λj hj=>aj.cond (λ_=>?_) λ_=>hj _ _ _ _ ⟨hc,by omega,by omega⟩);refine aj.Jy (λx=>1<=x/\x<=3) (λx ⟨x1,x2⟩=>?_) λj' hj'=>aj.cond (λq=>hj' _ ⟨a1,?_⟩) λ_=>hj' _ ⟨by omega,by omega⟩
 ·refine aj.cond (λq=>?_) λq=>?_
  ·have q:s.w<x:=of_decide_eq_true q;refine(az hb hc).bind λr1 ⟨⟨p1,p2,_⟩,hc1⟩=>(az hb hc1).bind λr2 ⟨_,hc2⟩=>hj _ _ _ _ ⟨hc2,?_⟩;have p2:=p2 (by omega);rw[aH (n:=1+r1.1) (by omega) (by omega)];omega
  ·refine(az hb hc).bind λr1 ⟨⟨p1,p2,_⟩,hc1⟩=>(az hb hc1).bind λr2 ⟨_,hc2⟩=>hj _ _ _ _ ⟨hc2,?_⟩;have p2:=p2 (by omega);rw[aH (n:=1+r1.1) (by omega) (by omega)];omega
 ·have q:s.h<3:=of_decide_eq_true q;omega
theorem ma (hb:b.length<=1048576) (hk:2000<k) {s:Shape} (hs:s.okB=true) {K c h sz st:Int} (hc:Cur b c) (z0:0<=sz) (z1:sz<=3):aj (cond (decide (K<=(1:Int))) ((ae k b c h (3:Int)).bind λr106=>(ae k b r106.2.1 r106.2.2 (16777216:Int)).bind λr107=>(ae k b r107.2.1 r107.2.2 (10:Int)).bind λr108=>(ae k b r108.2.1 r108.2.2 (9:Int)).bind λr109=>(aT k s).bind λr110=>bej (λ(j111:Int->Option (al× Int× Int))=>cond (K==(1:Int)) ((j111 (i64.wrap ((i64.wrap ((i64.wrap ((i64.wrap ((1:Int)+r106.1))*sz))*sz))*s.c)))) ((j111 (i64.wrap ((i64.wrap ((1:Int)+r106.1))*r110))))) (λ(j111_0:Int)=>iter (λu117 n117=>aZ k (j111_0,b,(0:Int),(0:Int),(0:Int),(0:Int),(0:Int),(0:Int),(0:Int),K,i64.wrap ((1:Int)+r106.1),sz,st,i64.wrap ((1073741824:Int)+(i64.wrap (r107.1*(60:Int)))),r108.1,i64.wrap (r109.1-(4:Int))) u117 n117 (λy113=>iter (λu116 n116=>ba k (b,(0:Int),(0:Int),(0:Int),(0:Int),(0:Int),(0:Int),(0:Int),K,i64.wrap ((1:Int)+r106.1),sz,st,i64.wrap ((1073741824:Int)+(i64.wrap (r107.1*(60:Int)))),r108.1,i64.wrap (r109.1-(4:Int)),y113.2.2) u116 n116 (λy115=>bej (λ(j119:Int->Int->Int->Option (al× Int× Int))=>cond (K==(4:Int)) ((ae k b y115.1 y115.2.1 (20:Int)).bind λr118=>(j119 (i64.wrap (r118.1-(10:Int))) r118.2.1 r118.2.2)) ((j119 (i64.wrap (r109.1-(4:Int))) y115.1 y115.2.1))) (λ(j119_13:Int) (j119_15:Int) (j119_16:Int)=>cond (decide (b=b)) (some ((⟨K,(i64.wrap ((1:Int)+r106.1)),sz,st,(i64.wrap ((1073741824:Int)+(i64.wrap (r107.1*(60:Int))))),r108.1,j119_13,y113.2.2,y115.2.2⟩:al),j119_15,j119_16)) none))) k ((0:Int),y113.1,y113.2.1,([]:List Int)))) k ((0:Int),r109.2.1,r109.2.2,([]:List Int)))) (cond (K==(4:Int)) ((ae k b c h (20:Int)).bind λr120=>cond (decide (b=b)) (some ((⟨K,(0:Int),sz,st,(0:Int),(0:Int),(i64.wrap (r120.1-(10:Int))),([]:List Int),([]:List Int)⟩:al),r120.2.1,r120.2.2)) none) (cond (decide (b=b)) (some ((⟨K,(0:Int),sz,st,(0:Int),(0:Int),(0:Int),([]:List Int),([]:List Int)⟩:al),c,h)) none))) (vf b):=by
 obtain⟨⟨a1,a2⟩,⟨b1,b2⟩,c1,c2⟩:=Shape.nc.1 hs;refine aj.cond (λ_=>?_) λ_=>aj.cond (λ_=>?_) λ_=>?_
 ·refine(az hb hc).bind λr1 ⟨⟨p1,p2,_⟩,hc1⟩=>(az hb hc1).bind λr2 ⟨⟨q1,q2,_⟩,hc2⟩=>(az hb hc2).bind λr3 ⟨_,hc3⟩=>(az hb hc3).bind λr4 ⟨_,hc4⟩=>?_;have p2:=p2 (by omega);have q2:=q2 (by omega);rw[dZ];have hz:=s.lE;have m1:0<=(1+r1.1)*sz:=KM (by omega) z0;have m2:(1+r1.1)*sz<=3*3:=K7 (by omega) z1 z0 (by omega);have m3:0<=(1+r1.1)*sz*sz:=KM m1 z0;have m4:(1+r1.1)*sz*sz<=9*3:=K7 m2 z1 z0 (by omega);have m5:0<=(1+r1.1)*sz*sz*s.c:=KM m3 (by omega);have m6:(1+r1.1)*sz*sz*s.c<=27*8:=K7 m4 c2 (by omega) (by omega);have n1:0<=(1+r1.1)*s.size:=KM (by omega) hz.1;have n2:(1+r1.1)*s.size<=3*512:=K7 (by omega) hz.2 hz.1 (by omega);have w1:=aH (n:=1+r1.1) (by omega) (by omega);refine aj.of (aj.Jy (λn=>0<=n/\n<=1600) (λn ⟨n0,n1⟩=>?_) λj hj=>aj.cond (λ_=>hj _ ?_) λ_=>hj _ ?_)
  ·refine xk hb hk rfl n0 n1 hc4 λc' h' ws hc' hw=>Ec hb hk rfl ?_ ?_ hc' λc2 h2 bs hc2 hbs=>?_
   ·simp only;rw[w1];omega
   ·simp only;rw[w1];omega
   ·refine aj.J1 (λ_ c _=>Cur b c) (λz c h hc=>aj.must rfl (aj.some ⟨?_,hc⟩)) λj hj=>aj.cond (λ_=>(az hb hc2).bind λr5 ⟨_,hc5⟩=>hj _ _ _ hc5) λ_=>hj _ _ _ hc2;simp only[al.tot];omega
  ·rw[w1,aH (n:=(1+r1.1)*sz) (by omega) (by omega),aH (n:=(1+r1.1)*sz*sz) (by omega) (by omega),aH (n:=(1+r1.1)*sz*sz*s.c) (by omega) (by omega)];omega
  ·rw[w1,aH (n:=(1+r1.1)*s.size) (by omega) (by omega)];omega
 ·exact(az hb hc).bind λr1 ⟨_,hc1⟩=>aj.must rfl (aj.some ⟨by simp[al.tot],hc1⟩)
 ·exact aj.must rfl (aj.some ⟨by simp[al.tot],hc⟩)
theorem rO (hb:b.length<=1048576) (hk:2000<k) {s:Shape} (hs:s.okB=true) {c h:Int} (hc:Cur b c):aj (dM k b c h s) (vf b):=by
 unfold dM;refine(fo hb hc (by simp)).bind λr1 ⟨_,hc1⟩=>?_
 have small:∀{K sz st c h},Cur b c->aj ((ae k b c h (20:Int)).bind λr13=>cond (decide (b=b)) (some ((⟨K,(0:Int),sz,st,(0:Int),(0:Int),(i64.wrap (r13.1-(10:Int))),([]:List Int),([]:List Int)⟩:al),r13.2.1,r13.2.2)) none) (vf b):=λhc=>
  (az hb hc).bind λr1 ⟨_,hc1⟩=>aj.must rfl (aj.some ⟨by simp[al.tot],hc1⟩)
 have any:∀{B:(Int->Option (al× Int× Int))->Option (al× Int× Int)} {Z:Int->Option (al× Int× Int)},(∀K,aj (Z K) (vf b))->(∀j:Int->Option (al× Int× Int),(∀x,aj (j x) (vf b))->aj (B j) (vf b))->aj (bej B Z) (vf b):=λh1 h2=>h2 _ h1
 have sized:∀{f:Int->Option (al× Int× Int)},(∀n,aj (f n) (vf b))->aj ((aT k s).bind f) (vf b):=λh=>by rw[dZ];exact h _
 refine aj.cond (λ_=>sized λn=>aj.cond (λ_=>?_) λ_=>aj.cond (λ_=>?_) λ_=>?_) λ_=>aj.cond (λ_=>?_) λ_=>?_
 ·exact fT hb hs hc1 λc h sz st h1 _ _=>small h1
 ·exact sized λn=>any (λK=>fT hb hs hc1 λc h sz st h1 h2 h3=>ma hb hk hs h1 h2 h3) λj hj=>aj.cond (λ_=>hj _) λ_=>hj _
 ·exact fT hb hs hc1 λc h sz st h1 h2 h3=>ma hb hk hs h1 h2 h3
 ·exact sized λn=>any (λK=>fT hb hs hc1 λc h sz st h1 h2 h3=>ma hb hk hs h1 h2 h3) λj hj=>aj.cond (λ_=>hj _) λ_=>hj _
 ·exact fT hb hs hc1 λc h sz st h1 h2 h3=>ma hb hk hs h1 h2 h3
end
end
set_option maxRecDepth 100000
section
theorem xl {α:Type} (xs:List α) (x:Nat):(vw xs x).length=xs.length:=by simp[vw]
theorem BR {s:Shape} {l:al} (h:cf s l=true):(shapeOf s l).okB=true:=by
 have hs:s.okB=true:=by
  unfold cf at h;rw[J8]at h;exact h.1
 have hz:=s.lE
 have ht:(⟨s,List.replicate s.size.toNat 0⟩:ab).okB=true:=by
  unfold ab.okB kD;rw[hs,Km,J8];refine⟨decide_eq_true (by simp;omega),?_⟩;rw[KP];intro x hx;rw[LN]at hx;rw[hx.2];rfl
 obtain⟨h1,h2,_⟩:=l9 ht h;have h2:(qj ⟨s,List.replicate s.size.toNat 0⟩ l).1.sh=shapeOf s l:=h2;rw[<-h2];unfold ab.okB at h1;rw[J8]at h1;exact h1.1
theorem tH {α:Type}:∀xs:List α,nq (xs.map some)=some xs
 |[]=>rfl
 |x::l=>by rw[KT,nq,tH l];rfl
theorem BS {α:Type} (xs:List α) (i:Nat) (y:α):nq ((vw xs i).set i (some y))=some (xs.set i y):=by
 unfold vw;rw[List.set_set,show(xs.map some).set i (some y)=(xs.set i y).map some from by rw[List.map_set],tH]
theorem AE {α:Type} (t:α->Nat) (y:α):∀(xs:List α) (i:Nat) (hi:i<xs.length),jo t (xs.set i y)+t xs[i]=jo t xs+t y
 |[],i,hi=>by simp at hi
 |x::l,0,hi=>by rw[List.set_cons_zero,fK,fK];simp;omega
 |x::l,i+1,hi=>by
  have:=AE t y l i (by simpa using hi);rw[List.set_cons_succ,fK,fK];simp only[List.getElem_cons_succ];omega
section
variable {b:List Int} {k:Nat}
theorem sx (hb:b.length<=1048576) (hk:10000<k) {s:Shape} (hs:s.okB=true) {c h n:Int} (hc:Cur b c) (hn:n<=5):aj (eN k b c h s n) λr=>(r.1.inp=s/\r.1.tot<=8055/\r.1.ai.length<=5)/\Cur b r.2.1:=by
 have hM:=aL;unfold eN;refine aj.iter (Inv:=λv:Int× Int× Int× Int× Int× Int× List al=>Cur b v.2.1/\0<=v.1/\v.1<=5/\(⟨v.2.2.2.1,v.2.2.2.2.1,v.2.2.2.2.2.1⟩:Shape).okB=true/\((jo al.tot v.2.2.2.2.2.2:Nat):Int)<=1611*v.1/\(v.2.2.2.2.2.2.length:Int)<=v.1) (m:=λv=>(6-v.1).toNat) (λv next hv hx=>?_) k _ ⟨hc,by simp,by simp,hs,by simp[jo],by simp⟩ (by simp only;omega);obtain⟨v1,v2,v3,v4,v5,v6⟩:=hv;unfold eM;have done:∀c' h':Int,Cur b c'->aj (cond (decide (b=b)) (some ((⟨s,v.2.2.2.2.2.2⟩:Model),c',h')) none) λr=>(r.1.inp=s/\r.1.tot<=8055/\r.1.ai.length<=5)/\Cur b r.2.1:=λc' h' hc'=>aj.must rfl (aj.some ⟨⟨rfl,by simp only[Model.tot];omega,by simp only;omega⟩,hc'⟩);refine aj.cond (λq=>?_) λ_=>done _ _ v1;have q:v.1<n:=of_decide_eq_true q;refine(rO hb (by omega) v4 v1).bind λr1 ⟨t1,hc1⟩=>?_;rw[gu (by omega) (by omega)];unfold dP;cases hl:cf (⟨v.2.2.2.1,v.2.2.2.2.1,v.2.2.2.2.2.1⟩:Shape) r1.1
 ·exact done _ _ hc1
 ·refine aj.ble (by omega) (hx _ ⟨hc1,?_,?_,BR hl,?_,?_⟩ ?_)
  ·simp only;rw[aH (n:=v.1+1) (by omega) (by omega)];omega
  ·simp only;rw[aH (n:=v.1+1) (by omega) (by omega)];omega
  ·simp only;rw[aH (n:=v.1+1) (by omega) (by omega),mU,fK];simp only[jo,KF,Ll,List.sum_nil]at v5⊢;omega
  ·simp only[Kt,Kl,KF];rw[aH (n:=v.1+1) (by omega) (by omega)];omega
  ·simp only;rw[aH (n:=v.1+1) (by omega) (by omega)];omega
theorem rP (hb:b.length<=1048576) (hk:10000<k) {c h:Int} (hc:Cur b c):aj (dN k b c h) λr=>(r.1.inp.okB=true/\r.1.tot<=8055/\r.1.ai.length<=5)/\Cur b r.2.1:=by
 unfold dN;refine(lF hb hc (by omega) (by omega)).bind λr1 ⟨ok1,hc1⟩=>(az hb hc1).bind λr2 ⟨⟨p1,p2,_⟩,hc2⟩=>?_;have p2:=p2 (by omega);refine(sx hb hk ok1 hc2 ?_).bind λr3 ⟨⟨e3,l3,m3⟩,hc3⟩=>aj.must rfl (aj.some ⟨⟨by rw[e3];exact ok1,l3,m3⟩,hc3⟩);rw[aH (n:=1+r2.1) (by omega) (by omega)];omega
theorem BT (hb:b.length<=1048576) {c h:Int} {l:al} (hl:l.tot<=100000) (hc:Cur b c):aj (iI k b c h l) λr=>r.1.tot<=l.tot+1/\Cur b r.2.1:=by
 have hM:=aL
 have hw:l.weights.length<=100000:=by unfold al.tot at hl;omega
 have hbi:l.gI.length<=100000:=by unfold al.tot at hl;omega
 unfold iI;refine(az hb hc).bind λr1 ⟨_,hc1⟩=>?_
 repeat' refine aj.cond (λ_=>?_) λ_=>?_
 all_goals first
  |exact(fo hb hc1 (by simp)).bind λr ⟨_,hr⟩=>aj.must rfl (aj.some ⟨by simp[al.tot],hr⟩)
  |exact(fo hb hc1 (by simp)).bind λr ⟨_,hr⟩=>aj.ble (by simp;omega) (aj.must rfl (aj.some ⟨by simp[al.tot];omega,hr⟩))
  |exact aj.some ⟨by simp[al.tot],hc1⟩
  |(rename_i q;exact(by simp at q))
  |skip
theorem pX (hb:b.length<=1048576) (hk:10000<k) {c h:Int} (hc:Cur b c):aj (dO k b c h) λr=>(r.1.tot<=8100/\r.1.ai.length<=7)/\Cur b r.2.1:=by
 have hM:=aL;unfold dO;refine(rP hb hk hc).bind λr1 ⟨⟨ok1,t1,l1⟩,hc1⟩=>(gH hb hc1).bind λr2 hc2=>?_;have plain:∀{m:Model} {c h:Int},m.tot<=8100->m.ai.length<=7->Cur b c->aj (cond (decide (b=b)) (some (m,c,h)) none) λr=>(r.1.tot<=8100/\r.1.ai.length<=7)/\Cur b r.2.1:=λh1 h2 h3=>aj.must rfl (aj.some ⟨⟨h1,h2⟩,h3⟩);refine aj.cond (λ_=>aj.cond (λq=>(az hb hc2).bind λr3 ⟨_,hc3⟩=>?_) λ_=>plain (by omega) (by omega) hc2) λ_=>plain (by omega) (by omega) hc2;have q:(r1.1.ai.length:Int)>0:=of_decide_eq_true q;refine aj.cond (λ_=>?_) λ_=>aj.cond (λ_=>?_) λ_=>aj.cond (λ_=>?_) λ_=>aj.cond (λ_=>?_) λ_=>plain (by omega) (by omega) hc3
 ·exact(fo hb hc3 (by simp)).bind λr4 ⟨_,hc4⟩=>plain (by simp only[Model.tot]at t1⊢;omega) (by simp only;omega) hc4
 ·refine(az hb hc3).bind λr5 ⟨⟨p1,p2,_⟩,hc5⟩=>aj.must ⟨p1,p2 (by omega)⟩ ?_;have p2:=p2 (by omega)
  have hi:r5.1.toNat<r1.1.ai.length:=by omega
  rw[J7 hi];have hm:=qd al.tot (KI hi)
  have ht:jo al.tot r1.1.ai<=8055:=by simpa[Model.tot]using t1
  refine aj.of ((BT hb (by omega) hc5).bind λr7 ⟨t7,hc7⟩=>aj.must ⟨p1,by rw[xl];exact p2⟩ ?_);rw[BS];have hp:=AE al.tot r7.1 r1.1.ai r5.1.toNat hi;exact aj.of (plain (by simp only[Model.tot];omega) (by simp;omega) hc7)
 ·exact plain (by simp[Model.tot,jo]) (by simp) hc3
 ·refine aj.iter (Inv:=λv:Int× Int× List al=>Cur b v.1/\v.2.2.length<=7/\jo al.tot v.2.2<=8055+v.2.2.length) (m:=λv=>8-v.2.2.length) (λv next hv hn=>?_) k _ ⟨hc3,by simp only;omega,by simp only[Model.tot]at t1⊢;omega⟩ (by simp only;omega);obtain⟨v1,v2,v3⟩:=hv;unfold dY;refine(az hb v1).bind λr9 ⟨⟨p1,p2,_⟩,hc9⟩=>?_;have p2:=p2 (by omega);rw[aH (n:=6+r9.1) (by omega) (by omega)];refine aj.cond (λq=>aj.ble (by omega) (hn _ ⟨hc9,?_,?_⟩ ?_)) λ_=>plain (by simp only[Model.tot];omega) (by simp only;omega) hc9
  ·have q:=of_decide_eq_true q;simp;omega
  ·rw[mU,fK];simp[al.tot,jo]at v3⊢;omega
  ·have q:=of_decide_eq_true q;simp;omega
end
end
set_option maxRecDepth 100000
section
theorem lG {k:Nat} {a b:ab} (hk:a.data.length<k) (ha:a.data.length<=oA):fR k a b=some (a.okB&&decide (a=b)):=by
 unfold fR;rw[eQ hk ha,aa,pW hk ha];cases a.okB<;>rfl
end
set_option maxRecDepth 100000
section
end
set_option maxRecDepth 100000
section
end
section
structure SOk (s:AM):Prop where
 now:0<=s.now/\s.now<=1000000
 Gd:0<=s.Gd/\s.Gd<=1000
 age:0<=s.age/\s.age<=20
 len:s.tasks.length<=12
 turns:0<=s.turns/\s.turns<=1000000
 next:1<=s.next/\s.next<=1000000
 task:∀t∈s.tasks,FB t=true/\t.id<s.next/\t.born<=s.now
 ids:s.tasks.Pairwise λa b=>a.id<b.id
 run:(s.run=0/\s.left=0)\/∃t∈s.tasks,t.id=s.run/\1<=s.left/\s.left<=Ib t
end
set_option maxRecDepth 100000
section
end
set_option maxRecDepth 100000
section
end
set_option maxRecDepth 100000
section
end
section
def Jz:Nat->Job->Job
 |0,j=>j
 |d+1,j=>Jz d (Ea j)
def zy (j:Job):Nat:=j.model.ai.length-j.at_.toNat
theorem Ed {j:Job} (h:FC j=true) (e:zy j=0):j.at_=(j.model.ai.length:Int):=by
 have:=(rN h).2.1;unfold zy at e;omega
theorem Ee {j:Job} {d:Nat} (h:FC j=true) (e:zy j=d+1):j.at_≠(j.model.ai.length:Int)/\zy (Ea j)=d:=by
 have:=(rN h).2.1;unfold zy at e⊢;refine⟨by omega,?_⟩;show j.model.ai.length-(j.at_+1).toNat=d;omega
end
set_option maxRecDepth 100000
section
theorem Ef {s:Shape} {l:al} (h:cf s l=true):1<=tA s (shapeOf s l) l/\tA s (shapeOf s l) l<=10000001:=by
 have h1:=s.lE;have h2:=(shapeOf s l).lE
 have hs:s.okB=true:=by
  unfold cf at h;rw[J8]at h;exact h.1
 obtain⟨_,_,c1,c2⟩:=Shape.nc.1 hs
 have div:∀n:Int,0<=n->n<=10000000->1<=i64.wrap (1+i64.wrap (n.tdiv 16))/\i64.wrap (1+i64.wrap (n.tdiv 16))<=10000001:=λn a b=>by
  have q0:=Int.tdiv_nonneg a (show(0:Int)<=16 by omega);have q1:n.tdiv 16<=n:=Int.tdiv_le_self 16 a;rw[aH (n:=n.tdiv 16) (by omega) (by omega),aH (by omega) (by omega)];omega
 have prod:∀a b A B:Int,0<=a->a<=A->0<=b->b<=B->0<=a*b/\a*b<=A*B:=λa b A B h1 h2 h3 h4=>⟨KM h1 h3,K7 h2 h4 h3 (by omega)⟩;unfold tA;by_cases k0:l.kind=0
 ·rw[decide_eq_true k0,cond_true];have p:=prod _ _ _ _ h2.1 h2.2 h1.1 h1.2;rw[aH (n:=(shapeOf s l).size*s.size) (by omega) (by omega)];exact div _ p.1 (by omega)
 rw[decide_eq_false k0,cond_false]
 have win:(l.kind=1\/l.kind=2\/l.kind=3)->1<=l.size/\l.size<=3:=λhk=>by
  unfold cf at h;rw[hs,Km,decide_eq_false k0,cond_false]at h
  rcases hk with e|e|e<;>simp only[e,decide_true,cond_true,cond_false,show decide ((2:Int)=1)=false from rfl,show decide ((3:Int)=1)=false from rfl,show decide ((3:Int)=2)=false from rfl,Bool.true_or,Lb,J8]at h
  all_goals
   have:=jC h.1;omega
 by_cases k1:l.kind=1
 ·rw[decide_eq_true k1,cond_true];have z:=win (.inl k1);have p:=prod _ _ _ _ h2.1 h2.2 (show 0<=l.size by omega) z.2;have p2:=prod _ _ _ _ p.1 p.2 (show 0<=l.size by omega) z.2;have p3:=prod _ _ _ _ p2.1 p2.2 (show 0<=s.c by omega) c2;rw[aH (n:=(shapeOf s l).size*l.size) (by omega) (by omega),aH (n:=(shapeOf s l).size*l.size*l.size) (by omega) (by omega),aH (n:=(shapeOf s l).size*l.size*l.size*s.c) (by omega) (by omega)];exact div _ p3.1 (by omega)
 rw[decide_eq_false k1,cond_false];by_cases k2:l.kind=2
 ·rw[decide_eq_true k2,cond_true];have z:=win (.inr (.inl k2));have p:=prod _ _ _ _ h2.1 h2.2 (show 0<=l.size by omega) z.2;have p2:=prod _ _ _ _ p.1 p.2 (show 0<=l.size by omega) z.2;rw[aH (n:=(shapeOf s l).size*l.size) (by omega) (by omega),aH (n:=(shapeOf s l).size*l.size*l.size) (by omega) (by omega)];exact div _ p2.1 (by omega)
 rw[decide_eq_false k2,cond_false];by_cases k3:l.kind=3
 ·rw[decide_eq_true k3,cond_true];have z:=win (.inr (.inr k3));have p:=prod _ _ _ _ h2.1 h2.2 (show 0<=l.size by omega) z.2;have p2:=prod _ _ _ _ p.1 p.2 (show 0<=l.size by omega) z.2;rw[aH (n:=(shapeOf s l).size*l.size) (by omega) (by omega),aH (n:=(shapeOf s l).size*l.size*l.size) (by omega) (by omega)];exact div _ p2.1 (by omega)
 rw[decide_eq_false k3,cond_false];exact div _ h1.1 (by omega)
def Ji (m:Model) (want:ab) (j:Job):Prop:=j.model=m/\FC j=true/\(Jz (zy j) j).act=want
theorem Ji.step {m:Model} {want:ab} {j:Job} (h:Ji m want j) (hd:j.at_≠(j.model.ai.length:Int)):Ji m want (Ea j):=by
 obtain⟨h1,h2,h3⟩:=h;refine⟨h1,Eb h2 hd,?_⟩
 cases e:zy j with
 |zero=>exact(hd (Ed h2 e)).elim
 |succ d=>
  rw[e]at h3;rw[(Ee h2 e).2];exact h3
end
section
end
section
end
section
end
section
section
variable {R:Type} {k:Nat} {b:List Int} {m:Int} {q1 q2 q3 q4 q5 q6 q7 q8 q9 q10 q11 q12:Int} {d:List Int} {fin:Int× Bool× List Int->Option R}
end
end
section
section
variable {R:Type} {k:Nat} {b:List Int} {m:Int} {q1 q2 q3 q4 q5 q6 q7 q8 q9 q10 q11 q12:Int} {d:List Int} {fin:Int× Bool× List Int->Option R}
end
end
section
section
variable {R:Type} {k:Nat} {b:List Int} {m:Int}
end
end
set_option maxRecDepth 100000
set_option maxHeartbeats 4000000
section
section
variable {k:Nat} {b:List Int} (hk:7<=k) (hb:∀x∈b,okB x) (hl:b.length<=bJ)
include hk hb hl
omit hk hb hl in
omit hk hb hl in
omit hk hb hl in
end
section
variable {k:Nat} {b:List Int} (hk:9000000<=k) (hb:∀x∈b,okB x) (hl:b.length<=bJ)
include hk hb hl
end
section
variable {k:Nat} {b:List Int} (hk:9000000<=k) (hb:∀x∈b,okB x) (hl:b.length<=bJ)
include hk hb hl
end
end
set_option maxRecDepth 100000
set_option maxHeartbeats 4000000
section
section
variable {k:Nat} {r:Runtime} {x:Step} (hk:9000000<=k) (hb:∀y∈x.data,okB y) (hl:x.data.length<=bJ) (hlo:r.B7.length=4) (hmo:r.zz.length=4)
include hk hb hl hlo hmo
end
end
set_option maxRecDepth 100000
set_option maxHeartbeats 4000000
section
def JA (rs:List Request) (id:Int):List Request:=rs.filter λq=>!(q.id==id)
section
variable {k:Nat} {rs:List Request} {id:Int} (hk:rs.length<k) (hN:rs.length<=bJ)
include hk hN
end
section
variable {k:Nat} {r:Runtime} {id:Int} (hk:r.sched.tot+r.lH.length<k) (hN:r.sched.tot+r.lH.length<=bJ)
include hk hN
omit hk hN in
end
end
set_option maxRecDepth 100000
set_option maxHeartbeats 4000000
section
structure Ig (q:Request) (t:Task):Prop where
 id:q.id=t.id
 job:FC q.job=true
 at_:q.job.at_=t.at_
 ni:cL q.job.model=t.ni
 tot:q.job.model.tot<=8002000
inductive Lk:List Request->List Task->Prop
 |nil:Lk [] []
 |cons {q:Request} {t:Task} {qs:List Request} {ts:List Task}:Ig q t->Lk qs ts->Lk (q::qs) (t::ts)
theorem Lk.len:∀{qs:List Request} {ts:List Task},Lk qs ts->qs.length=ts.length
 |_,_,.nil=>rfl
 |_,_,.cons _ h=>by simp[h.len]
theorem Lk.off {id:Int}:∀{qs:List Request} {ts:List Task},Lk qs ts->Lk (JA qs id) (Jw ts id)
 |_,_,.nil=>.nil
 |_,_,.cons (q:=q) (t:=t) (qs:=qs) (ts:=ts) h g=>by
  have e:(q.id==id)=(t.id==id):=by rw[h.id]
  have:=g.off (id:=id);unfold JA Jw at this⊢;rw[List.filter_cons,List.filter_cons,e];cases(t.id==id)
  ·exact .cons h this
  ·exact this
theorem Lk.app {q:Request} {t:Task} (l:Ig q t):∀{qs:List Request} {ts:List Task},Lk qs ts->Lk (qs++[q]) (ts++[t])
 |_,_,.nil=>.cons l .nil
 |_,_,.cons h g=>.cons h (g.app l)
theorem Lk.get:∀{qs:List Request} {ts:List Task},Lk qs ts->∀{i:Nat} (h1:i<qs.length) (h2:i<ts.length),Ig qs[i] ts[i]
 |_,_,.nil,_,h,_=>absurd h (by simp)
 |_,_,.cons h _,0,_,_=>h
 |_,_,.cons _ g,i+1,h1,h2=>g.get (by simpa using h1) (by simpa using h2)
theorem Lk.set {q:Request} {t:Task} (l:Ig q t):∀{qs:List Request} {ts:List Task},Lk qs ts->∀(i:Nat),Lk (qs.set i q) (ts.set i t)
 |_,_,.nil,_=>.nil
 |_,_,.cons _ g,0=>.cons l g
 |_,_,.cons h g,i+1=>.cons h (g.set l i)
theorem Lk.ids {qs:List Request} {ts:List Task} (h:Lk qs ts):∀q∈qs,∃t∈ts,q.id=t.id:=by
 induction h with
 |nil=>exactλq hq=>nomatch hq
 |cons l _ ih=>
  intro q hq
  rcases Kq.1 hq with rfl|hq
  ·exact⟨_,Kx,l.id⟩
  ·obtain⟨t,h1,h2⟩:=ih q hq;exact⟨t,Ks _ h1,h2⟩
structure Ga (r:Runtime):Prop where
 s:SOk r.sched
 ml:r.zz.length=4
 ll:r.B7.length=4
 mod:∀m∈r.zz,m.tot<=8002000
 req:Lk r.lH r.sched.tasks
theorem AF {t:Task} (h:FB t=true):t.tot<=6:=by
 have:=(tB h).2.1.2;unfold Task.tot;omega
theorem vg {α:Type} {t:α->Nat} {B:Nat}:∀{xs:List α},(∀x∈xs,t x<=B)->jo t xs<=xs.length*(B+1)
 |[],_=>by simp[jo]
 |x::xs,h=>by
  have h1:=h x Kx;have h2:=vg (t:=t) (B:=B) (xs:=xs) λy hy=>h y (Ks _ hy);rw[fK,Kl,Kp];omega
theorem Ga.tot {r:Runtime} (h:Ga r):r.sched.tot<=84:=by
 have h1:=vg (t:=Task.tot) (B:=6) (xs:=r.sched.tasks) λt ht=>AF (h.s.task t ht).1;have h2:=h.s.len;show jo Task.tot r.sched.tasks+0<=84;omega
section
variable {k:Nat} {r:Runtime} {x:Step} (h:Ga r) (hk:20000000<=k) (hx:x.input.tot<=2000000)
include h hk hx
end
end
set_option maxRecDepth 100000
set_option maxHeartbeats 4000000
section
theorem SOk.tot {s:AM} (h:SOk s):s.tot<=84:=by
 have h1:=vg (t:=Task.tot) (B:=6) (xs:=s.tasks) λt ht=>AF (h.task t ht).1;have h2:=h.len;show jo Task.tot s.tasks+0<=84;omega
inductive px:List Int->List Event->List Int->Prop
 |nil {ids:List Int}:px ids [] ids
 |other {ids ids':List Int} {e:Event} {es:List Event}:e.kind≠2->e.kind≠3->e.kind≠4->px ids es ids'->px ids (e::es) ids'
 |ends {ids ids':List Int} {e:Event} {es:List Event}:e.kind=3\/e.kind=4->e.a∈ids->(e.kind=3->e.out.okB=true)->px (ids.filter λi=>!(i==e.a)) es ids'->px ids (e::es) ids'
theorem px.app {a b c:List Int} {e f:List Event} (h:px a e b) (g:px b f c):px a (e++f) c:=by
 induction h with
 |nil=>exact g
 |other h1 h2 h3 _ ih=>exact .other h1 h2 h3 (ih g)
 |ends h1 h2 h3 _ ih=>exact .ends h1 h2 h3 (ih g)
def ID (rs:List Request):List Int:=rs.map λq=>q.id
theorem Lk.JB {qs:List Request} {ts:List Task} (h:Lk qs ts):ID qs=ts.map λt=>t.id:=by
 induction h with
 |nil=>rfl
 |cons l _ ih=>unfold ID at ih⊢;rw[KT,KT,ih,l.id]
theorem Ga.inc {r:Runtime} (h:Ga r):(ID r.lH).Pairwise (·<·):=by
 rw[h.req.JB,List.pairwise_map];exact h.s.ids
theorem Ga.lt {r:Runtime} (h:Ga r):∀i∈ID r.lH,1<=i/\i<r.sched.next:=by
 rw[h.req.JB];intro i hi;obtain⟨t,ht,rfl⟩:=Lu.1 hi;have:=h.s.task t ht;exact⟨(tB this.1).1.1,this.2.1⟩
section
variable {k:Nat} (hk:20000000<=k)
include hk
end
section
variable {k:Nat} {r:Runtime} {x:Step} (h:Ga r) (hk:20000000<=k)
include h hk
end
end
set_option maxRecDepth 100000
set_option maxHeartbeats 4000000
section
section
variable {k:Nat}
end
theorem Lk.split {t:Task}:∀{pre post:List Task} {qs:List Request},Lk qs (pre++t::post)->∃qp q qo,qs=qp++q::qo/\Lk qp pre/\Ig q t/\Lk qo post
 |[],post,_,.cons (q:=q) (qs:=qs) h g=>⟨[],q,qs,rfl,.nil,h,g⟩
 |p::pre,post,_,.cons (q:=q) (qs:=qs) h g=>by
  obtain⟨qp,q',qo,e,h1,h2,h3⟩:=g.split (pre:=pre);exact⟨q::qp,q',qo,by rw[e];rfl,.cons h h1,h2,h3⟩
theorem Lk.join {ts:List Task} {ro:List Request} (g:Lk ro ts):∀{rs:List Request} {us:List Task},Lk rs us->Lk (rs++ro) (us++ts)
 |_,_,.nil=>g
 |_,_,.cons h f=>.cons h (g.join f)
end
set_option maxRecDepth 100000
set_option maxHeartbeats 4000000
section
end
set_option maxRecDepth 100000
set_option maxHeartbeats 4000000
section
end
set_option maxRecDepth 100000
set_option maxHeartbeats 4000000
section
end
set_option maxRecDepth 100000
set_option maxHeartbeats 4000000
section
def tI (E:List Entry):Prop:=∀(i:Nat) (h:i<E.length),E[i].id=(i:Int)+1
theorem tI.set {E:List Entry} (h:tI E) {j:Nat} {y:Entry} (hy:y.id=(j:Int)+1):tI (E.set j y):=λi hi=>by
 rw[List.getElem_set];by_cases c:j=i
 ·subst c;rw[if_pos rfl];exact hy
 ·rw[if_neg c];exact h i (by simpa using hi)
theorem tI.app {E:List Entry} (h:tI E) {y:Entry} (hy:y.id=(E.length:Int)+1):tI (E++[y]):=λi hi=>by
 rw[List.getElem_append];by_cases c:i<E.length
 ·rw[dif_pos c];exact h i c
 ·rw[dif_neg c];simp only[Kt,Kl,KF]at hi
  have:i=E.length:=by omega
  subst this;simpa using hy
section
variable {k:Nat} {p:List Step× Int× Int× List Event× Int× Int× Int× Int× Int× Int× Int× Int× Int× Int× Int× Int× Int× Int× Int× List Event× Int× Int× Int× Int× Int× Int× List Int× List Request× List Task× List Model× List Bool× List Request} {ev:Event} {now:Int}
 (h1:p.2.2.2.2.2.2.2.2.2.2.2.2.2.2.2.2.2.2.2.2.1=ev.kind) (h2:p.2.2.2.2.2.2.2.2.2.2.2.2.2.2.2.2.2.2.2.2.2.1=ev.a) (h3:p.2.2.2.2.2.2.2.2.2.2.2.2.2.2.2.2.2.2.2.2.2.2.1=ev.b) (h4:p.2.2.1=now)
include h1 h2 h3 h4
end
end
set_option maxRecDepth 100000
set_option maxHeartbeats 4000000
section
end
set_option maxRecDepth 100000
set_option maxHeartbeats 4000000
section
theorem px.sub {ids ids':List Int} {es:List Event} (h:px ids es ids'):∀i∈ids',i∈ids:=by
 induction h with
 |nil=>exactλi h=>h
 |other _ _ _ _ ih=>exact ih
 |ends _ _ _ _ ih=>exactλi hi=>(List.mem_filter.1 (ih i hi)).1
theorem px.told {ids ids':List Int} {es:List Event} (h:px ids es ids'):∀e∈es,e.kind=3->e.a∈ids/\e.out.okB=true:=by
 induction h with
 |nil=>exactλe he=>absurd he (by simp)
 |other k2 k3 k4 _ ih=>
  intro e he hk
  rcases Kq.1 he with rfl|he
  ·exact absurd hk k3
  ·exact ih e he hk
 |ends kk hm ho _ ih=>
  intro e he hk
  rcases Kq.1 he with rfl|he
  ·exact⟨hm,ho hk⟩
  ·obtain⟨g1,g2⟩:=ih e he hk;exact⟨(List.mem_filter.1 g1).1,g2⟩
end
set_option maxRecDepth 100000
set_option maxHeartbeats 4000000
section
end
set_option maxRecDepth 100000
set_option maxHeartbeats 4000000
section
def waits (E:List Entry):List Int:=(E.filter λy=>y.done).map λy=>i64.wrap (y.end_-y.at_)
end
set_option maxRecDepth 100000
set_option maxHeartbeats 4000000
section
end
set_option maxRecDepth 100000
set_option maxHeartbeats 4000000
section
end
set_option maxRecDepth 100000
set_option maxHeartbeats 4000000
section
end
set_option maxRecDepth 100000
set_option maxHeartbeats 4000000
section
theorem rQ {t:ab} (h:t.okB=true):t.data.length<=512:=by
 unfold ab.okB at h;simp only[J8,decide_eq_true_eq]at h;have:=t.sh.zp;omega
theorem xm:∀(ls:List al) (t:ab),(aV t.sh ls).isSome=true->t.okB=true->(dj t ls).okB=true
 |[],t,h,ht=>ht
 |l::ls,t,h,ht=>by
  simp only[aV]at h;cases hb:cf t.sh l<;>simp only[hb,cond_true,cond_false]at h
  ·exact nomatch h
  ·rw[Option.isSome_map]at h;obtain⟨g1,g2,_⟩:=l9 ht hb;exact xm ls (qj t l).1 (by rw[g2];exact h) g1
theorem FH {m:Model} {t:ab} (h:(lD m t).2=true):(lD m t).1.okB=true:=by
 unfold lD at h⊢;cases hm:cI m<;>rw[hm]at h<;>simp only[LI,Km,cond_false,cond_true]at h⊢
 ·exact nomatch h
 ·cases ht:t.okB<;>rw[ht]at h<;>simp only[LI,Km,cond_false,cond_true]at h⊢
  ·exact nomatch h
  ·by_cases c:t.sh=m.inp
   ·rw[decide_eq_true c];refine xm m.ai t ?_ ht;unfold cI bV at hm;rw[c];cases h1:(m.inp.okB&&inB (m.ai.length:Int) 1 6)<;>rw[h1]at hm
    ·exact nomatch hm
    ·cases h2:aV m.inp m.ai with
     |none=>rw[h2]at hm;exact nomatch hm
     |some u=>rfl
   ·rw[decide_eq_false c]at h;exact nomatch h
end
set_option maxRecDepth 100000
section
section
variable {α:Type}
def Srt (R:α->α->Prop) (l:List α):Prop:=l.Pairwise R
def Lt (key pos:α->Int) (x y:α):Prop:=key x<key y\/(key x=key y/\pos x<pos y)
theorem Lt.trans {key pos:α->Int} {x y z:α} (h:Lt key pos x y) (g:Lt key pos y z):Lt key pos x z:=by unfold Lt at*;omega
theorem Lt.le {key pos:α->Int} {x y:α} (h:Lt key pos x y):key x<=key y:=by unfold Lt at h;omega
def Hi (key pos:α->Int) (U V:List α):Prop:=∀x∈U,∀y∈V,key x=key y->pos x<pos y
theorem Hi.lt {key pos:α->Int} {U V:List α} (h:Hi key pos U V) {x y:α} (hx:x∈U) (hy:y∈V) (hk:key x<=key y):Lt key pos x y:=by
 unfold Lt;by_cases c:key x=key y
 ·exact .inr ⟨c,h x hx y hy c⟩
 ·exact .inl (by omega)
end
end
set_option maxRecDepth 100000
section
end
set_option maxRecDepth 100000
section
section
variable {ds:List Int} {k:Nat}
def InD (ds:List Int) (x:Int):Prop:=0<=x/\x<ds.length
def JC (ds:List Int) (x:Int):Int:=ds.getD x.toNat 0
abbrev LtD (ds:List Int):Int->Int->Prop:=Lt (JC ds) id
abbrev Ih (ds:List Int):List Int->List Int->Prop:=Hi (JC ds) id
def Eg (ds:List Int) (l:List Int):Prop:=∀x∈l,InD ds x
end
end
set_option maxRecDepth 100000
section
section
variable {ds:List Int} {k:Nat}
end
end
set_option maxRecDepth 100000
set_option maxHeartbeats 4000000
section
section
variable {ds:List Int}
theorem Eg.app {U V:List Int}:Eg ds (U++V)↔Eg ds U/\Eg ds V:=by
 unfold Eg;constructor
 ·exactλh=>⟨λx hx=>h x (LG _ hx),λx hx=>h x (LD _ hx)⟩
 ·rintro ⟨h1,h2⟩ x hx
  rcases List.mem_append.1 hx with hx|hx
  ·exact h1 x hx
  ·exact h2 x hx
end
end
set_option maxRecDepth 100000
set_option maxHeartbeats 4000000
section
section
variable {ds:List Int}
end
end
set_option maxRecDepth 100000
set_option maxHeartbeats 4000000
section
section
variable {ds:List Int}
inductive Full (ds:List Int) (bs:Nat):List Int->List Int->Prop
 |nil:Full ds bs [] []
 |snoc {O A U W:List Int}:Full ds bs O A->U.length=bs->W.Perm U->Srt (LtD ds) W->Full ds bs (O++U) (A++W)
inductive EB (ds:List Int) (bs:Nat):List Int->List Int->Prop
 |last {O L:List Int}:O.length<=bs->L.Perm O->Srt (LtD ds) L->EB ds bs O L
 |cons {U W O L:List Int}:U.length=bs->W.Perm U->Srt (LtD ds) W->EB ds bs O L->EB ds bs (U++O) (W++L)
theorem Full.perm {bs:Nat} {O A:List Int} (h:Full ds bs O A):A.Perm O:=by
 induction h with
 |nil=>exact .refl _
 |snoc _ h1 h2 h3 ih=>exact ih.append h2
theorem EB.perm {bs:Nat} {O L:List Int} (h:EB ds bs O L):L.Perm O:=by
 induction h with
 |last _ h _=>exact h
 |cons _ h2 _ _ ih=>exact h2.append ih
theorem EB.all {bs:Nat} {O L:List Int} (h:EB ds bs O L) (hs:O.length<=bs):Srt (LtD ds) L:=by
 cases h with
 |last _ _ h=>exact h
 |cons h1 h2 h3 h4=>
  rename_i U W O L;rw[Kt]at hs;have hO:O=[]:=KH.1 (by omega);have hL:L=[]:=KH.1 (by rw[h4.perm.length_eq,hO];rfl);rw[hL,KG];exact h3
theorem EB.cut {bs:Nat} {O L:List Int} (h:EB ds bs O L) (hs:bs<=O.length):∃U W O2 L2,O=U++O2/\L=W++L2/\U.length=bs/\W.Perm U/\Srt (LtD ds) W/\EB ds bs O2 L2:=by
 cases h with
 |last h1 h2 h3=>exact⟨O,L,[],[],by simp,by simp,by omega,h2,h3,.last (by simp) (.refl _) List.Pairwise.nil⟩
 |cons h1 h2 h3 h4=>exact⟨_,_,_,_,rfl,rfl,h1,h2,h3,h4⟩
structure Gb (ds O:List Int):Prop where
 all:Eg ds O
 inc:O.Pairwise (·<·)
theorem Gb.right {A B:List Int} (h:Gb ds (A++B)):Gb ds B:=⟨(Eg.app.1 h.all).2,(List.pairwise_append.1 h.inc).2.1⟩
theorem Gb.left {A B:List Int} (h:Gb ds (A++B)):Gb ds A:=⟨(Eg.app.1 h.all).1,(List.pairwise_append.1 h.inc).1⟩
theorem Gb.ahead {A B W V:List Int} (h:Gb ds (A++B)) (hW:W.Perm A) (hV:V.Perm B):Ih ds W V:=λx hx y hy _=>(List.pairwise_append.1 h.inc).2.2 x (hW.mem_iff.1 hx) y (hV.mem_iff.1 hy)
theorem Eg.perm {A B:List Int} (h:Eg ds B) (hp:A.Perm B):Eg ds A:=λx hx=>h x (hp.mem_iff.1 hx)
end
end
set_option maxRecDepth 100000
set_option maxHeartbeats 4000000
section
section
variable {ds:List Int} {k:Nat}
end
end
set_option maxRecDepth 100000
set_option maxHeartbeats 4000000
section
def Sim {α β:Type} (a:Option α) (b:Option β) (t:α->β):Prop:=∀x,a=some x->b=some (t x)
section
variable {α β γ δ:Type}
theorem Sim.none {b:Option β} {t:α->β}:Sim Option.none b t:=λx h=>nomatch h
theorem Sim.some {x:α} {y:β} {t:α->β} (h:y=t x):Sim (Option.some x) (Option.some y) t:=λ_ e=>by cases e;rw[h]
theorem Sim.cond {c c':Bool} {a a':Option α} {b b':Option β} {t:α->β} (h:c'=c) (h1:Sim a b t) (h2:Sim a' b' t):Sim (cond c a a') (cond c' b b') t:=by
 subst h;cases c'<;>assumption
theorem Sim.must {c:Bool} {a:Option α} {b:Option β} {t:α->β} (h:Sim a b t):Sim (_root_.cond c a Option.none) b t:=by
 cases c
 ·exact Sim.none
 ·exact h
theorem Sim.bind {a:Option γ} {b:Option δ} {s:γ->δ} {F:γ->Option α} {G:δ->Option β} {t:α->β} (h:Sim a b s) (g:∀x,Sim (F x) (G (s x)) t):Sim (a.bind F) (b.bind G) t:=λx e=>by
 rw[An]at e;obtain⟨y,e1,e2⟩:=e;rw[h y e1];exact g y x e2
theorem Sim.get {f:γ->δ} {l:List γ} {i:Nat} {F:γ->Option α} {G:δ->Option β} {t:α->β} (g:∀x,Sim (F x) (G (f x)) t):Sim ((l[i]?).bind F) (((l.map f)[i]?).bind G) t:=
 Sim.bind (s:=f) (λx e=>by rw[KB,e];rfl) g
theorem Sim.iter {V W:Type} (σ:V->W) {g:V->(V->Option α)->Option α} {g':W->(W->Option β)->Option β} {t:α->β} (h:∀s n m,(∀s,Sim (n s) (m (σ s)) t)->Sim (g s n) (g' (σ s) m) t):
  ∀(k:Nat) {s:V} {s':W},s'=σ s->Sim (Ev.iter g k s) (Ev.iter g' k s') t
 |0,_,_,_=>λ_ e=>nomatch e
 |k+1,s,_,rfl=>h s _ _ λs=>Sim.iter σ h k rfl
theorem Sim.bej {V W:Type} (R:V->W->Prop) {B:V->Option α} {B':W->Option β} {K:V} {K':W} {t:α->β} (hB:∀j j',R j j'->Sim (B j) (B' j') t) (hK:R K K'):Sim (Ev.bej B K) (Ev.bej B' K') t:=hB K K' hK
end
section
variable {ds:List Int} {f:Int->B8} (hf:∀k x y,Sim (rv k x y ds) (pV k (f x) (f y)) id)
include hf
end
end
section
end
section
end
set_option maxRecDepth 100000
set_option maxHeartbeats 4000000
section
structure IE (most:Int) (i:Nat) (st:List (List Int)× List Int):Prop where
 len:st.1.length=st.2.length
 sum:(st.1.map List.length).sum=i
 inn:∀g∈st.1,1<=g.length/\(g.length:Int)<=most
theorem Ii {l:List (List Int)} (h:∀g∈l,1<=g.length):l.length<=(l.map List.length).sum:=by
 induction l with
 |nil=>simp
 |cons g l ih=>
  have:=h g (by simp);have:=ih λg hg=>h g (by simp[hg]);simp;omega
theorem IE.le {most:Int} {i:Nat} {st:List (List Int)× List Int} (h:IE most i st):st.1.length<=i:=by
 have:=Ii λg hg=>(h.inn g hg).1;rw[h.sum]at this;exact this
theorem IE.zero (most:Int):IE most 0 ([],[]):=⟨rfl,rfl,λg h=>nomatch h⟩
section
variable {R:Type} {k:Nat} {most:Int} {st:List (List Int)× List Int} {x:B8}
end
end
set_option maxRecDepth 100000
set_option maxHeartbeats 4000000
section
section
variable {R:Type} {k:Nat} {most:Int} {W:List B8} {x:B8}
end
end
set_option maxRecDepth 100000
set_option maxHeartbeats 4000000
section
theorem Eh {k:Nat} {b:List Int} {a:Int} (hk:b.length<k):aj (zo k b a) λr=>r.length<=3001:=by
 have hM:=aL;unfold zo;refine aj.iter (Inv:=λ(v:Int× List Int)=>0<=v.1/\v.1<=(b.length:Int)/\v.1<=3000/\v.2.length=v.1.toNat+1) (m:=λ(v:Int× List Int)=>b.length-v.1.toNat) ?_ k _ ⟨Int.le_refl _,by simp only;omega,by simp only;omega,rfl⟩ (by simp only;omega)
 rintro ⟨j,l⟩ next ⟨h0,h1,h2,hl⟩ hnx
 unfold uV;simp only at h0 h1 h2 hl⊢;refine aj.cond (λa=>aj.cond (λc=>?_) λc=>aj.some (by omega)) λa=>aj.some (by omega);have a:=of_decide_eq_true a;have c:=of_decide_eq_true c;rw[uQ _ h0,aA (by omega),aa];refine aj.ble (by simp;omega) ?_;rw[aH (by omega) (by omega)];exact hnx _ ⟨by simp only;omega,by simp only;omega,by simp only;omega,by simp;omega⟩ (by simp only;omega)
end
set_option maxRecDepth 100000
set_option maxHeartbeats 4000000
section
def AG (x:ab):List ab:=(List.range x.sh.h.toNat).map λj=>partAt x (j*x.sh.c.toNat)
def AH (x:ab):List ab× Bool:=cond (x.okB&&(x.sh.w==1)) (AG x,true) ([],false)
theorem rR {x:ab} (h:x.okB=true) (hw:x.sh.w=1):1<=x.sh.h/\x.sh.h<=8/\1<=x.sh.c/\x.sh.c<=8/\x.data.length=x.sh.h.toNat*x.sh.c.toNat:=by
 unfold ab.okB at h;simp only[J8,decide_eq_true_eq]at h;obtain⟨h1,h2,_⟩:=h;obtain⟨a1,a2,_,_,c1,c2⟩:=Shape.l5 h1;refine⟨a1,a2,c1,c2,?_⟩
 have:x.sh.size=x.sh.h*x.sh.w*x.sh.c:=by unfold Shape.size;rw[h1];rfl
 rw[this,hw,Int.mul_one]at h2
 have e1:x.sh.h=(x.sh.h.toNat:Int):=by omega
 have e2:x.sh.c=(x.sh.c.toNat:Int):=by omega
 rw[e1,e2,<-KW]at h2;exact Int.ofNat.inj h2
theorem FI {a b:Nat} (ha:a<=8) (hb:b<=8):a*b<=64:=KE ha hb
theorem BU {k:Nat} {x:ab} (hk:x.data.length<k) (hx:x.data.length<=oA):dh k x=some (AH x):=by
 have hM:=aL;unfold dh AH;rw[eQ hk hx,aa]
 cases ho:x.okB with
 |false=>rfl
 |true=>
  simp only[KJ,cond_false,Km];rw[lT];by_cases hw:x.sh.w=1
  ·rw[if_pos hw,hw,beq_self_eq_true,cond_true];obtain⟨a1,a2,c1,c2,hl⟩:=rR ho hw;have hmc:=FI (a:=x.sh.h.toNat) (b:=x.sh.c.toNat) (by omega) (by omega);have Ew:1<=x.sh.h.toNat*x.sh.c.toNat:=Nat.mul_pos (by omega) (by omega)
   have hs:ko k x=true:=by
    unfold ko;simp only[J8,decide_eq_true_eq,KP];refine⟨c1,hl,by omega,by omega,λi _=>?_⟩
    have hrl:(rowAt x i).length<=x.data.length:=by unfold rowAt;rw[KC,K9];omega
    rw[jB (by omega),beq_self_eq_true]
   rw[hs];rfl
  ·rw[if_neg hw]
   have:(x.sh.w==1)=false:=by simpa using hw
   rw[this];rfl
end
set_option maxRecDepth 100000
set_option maxHeartbeats 4000000
section
def eT (n:Nat) (l:List ab):Prop:=l.length<=n/\∀t∈l,t.data.length<=513
theorem eT.snoc {n:Nat} {l:List ab} (h:eT n l) {t:ab} (ht:t.data.length<=513):eT (n+1) (l++[t]):=
  ⟨by rw[Kt];have:=h.1;simp;omega,λx hx=>by
    rcases List.mem_append.1 hx with hx|hx
    · exact h.2 x hx
    · rw[List.mem_singleton]at hx;subst hx;exact ht⟩
theorem eT.le {n m:Nat} {l:List ab} (h:eT n l) (hm:l.length<=m):eT m l:=⟨hm,h.2⟩
section
variable {b:List Int} {k:Nat}
theorem nd (hb:b.length<=1048576) (hk:1000<k) {i h:Int} {s:Shape} (hc:Cur b i):aj (bd k b i h s) λr=>r.1.data.length<=513/\Cur b r.2.1:=
 (fY hb hk hc).mono λr ⟨⟨h1,h2⟩,h3⟩=>⟨by have:=s.lE;omega,h3⟩
theorem Ei {R:Type} (hb:b.length<=1048576) (hk:1000<k) {n i h:Int} {p1 p2 p3:Int} (hc:Cur b i) (h0:0<=n) (hn:n<=6) {fin:Int× Int× List ab->Option R} {Q:R->Prop} (hf:∀c h l,Cur b c->eT 6 l->aj (fin (c,h,l)) Q):
  aj (iter (λu17 n17=>cQ k (b,p1,p2,p3) u17 n17 fin) k (n,i,h,([]:List ab))) Q:=by
 have hM:=aL;refine aj.iter (Inv:=λ(v:Int× Int× Int× List ab)=>0<=v.1/\v.1+(v.2.2.2.length:Int)<=6/\Cur b v.2.1/\∀t∈v.2.2.2,t.data.length<=513) (m:=λ(v:Int× Int× Int× List ab)=>v.1.toNat) ?_ k _ ⟨h0,by simp;omega,hc,λt ht=>nomatch ht⟩ (by simp only;omega)
 rintro ⟨j,c,h,l⟩ next ⟨j0,j1,hc,hl⟩ hnx
 unfold cQ;simp only at j0 j1 hc hl⊢;refine aj.cond (λa=>?_) λa=>?_
 ·have a:=of_decide_eq_true a;refine(nd hb hk hc).bind λr3 ⟨d3,c3⟩=>aj.ble (by omega) ?_;rw[aH (by omega) (by omega)];refine hnx _ ⟨by simp only;omega,by simp;omega,c3,λt ht=>?_⟩ (by simp only;omega);exact(eT.snoc (n:=6) ⟨by omega,hl⟩ d3).2 t ht
 ·exact hf c h l hc ⟨by omega,hl⟩
theorem xn {R:Type} (hb:b.length<=1048576) (hk:1000<k) {i h:Int} {p1 p2 p3:Int} {l:List ab} (hc:Cur b i) (hl:eT 9 l) {fin:List ab× Int× Int->Option R} {Q:R->Prop} (hf:∀c h l,Cur b c->eT 9 l->aj (fin (l,c,h)) Q):
  aj (iter (λu11 n11=>b9 k (b,p1,p2,p3) u11 n11 fin) k (i,h,l)) Q:=by
 have hM:=aL;refine aj.iter (Inv:=λ(v:Int× Int× List ab)=>Cur b v.1/\eT 9 v.2.2) (m:=λ(v:Int× Int× List ab)=>9-v.2.2.length) ?_ k _ ⟨hc,hl⟩ (by simp only;omega)
 rintro ⟨c,h,l⟩ next ⟨hc,hl⟩ hnx
 unfold b9;simp only at hc hl⊢;have hl9:=hl.1;refine(az hb hc).bind λr8 ⟨⟨a8,b8,_⟩,c8⟩=>aj.cond (λa=>?_) λa=>hf _ _ l c8 hl;have b8:=b8 (by omega);have a:=of_decide_eq_true a;rw[aH (by omega) (by omega)]at a;refine(nd hb hk c8).bind λr9 ⟨d9,c9⟩=>aj.ble (by omega) ?_;exact hnx _ ⟨c9,(hl.snoc d9).le (by simp;omega)⟩ (by simp;omega)
theorem sy (hb:b.length<=1048576) (hk:b.length+10000<k):aj (eO k b) (eT 9):=by
 have hM:=aL;unfold eO;refine(wW hb (by omega)).bind λr1 hc1=>?_;unfold gW;have fin:∀{c h:Int} {l:List ab},Cur b c->eT 9 l->aj (cond (decide (b=b)) (some (l,c,h)) none) λr=>eT 9 r.1:=λhc hl=>aj.must rfl (aj.some hl);refine aj.bind (P:=λr=>eT 9 r.1) ?_ λr2 h2=>aj.some h2;refine(az hb hc1).bind λr1 ⟨_,c1⟩=>(az hb c1).bind λr2 ⟨⟨a2,b2,_⟩,c2⟩=>?_;have b2:=b2 (by omega);refine Ei hb (by omega) c2 a2 (by omega) λc h l hc hl=>?_;refine(gH hb hc).bind λr5 c5=>aj.cond (λ_=>?_) λ_=>?_
 ·refine(kF hb (by omega) c5).bind λr6 ⟨d6,c6⟩=>aj.ble (by have:=hl.1;simp only;omega) ?_;have h7:=hl.snoc d6;refine(gH hb c6).bind λr7 c7=>aj.cond (λ_=>xn hb (by omega) c7 (h7.le (by have:=h7.1;omega)) λc h l hc hl=>fin hc hl) λ_=>fin c7 (h7.le (by have:=h7.1;omega))
 ·exact(gH hb c5).bind λr12 c12=>aj.cond (λ_=>xn hb (by omega) c12 (hl.le (by have:=hl.1;omega)) λc h l hc hl=>fin hc hl) λ_=>fin c12 (hl.le (by have:=hl.1;omega))
theorem rS (hb:b.length<=1048576) (hk:b.length+20000<k):aj (bU k b) λr=>(r.1.tot<=8100/\r.1.ai.length<=7)/\eT 5 r.2:=by
 have hM:=aL;unfold bU;refine(wW hb (by omega)).bind λr1 hc1=>(pX hb (by omega) hc1).bind λr2 ⟨hm,c2⟩=>(az hb c2).bind λr3 ⟨⟨a3,b3,_⟩,c3⟩=>?_;have b3:=b3 (by omega);refine aj.iter (Inv:=λ(v:Int× Int× Int× List ab)=>0<=v.1/\v.1+(v.2.2.2.length:Int)<=3/\Cur b v.2.1/\∀t∈v.2.2.2,t.data.length<=513) (m:=λ(v:Int× Int× Int× List ab)=>v.1.toNat) ?_ k _ ⟨a3,by simp;omega,c3,λt ht=>nomatch ht⟩ (by simp only;omega)
 rintro ⟨j,c,h,l⟩ next ⟨j0,j1,hc,hl⟩ hnx
 unfold eP;simp only at j0 j1 hc hl⊢;refine aj.cond (λa=>?_) λa=>?_
 ·have a:=of_decide_eq_true a;refine(nd hb (by omega) hc).bind λr4 ⟨d4,c4⟩=>aj.ble (by omega) ?_;rw[aH (by omega) (by omega)];refine hnx _ ⟨by simp only;omega,by simp;omega,c4,λt ht=>?_⟩ (by simp only;omega);exact(eT.snoc (n:=3) ⟨by omega,hl⟩ d4).2 t ht
 ·have hs:eT 3 l:=⟨by omega,hl⟩;refine(gH hb hc).bind λr6 c6=>aj.cond (λ_=>?_) λ_=>aj.some ⟨hm,hs.le (by omega)⟩;refine(kF hb (by omega) c6).bind λr7 ⟨d7,c7⟩=>aj.ble (by omega) (aj.some ⟨hm,(hs.snoc d7).le (by simp;omega)⟩)
end
theorem Ej {k:Nat} {l:List ab} (hk:2000<k) (hl:l.length<=20) (h:∀t∈l,t.okB=true):bI k l l=some true:=by
 have hM:1048576<=oA:=by unfold oA;omega
 unfold bI ax;rw[lT,if_pos rfl];rw[qc l (λ_=>true) (yes:=some true) (no:=some false) (λi hi next=>?_) (λnext=>?_) (by omega),KP.2 λ_ _=>rfl];rfl
 ·unfold ao;have ho:=h _ (KI hi);have hd:=rQ ho;simp only;rw[decide_eq_true (by omega),cond_true,aR,aA hi,aa,aa,lG (by omega) (by omega),aa,ho,decide_eq_true rfl,aC hi (by omega)];rfl
 ·unfold ao;simp only;rw[decide_eq_false (by omega),cond_false]
theorem xo:∀(l:List (List Int)) (c:Nat),(∀x∈l,x.length=c)->∀i (hi:i<l.length),((l.flatMap id).drop (i*c)).take c=l[i]
 |[],_,_,i,hi=>by simp at hi
 |x::l,c,h,i,hi=>by
  have hx:=h x Kx;rw[List.flatMap_cons]
  cases i with
  |zero=>simp[hx]
  |succ i=>
   have ih:=xo l c (λy hy=>h y (Ks _ hy)) i (by simpa using hi);rw[show(i+1)*c=x.length+i*c by rw[KU,hx,Nat.add_comm]];show((x++l.flatMap id).drop (x.length+i*c)).take c=_;rw[List.drop_append,List.drop_of_length_le (by omega),Lf,Ku,ih];simp
theorem Ek {l:List (List Int)} {c:Nat} (h:∀x∈l,x.length=c):(l.flatMap id).length=l.length*c:=by
 induction l with
 |nil=>simp
 |cons x l ih=>
  rw[List.flatMap_cons,Kt,ih λy hy=>h y (Ks _ hy),Kl,KU,Nat.add_comm]
  congr 1
  exact h x Kx
theorem ng {c:Int} {t:ab} (h:mu c t=true):t.okB=true/\t.sh=⟨1,1,c⟩:=by
 unfold mu at h;simp only[J8,decide_eq_true_eq]at h;obtain⟨h1,h2,h3,h4⟩:=h;refine⟨h1,?_⟩;obtain⟨⟨x,y,z⟩,d⟩:=t;simp only at h2 h3 h4;subst h2 h3 h4;rfl
theorem BV {l:List ab} (h:(cH l).2=true):(cH l).1.okB=true/\AH (cH l).1=(l,true)/\∀t∈l,t.okB=true:=by
 cases l with
 |nil=>exact nomatch h
 |cons x l=>
  unfold cH at h⊢;simp only at h⊢
  cases hc:inB ((x::l).length:Int) 1 8&&(x::l).all (mu x.sh.c)with
  |false=>rw[hc]at h;exact nomatch h
  |true=>
   rw[J8]at hc;obtain⟨hn,vj⟩:=hc;have hn:=(bC ..).1 hn;have vj:=KP.1 vj;simp only[cond_true];have hx:=ng (vj x Kx);have hxc:x.okB=true:=hx.1;have vM:∀t∈x::l,t.sh=⟨1,1,x.sh.c⟩:=λt ht=>(ng (vj t ht)).2;have hok:∀t∈x::l,t.okB=true:=λt ht=>(ng (vj t ht)).1;obtain⟨_,_,c1,c8,_⟩:=rR hxc (by rw[hx.2])
   have hlen:∀t∈x::l,t.data.length=x.sh.c.toNat:=λt ht=>by
    have:=(rR (hok t ht) (by rw[vM t ht])).2.2.2.2;rw[vM t ht]at this;simpa using this
   have hfl:((x::l).flatMap (·.data)).length=(x::l).length*x.sh.c.toNat:=by
    have:=Ek (l:=(x::l).map (·.data)) (c:=x.sh.c.toNat) (λy hy=>by
     obtain⟨t,ht,rfl⟩:=Lu.1 hy;exact hlen t ht)
    rw[List.flatMap_map,List.length_map]at this;exact this
   have hokJ:(⟨⟨(x::l).length,1,x.sh.c⟩,(x::l).flatMap (·.data)⟩:ab).okB=true:=by
    unfold ab.okB
    have hs:(⟨(x::l).length,1,x.sh.c⟩:Shape).okB=true:=by
     rw[Shape.nc];exact⟨hn,⟨by show(1:Int)<=1;omega,by show(1:Int)<=8;omega⟩,c1,c8⟩
    rw[hs,Km]
    have hz:(⟨(x::l).length,1,x.sh.c⟩:Shape).size=((x::l).length:Int)*x.sh.c:=by
     unfold Shape.size;rw[hs];simp only[cond_true,Int.mul_one]
    simp only[hz,hfl];rw[show(((x::l).length*x.sh.c.toNat:Nat):Int)=((x::l).length:Int)*x.sh.c from by rw[KW,Int.toNat_of_nonneg (by omega)],decide_eq_true rfl,Km];unfold kD;rw[KP];intro y hy;obtain⟨t,ht,hy⟩:=Lw.1 hy;have:=hok t ht;unfold ab.okB kD at this;simp only[J8]at this;exact KP.1 this.2.2 y hy
   refine⟨hokJ,?_,hok⟩;unfold AH;rw[hokJ];simp only[beq_self_eq_true,LY,cond_true,Kj,and_true];unfold AG;simp only[Ky];refine List.ext_getElem (by simp) λi h1 h2=>?_;rw[List.getElem_map,List.getElem_range];have hm:=KI h2;unfold partAt rowAt;simp only
   have:=xo ((x::l).map (·.data)) x.sh.c.toNat (λy hy=>by
     obtain⟨t,ht,rfl⟩:=Lu.1 hy;exact hlen t ht) i (by simpa using h2)
   rw[List.flatMap_map,List.getElem_map]at this;have this:(((x::l).flatMap λt=>t.data).drop (i*x.sh.c.toNat)).take x.sh.c.toNat=(x::l)[i].data:=this;rw[this];have hs:=vM _ hm;generalize (x::l)[i]=t at hs⊢;obtain⟨s,d⟩:=t;simp only at hs;rw[hs]
theorem Em (s:Shape) (l:al):0<=my s l/\my s l<=10000001:=by
 unfold my dP
 cases h:cf s l with
 |false=>simp only[cond_false];omega
 |true=>
  simp only[cond_true];have:=Ef h;omega
theorem Ij (B:Int) (hB:0<=B/\B<=20000000):∀(l:List Int) (s:Int),(∀x∈l,0<=x/\x<=B)->0<=s->s+B*l.length<=1000000000000->0<=l.foldl (λs x=>i64.wrap (s+x)) s/\l.foldl (λs x=>i64.wrap (s+x)) s<=s+B*l.length
 |[],s,_,h0,_=>by simp;omega
 |x::l,s,h,h0,h1=>by
  have hx:=h x Kx;rw[Kl]at h1⊢
  have e:B*((l.length+1:Nat):Int)=B*l.length+B:=by rw[Int.natCast_add,Int.mul_add];simp
  rw[e]at h1⊢;have hBl:0<=B*(l.length:Int):=KM hB.1 (by omega);rw[List.foldl_cons,aH (by omega) (by omega)];have:=Ij B hB l (s+x) (λy hy=>h y (Ks _ hy)) (by omega) (by omega);omega
theorem xp {m:Model} (hl:m.ai.length<=7):0<=bP m/\bP m<=70000007:=by
 have h:=Ij 10000001 ⟨by omega,by omega⟩ (cL m) 0 (λx hx=>by
  unfold cL at hx;cases hm:cI m<;>rw[hm]at hx
  ·exact nomatch hx
  ·obtain⟨i,_,rfl⟩:=Lu.1 hx
   exact Em _ _) (Int.le_refl _) (by have:=kt m;omega)
 have:=kt m;unfold bP;omega
theorem BW {m:Model} {n:Nat} (hl:m.ai.length<=7) (hn:n<=5):
  (bf m n<0/\ku m [(n:Int)]=-1)\/(0<=bf m n/\bf m n<=i64.wrap ((n:Int)*bP m)/\ku m [(n:Int)]=i64.wrap (i64.wrap ((n:Int)*bP m)-bf m n)):=by
 obtain⟨t0,t1⟩:=xp hl;generalize ht:bP m=t at t0 t1
 have hs:ku m [(n:Int)]=cond (decide (bf m n<0)) (-1) (i64.wrap (0+i64.wrap (i64.wrap (t*n)-bf m n))):=by
  unfold ku jE jE;rw[ht];rfl
 have hmul:∀j:Int,0<=j->j<=5->0<=t*j/\t*j<=350000035:=λj h0 h1=>⟨KM t0 h0,Int.le_trans (K7 t1 h1 h0 (by omega)) (by omega)⟩;obtain⟨m0,m1⟩:=hmul n (by omega) (by omega)
 cases hm:cI m with
 |false=>
  left
  have:bf m n=-1:=by unfold bf;rw[hm];rfl
  rw[hs,this];exact⟨by omega,rfl⟩
 |true=>
  right;have hin:inB (n:Int) 0 8=true:=(bC ..).2 ⟨by omega,by omega⟩
  have hb:0<=bf m n/\bf m n<=t*n:=by
   unfold bf;rw[hm,hin,ht];simp only[LY,cond_true];by_cases h0:n=0
   ·subst h0;rw[show decide (((0:Nat):Int)=0)=true from rfl,cond_true];simp
   ·rw[decide_eq_false (by omega),cond_false];have q0:=Int.tdiv_nonneg t0 (show(0:Int)<=2 by omega);have q1:t.tdiv 2<=t:=Int.tdiv_le_self 2 t0;rw[aH (n:=(n:Int)-1) (by omega) (by omega),aH (n:=t.tdiv 2) (by omega) (by omega)];have a0:0<=((n:Int)-1)*t.tdiv 2:=KM (by omega) q0;have a1:((n:Int)-1)*t.tdiv 2<=((n:Int)-1)*t:=Int.mul_le_mul_of_nonneg_left q1 (by omega)
    have a2:((n:Int)-1)*t=t*n-t:=by rw[Int.sub_mul,Int.one_mul,Int.mul_comm]
    rw[aH (n:=((n:Int)-1)*t.tdiv 2) (by omega) (by omega),aH (by omega) (by omega)];omega
  rw[hs,decide_eq_false (by omega),cond_false,Int.mul_comm (n:Int) t,aH (n:=t*n) (by omega) (by omega)];refine⟨hb.1,hb.2,?_⟩;rw[Int.zero_add,aH (n:=t*n-bf m n) (by omega) (by omega),aH (by omega) (by omega)]
theorem En {m:Model} {ts:List ab} (h:(jH m ts).2=true):∀t∈(jH m ts).1,t.okB=true:=by
 unfold jH at h⊢
 cases hc:inB (ts.length:Int) 1 8&&ts.all λt=>(lD m t).2 with
 |false=>rw[hc]at h;exact nomatch h
 |true=>
  rw[J8]at hc;intro t ht;simp only[cond_true]at ht;obtain⟨u,hu,rfl⟩:=Lu.1 ht;exact FH (KP.1 hc.2 u hu)
theorem xq {n:Nat} {l:List ab} (h:eT n l):jo ab.tot l<=n*514:=by
 have:=vg (t:=ab.tot) (B:=513) (xs:=l) λt ht=>by unfold ab.tot;have:=h.2 t ht;omega
 exact Lx this (KE h.1 (Kr _))
theorem sA (code:List Int) (hb:okS okB code):∃k,gX k code=some true:=by
 have hM:=aL;refine⟨code.length+60000,?_⟩;obtain⟨k,hk0⟩:∃k,k=code.length+60000:=⟨_,rfl⟩;rw[<-hk0];unfold gX G8;rw[aa,ag];by_cases c:(code.length:Int)>1048576
 ·rw[if_pos c]
 rw[if_neg c];obtain⟨l,e2,hl⟩:=sy (k:=k) (b:=code) (by omega) (by omega);obtain⟨r8,e8,h8⟩:=Eh (k:=k) (b:=code) (a:=1) (by omega);obtain⟨⟨m,ts⟩,e9,⟨hm1,hm2⟩,hts⟩:=rS (k:=k) (b:=r8) (by omega) (by omega);simp only at hm1 hm2 hts;have hlt:=xq hl;have htt:=xq hts;have htl:=hts.1
 have hxl:1048576<=oA:=by unfold oA;omega
 rw[e2,aa,sn (by omega) (by omega),aa,sm (by omega) (by omega),aa];have f1:=su (m:=m) (ts:=ts) (k:=k) (by omega) (by omega);have f2:=sw (m:=m) (ts:=ts) (k:=k) (by omega) (by omega);have f3:=mA (m:=m) (n:=(ts.length:Int)) (k:=k) (by omega) (by omega);have f4:=mB (m:=m) (n:=(ts.length:Int)) (k:=k) (by omega) (by omega);have f5:=wX (m:=m) (xs:=[(ts.length:Int)]) (k:=k) (by omega) (by omega) (by simp;omega) (by simp;omega);have f6:=wY (m:=m) (xs:=[(ts.length:Int)]) (k:=k) (by omega) (by omega) (by simp;omega) (by simp;omega);have f7:=iW (m:=m) (k:=k) (by omega) (by omega);have hT:=BW (m:=m) (n:=ts.length) hm2 htl
 have hne:∀x:Int,(x !=x)=false:=λx=>by simp
 have hlen:(jH m ts).1.length<=20:=by
  unfold jH;cases inB (ts.length:Int) 1 8&&ts.all λt=>(lD m t).2
  ·simp
  ·simp;omega
 have hso:(jH m ts).2=true->bI k (jH m ts).1 (jH m ts).1=some true:=λh=>Ej (by omega) hlen (En h);generalize jH m ts=be at f1 f2 hso;obtain⟨bo,bb⟩:=be;generalize bf m (ts.length:Int)=bc at f3 f4 hT;generalize ku m [(ts.length:Int)]=sv at f5 f6 hT;have hj:=@BV l;have hjs:=λh=>BU (k:=k) (x:=(cH l).1) (by have:=rQ (hj h).1;omega) (by have:=rQ (hj h).1;omega);have hsj:=λh=>lG (k:=k) (a:=(cH l).1) (b:=(cH l).1) (by have:=rQ (hj h).1;omega) (by have:=rQ (hj h).1;omega)
 have hll:l.length<=20:=by have:=hl.1;omega
 have hsl:=λh=>Ej (k:=k) (l:=l) (by omega) hll (hj h).2.2;generalize cH l=jb at hj hjs hsj hsl;obtain⟨J,jf⟩:=jb;simp only at hj hjs hsj hsl
 have fin:∀X:Option Bool,X=cond (decide (bc<0)) (cond (sv==-1) (some true) (cond (decide (bc>=0)) (cond (decide (bc<=i64.wrap ((ts.length:Int)*bP m))) (some (sv==i64.wrap (i64.wrap ((ts.length:Int)*bP m)-bc))) (some false)) (some false)))
   (cond (decide (bc>=0)) (cond (decide (bc<=i64.wrap ((ts.length:Int)*bP m))) (some (sv==i64.wrap (i64.wrap ((ts.length:Int)*bP m)-bc))) (some false)) (some false))->X=some true:=λX e=>by
  rw[e]
  rcases hT with⟨h1,h2⟩|⟨h1,h2,h3⟩
  ·rw[decide_eq_true h1,h2];rfl
  ·rw[decide_eq_false (by omega),decide_eq_true (show bc>=0 from h1),decide_eq_true h2,h3,beq_self_eq_true];rfl
 refine fin _ ?_
 cases jf with
 |false=>
  simp only[beq_self_eq_true,KJ,cond_false,cond_true,e8,e9,aa,f1,f2]
  cases bb with
  |false=>simp only[f3,f4,f5,f6,f7,aa,hne,cond_false,cond_true]
  |true=>simp only[hso rfl,f3,f4,f5,f6,f7,aa,hne,cond_false,cond_true,KJ]
 |true=>
  obtain⟨j1,j2,j3⟩:=hj rfl;simp only[beq_self_eq_true,KJ,cond_false,cond_true,hsj rfl,hjs rfl,j1,j2,decide_true,LY,hsl rfl,e8,e9,aa,f1,f2]
  cases bb with
  |false=>simp only[f3,f4,f5,f6,f7,aa,hne,cond_false,cond_true]
  |true=>simp only[hso rfl,f3,f4,f5,f6,f7,aa,hne,cond_false,cond_true,KJ]
end
end Go.Proofs.Ev
