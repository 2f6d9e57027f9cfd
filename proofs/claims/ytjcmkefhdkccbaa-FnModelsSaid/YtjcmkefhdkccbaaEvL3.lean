/- Typed functions and what holds of them: part 3. -/
import Derived.Test.YtjcmkefhdkccbaaEvL2
set_option linter.unusedVariables false
set_option linter.unusedSimpArgs false
set_option linter.unusedVariables false
set_option linter.unusedSimpArgs false
set_option maxRecDepth 100000
namespace Go.Proofs.Ev
section
variable {b:List Int} {k:Nat}
theorem vm (hb:b.length≤1048576) (hk:2000<k) {R:Type} {Q:R→Prop} {fin:(Int× Int× List Int)→Option R} {p:Int× List Int× Int× Int× Int× Int× Int× Int× Int× Int× Int× Int× Int× Int× Int× Int} (hp:p.2.1=b) (h0:0≤p.1) (h1:p.1≤1600) {c h:Int} (hc:Cur b c)
    (hf:∀c' h' ws,Cur b c'→(ws.length:Int)≤1600→ao (fin (c',h',ws)) Q):ao (iter (fun u n=>bc k p u n fin) k ((0:Int),c,h,([]:List Int))) Q:=by
  have hM:=bo
  refine ao.iter (Inv:=fun v:Int× Int× Int× List Int=>Cur b v.2.1∧0≤v.1∧v.1≤p.1∧(v.2.2.2.length:Int)=v.1) (m:=fun v=>(p.1-v.1).toNat) (fun v next hv hn=>?_) k _ ⟨hc,by simp;omega⟩ (by simp only;omega)
  obtain⟨v1,v2,v3,v4⟩:=hv
  unfold bc
  rw[hp]
  refine ao.cond (fun q=>?_) fun q=>hf _ _ _ v1 (by omega)
  have q:v.1<p.1:=of_decide_eq_true q
  refine(lH hb v1).bind fun r2 ⟨_,hc2⟩=>ao.ble (by simp;omega) (hn _ ⟨hc2,?_⟩ ?_)
  · simp only[List.length_append,List.length_cons,List.length_nil]
    rw[aN (n:=v.1+1) (by omega) (by omega)]
    omega
  · simp only
    rw[aN (n:=v.1+1) (by omega) (by omega)]
    omega
theorem BU (hb:b.length≤1048576) (hk:2000<k) {R:Type} {Q:R→Prop} {fin:(Int× Int× List Int)→Option R} {p:List Int× Int× Int× Int× Int× Int× Int× Int× Int× Int× Int× Int× Int× Int× Int× List Int} (hp:p.1=b) (h0:0≤p.2.2.2.2.2.2.2.2.2.1) (h1:p.2.2.2.2.2.2.2.2.2.1≤3) {c h:Int} (hc:Cur b c)
    (hf:∀c' h' ws,Cur b c'→(ws.length:Int)≤3→ao (fin (c',h',ws)) Q):ao (iter (fun u n=>bd k p u n fin) k ((0:Int),c,h,([]:List Int))) Q:=by
  have hM:=bo
  refine ao.iter (Inv:=fun v:Int× Int× Int× List Int=>Cur b v.2.1∧0≤v.1∧v.1≤p.2.2.2.2.2.2.2.2.2.1∧(v.2.2.2.length:Int)=v.1) (m:=fun v=>(p.2.2.2.2.2.2.2.2.2.1-v.1).toNat) (fun v next hv hn=>?_) k _ ⟨hc,by simp;omega⟩ (by simp only;omega)
  obtain⟨v1,v2,v3,v4⟩:=hv
  unfold bd
  rw[hp]
  refine ao.cond (fun q=>?_) fun q=>hf _ _ _ v1 (by omega)
  have q:v.1<p.2.2.2.2.2.2.2.2.2.1:=of_decide_eq_true q
  refine(aR hb v1).bind fun r2 ⟨_,hc2⟩=>ao.ble (by simp;omega) (hn _ ⟨hc2,?_⟩ ?_)
  · simp only[List.length_append,List.length_cons,List.length_nil]
    rw[aN (n:=v.1+1) (by omega) (by omega)]
    omega
  · simp only
    rw[aN (n:=v.1+1) (by omega) (by omega)]
    omega
def tp (b:List Int) (r:ai× Int× Int):Prop:=r.1.tot≤1610∧Cur b r.2.1
theorem fV (hb:b.length≤1048576) {R:Type} {Q:R→Prop} {s:Shape} (hs:s.okB=true) {K c h:Int} (hc:Cur b c) {Z:Int→Int→Int→Int→Option R}
    (hZ:∀c h sz st,Cur b c→0≤sz→sz≤3→ao (Z c h sz st) Q):ao ((bQ k K (1:Int) (3:Int)).bind fun r96=>bej (fun(j105:Int→Int→Int→Int→Option R)=>cond (r96) (bej (fun(j97:Int→Option R)=>cond (decide (s.h<(3:Int))) ((j97 s.h)) ((j97 (3:Int)))) (fun(j97_0:Int)=>cond (decide (s.w<j97_0)) ((ae k b c h s.w).bind fun r101=>(ae k b r101.2.1 r101.2.2 (2:Int)).bind fun r102=>(j105 r102.2.1 r102.2.2 (IntKind.i64.wrap ((1:Int)+r101.1)) (IntKind.i64.wrap ((1:Int)+r102.1)))) ((ae k b c h j97_0).bind fun r103=>(ae k b r103.2.1 r103.2.2 (2:Int)).bind fun r104=>(j105 r104.2.1 r104.2.2 (IntKind.i64.wrap ((1:Int)+r103.1)) (IntKind.i64.wrap ((1:Int)+r104.1)))))) ((j105 c h (0:Int) (0:Int)))) Z) Q:=by
  obtain⟨⟨a1,a2⟩,⟨b1,b2⟩,c1,c2⟩:=Shape.qq.1 hs
  rw[dH]
  refine ao.of (ao.FV (fun c _ sz _=>Cur b c∧0≤sz∧sz≤3) (fun c h sz st ⟨q1,q2,q3⟩=>hZ c h sz st q1 q2 q3) fun j hj=>ao.cond (fun _=>?_) fun _=>hj _ _ _ _ ⟨hc,by omega,by omega⟩)
  refine ao.FO (fun x=>1≤x∧x≤3) (fun x ⟨x1,x2⟩=>?_) fun j' hj'=>ao.cond (fun q=>hj' _ ⟨a1,?_⟩) fun _=>hj' _ ⟨by omega,by omega⟩
  · refine ao.cond (fun q=>?_) fun q=>?_
    · have q:s.w<x:=of_decide_eq_true q
      refine(aR hb hc).bind fun r1 ⟨⟨p1,p2,_⟩,hc1⟩=>(aR hb hc1).bind fun r2 ⟨_,hc2⟩=>hj _ _ _ _ ⟨hc2,?_⟩
      have p2:=p2 (by omega)
      rw[aN (n:=1+r1.1) (by omega) (by omega)]
      omega
    · refine(aR hb hc).bind fun r1 ⟨⟨p1,p2,_⟩,hc1⟩=>(aR hb hc1).bind fun r2 ⟨_,hc2⟩=>hj _ _ _ _ ⟨hc2,?_⟩
      have p2:=p2 (by omega)
      rw[aN (n:=1+r1.1) (by omega) (by omega)]
      omega
  · have q:s.h<3:=of_decide_eq_true q
    omega
theorem lx (hb:b.length≤1048576) (hk:2000<k) {s:Shape} (hs:s.okB=true) {K c h sz st:Int} (hc:Cur b c) (z0:0≤sz) (z1:sz≤3):ao (cond (decide (K≤(1:Int))) ((ae k b c h (3:Int)).bind fun r106=>(ae k b r106.2.1 r106.2.2 (16777216:Int)).bind fun r107=>(ae k b r107.2.1 r107.2.2 (10:Int)).bind fun r108=>(ae k b r108.2.1 r108.2.2 (9:Int)).bind fun r109=>(bK k s).bind fun r110=>bej (fun(j111:Int→Option (ai× Int× Int))=>cond (K==(1:Int)) ((j111 (IntKind.i64.wrap ((IntKind.i64.wrap ((IntKind.i64.wrap ((IntKind.i64.wrap ((1:Int)+r106.1))*sz))*sz))*s.c)))) ((j111 (IntKind.i64.wrap ((IntKind.i64.wrap ((1:Int)+r106.1))*r110))))) (fun(j111_0:Int)=>iter (fun u117 n117=>bc k (j111_0,b,(0:Int),(0:Int),(0:Int),(0:Int),(0:Int),(0:Int),(0:Int),K,IntKind.i64.wrap ((1:Int)+r106.1),sz,st,IntKind.i64.wrap ((1073741824:Int)+(IntKind.i64.wrap (r107.1*(60:Int)))),r108.1,IntKind.i64.wrap (r109.1-(4:Int))) u117 n117 (fun y113=>iter (fun u116 n116=>bd k (b,(0:Int),(0:Int),(0:Int),(0:Int),(0:Int),(0:Int),(0:Int),K,IntKind.i64.wrap ((1:Int)+r106.1),sz,st,IntKind.i64.wrap ((1073741824:Int)+(IntKind.i64.wrap (r107.1*(60:Int)))),r108.1,IntKind.i64.wrap (r109.1-(4:Int)),y113.2.2) u116 n116 (fun y115=>bej (fun(j119:Int→Int→Int→Option (ai× Int× Int))=>cond (K==(4:Int)) ((ae k b y115.1 y115.2.1 (20:Int)).bind fun r118=>(j119 (IntKind.i64.wrap (r118.1-(10:Int))) r118.2.1 r118.2.2)) ((j119 (IntKind.i64.wrap (r109.1-(4:Int))) y115.1 y115.2.1))) (fun(j119_13:Int) (j119_15:Int) (j119_16:Int)=>cond (decide (b=b)) (some ((⟨K,(IntKind.i64.wrap ((1:Int)+r106.1)),sz,st,(IntKind.i64.wrap ((1073741824:Int)+(IntKind.i64.wrap (r107.1*(60:Int))))),r108.1,j119_13,y113.2.2,y115.2.2⟩:ai),j119_15,j119_16)) none))) k ((0:Int),y113.1,y113.2.1,([]:List Int)))) k ((0:Int),r109.2.1,r109.2.2,([]:List Int)))) (cond (K==(4:Int)) ((ae k b c h (20:Int)).bind fun r120=>cond (decide (b=b)) (some ((⟨K,(0:Int),sz,st,(0:Int),(0:Int),(IntKind.i64.wrap (r120.1-(10:Int))),([]:List Int),([]:List Int)⟩:ai),r120.2.1,r120.2.2)) none) (cond (decide (b=b)) (some ((⟨K,(0:Int),sz,st,(0:Int),(0:Int),(0:Int),([]:List Int),([]:List Int)⟩:ai),c,h)) none))) (tp b):=by
  obtain⟨⟨a1,a2⟩,⟨b1,b2⟩,c1,c2⟩:=Shape.qq.1 hs
  refine ao.cond (fun _=>?_) fun _=>ao.cond (fun _=>?_) fun _=>?_
  · refine(aR hb hc).bind fun r1 ⟨⟨p1,p2,_⟩,hc1⟩=>(aR hb hc1).bind fun r2 ⟨⟨q1,q2,_⟩,hc2⟩=>(aR hb hc2).bind fun r3 ⟨_,hc3⟩=>(aR hb hc3).bind fun r4 ⟨_,hc4⟩=>?_
    have p2:=p2 (by omega)
    have q2:=q2 (by omega)
    rw[fy]
    have hz:=s.iI
    have m1:0≤(1+r1.1)*sz:=Int.mul_nonneg (by omega) z0
    have m2:(1+r1.1)*sz≤3*3:=Int.mul_le_mul (by omega) z1 z0 (by omega)
    have m3:0≤(1+r1.1)*sz*sz:=Int.mul_nonneg m1 z0
    have m4:(1+r1.1)*sz*sz≤9*3:=Int.mul_le_mul m2 z1 z0 (by omega)
    have m5:0≤(1+r1.1)*sz*sz*s.c:=Int.mul_nonneg m3 (by omega)
    have m6:(1+r1.1)*sz*sz*s.c≤27*8:=Int.mul_le_mul m4 c2 (by omega) (by omega)
    have n1:0≤(1+r1.1)*s.size:=Int.mul_nonneg (by omega) hz.1
    have n2:(1+r1.1)*s.size≤3*512:=Int.mul_le_mul (by omega) hz.2 hz.1 (by omega)
    have w1:=aN (n:=1+r1.1) (by omega) (by omega)
    refine ao.of (ao.FO (fun n=>0≤n∧n≤1600) (fun n ⟨n0,n1⟩=>?_) fun j hj=>ao.cond (fun _=>hj _ ?_) fun _=>hj _ ?_)
    · refine vm hb hk rfl n0 n1 hc4 fun c' h' ws hc' hw=>BU hb hk rfl ?_ ?_ hc' fun c2 h2 bs hc2 hbs=>?_
      · simp only;rw[w1];omega
      · simp only;rw[w1];omega
      · refine ao.FU (fun _ c _=>Cur b c) (fun z c h hc=>ao.must rfl (ao.some ⟨?_,hc⟩)) fun j hj=>ao.cond (fun _=>(aR hb hc2).bind fun r5 ⟨_,hc5⟩=>hj _ _ _ hc5) fun _=>hj _ _ _ hc2
        simp only[ai.tot]
        omega
    · rw[w1,aN (n:=(1+r1.1)*sz) (by omega) (by omega),aN (n:=(1+r1.1)*sz*sz) (by omega) (by omega),aN (n:=(1+r1.1)*sz*sz*s.c) (by omega) (by omega)]
      omega
    · rw[w1,aN (n:=(1+r1.1)*s.size) (by omega) (by omega)]
      omega
  · exact(aR hb hc).bind fun r1 ⟨_,hc1⟩=>ao.must rfl (ao.some ⟨by simp[ai.tot],hc1⟩)
  · exact ao.must rfl (ao.some ⟨by simp[ai.tot],hc⟩)
theorem qt (hb:b.length≤1048576) (hk:2000<k) {s:Shape} (hs:s.okB=true) {c h:Int} (hc:Cur b c):ao (dQ k b c h s) (tp b):=by
  unfold dQ
  refine(fC hb hc (by simp)).bind fun r1 ⟨_,hc1⟩=>?_
  have small:∀{K sz st c h},Cur b c→ao ((ae k b c h (20:Int)).bind fun r13=>cond (decide (b=b)) (some ((⟨K,(0:Int),sz,st,(0:Int),(0:Int),(IntKind.i64.wrap (r13.1-(10:Int))),([]:List Int),([]:List Int)⟩:ai),r13.2.1,r13.2.2)) none) (tp b):=fun hc=>
    (aR hb hc).bind fun r1 ⟨_,hc1⟩=>ao.must rfl (ao.some ⟨by simp[ai.tot],hc1⟩)
  have any:∀{B:(Int→Option (ai× Int× Int))→Option (ai× Int× Int)} {Z:Int→Option (ai× Int× Int)},(∀K,ao (Z K) (tp b))→(∀j:Int→Option (ai× Int× Int),(∀x,ao (j x) (tp b))→ao (B j) (tp b))→ao (bej B Z) (tp b):=fun h1 h2=>h2 _ h1
  have sized:∀{f:Int→Option (ai× Int× Int)},(∀n,ao (f n) (tp b))→ao ((bK k s).bind f) (tp b):=fun h=>by rw[fy];exact h _
  refine ao.cond (fun _=>sized fun n=>ao.cond (fun _=>?_) fun _=>ao.cond (fun _=>?_) fun _=>?_) fun _=>ao.cond (fun _=>?_) fun _=>?_
  · exact fV hb hs hc1 fun c h sz st h1 _ _=>small h1
  · exact sized fun n=>any (fun K=>fV hb hs hc1 fun c h sz st h1 h2 h3=>lx hb hk hs h1 h2 h3) fun j hj=>ao.cond (fun _=>hj _) fun _=>hj _
  · exact fV hb hs hc1 fun c h sz st h1 h2 h3=>lx hb hk hs h1 h2 h3
  · exact sized fun n=>any (fun K=>fV hb hs hc1 fun c h sz st h1 h2 h3=>lx hb hk hs h1 h2 h3) fun j hj=>ao.cond (fun _=>hj _) fun _=>hj _
  · exact fV hb hs hc1 fun c h sz st h1 h2 h3=>lx hb hk hs h1 h2 h3
end
end Go.Proofs.Ev
set_option linter.unusedVariables false
set_option linter.unusedSimpArgs false
set_option maxRecDepth 100000
namespace Go.Proofs.Ev
theorem rV {s:Shape} {l:ai} (h:cI s l=true):(shapeOf s l).okB=true:=by
  have hs:s.okB=true:=by
    unfold cI at h
    rw[Bool.and_eq_true]at h
    exact h.1
  have hz:=s.iI
  have ht:(⟨s,List.replicate s.size.toNat 0⟩:aA).okB=true:=by
    unfold aA.okB kM
    rw[hs,Bool.true_and,Bool.and_eq_true]
    refine⟨decide_eq_true (by simp;omega),?_⟩
    rw[List.all_eq_true]
    intro x hx
    rw[List.mem_replicate]at hx
    rw[hx.2];rfl
  obtain⟨h1,h2,_⟩:=oa ht h
  have h2:(qz ⟨s,List.replicate s.size.toNat 0⟩ l).1.sh=shapeOf s l:=h2
  rw[←h2]
  unfold aA.okB at h1
  rw[Bool.and_eq_true]at h1
  exact h1.1
theorem rW {α:Type}:∀xs:List α,mm (xs.map some)=some xs
  |[]=>rfl
  |x::l=>by rw[List.map_cons,mm,rW l];rfl
theorem zL {α:Type} (xs:List α) (i:Nat) (y:α):mm ((iJ xs i).set i (some y))=some (xs.set i y):=by
  unfold iJ
  rw[List.set_set,show(xs.map some).set i (some y)=(xs.set i y).map some from by rw[List.map_set],rW]
theorem yD {α:Type} (t:α→Nat) (y:α):∀(xs:List α) (i:Nat) (hi:i<xs.length),lA t (xs.set i y)+t xs[i]=lA t xs+t y
  |[],i,hi=>by simp at hi
  |x::l,0,hi=>by rw[List.set_cons_zero,iW,iW];simp;omega
  | x :: l, i + 1, hi => by
    have:=yD t y l i (by simpa using hi)
    rw[List.set_cons_succ,iW,iW]
    simp only[List.getElem_cons_succ]
    omega
section
variable {b:List Int} {k:Nat}
theorem qM (hb:b.length≤1048576) (hk:10000<k) {s:Shape} (hs:s.okB=true) {c h n:Int} (hc:Cur b c) (hn:n≤5):ao (eU k b c h s n) fun r=>(r.1.inp=s∧r.1.tot≤8055∧r.1.ab.length≤5)∧Cur b r.2.1:=by
  have hM:=bo
  unfold eU
  refine ao.iter (Inv:=fun v:Int× Int× Int× Int× Int× Int× List ai=>Cur b v.2.1∧0≤v.1∧v.1≤5∧(⟨v.2.2.2.1,v.2.2.2.2.1,v.2.2.2.2.2.1⟩:Shape).okB=true∧((lA ai.tot v.2.2.2.2.2.2:Nat):Int)≤1611*v.1∧(v.2.2.2.2.2.2.length:Int)≤v.1) (m:=fun v=>(6-v.1).toNat) (fun v next hv hx=>?_) k _ ⟨hc,by simp,by simp,hs,by simp[lA],by simp⟩ (by simp only;omega)
  obtain⟨v1,v2,v3,v4,v5,v6⟩:=hv
  unfold cy
  have done:∀c' h':Int,Cur b c'→ao (cond (decide (b=b)) (some ((⟨s,v.2.2.2.2.2.2⟩:Model),c',h')) none) fun r=>(r.1.inp=s∧r.1.tot≤8055∧r.1.ab.length≤5)∧Cur b r.2.1:=fun c' h' hc'=>ao.must rfl (ao.some ⟨⟨rfl,by simp only[Model.tot];omega,by simp only;omega⟩,hc'⟩)
  refine ao.cond (fun q=>?_) fun _=>done _ _ v1
  have q:v.1<n:=of_decide_eq_true q
  refine(qt hb (by omega) v4 v1).bind fun r1 ⟨t1,hc1⟩=>?_
  rw[jT (by omega) (by omega)]
  unfold dU
  cases hl:cI (⟨v.2.2.2.1,v.2.2.2.2.1,v.2.2.2.2.2.1⟩:Shape) r1.1
  · exact done _ _ hc1
  · refine ao.ble (by omega) (hx _ ⟨hc1,?_,?_,rV hl,?_,?_⟩ ?_)
    · simp only;rw[aN (n:=v.1+1) (by omega) (by omega)];omega
    · simp only;rw[aN (n:=v.1+1) (by omega) (by omega)];omega
    · simp only;rw[aN (n:=v.1+1) (by omega) (by omega),dX,iW]
      simp only[lA,List.length_nil,List.map_nil,List.sum_nil]at v5⊢
      omega
    · simp only[List.length_append,List.length_cons,List.length_nil];rw[aN (n:=v.1+1) (by omega) (by omega)];omega
    · simp only;rw[aN (n:=v.1+1) (by omega) (by omega)];omega
theorem qu (hb:b.length≤1048576) (hk:10000<k) {c h:Int} (hc:Cur b c):ao (dR k b c h) fun r=>(r.1.inp.okB=true∧r.1.tot≤8055∧r.1.ab.length≤5)∧Cur b r.2.1:=by
  unfold dR
  refine(kR hb hc (by omega) (by omega)).bind fun r1 ⟨ok1,hc1⟩=>(aR hb hc1).bind fun r2 ⟨⟨p1,p2,_⟩,hc2⟩=>?_
  have p2:=p2 (by omega)
  refine(qM hb hk ok1 hc2 ?_).bind fun r3 ⟨⟨e3,l3,m3⟩,hc3⟩=>ao.must rfl (ao.some ⟨⟨by rw[e3];exact ok1,l3,m3⟩,hc3⟩)
  rw[aN (n:=1+r2.1) (by omega) (by omega)];omega
theorem zM (hb:b.length≤1048576) {c h:Int} {l:ai} (hl:l.tot≤100000) (hc:Cur b c):ao (im k b c h l) fun r=>r.1.tot≤l.tot+1∧Cur b r.2.1:=by
  have hM:=bo
  have hw:l.weights.length≤100000:=by unfold ai.tot at hl;omega
  have hbi:l.fK.length≤100000:=by unfold ai.tot at hl;omega
  unfold im
  refine(aR hb hc).bind fun r1 ⟨_,hc1⟩=>?_
  repeat' refine ao.cond (fun _=>?_) fun _=>?_
  all_goals first
    |exact(fC hb hc1 (by simp)).bind fun r ⟨_,hr⟩=>ao.must rfl (ao.some ⟨by simp[ai.tot],hr⟩)
    |exact(fC hb hc1 (by simp)).bind fun r ⟨_,hr⟩=>ao.ble (by simp;omega) (ao.must rfl (ao.some ⟨by simp[ai.tot];omega,hr⟩))
    |exact ao.some ⟨by simp[ai.tot],hc1⟩
    |(rename_i q;exact(by simp at q))
    |skip
theorem oL (hb:b.length≤1048576) (hk:10000<k) {c h:Int} (hc:Cur b c):ao (dS k b c h) fun r=>(r.1.tot≤8100∧r.1.ab.length≤7)∧Cur b r.2.1:=by
  have hM:=bo
  unfold dS
  refine(qu hb hk hc).bind fun r1 ⟨⟨ok1,t1,l1⟩,hc1⟩=>(nT hb hc1).bind fun r2 hc2=>?_
  have plain:∀{m:Model} {c h:Int},m.tot≤8100→m.ab.length≤7→Cur b c→ao (cond (decide (b=b)) (some (m,c,h)) none) fun r=>(r.1.tot≤8100∧r.1.ab.length≤7)∧Cur b r.2.1:=fun h1 h2 h3=>ao.must rfl (ao.some ⟨⟨h1,h2⟩,h3⟩)
  refine ao.cond (fun _=>ao.cond (fun q=>(aR hb hc2).bind fun r3 ⟨_,hc3⟩=>?_) fun _=>plain (by omega) (by omega) hc2) fun _=>plain (by omega) (by omega) hc2
  have q:(r1.1.ab.length:Int)>0:=of_decide_eq_true q
  refine ao.cond (fun _=>?_) fun _=>ao.cond (fun _=>?_) fun _=>ao.cond (fun _=>?_) fun _=>ao.cond (fun _=>?_) fun _=>plain (by omega) (by omega) hc3
  · exact(fC hb hc3 (by simp)).bind fun r4 ⟨_,hc4⟩=>plain (by simp only[Model.tot]at t1⊢;omega) (by simp only;omega) hc4
  · refine(aR hb hc3).bind fun r5 ⟨⟨p1,p2,_⟩,hc5⟩=>ao.must ⟨p1,p2 (by omega)⟩ ?_
    have p2:=p2 (by omega)
    have hi:r5.1.toNat<r1.1.ab.length:=by omega
    rw[List.getElem?_eq_getElem hi]
    have hm:=o4 ai.tot (List.getElem_mem hi)
    have ht:lA ai.tot r1.1.ab≤8055:=by simpa[Model.tot]using t1
    refine ao.of ((zM hb (by omega) hc5).bind fun r7 ⟨t7,hc7⟩=>ao.must ⟨p1,by rw[ek];exact p2⟩ ?_)
    rw[zL]
    have hp:=yD ai.tot r7.1 r1.1.ab r5.1.toNat hi
    exact ao.of (plain (by simp only[Model.tot];omega) (by simp;omega) hc7)
  · exact plain (by simp[Model.tot,lA]) (by simp) hc3
  · refine ao.iter (Inv:=fun v:Int× Int× List ai=>Cur b v.1∧v.2.2.length≤7∧lA ai.tot v.2.2≤8055+v.2.2.length) (m:=fun v=>8-v.2.2.length) (fun v next hv hn=>?_) k _ ⟨hc3,by simp only;omega,by simp only[Model.tot]at t1⊢;omega⟩ (by simp only;omega)
    obtain⟨v1,v2,v3⟩:=hv
    unfold cj
    refine(aR hb v1).bind fun r9 ⟨⟨p1,p2,_⟩,hc9⟩=>?_
    have p2:=p2 (by omega)
    rw[aN (n:=6+r9.1) (by omega) (by omega)]
    refine ao.cond (fun q=>ao.ble (by omega) (hn _ ⟨hc9,?_,?_⟩ ?_)) fun _=>plain (by simp only[Model.tot];omega) (by simp only;omega) hc9
    · have q:=of_decide_eq_true q
      simp;omega
    · rw[dX,iW]
      simp[ai.tot,lA]at v3⊢
      omega
    · have q:=of_decide_eq_true q
      simp;omega
theorem qN (hb:b.length≤1048576) (hk:b.length+10000<k):ao (eV k b) fun r=>r.1.tot≤8100∧r.2.data.length≤513:=by
  unfold eV
  refine(BH hb (by omega)).bind fun r1 hc1=>(oL hb (by omega) hc1).bind fun r2 ⟨⟨t2,l2⟩,hc2⟩=>(fY hb (by omega) hc2).bind fun r3 ⟨⟨e3,l3⟩,hc3⟩=>(nT hb hc3).bind fun r4 hc4=>?_
  have hs:=r2.1.inp.iI
  exact ao.cond (fun _=>(oK hb (by omega) hc4).bind fun r5 ⟨l5,_⟩=>ao.some ⟨t2,l5⟩) fun _=>ao.some ⟨t2,by simp only;omega⟩
end
end Go.Proofs.Ev
set_option linter.unusedVariables false
set_option linter.unusedSimpArgs false
set_option maxRecDepth 100000
namespace Go.Proofs.Ev
theorem vn:∀(xs:List Int) (s:Int),xs.foldl (fun s x=>IntKind.i64.wrap (s+x)) (IntKind.i64.wrap s)=IntKind.i64.wrap (s+xs.sum)
  |[],s=>by simp
  | x :: l, s => by
    rw[List.foldl_cons,show IntKind.i64.wrap (IntKind.i64.wrap s+x)=IntKind.i64.wrap (s+x)from by
      obtain⟨q,e⟩:=BI s
      exact rP q (by rw[e];omega),vn l (s+x),List.sum_cons,Int.add_assoc]
theorem tq (xs:List Int):xs.foldl (fun s x=>IntKind.i64.wrap (s+x)) 0=IntKind.i64.wrap xs.sum:=by
  have:=vn xs 0
  rw[aN (n:=0) (by omega) (by omega),Int.zero_add]at this
  exact this
theorem Db (a b:Int):IntKind.i64.wrap (IntKind.i64.wrap a+IntKind.i64.wrap b)=IntKind.i64.wrap (a+b):=by
  obtain⟨q,e⟩:=BI a
  obtain⟨r,f⟩:=BI b
  exact rP (q+r) (by rw[e,f];omega)
def fa:Shape→List ai→List Int
  |_,[]=>[]
  |s,l::ls=>qc s l::fa (shapeOf s l) ls
theorem qv:∀(ls:List ai) (s:Shape) (t:List Shape),aC s ls=some t→((List.range ls.length).map fun i=>qc ((s::t).getD i bL) (ls.getD i qo))=fa s ls
  |[],s,t,_=>rfl
  | l :: ls, s, t, h => by
    simp only[aC]at h
    cases hb:cI s l<;>simp only[hb,cond_true,cond_false]at h
    · exact nomatch h
    · obtain⟨t',h1,rfl⟩:=Option.map_eq_some_iff.1 h
      rw[List.length_cons,List.range_succ_eq_map,List.map_cons,List.map_map]
      have:=qv ls (shapeOf s l) t' h1
      rw[fa,←this]
      rfl
theorem ng:∀(xs ys:List ai) (s:Shape) (t:List Shape),aC s xs=some t→fa s (xs++ys)=fa s xs++fa (gU s t) ys
  |[],ys,s,t,h=>by cases h;rfl
  | x :: xs, ys, s, t, h => by
    simp only[aC]at h
    cases hb:cI s x<;>simp only[hb,cond_true,cond_false]at h
    · exact nomatch h
    · obtain⟨t',h1,rfl⟩:=Option.map_eq_some_iff.1 h
      rw[List.cons_append,fa,fa,ng xs ys _ t' h1,dI]
      rfl
theorem yE:∀(ls:List ai) (s:Shape) (t:List Shape),aC s ls=some t→s.okB=true→(gU s t).okB=true
  |[],s,t,h,hs=>by cases h;exact hs
  | l :: ls, s, t, h, hs => by
    simp only[aC]at h
    cases hb:cI s l<;>simp only[hb,cond_true,cond_false]at h
    · exact nomatch h
    · obtain⟨t',h1,rfl⟩:=Option.map_eq_some_iff.1 h
      rw[dI]
      exact yE ls _ t' h1 (rV hb)
theorem ir:∀(ls:List ai) (t:aA) (u:List Shape),aC t.sh ls=some u→t.okB=true→(b5 t ls).okB=true∧(b5 t ls).sh=gU t.sh u
  |[],t,u,h,ht=>by cases h;exact⟨ht,rfl⟩
  | l :: ls, t, u, h, ht => by
    simp only[aC]at h
    cases hb:cI t.sh l<;>simp only[hb,cond_true,cond_false]at h
    · exact nomatch h
    · obtain⟨u',h1,rfl⟩:=Option.map_eq_some_iff.1 h
      obtain⟨g1,g2,_⟩:=oa ht hb
      rw[dI,←g2]
      exact ir ls (qz t l).1 u' (by rw[g2];exact h1) g1
theorem iu {m:Model} (h:bR m=true):∃t,aC m.inp m.ab=some t∧aL m=m.inp::t∧t.length=m.ab.length:=by
  obtain⟨t,h1,h2,h3⟩:=oc h
  exact⟨t,h1,by unfold aL;rw[h,h2];rfl,h3⟩
theorem kS {m:Model} (h:bR m=true):kO m=fa m.inp m.ab:=by
  obtain⟨t,h1,h2,h3⟩:=iu h
  unfold kO
  rw[h,cond_true,h2]
  exact qv m.ab m.inp t h1
theorem Er {m:Model} (h:bR m=true) {c:Nat} (c1:1≤c) (c2:c<m.ab.length):
    ∃t u,aC m.inp (m.ab.take c)=some t∧aC (gU m.inp t) (m.ab.drop c)=some u∧(aL m).getD c bL=gU m.inp t∧
      bR ⟨m.inp,m.ab.take c⟩=true∧bR ⟨gU m.inp t,m.ab.drop c⟩=true∧gU m.inp (bM ⟨m.inp,m.ab.take c⟩).1=gU m.inp t:=by
  have h':=gD.1 h
  obtain⟨s,h1,h2,h3⟩:=iu h
  have hl:=bG.1 h'.2.1
  have happ:=rU (m.ab.take c) (m.ab.drop c) m.inp
  rw[List.take_append_drop,h1]at happ
  obtain⟨t,ht,happ⟩:=Option.bind_eq_some_iff.1 happ.symm
  obtain⟨u,hu,happ⟩:=Option.map_eq_some_iff.1 happ
  have htl:t.length=c:=by rw[fI _ _ _ ht,List.length_take];omega
  have hA:bR ⟨m.inp,m.ab.take c⟩=true:=gD.2 ⟨h'.1,bG.2 (by simp;omega),by rw[ht];rfl⟩
  refine⟨t,u,ht,hu,?_,hA,gD.2 ⟨yE _ _ _ ht h'.1,bG.2 (by simp;omega),by rw[hu];rfl⟩,?_⟩
  · rw[h2,←happ,List.getD_eq_getElem?_getD,←List.cons_append,List.getElem?_append_left (by simp;omega),←htl,yC,dI]
    cases t with
    |nil=>simp at htl;omega
    |cons x t=>rw[dI];rfl
  · obtain⟨t',g1,g2,_⟩:=oc hA
    rw[ht]at g1
    cases g1
    rw[g2,dI]
theorem kU {k:Nat} {a b:aA} (hk:a.data.length<k) (ha:a.data.length≤nR):dp k a b=some (a.okB&&decide (a=b)):=by
  unfold dp
  rw[jS hk ha,aa,oJ hk ha]
  cases a.okB<;>rfl
theorem oN {k:Nat} {l:ai} (hk:l.tot+10<k) (hN:l.tot≤100000):jQ k l l=some true:=by
  have hw:l.weights.length≤l.tot∧l.fK.length≤l.tot:=by unfold ai.tot;omega
  have hM:1048576≤nR:=by unfold nR;omega
  unfold jQ eX
  simp only[aa]
  rw[b7 (by simp;omega) (by simp;omega),aa,decide_eq_true rfl,cond_true,b7 (by omega) (by omega),aa,decide_eq_true rfl,cond_true,
    b7 (by omega) (by omega),aa,decide_eq_true rfl]
theorem wW {k:Nat} {ls:List ai} (hk:lA ai.tot ls+10<k) (hN:lA ai.tot ls≤100000):au k ls ls=some true:=by
  have hl:=o5 ai.tot ls
  unfold au
  rw[show((ls.length:Int) !=(ls.length:Int))=false from by simp,cond_false]
  have:=ao.iter (R:=Bool) (Q:=fun r=>r=true) (Inv:=fun v:Int=>0≤v∧v≤ls.length) (m:=fun v=>(ls.length-v).toNat) (g:=fun u6 n6=>ak k (ls,ls,(ls.length:Int)) u6 n6 (fun y4=>some true) (fun y5=>some y5)) (fun v next hv hn=>by
    unfold ak
    refine ao.cond (fun q=>?_) fun q=>ao.some rfl
    have q:v<(ls.length:Int):=of_decide_eq_true q
    have hi:v.toNat<ls.length:=by omega
    have hm:=o4 ai.tot (List.getElem_mem hi)
    simp only
    rw[p6 _ hv.1,aT hi,aa,aa,oN (by omega) (by omega),aa]
    refine hn _ ?_ ?_
    · rw[aN (n:=v+1) (by omega) (by omega)];omega
    · rw[aN (n:=v+1) (by omega) (by omega)];omega) k 0 (by omega) (by omega)
  obtain⟨r,h1,h2⟩:=this
  rw[h1,h2]
theorem oO {k:Nat} {m:Model} (hk:m.tot+10<k) (hN:m.tot≤100000):fx k m m=some true:=by
  have ht:lA ai.tot m.ab=m.tot:=by simp[Model.tot]
  unfold fx
  simp only[wW (k:=k) (ls:=m.ab) (by omega) (by omega),aa]
  simp
theorem oQ {k:Nat} {m:Model} (hk:m.tot+10<k) (hN:m.tot<cK) (hm:bR m=true):ao (lj k m) fun r=>∀j,1≤j→j<(aL m).length→((aL m).getD (j-1) bL).size+((aL m).getD j bL).size≤r:=by
  have hM:=bo
  have hlen:=iq hm
  have hmb:=lu hm
  unfold lj
  rw[eZ (by omega) hN]
  refine ao.of (ao.iter (Inv:=fun v:Int× Int× Int=>0≤v.2.2∧v.2.2≤(aL m).length∧(0≤v.1∧v.1≤1024)∧(0<v.2.2→v.2.1=((aL m).getD (v.2.2.toNat-1) bL).size)∧∀j:Nat,1≤j→(j:Int)<v.2.2→((aL m).getD (j-1) bL).size+((aL m).getD j bL).size≤v.1) (m:=fun v=>((aL m).length-v.2.2).toNat) (fun v next hv hn=>?_) k _ ⟨by simp,by simp,by simp,by simp,fun j h1 h2=>by simp at h2;omega⟩ (by simp only;omega))
  obtain⟨v1,v2,v3,v4,v5⟩:=hv
  unfold eW
  refine ao.cond (fun q=>ao.must ⟨v1,of_decide_eq_true q⟩ ?_) fun q=>ao.some fun j h1 h2=>v5 j h1 ?_
  · have q:v.2.2<((aL m).length:Int):=of_decide_eq_true q
    have hi:v.2.2.toNat<(aL m).length:=by omega
    simp only
    rw[List.getElem?_eq_getElem hi,aa,←cX hi bL,fA]
    simp only[aa]
    generalize he:(aL m).getD v.2.2.toNat bL=e
    have hs:=e.iI
    refine ao.cond (fun p=>?_) fun p=>?_
    · have p:v.2.2>0:=of_decide_eq_true p
      have v4:=v4 p
      have hp:=((aL m).getD (v.2.2.toNat-1) bL).iI
      rw[←v4]at hp
      rw[aN (n:=v.2.1+e.size) (by omega) (by omega)]
      refine hn _ ⟨?_,?_,?_,?_,?_⟩ ?_
      · simp only;rw[aN (n:=v.2.2+1) (by omega) (by omega)];omega
      · simp only;rw[aN (n:=v.2.2+1) (by omega) (by omega)];omega
      · simp only;split<;>omega
      · simp only;rw[aN (n:=v.2.2+1) (by omega) (by omega)]
        intro _
        rw[show(v.2.2+1).toNat-1=v.2.2.toNat from by omega,he]
      · simp only;rw[aN (n:=v.2.2+1) (by omega) (by omega)]
        intro j h1 h2
        by_cases c:(j:Int)<v.2.2
        · have:=v5 j h1 c
          split<;>omega
        · have hj:j=v.2.2.toNat:=by omega
          rw[hj,he,←v4]
          split<;>omega
      · simp only;rw[aN (n:=v.2.2+1) (by omega) (by omega)];omega
    · have p:¬v.2.2>0:=of_decide_eq_false p
      refine hn _ ⟨?_,?_,v3,?_,?_⟩ ?_
      · simp only;rw[aN (n:=v.2.2+1) (by omega) (by omega)];omega
      · simp only;rw[aN (n:=v.2.2+1) (by omega) (by omega)];omega
      · simp only;rw[aN (n:=v.2.2+1) (by omega) (by omega)]
        intro _
        rw[show(v.2.2+1).toNat-1=v.2.2.toNat from by omega,he]
      · simp only;rw[aN (n:=v.2.2+1) (by omega) (by omega)]
        intro j h1 h2
        omega
      · simp only;rw[aN (n:=v.2.2+1) (by omega) (by omega)];omega
  · have q:¬v.2.2<((aL m).length:Int):=of_decide_eq_false q
    omega
end Go.Proofs.Ev
set_option linter.unusedVariables false
set_option linter.unusedSimpArgs false
set_option maxRecDepth 100000
namespace Go.Proofs.Ev
end Go.Proofs.Ev
set_option linter.unusedVariables false
set_option linter.unusedSimpArgs false
set_option maxRecDepth 100000
namespace Go.Proofs.Ev
end Go.Proofs.Ev
set_option linter.unusedVariables false
set_option linter.unusedSimpArgs false
namespace Go.Proofs.Ev
end Go.Proofs.Ev
set_option linter.unusedVariables false
set_option linter.unusedSimpArgs false
set_option maxRecDepth 100000
namespace Go.Proofs.Ev
end Go.Proofs.Ev
set_option linter.unusedVariables false
set_option linter.unusedSimpArgs false
set_option maxRecDepth 100000
namespace Go.Proofs.Ev
end Go.Proofs.Ev
set_option linter.unusedVariables false
set_option linter.unusedSimpArgs false
set_option maxRecDepth 100000
namespace Go.Proofs.Ev
theorem Dc (k:Nat) {code:List Int} (hb:∀x∈code,okB x) {i:Int} (hi:0≤i) (h1:i≤1000000) (hl:code.length≤1048576):∃r,EA k code i=some r∧0≤r∧r≤255:=by
  unfold EA
  rw[ag]
  by_cases c:i<(code.length:Int)
  · rw[if_pos c,p6 _ hi,aT (show i.toNat<code.length by omega)]
    have:=hb _ (List.getElem_mem (show i.toNat<code.length by omega))
    unfold okB at this
    exact⟨_,rfl,by rw[aN (by omega) (by omega)];omega⟩
  · rw[if_neg c,aN (n:=i*13) (by omega) (by omega),aN (n:=(code.length:Int)*5) (by omega) (by omega),aN (by omega) (by omega)]
    have:=tb (x:=i*13+(code.length:Int)*5) (n:=256) (by omega) (by omega)
    exact⟨_,rfl,this.1,by omega⟩
theorem wX {k:Nat} {code:List Int} {m:Model} {t want:aA} {fine:Bool} (hk:m.tot+t.data.length+2000<k) (hmt:m.tot≤100000) (htl:t.data.length≤100000) (hb:∀x∈code,okB x) (hl:code.length≤1048576) (hm:bR m=true)
    (hw:jX m t=(want,fine)):ao (iter (fun u49 n49=>cW k (code,fine,m.inp.h,m.inp.w,m.inp.c,t.sh.h,t.sh.w,t.sh.c,want.sh.h,want.sh.w,want.sh.c,(aL m),m.ab,t.data,want.data) u49 n49 (fun y36=>cond (decide ((m.ab.length:Int)<(2:Int))) (some true) ((EA k code (0:Int)).bind fun r37=>cond (decide ((IntKind.i64.wrap ((m.ab.length:Int)-(1:Int)))=0)) none ((dA k m (0:Int) (IntKind.i64.wrap ((1:Int)+(r37.tmod (IntKind.i64.wrap ((m.ab.length:Int)-(1:Int))))))).bind fun r38=>(dA k m (IntKind.i64.wrap ((1:Int)+(r37.tmod (IntKind.i64.wrap ((m.ab.length:Int)-(1:Int)))))) (m.ab.length:Int)).bind fun r39=>(eD k r38.1 r39.1).bind fun r40=>cond (!r38.2) (some false) (cond (!r39.2) (some false) (cond (!r40.2) (some false) ((fx k r40.1 m).bind fun r41=>cond (!r41) (some false) ((bT k r38.1).bind fun r42=>(bT k r39.1).bind fun r43=>(bT k m).bind fun r44=>cond ((IntKind.i64.wrap (r42+r43)) !=r44) (some false) (cond (!fine) (some true) ((cG k r38.1 t).bind fun r45=>(cG k r39.1 r45.1).bind fun r46=>cond (r45.2) (cond (r46.2) ((dp k r46.1 want).bind fun r47=>some r47) (some false)) (some false)))))))))) (fun y48=>some y48)) k (1:Int)) (fun r=>r=true):=by
  have hM:=bo
  have hlen:=iq hm
  have hmb:=(lu hm).1
  have hxl:1000000≤nR:=by unfold nR;omega
  refine ao.iter (Inv:=fun v:Int=>1≤v∧v≤(aL m).length) (m:=fun v=>((aL m).length-v).toNat) (fun v next hv hn=>?_) k _ (by omega) (by omega)
  unfold cW
  refine ao.cond (fun q=>?_) fun _=>?_
  · have q:v<((aL m).length:Int):=of_decide_eq_true q
    simp only
    rw[aN (n:=v-1) (by omega) (by omega)]
    refine ao.must (by omega) ?_
    have i1:(v-1).toNat<(aL m).length:=by omega
    have i2:v.toNat<(aL m).length:=by omega
    rw[List.getElem?_eq_getElem i1,aa,←cX i1 bL,fA,aa]
    refine ao.must (by omega) ?_
    rw[List.getElem?_eq_getElem i2,aa,←cX i2 bL,fA,aa]
    refine(oQ (m:=m) (by omega) (by omega) hm).bind fun r hr=>?_
    have:=hr v.toNat (by omega) (by omega)
    rw[show v.toNat-1=(v-1).toNat from by omega]at this
    have s1:=((aL m).getD (v-1).toNat bL).iI
    have s2:=((aL m).getD v.toNat bL).iI
    rw[aN (n:=((aL m).getD (v-1).toNat bL).size+((aL m).getD v.toNat bL).size) (by omega) (by omega),decide_eq_false (by omega),cond_false]
    refine hn _ ?_ ?_
    · rw[aN (n:=v+1) (by omega) (by omega)];omega
    · rw[aN (n:=v+1) (by omega) (by omega)];omega
  · refine ao.cond (fun _=>ao.some rfl) fun q=>?_
    have q:¬(m.ab.length:Int)<2:=of_decide_eq_false q
    obtain⟨x,hx,x0,x1⟩:=Dc k hb (i:=0) (by omega) (by omega) hl
    rw[hx,aa,aN (n:=(m.ab.length:Int)-1) (by omega) (by omega),decide_eq_false (by omega),cond_false]
    have hmod:=tb (x:=x) (n:=(m.ab.length:Int)-1) x0 (by omega)
    rw[aN (n:=1+x.tmod ((m.ab.length:Int)-1)) (by omega) (by omega)]
    obtain⟨c,hc⟩:∃c:Nat,1+x.tmod ((m.ab.length:Int)-1)=c:=⟨(1+x.tmod ((m.ab.length:Int)-1)).toNat,by omega⟩
    rw[hc]
    obtain⟨tt,uu,g1,g2,g3,hA,hB,hlast⟩:=Er hm (c:=c) (by omega) (by omega)
    have eA:lr m 0 c=(⟨m.inp,m.ab.take c⟩,true):=by
      obtain⟨s,h1,h2,h3⟩:=iu hm
      unfold lr
      rw[hm,decide_eq_true (by omega),decide_eq_true (by omega),decide_eq_true (by omega),h2]
      simp
    have eB:lr m c m.ab.length=(⟨gU m.inp tt,m.ab.drop c⟩,true):=by
      unfold lr
      rw[hm,decide_eq_true (by omega),decide_eq_true (by omega),decide_eq_true (by omega),←g3]
      simp
    have tA:(⟨m.inp,m.ab.take c⟩:Model).tot≤m.tot:=by have:=uT ai.tot m.ab c;simp only[Model.tot];omega
    have tB:(⟨gU m.inp tt,m.ab.drop c⟩:Model).tot≤m.tot:=by have:=uX ai.tot m.ab c;simp only[Model.tot];omega
    have tAB:(⟨m.inp,m.ab.take c⟩:Model).tot+(⟨gU m.inp tt,m.ab.drop c⟩:Model).tot≤m.tot:=by
      have:=dX ai.tot (m.ab.take c) (m.ab.drop c)
      rw[List.take_append_drop]at this
      simp only[Model.tot];omega
    have hj:C9 ⟨m.inp,m.ab.take c⟩ ⟨gU m.inp tt,m.ab.drop c⟩=(m,true):=by
      unfold C9
      simp only[hA,hB,hlast,Bool.true_and,List.take_append_drop]
      rw[decide_eq_true (by simp;omega)]
      simp
    rw[na (by omega) (by omega),eA,aa,na (by omega) (by omega),eB,aa]
    simp only
    rw[qp (by omega) (by omega),hj,aa]
    simp only[Bool.not_true,cond_false]
    rw[oO (by omega) hmt,aa,Bool.not_true,cond_false,fJ (by omega) (by omega),aa,fJ (by omega) (by omega),aa,fJ (by omega) (by omega),aa]
    have hcost:IntKind.i64.wrap (e9 ⟨m.inp,m.ab.take c⟩+e9 ⟨gU m.inp tt,m.ab.drop c⟩)=e9 m:=by
      unfold e9
      rw[tq,tq,tq,Db,kS hA,kS hB,kS hm,←List.sum_append,←ng _ _ _ _ g1,List.take_append_drop]
    rw[hcost,show(e9 m !=e9 m)=false from by simp,cond_false]
    cases hf:fine
    · exact ao.some rfl
    · rw [Bool.not_true, cond_false]
      unfold jX at hw
      rw[hm,Bool.true_and]at hw
      cases ho:(t.okB&&decide (t.sh=m.inp))<;>rw[ho]at hw
      · cases hw;exact nomatch hf
      · cases hw
        have ho':=ho
        rw[Bool.and_eq_true]at ho'
        have hsh:=of_decide_eq_true ho'.2
        have rA:=ir (m.ab.take c) t tt (by rw[hsh];exact g1) ho'.1
        rw[hsh]at rA
        have rB:=ir (m.ab.drop c) (b5 t (m.ab.take c)) uu (by rw[rA.2];exact g2) rA.1
        have e1:jX ⟨m.inp,m.ab.take c⟩ t=(b5 t (m.ab.take c),true):=by
          unfold jX
          rw[hA,Bool.true_and,ho];rfl
        have e2:jX ⟨gU m.inp tt,m.ab.drop c⟩ (b5 t (m.ab.take c))=(b5 (b5 t (m.ab.take c)) (m.ab.drop c),true):=by
          unfold jX
          rw[hB,Bool.true_and,rA.1,Bool.true_and,decide_eq_true rA.2];rfl
        have l1:=jk (m.ab.take c) t
        have l2:=jk (m.ab.drop c) (b5 t (m.ab.take c))
        rw[iH (by omega) (by omega),e1,aa]
        simp only
        rw[iH (by omega) (by omega),e2,aa]
        simp only[cond_true]
        have e3:b5 (b5 t (m.ab.take c)) (m.ab.drop c)=b5 t m.ab:=by
          unfold b5
          rw[←List.foldl_append,List.take_append_drop]
        rw[e3]at rB l2⊢
        rw[kU (by omega) (by omega),aa,rB.1,decide_eq_true rfl]
        exact ao.some rfl
theorem tr (code:List Int) (hb:okS okB code):∃k,je k code=some true:=by
  refine⟨code.length+20001,?_⟩
  have hM:=bo
  unfold je Ee
  rw[aa]
  by_cases c:(code.length:Int)>1048576
  · rw[decide_eq_true c];rfl
  rw[decide_eq_false c,cond_false]
  have hxl:1000000≤nR:=by unfold nR;omega
  obtain⟨⟨m,t⟩,e,hs,hl⟩:=qN (b:=code) (by omega) (k:=code.length+20001) (by omega)
  simp only at hs hl
  rw[e,aa]
  simp only
  rw[qL (by omega) (by omega),aa,iH (by omega) (by omega),aa,show((jX m t).2==(jX m t).2)=true from by simp,Bool.not_true,cond_false,eF (by omega) (by omega),aa,
    oB (by omega) (by omega),aa,show(bR m==bR m)=true from by simp,Bool.not_true,cond_false,aa]
  cases hm:bR m
  · rw[Bool.not_false,cond_true,fJ (by omega) (by omega),aa]
    have:e9 m=0:=by unfold e9 kO;rw[hm];rfl
    rw[this];rfl
  · rw [Bool.not_true, cond_false, eZ (by omega) (by omega)]
    simp only[aa]
    obtain⟨r,h1,h2⟩:=wX (k:=code.length+20001) (code:=code) (m:=m) (t:=t) (want:=(jX m t).1) (fine:=(jX m t).2) (by omega) (by omega) (by omega) hb.2 (by omega) hm rfl
    subst h2
    cases hf:(jX m t).2
    · rw[hf]at h1
      exact h1
    · rw [hf] at h1
      have hlen:=BS m t
      have hok:(jX m t).1.okB=true:=by
        obtain⟨s,g1,g2,g3⟩:=iu hm
        unfold jX at hf⊢
        rw[hm,Bool.true_and]at hf⊢
        cases ho:(t.okB&&decide (t.sh=m.inp))<;>rw[ho]at hf
        · exact nomatch hf
        · rw[Bool.and_eq_true]at ho
          exact(ir m.ab t s (by rw[of_decide_eq_true ho.2];exact g1) ho.1).1
      simp only[aA.tot]at hlen
      rw[cond_true,kU (by omega) (by omega),aa,hok,decide_eq_true rfl]
      exact h1
end Go.Proofs.Ev
