/- Typed functions and what holds of them: part 3. -/
import Derived.Test.YtjcmkefhdkccbaaGreatEvL2
set_option linter.unusedVariables false
set_option linter.unusedSimpArgs false
set_option linter.unusedVariables false
set_option linter.unusedSimpArgs false
set_option maxRecDepth 100000
namespace Go.Proofs.Ev
section
variable {b:List Int} {k:Nat}
theorem vI (hb:b.length≤1048576) (hk:2000<k) {R:Type} {Q:R→Prop} {fin:(Int× Int× List Int)→Option R} {p:Int× List Int× Int× Int× Int× Int× Int× Int× Int× Int× Int× Int× Int× Int× Int× Int} (hp:p.2.1=b) (h0:0≤p.1) (h1:p.1≤1600) {c h:Int} (hc:Cur b c)
    (hf:∀c' h' ws,Cur b c'→(ws.length:Int)≤1600→ao (fin (c',h',ws)) Q):ao (iter (fun u n=>aY k p u n fin) k ((0:Int),c,h,([]:List Int))) Q:=by
  have hM:=bm
  refine ao.iter (Inv:=fun v:Int× Int× Int× List Int=>Cur b v.2.1∧0≤v.1∧v.1≤p.1∧(v.2.2.2.length:Int)=v.1) (m:=fun v=>(p.1-v.1).toNat) (fun v next hv hn=>?_) k _ ⟨hc,by simp;omega⟩ (by simp only;omega)
  obtain⟨v1,v2,v3,v4⟩:=hv
  unfold aY
  rw[hp]
  refine ao.cond (fun q=>?_) fun q=>hf _ _ _ v1 (by omega)
  have q:v.1<p.1:=of_decide_eq_true q
  refine(lJ hb v1).bind fun r2 ⟨_,hc2⟩=>ao.ble (by simp;omega) (hn _ ⟨hc2,?_⟩ ?_)
  · simp only[List.length_append,List.length_cons,List.length_nil]
    rw[aN (n:=v.1+1) (by omega) (by omega)]
    omega
  · simp only
    rw[aN (n:=v.1+1) (by omega) (by omega)]
    omega
theorem Cx (hb:b.length≤1048576) (hk:2000<k) {R:Type} {Q:R→Prop} {fin:(Int× Int× List Int)→Option R} {p:List Int× Int× Int× Int× Int× Int× Int× Int× Int× Int× Int× Int× Int× Int× Int× List Int} (hp:p.1=b) (h0:0≤p.2.2.2.2.2.2.2.2.2.1) (h1:p.2.2.2.2.2.2.2.2.2.1≤3) {c h:Int} (hc:Cur b c)
    (hf:∀c' h' ws,Cur b c'→(ws.length:Int)≤3→ao (fin (c',h',ws)) Q):ao (iter (fun u n=>aZ k p u n fin) k ((0:Int),c,h,([]:List Int))) Q:=by
  have hM:=bm
  refine ao.iter (Inv:=fun v:Int× Int× Int× List Int=>Cur b v.2.1∧0≤v.1∧v.1≤p.2.2.2.2.2.2.2.2.2.1∧(v.2.2.2.length:Int)=v.1) (m:=fun v=>(p.2.2.2.2.2.2.2.2.2.1-v.1).toNat) (fun v next hv hn=>?_) k _ ⟨hc,by simp;omega⟩ (by simp only;omega)
  obtain⟨v1,v2,v3,v4⟩:=hv
  unfold aZ
  rw[hp]
  refine ao.cond (fun q=>?_) fun q=>hf _ _ _ v1 (by omega)
  have q:v.1<p.2.2.2.2.2.2.2.2.2.1:=of_decide_eq_true q
  refine(aO hb v1).bind fun r2 ⟨_,hc2⟩=>ao.ble (by simp;omega) (hn _ ⟨hc2,?_⟩ ?_)
  · simp only[List.length_append,List.length_cons,List.length_nil]
    rw[aN (n:=v.1+1) (by omega) (by omega)]
    omega
  · simp only
    rw[aN (n:=v.1+1) (by omega) (by omega)]
    omega
def tK (b:List Int) (r:ag× Int× Int):Prop:=r.1.tot≤1610∧Cur b r.2.1
theorem fT (hb:b.length≤1048576) {R:Type} {Q:R→Prop} {s:Shape} (hs:s.okB=true) {K c h:Int} (hc:Cur b c) {Z:Int→Int→Int→Int→Option R}
    (hZ:∀c h sz st,Cur b c→0≤sz→sz≤3→ao (Z c h sz st) Q):ao ((bI k K (1:Int) (3:Int)).bind fun r96=>bej (fun(j105:Int→Int→Int→Int→Option R)=>cond (r96) (bej (fun(j97:Int→Option R)=>cond (decide (s.h<(3:Int))) ((j97 s.h)) ((j97 (3:Int)))) (fun(j97_0:Int)=>cond (decide (s.w<j97_0)) ((ab k b c h s.w).bind fun r101=>(ab k b r101.2.1 r101.2.2 (2:Int)).bind fun r102=>(j105 r102.2.1 r102.2.2 (IntKind.i64.wrap ((1:Int)+r101.1)) (IntKind.i64.wrap ((1:Int)+r102.1)))) ((ab k b c h j97_0).bind fun r103=>(ab k b r103.2.1 r103.2.2 (2:Int)).bind fun r104=>(j105 r104.2.1 r104.2.2 (IntKind.i64.wrap ((1:Int)+r103.1)) (IntKind.i64.wrap ((1:Int)+r104.1)))))) ((j105 c h (0:Int) (0:Int)))) Z) Q:=by
  obtain⟨⟨a1,a2⟩,⟨b1,b2⟩,c1,c2⟩:=Shape.oz.1 hs
  rw[c7]
  refine ao.of (ao.GF (fun c _ sz _=>Cur b c∧0≤sz∧sz≤3) (fun c h sz st ⟨q1,q2,q3⟩=>hZ c h sz st q1 q2 q3) fun j hj=>ao.cond (fun _=>?_) fun _=>hj _ _ _ _ ⟨hc,by omega,by omega⟩)
  refine ao.Gy (fun x=>1≤x∧x≤3) (fun x ⟨x1,x2⟩=>?_) fun j' hj'=>ao.cond (fun q=>hj' _ ⟨a1,?_⟩) fun _=>hj' _ ⟨by omega,by omega⟩
  · refine ao.cond (fun q=>?_) fun q=>?_
    · have q:s.w<x:=of_decide_eq_true q
      refine(aO hb hc).bind fun r1 ⟨⟨p1,p2,_⟩,hc1⟩=>(aO hb hc1).bind fun r2 ⟨_,hc2⟩=>hj _ _ _ _ ⟨hc2,?_⟩
      have p2:=p2 (by omega)
      rw[aN (n:=1+r1.1) (by omega) (by omega)]
      omega
    · refine(aO hb hc).bind fun r1 ⟨⟨p1,p2,_⟩,hc1⟩=>(aO hb hc1).bind fun r2 ⟨_,hc2⟩=>hj _ _ _ _ ⟨hc2,?_⟩
      have p2:=p2 (by omega)
      rw[aN (n:=1+r1.1) (by omega) (by omega)]
      omega
  · have q:s.h<3:=of_decide_eq_true q
    omega
theorem lx (hb:b.length≤1048576) (hk:2000<k) {s:Shape} (hs:s.okB=true) {K c h sz st:Int} (hc:Cur b c) (z0:0≤sz) (z1:sz≤3):ao (cond (decide (K≤(1:Int))) ((ab k b c h (3:Int)).bind fun r106=>(ab k b r106.2.1 r106.2.2 (16777216:Int)).bind fun r107=>(ab k b r107.2.1 r107.2.2 (10:Int)).bind fun r108=>(ab k b r108.2.1 r108.2.2 (9:Int)).bind fun r109=>(bg k s).bind fun r110=>bej (fun(j111:Int→Option (ag× Int× Int))=>cond (K==(1:Int)) ((j111 (IntKind.i64.wrap ((IntKind.i64.wrap ((IntKind.i64.wrap ((IntKind.i64.wrap ((1:Int)+r106.1))*sz))*sz))*s.c)))) ((j111 (IntKind.i64.wrap ((IntKind.i64.wrap ((1:Int)+r106.1))*r110))))) (fun(j111_0:Int)=>iter (fun u117 n117=>aY k (j111_0,b,(0:Int),(0:Int),(0:Int),(0:Int),(0:Int),(0:Int),(0:Int),K,IntKind.i64.wrap ((1:Int)+r106.1),sz,st,IntKind.i64.wrap ((1073741824:Int)+(IntKind.i64.wrap (r107.1*(60:Int)))),r108.1,IntKind.i64.wrap (r109.1-(4:Int))) u117 n117 (fun y113=>iter (fun u116 n116=>aZ k (b,(0:Int),(0:Int),(0:Int),(0:Int),(0:Int),(0:Int),(0:Int),K,IntKind.i64.wrap ((1:Int)+r106.1),sz,st,IntKind.i64.wrap ((1073741824:Int)+(IntKind.i64.wrap (r107.1*(60:Int)))),r108.1,IntKind.i64.wrap (r109.1-(4:Int)),y113.2.2) u116 n116 (fun y115=>bej (fun(j119:Int→Int→Int→Option (ag× Int× Int))=>cond (K==(4:Int)) ((ab k b y115.1 y115.2.1 (20:Int)).bind fun r118=>(j119 (IntKind.i64.wrap (r118.1-(10:Int))) r118.2.1 r118.2.2)) ((j119 (IntKind.i64.wrap (r109.1-(4:Int))) y115.1 y115.2.1))) (fun(j119_13:Int) (j119_15:Int) (j119_16:Int)=>cond (decide (b=b)) (some ((⟨K,(IntKind.i64.wrap ((1:Int)+r106.1)),sz,st,(IntKind.i64.wrap ((1073741824:Int)+(IntKind.i64.wrap (r107.1*(60:Int))))),r108.1,j119_13,y113.2.2,y115.2.2⟩:ag),j119_15,j119_16)) none))) k ((0:Int),y113.1,y113.2.1,([]:List Int)))) k ((0:Int),r109.2.1,r109.2.2,([]:List Int)))) (cond (K==(4:Int)) ((ab k b c h (20:Int)).bind fun r120=>cond (decide (b=b)) (some ((⟨K,(0:Int),sz,st,(0:Int),(0:Int),(IntKind.i64.wrap (r120.1-(10:Int))),([]:List Int),([]:List Int)⟩:ag),r120.2.1,r120.2.2)) none) (cond (decide (b=b)) (some ((⟨K,(0:Int),sz,st,(0:Int),(0:Int),(0:Int),([]:List Int),([]:List Int)⟩:ag),c,h)) none))) (tK b):=by
  obtain⟨⟨a1,a2⟩,⟨b1,b2⟩,c1,c2⟩:=Shape.oz.1 hs
  refine ao.cond (fun _=>?_) fun _=>ao.cond (fun _=>?_) fun _=>?_
  · refine(aO hb hc).bind fun r1 ⟨⟨p1,p2,_⟩,hc1⟩=>(aO hb hc1).bind fun r2 ⟨⟨q1,q2,_⟩,hc2⟩=>(aO hb hc2).bind fun r3 ⟨_,hc3⟩=>(aO hb hc3).bind fun r4 ⟨_,hc4⟩=>?_
    have p2:=p2 (by omega)
    have q2:=q2 (by omega)
    rw[ed]
    have hz:=s.kS
    have m1:0≤(1+r1.1)*sz:=Int.mul_nonneg (by omega) z0
    have m2:(1+r1.1)*sz≤3*3:=Int.mul_le_mul (by omega) z1 z0 (by omega)
    have m3:0≤(1+r1.1)*sz*sz:=Int.mul_nonneg m1 z0
    have m4:(1+r1.1)*sz*sz≤9*3:=Int.mul_le_mul m2 z1 z0 (by omega)
    have m5:0≤(1+r1.1)*sz*sz*s.c:=Int.mul_nonneg m3 (by omega)
    have m6:(1+r1.1)*sz*sz*s.c≤27*8:=Int.mul_le_mul m4 c2 (by omega) (by omega)
    have n1:0≤(1+r1.1)*s.size:=Int.mul_nonneg (by omega) hz.1
    have n2:(1+r1.1)*s.size≤3*512:=Int.mul_le_mul (by omega) hz.2 hz.1 (by omega)
    have w1:=aN (n:=1+r1.1) (by omega) (by omega)
    refine ao.of (ao.Gy (fun n=>0≤n∧n≤1600) (fun n ⟨n0,n1⟩=>?_) fun j hj=>ao.cond (fun _=>hj _ ?_) fun _=>hj _ ?_)
    · refine vI hb hk rfl n0 n1 hc4 fun c' h' ws hc' hw=>Cx hb hk rfl ?_ ?_ hc' fun c2 h2 bs hc2 hbs=>?_
      · simp only;rw[w1];omega
      · simp only;rw[w1];omega
      · refine ao.GD (fun _ c _=>Cur b c) (fun z c h hc=>ao.must rfl (ao.some ⟨?_,hc⟩)) fun j hj=>ao.cond (fun _=>(aO hb hc2).bind fun r5 ⟨_,hc5⟩=>hj _ _ _ hc5) fun _=>hj _ _ _ hc2
        simp only[ag.tot]
        omega
    · rw[w1,aN (n:=(1+r1.1)*sz) (by omega) (by omega),aN (n:=(1+r1.1)*sz*sz) (by omega) (by omega),aN (n:=(1+r1.1)*sz*sz*s.c) (by omega) (by omega)]
      omega
    · rw[w1,aN (n:=(1+r1.1)*s.size) (by omega) (by omega)]
      omega
  · exact(aO hb hc).bind fun r1 ⟨_,hc1⟩=>ao.must rfl (ao.some ⟨by simp[ag.tot],hc1⟩)
  · exact ao.must rfl (ao.some ⟨by simp[ag.tot],hc⟩)
theorem qI (hb:b.length≤1048576) (hk:2000<k) {s:Shape} (hs:s.okB=true) {c h:Int} (hc:Cur b c):ao (dQ k b c h s) (tK b):=by
  unfold dQ
  refine(fA hb hc (by simp)).bind fun r1 ⟨_,hc1⟩=>?_
  have small:∀{K sz st c h},Cur b c→ao ((ab k b c h (20:Int)).bind fun r13=>cond (decide (b=b)) (some ((⟨K,(0:Int),sz,st,(0:Int),(0:Int),(IntKind.i64.wrap (r13.1-(10:Int))),([]:List Int),([]:List Int)⟩:ag),r13.2.1,r13.2.2)) none) (tK b):=fun hc=>
    (aO hb hc).bind fun r1 ⟨_,hc1⟩=>ao.must rfl (ao.some ⟨by simp[ag.tot],hc1⟩)
  have any:∀{B:(Int→Option (ag× Int× Int))→Option (ag× Int× Int)} {Z:Int→Option (ag× Int× Int)},(∀K,ao (Z K) (tK b))→(∀j:Int→Option (ag× Int× Int),(∀x,ao (j x) (tK b))→ao (B j) (tK b))→ao (bej B Z) (tK b):=fun h1 h2=>h2 _ h1
  have sized:∀{f:Int→Option (ag× Int× Int)},(∀n,ao (f n) (tK b))→ao ((bg k s).bind f) (tK b):=fun h=>by rw[ed];exact h _
  refine ao.cond (fun _=>sized fun n=>ao.cond (fun _=>?_) fun _=>ao.cond (fun _=>?_) fun _=>?_) fun _=>ao.cond (fun _=>?_) fun _=>?_
  · exact fT hb hs hc1 fun c h sz st h1 _ _=>small h1
  · exact sized fun n=>any (fun K=>fT hb hs hc1 fun c h sz st h1 h2 h3=>lx hb hk hs h1 h2 h3) fun j hj=>ao.cond (fun _=>hj _) fun _=>hj _
  · exact fT hb hs hc1 fun c h sz st h1 h2 h3=>lx hb hk hs h1 h2 h3
  · exact sized fun n=>any (fun K=>fT hb hs hc1 fun c h sz st h1 h2 h3=>lx hb hk hs h1 h2 h3) fun j hj=>ao.cond (fun _=>hj _) fun _=>hj _
  · exact fT hb hs hc1 fun c h sz st h1 h2 h3=>lx hb hk hs h1 h2 h3
end
end Go.Proofs.Ev
set_option linter.unusedVariables false
set_option linter.unusedSimpArgs false
set_option maxRecDepth 100000
namespace Go.Proofs.Ev
theorem Ak {s:Shape} {l:ag} (h:cN s l=true):(shapeOf s l).okB=true:=by
  have hs:s.okB=true:=by
    unfold cN at h
    rw[Bool.and_eq_true]at h
    exact h.1
  have hz:=s.kS
  have ht:(⟨s,List.replicate s.size.toNat 0⟩:al).okB=true:=by
    unfold al.okB kM
    rw[hs,Bool.true_and,Bool.and_eq_true]
    refine⟨decide_eq_true (by simp;omega),?_⟩
    rw[List.all_eq_true]
    intro x hx
    rw[List.mem_replicate]at hx
    rw[hx.2];rfl
  obtain⟨h1,h2,_⟩:=lu ht h
  have h2:(qX ⟨s,List.replicate s.size.toNat 0⟩ l).1.sh=shapeOf s l:=h2
  rw[←h2]
  unfold al.okB at h1
  rw[Bool.and_eq_true]at h1
  exact h1.1
theorem si {α:Type}:∀xs:List α,mq (xs.map some)=some xs
  |[]=>rfl
  |x::l=>by rw[List.map_cons,mq,si l];rfl
theorem Al {α:Type} (xs:List α) (i:Nat) (y:α):mq ((iH xs i).set i (some y))=some (xs.set i y):=by
  unfold iH
  rw[List.set_set,show(xs.map some).set i (some y)=(xs.set i y).map some from by rw[List.map_set],si]
theorem yZ {α:Type} (t:α→Nat) (y:α):∀(xs:List α) (i:Nat) (hi:i<xs.length),oK t (xs.set i y)+t xs[i]=oK t xs+t y
  |[],i,hi=>by simp at hi
  |x::l,0,hi=>by rw[List.set_cons_zero,iW,iW];simp;omega
  | x :: l, i + 1, hi => by
    have:=yZ t y l i (by simpa using hi)
    rw[List.set_cons_succ,iW,iW]
    simp only[List.getElem_cons_succ]
    omega
section
variable {b:List Int} {k:Nat}
theorem qZ (hb:b.length≤1048576) (hk:10000<k) {s:Shape} (hs:s.okB=true) {c h n:Int} (hc:Cur b c) (hn:n≤5):ao (eU k b c h s n) fun r=>(r.1.inp=s∧r.1.tot≤8055∧r.1.ai.length≤5)∧Cur b r.2.1:=by
  have hM:=bm
  unfold eU
  refine ao.iter (Inv:=fun v:Int× Int× Int× Int× Int× Int× List ag=>Cur b v.2.1∧0≤v.1∧v.1≤5∧(⟨v.2.2.2.1,v.2.2.2.2.1,v.2.2.2.2.2.1⟩:Shape).okB=true∧((oK ag.tot v.2.2.2.2.2.2:Nat):Int)≤1611*v.1∧(v.2.2.2.2.2.2.length:Int)≤v.1) (m:=fun v=>(6-v.1).toNat) (fun v next hv hx=>?_) k _ ⟨hc,by simp,by simp,hs,by simp[oK],by simp⟩ (by simp only;omega)
  obtain⟨v1,v2,v3,v4,v5,v6⟩:=hv
  unfold cq
  have done:∀c' h':Int,Cur b c'→ao (cond (decide (b=b)) (some ((⟨s,v.2.2.2.2.2.2⟩:Model),c',h')) none) fun r=>(r.1.inp=s∧r.1.tot≤8055∧r.1.ai.length≤5)∧Cur b r.2.1:=fun c' h' hc'=>ao.must rfl (ao.some ⟨⟨rfl,by simp only[Model.tot];omega,by simp only;omega⟩,hc'⟩)
  refine ao.cond (fun q=>?_) fun _=>done _ _ v1
  have q:v.1<n:=of_decide_eq_true q
  refine(qI hb (by omega) v4 v1).bind fun r1 ⟨t1,hc1⟩=>?_
  rw[gg (by omega) (by omega)]
  unfold da
  cases hl:cN (⟨v.2.2.2.1,v.2.2.2.2.1,v.2.2.2.2.2.1⟩:Shape) r1.1
  · exact done _ _ hc1
  · refine ao.ble (by omega) (hx _ ⟨hc1,?_,?_,Ak hl,?_,?_⟩ ?_)
    · simp only;rw[aN (n:=v.1+1) (by omega) (by omega)];omega
    · simp only;rw[aN (n:=v.1+1) (by omega) (by omega)];omega
    · simp only;rw[aN (n:=v.1+1) (by omega) (by omega),qn,iW]
      simp only[oK,List.length_nil,List.map_nil,List.sum_nil]at v5⊢
      omega
    · simp only[List.length_append,List.length_cons,List.length_nil];rw[aN (n:=v.1+1) (by omega) (by omega)];omega
    · simp only;rw[aN (n:=v.1+1) (by omega) (by omega)];omega
theorem qJ (hb:b.length≤1048576) (hk:10000<k) {c h:Int} (hc:Cur b c):ao (dR k b c h) fun r=>(r.1.inp.okB=true∧r.1.tot≤8055∧r.1.ai.length≤5)∧Cur b r.2.1:=by
  unfold dR
  refine(kU hb hc (by omega) (by omega)).bind fun r1 ⟨ok1,hc1⟩=>(aO hb hc1).bind fun r2 ⟨⟨p1,p2,_⟩,hc2⟩=>?_
  have p2:=p2 (by omega)
  refine(qZ hb hk ok1 hc2 ?_).bind fun r3 ⟨⟨e3,l3,m3⟩,hc3⟩=>ao.must rfl (ao.some ⟨⟨by rw[e3];exact ok1,l3,m3⟩,hc3⟩)
  rw[aN (n:=1+r2.1) (by omega) (by omega)];omega
theorem Am (hb:b.length≤1048576) {c h:Int} {l:ag} (hl:l.tot≤100000) (hc:Cur b c):ao (ij k b c h l) fun r=>r.1.tot≤l.tot+1∧Cur b r.2.1:=by
  have hM:=bm
  have hw:l.weights.length≤100000:=by unfold ag.tot at hl;omega
  have hbi:l.fX.length≤100000:=by unfold ag.tot at hl;omega
  unfold ij
  refine(aO hb hc).bind fun r1 ⟨_,hc1⟩=>?_
  repeat' refine ao.cond (fun _=>?_) fun _=>?_
  all_goals first
    |exact(fA hb hc1 (by simp)).bind fun r ⟨_,hr⟩=>ao.must rfl (ao.some ⟨by simp[ag.tot],hr⟩)
    |exact(fA hb hc1 (by simp)).bind fun r ⟨_,hr⟩=>ao.ble (by simp;omega) (ao.must rfl (ao.some ⟨by simp[ag.tot];omega,hr⟩))
    |exact ao.some ⟨by simp[ag.tot],hc1⟩
    |(rename_i q;exact(by simp at q))
    |skip
theorem o7 (hb:b.length≤1048576) (hk:10000<k) {c h:Int} (hc:Cur b c):ao (dS k b c h) fun r=>(r.1.tot≤8100∧r.1.ai.length≤7)∧Cur b r.2.1:=by
  have hM:=bm
  unfold dS
  refine(qJ hb hk hc).bind fun r1 ⟨⟨ok1,t1,l1⟩,hc1⟩=>(oc hb hc1).bind fun r2 hc2=>?_
  have plain:∀{m:Model} {c h:Int},m.tot≤8100→m.ai.length≤7→Cur b c→ao (cond (decide (b=b)) (some (m,c,h)) none) fun r=>(r.1.tot≤8100∧r.1.ai.length≤7)∧Cur b r.2.1:=fun h1 h2 h3=>ao.must rfl (ao.some ⟨⟨h1,h2⟩,h3⟩)
  refine ao.cond (fun _=>ao.cond (fun q=>(aO hb hc2).bind fun r3 ⟨_,hc3⟩=>?_) fun _=>plain (by omega) (by omega) hc2) fun _=>plain (by omega) (by omega) hc2
  have q:(r1.1.ai.length:Int)>0:=of_decide_eq_true q
  refine ao.cond (fun _=>?_) fun _=>ao.cond (fun _=>?_) fun _=>ao.cond (fun _=>?_) fun _=>ao.cond (fun _=>?_) fun _=>plain (by omega) (by omega) hc3
  · exact(fA hb hc3 (by simp)).bind fun r4 ⟨_,hc4⟩=>plain (by simp only[Model.tot]at t1⊢;omega) (by simp only;omega) hc4
  · refine(aO hb hc3).bind fun r5 ⟨⟨p1,p2,_⟩,hc5⟩=>ao.must ⟨p1,p2 (by omega)⟩ ?_
    have p2:=p2 (by omega)
    have hi:r5.1.toNat<r1.1.ai.length:=by omega
    rw[List.getElem?_eq_getElem hi]
    have hm:=pk ag.tot (List.getElem_mem hi)
    have ht:oK ag.tot r1.1.ai≤8055:=by simpa[Model.tot]using t1
    refine ao.of ((Am hb (by omega) hc5).bind fun r7 ⟨t7,hc7⟩=>ao.must ⟨p1,by rw[en];exact p2⟩ ?_)
    rw[Al]
    have hp:=yZ ag.tot r7.1 r1.1.ai r5.1.toNat hi
    exact ao.of (plain (by simp only[Model.tot];omega) (by simp;omega) hc7)
  · exact plain (by simp[Model.tot,oK]) (by simp) hc3
  · refine ao.iter (Inv:=fun v:Int× Int× List ag=>Cur b v.1∧v.2.2.length≤7∧oK ag.tot v.2.2≤8055+v.2.2.length) (m:=fun v=>8-v.2.2.length) (fun v next hv hn=>?_) k _ ⟨hc3,by simp only;omega,by simp only[Model.tot]at t1⊢;omega⟩ (by simp only;omega)
    obtain⟨v1,v2,v3⟩:=hv
    unfold ca
    refine(aO hb v1).bind fun r9 ⟨⟨p1,p2,_⟩,hc9⟩=>?_
    have p2:=p2 (by omega)
    rw[aN (n:=6+r9.1) (by omega) (by omega)]
    refine ao.cond (fun q=>ao.ble (by omega) (hn _ ⟨hc9,?_,?_⟩ ?_)) fun _=>plain (by simp only[Model.tot];omega) (by simp only;omega) hc9
    · have q:=of_decide_eq_true q
      simp;omega
    · rw[qn,iW]
      simp[ag.tot,oK]at v3⊢
      omega
    · have q:=of_decide_eq_true q
      simp;omega
theorem ra (hb:b.length≤1048576) (hk:b.length+10000<k):ao (eV k b) fun r=>r.1.tot≤8100∧r.2.data.length≤513:=by
  unfold eV
  refine(Cl hb (by omega)).bind fun r1 hc1=>(o7 hb (by omega) hc1).bind fun r2 ⟨⟨t2,l2⟩,hc2⟩=>(fW hb (by omega) hc2).bind fun r3 ⟨⟨e3,l3⟩,hc3⟩=>(oc hb hc3).bind fun r4 hc4=>?_
  have hs:=r2.1.inp.kS
  exact ao.cond (fun _=>(o6 hb (by omega) hc4).bind fun r5 ⟨l5,_⟩=>ao.some ⟨t2,l5⟩) fun _=>ao.some ⟨t2,by simp only;omega⟩
end
end Go.Proofs.Ev
set_option linter.unusedVariables false
set_option linter.unusedSimpArgs false
set_option maxRecDepth 100000
namespace Go.Proofs.Ev
theorem vJ:∀(xs:List Int) (s:Int),xs.foldl (fun s x=>IntKind.i64.wrap (s+x)) (IntKind.i64.wrap s)=IntKind.i64.wrap (s+xs.sum)
  |[],s=>by simp
  | x :: l, s => by
    rw[List.foldl_cons,show IntKind.i64.wrap (IntKind.i64.wrap s+x)=IntKind.i64.wrap (s+x)from by
      obtain⟨q,e⟩:=vq s
      exact od q (by rw[e];omega),vJ l (s+x),List.sum_cons,Int.add_assoc]
theorem tL (xs:List Int):xs.foldl (fun s x=>IntKind.i64.wrap (s+x)) 0=IntKind.i64.wrap xs.sum:=by
  have:=vJ xs 0
  rw[aN (n:=0) (by omega) (by omega),Int.zero_add]at this
  exact this
theorem DQ (a b:Int):IntKind.i64.wrap (IntKind.i64.wrap a+IntKind.i64.wrap b)=IntKind.i64.wrap (a+b):=by
  obtain⟨q,e⟩:=vq a
  obtain⟨r,f⟩:=vq b
  exact od (q+r) (by rw[e,f];omega)
theorem oV:∀(ls:List ag) (t:al) (u:List Shape),bc t.sh ls=some u→t.okB=true→(eG t ls).okB=true∧(eG t ls).sh=DP t.sh u
  |[],t,u,h,ht=>by cases h;exact⟨ht,rfl⟩
  | l :: ls, t, u, h, ht => by
    simp only[bc]at h
    cases hb:cN t.sh l<;>simp only[hb,cond_true,cond_false]at h
    · exact nomatch h
    · obtain⟨u',h1,rfl⟩:=Option.map_eq_some_iff.1 h
      obtain⟨g1,g2,_⟩:=lu ht hb
      rw[Ah,←g2]
      exact oV ls (qX t l).1 u' (by rw[g2];exact h1) g1
theorem oW {m:Model} (h:cd m=true):∃t,bc m.inp m.ai=some t∧bd m=m.inp::t∧t.length=m.ai.length:=by
  obtain⟨t,h1,h2,h3⟩:=Aj h
  exact⟨t,h1,by unfold bd;rw[h,h2];rfl,h3⟩
theorem kV {k:Nat} {a b:al} (hk:a.data.length<k) (ha:a.data.length≤pn):dp k a b=some (a.okB&&decide (a=b)):=by
  unfold dp
  rw[jP hk ha,aa,o5 hk ha]
  cases a.okB<;>rfl
end Go.Proofs.Ev
set_option linter.unusedVariables false
set_option linter.unusedSimpArgs false
set_option maxRecDepth 100000
namespace Go.Proofs.Ev
end Go.Proofs.Ev
set_option linter.unusedVariables false
set_option linter.unusedSimpArgs false
set_option maxRecDepth 100000
namespace Go.Proofs.Ev
end Go.Proofs.Ev
set_option linter.unusedVariables false
set_option linter.unusedSimpArgs false
namespace Go.Proofs.Ev
end Go.Proofs.Ev
set_option linter.unusedVariables false
set_option linter.unusedSimpArgs false
set_option maxRecDepth 100000
namespace Go.Proofs.Ev
end Go.Proofs.Ev
set_option linter.unusedVariables false
set_option linter.unusedSimpArgs false
set_option maxRecDepth 100000
namespace Go.Proofs.Ev
end Go.Proofs.Ev
set_option linter.unusedVariables false
set_option linter.unusedSimpArgs false
set_option maxRecDepth 100000
namespace Go.Proofs.Ev
theorem DS (k:Nat) {code:List Int} (hb:∀x∈code,okB x) {i:Int} (hi:0≤i) (h1:i≤1000000) (hl:code.length≤1048576):∃r,F9 k code i=some r∧0≤r∧r≤255:=by
  unfold F9
  rw[ae]
  by_cases c:i<(code.length:Int)
  · rw[if_pos c,tp _ hi,aK (show i.toNat<code.length by omega)]
    have:=hb _ (List.getElem_mem (show i.toNat<code.length by omega))
    unfold okB at this
    exact⟨_,rfl,by rw[aN (by omega) (by omega)];omega⟩
  · rw[if_neg c,aN (n:=i*13) (by omega) (by omega),aN (n:=(code.length:Int)*5) (by omega) (by omega),aN (by omega) (by omega)]
    have:=tA (x:=i*13+(code.length:Int)*5) (n:=256) (by omega) (by omega)
    exact⟨_,rfl,this.1,by omega⟩
end Go.Proofs.Ev
set_option linter.unusedVariables false
set_option linter.unusedSimpArgs false
namespace Go.Proofs.Ev
def Fh:Nat→Job→Job
  |0,j=>j
  |d+1,j=>Fh d (fS j)
def gS (j:Job):Nat:=j.model.ai.length-j.at_.toNat
def tM (j:Job):al× Bool:=cond (lA j) ((Fh (gS j) j).act,true) (⟨dJ,[]⟩,false)
theorem jj {j:Job} (h:lA j=true) (e:gS j=0):j.at_=(j.model.ai.length:Int):=by
  have:=(cO h).2.1
  unfold gS at e;omega
theorem kW {j:Job} {d:Nat} (h:lA j=true) (e:gS j=d+1):j.at_≠(j.model.ai.length:Int)∧gS (fS j)=d:=by
  have:=(cO h).2.1
  unfold gS at e⊢
  refine⟨by omega,?_⟩
  show j.model.ai.length-(j.at_+1).toNat=d
  omega
theorem E9 (j:Job):(⟨⟨⟨j.model.inp.h,j.model.inp.w,j.model.inp.c⟩,j.model.ai⟩,j.at_,⟨⟨j.act.sh.h,j.act.sh.w,j.act.sh.c⟩,j.act.data⟩,j.cS⟩:Job)=j:=rfl
def Fi (j:Job):Int× Int× Int× Int× Int× List Int:=(j.at_,j.act.sh.h,j.act.sh.w,j.act.sh.c,j.cS,j.act.data)
theorem sj {k:Nat} {R:Type} {fin:(Int× Int× Int× Int× Int× List Int)→Option R} {m:Model}:∀(d:Nat) (j:Job) (kf:Nat),j.model=m→lA j=true→gS j=d→d<kf→m.tot+1025<k→m.tot+512<b7→
    iter (fun u6 n6=>cw k ((0:Int),(0:Int),(0:Int),m.inp.h,m.inp.w,m.inp.c,m.ai) u6 n6 fin) kf (Fi j)=fin (Fi (Fh d j))
  |_,_,0,_,_,_,h,_,_=>by omega
  | 0, j, kf + 1, em, h, e, _, hk, hN => by
    subst em
    have ht:=ns h
    rw[fP]
    unfold cw Fi
    show(bq k j).bind _=_
    unfold bq
    rw[aa,jj h e,beq_self_eq_true]
    show fin _=fin _
    rw[←jj h e];rfl
  | d + 1, j, kf + 1, em, h, e, hd, hk, hN => by
    subst em
    have ht:=ns h
    obtain⟨c,e2⟩:=kW h e
    have ih:=sj (fin:=fin) (m:=j.model) d (fS j) kf rfl (nt h c) e2 (by omega) hk hN
    rw[fP]
    refine Eq.trans ?_ ih
    unfold cw
    show(bq k j).bind _=_
    unfold bq
    rw[aa,FY c]
    show(bZ k j).bind _=_
    rw[kR (by omega) (by omega) h c]
    rfl
theorem lK {k:Nat} {j:Job} (hk:j.tot+1025<k) (hN:j.tot+512<b7):dX k j=some (tM j):=by
  have hM:=bm
  have ht:j.tot=j.model.tot+(j.act.data.length+0+0):=rfl
  unfold dX tM
  rw[gA (by omega) (by omega),aa]
  cases h:lA j
  · rfl
  simp only[Bool.not_true,cond_false,cond_true]
  rw[eX (by omega) (by omega),aa]
  have h6:=(eF (cO h).1).1
  exact sj (k:=k) (m:=j.model) (fin:=fun y5=>some ((⟨(⟨y5.2.1,y5.2.2.1,y5.2.2.2.1⟩:Shape),y5.2.2.2.2.2⟩:al),true)) (gS j) j k rfl h rfl (by unfold gS;omega) (by omega) (by omega)
def rb:Nat→Int→Job→Job× Int
  |0,c,j=>(j,c)
  |d+1,c,j=>cond (decide (jU j≤c)) (rb d (IntKind.i64.wrap (c-jU j)) (fS j)) (j,c)
def tN (j:Job) (c:Int):Job× Int:=cond (lA j) (rb (gS j) (if 0>c then 0 else c) j) (j,c)
theorem sk {k:Nat} {R:Type} {fin:(Int× Int× Int× Int× Int× Int× List Int)→Option R} {m:Model}:∀(d:Nat) (j:Job) (c:Int) (kf:Nat),j.model=m→lA j=true→gS j=d→d<kf→m.tot+1025<k→m.tot+512<b7→
    iter (fun u6 n6=>dY k ((0:Int),(0:Int),(0:Int),(0:Int),(0:Int),(0:Int),(0:Int),(0:Int),m.inp.h,m.inp.w,m.inp.c,m.ai) u6 n6 fin) kf (c,Fi j)=fin ((rb d c j).2,Fi (rb d c j).1)
  |_,_,_,0,_,_,_,h,_,_=>by omega
  | 0, j, c, kf + 1, em, h, e, _, hk, hN => by
    subst em
    rw[fP]
    unfold dY Fi
    show(bq k j).bind _=_
    unfold bq
    rw[aa,jj h e,beq_self_eq_true]
    show fin _=fin _
    rw[←jj h e];rfl
  | d + 1, j, c, kf + 1, em, h, e, hd, hk, hN => by
    subst em
    have ht:=ns h
    obtain⟨c0,e2⟩:=kW h e
    rw[fP]
    unfold dY
    show(bq k j).bind _=_
    unfold bq
    rw[aa,FY c0]
    show(dC k j).bind (fun r4=>cond (decide (r4≤c)) ((dC k j).bind _) _)=_
    rw[jV (by omega) (by omega) h,aa,aa]
    unfold rb
    by_cases c1:jU j≤c
    · rw[decide_eq_true c1]
      simp only[cond_true]
      refine Eq.trans ?_ (sk (fin:=fin) (m:=j.model) d (fS j) (IntKind.i64.wrap (c-jU j)) kf rfl (nt h c0) e2 (by omega) hk hN)
      show(bZ k j).bind _=_
      rw[kR (by omega) (by omega) h c0]
      rfl
    · rw[decide_eq_false c1];rfl
theorem sm:∀(d:Nat) (c:Int) (j:Job),(rb d c j).1.model=j.model
  |0,_,_=>rfl
  | d + 1, c, j => by
    unfold rb
    cases decide (jU j≤c)
    · rfl
    · exact sm d _ (fS j)
theorem xr {k:Nat} {j:Job} {c:Int} (hk:j.tot+1025<k) (hN:j.tot+512<b7):pw k j c=some (tN j c):=by
  have hM:=bm
  have ht:j.tot=j.model.tot+(j.act.data.length+0+0):=rfl
  unfold pw tN
  rw[eX (by omega) (by omega),aa,gA (by omega) (by omega),aa]
  cases h:lA j
  · rfl
  simp only[Bool.not_true,cond_false,cond_true]
  have h6:=(eF (cO h).1).1
  refine(sk (k:=k) (m:=j.model) (fin:=fun y7=>some ((⟨j.model,y7.2.1,(⟨(⟨y7.2.2.1,y7.2.2.2.1,y7.2.2.2.2.1⟩:Shape),y7.2.2.2.2.2.2⟩:al),y7.2.2.2.2.2.1⟩:Job),y7.1)) (gS j) j (if 0>c then 0 else c) k rfl h rfl (by unfold gS;omega) (by omega) (by omega)).trans ?_
  have e:=sm (gS j) (if 0>c then 0 else c) j
  generalize rb (gS j) (if 0>c then 0 else c) j=x at e
  obtain⟨⟨m,a,t,s⟩,c'⟩:=x
  have e:m=j.model:=e
  subst e
  rfl
end Go.Proofs.Ev
set_option linter.unusedVariables false
set_option linter.unusedSimpArgs false
set_option maxRecDepth 100000
namespace Go.Proofs.Ev
theorem Ao {s:Shape} {l:ag} (h:cN s l=true):1≤vo s (shapeOf s l) l:=by
  have h1:=s.kS
  have h2:=(shapeOf s l).kS
  have hs:s.okB=true:=by
    unfold cN at h
    rw[Bool.and_eq_true]at h
    exact h.1
  obtain⟨_,_,c1,c2⟩:=Shape.oz.1 hs
  have div:∀n:Int,0≤n→n≤10000000→1≤IntKind.i64.wrap (1+IntKind.i64.wrap (n.tdiv 16)):=fun n a b=>by
    have q0:=Int.tdiv_nonneg a (show(0:Int)≤16 by omega)
    have q1:n.tdiv 16≤n:=Int.tdiv_le_self 16 a
    rw[aN (n:=n.tdiv 16) (by omega) (by omega),aN (by omega) (by omega)];omega
  have prod:∀a b A B:Int,0≤a→a≤A→0≤b→b≤B→0≤a*b∧a*b≤A*B:=fun a b A B h1 h2 h3 h4=>⟨Int.mul_nonneg h1 h3,Int.mul_le_mul h2 h4 h3 (by omega)⟩
  unfold vo
  by_cases k0:l.kind=0
  · rw[decide_eq_true k0,cond_true]
    have p:=prod _ _ _ _ h2.1 h2.2 h1.1 h1.2
    rw[aN (n:=(shapeOf s l).size*s.size) (by omega) (by omega)]
    exact div _ p.1 (by omega)
  rw[decide_eq_false k0,cond_false]
  have win:(l.kind=1∨l.kind=2∨l.kind=3)→1≤l.size∧l.size≤3:=fun hk=>by
    unfold cN at h
    rw[hs,Bool.true_and,decide_eq_false k0,cond_false]at h
    rcases hk with e|e|e<;>simp only[e,decide_true,cond_true,cond_false,show decide ((2:Int)=1)=false from rfl,show decide ((3:Int)=1)=false from rfl,show decide ((3:Int)=2)=false from rfl,Bool.true_or,Bool.or_true,Bool.and_eq_true]at h
    all_goals
      have:=jf h.1
      omega
  by_cases k1:l.kind=1
  · rw[decide_eq_true k1,cond_true]
    have z:=win (.inl k1)
    have p:=prod _ _ _ _ h2.1 h2.2 (show 0≤l.size by omega) z.2
    have p2:=prod _ _ _ _ p.1 p.2 (show 0≤l.size by omega) z.2
    have p3:=prod _ _ _ _ p2.1 p2.2 (show 0≤s.c by omega) c2
    rw[aN (n:=(shapeOf s l).size*l.size) (by omega) (by omega),aN (n:=(shapeOf s l).size*l.size*l.size) (by omega) (by omega),aN (n:=(shapeOf s l).size*l.size*l.size*s.c) (by omega) (by omega)]
    exact div _ p3.1 (by omega)
  rw[decide_eq_false k1,cond_false]
  by_cases k2:l.kind=2
  · rw[decide_eq_true k2,cond_true]
    have z:=win (.inr (.inl k2))
    have p:=prod _ _ _ _ h2.1 h2.2 (show 0≤l.size by omega) z.2
    have p2:=prod _ _ _ _ p.1 p.2 (show 0≤l.size by omega) z.2
    rw[aN (n:=(shapeOf s l).size*l.size) (by omega) (by omega),aN (n:=(shapeOf s l).size*l.size*l.size) (by omega) (by omega)]
    exact div _ p2.1 (by omega)
  rw[decide_eq_false k2,cond_false]
  by_cases k3:l.kind=3
  · rw[decide_eq_true k3,cond_true]
    have z:=win (.inr (.inr k3))
    have p:=prod _ _ _ _ h2.1 h2.2 (show 0≤l.size by omega) z.2
    have p2:=prod _ _ _ _ p.1 p.2 (show 0≤l.size by omega) z.2
    rw[aN (n:=(shapeOf s l).size*l.size) (by omega) (by omega),aN (n:=(shapeOf s l).size*l.size*l.size) (by omega) (by omega)]
    exact div _ p2.1 (by omega)
  rw[decide_eq_false k3,cond_false]
  exact div _ h1.1 (by omega)
theorem Cy {j:Job} (h:lA j=true) (hd:j.at_≠(j.model.ai.length:Int)):1≤jU j:=by
  obtain⟨hm,ha,_⟩:=cO h
  obtain⟨hl,hg⟩:=eF hm
  have hi:j.at_.toNat<j.model.ai.length:=by omega
  obtain⟨g1,g2⟩:=hg _ hi
  unfold jU b5
  rw[hm,cond_true,List.getD_eq_getElem?_getD,List.getElem?_map,List.getElem?_range hi]
  show 1≤nq ((bd j.model).getD j.at_.toNat dJ) (j.model.ai.getD j.at_.toNat ow)
  unfold nq da
  rw[g1]
  exact Ao g1
def DT (m:Model) (want:al) (j:Job):Prop:=j.model=m∧lA j=true∧(Fh (gS j) j).act=want
theorem DT.step {m:Model} {want:al} {j:Job} (h:DT m want j) (hd:j.at_≠(j.model.ai.length:Int)):DT m want (fS j):=by
  obtain⟨h1,h2,h3⟩:=h
  refine⟨h1,nt h2 hd,?_⟩
  cases e:gS j with
  |zero=>exact(hd (jj h2 e)).elim
  | succ d =>
    rw[e]at h3
    rw[(kW h2 e).2]
    exact h3
theorem Cz:∀(d:Nat) (j:Job),lA j=true→gS j=d→(Fh d j).act=eG j.act (j.model.ai.drop j.at_.toNat)
  | 0, j, h, e => by
    have:=jj h e
    rw[List.drop_eq_nil_of_le (by omega)];rfl
  | d + 1, j, h, e => by
    obtain⟨c,e2⟩:=kW h e
    have ha:=(cO h).2.1
    have hi:j.at_.toNat<j.model.ai.length:=by omega
    rw[Fh,Cz d (fS j) (nt h c) e2,List.drop_eq_getElem_cons hi]
    show eG (qX j.act (mg j)).1 (j.model.ai.drop (j.at_+1).toNat)=_
    rw[show(j.at_+1).toNat=j.at_.toNat+1 from by omega,show mg j=j.model.ai[j.at_.toNat]from cc hi _]
    rfl
theorem za {m:Model} {want:al}:∀(d:Nat) (c:Int) (j:Job),DT m want j→gS j=d→0≤c→c≤100→
    DT m want (rb d c j).1∧0≤(rb d c j).2∧(rb d c j).2≤c∧IntKind.i64.wrap ((rb d c j).1.cS-j.cS)=c-(rb d c j).2∧((rb d c j).2=c→(rb d c j).1=j)
  |0,c,j,h,e,h0,h1=>⟨h,h0,Int.le_refl _,by rw[rb,Int.sub_self,Int.sub_self];rfl,fun _=>rfl⟩
  | d + 1, c, j, h, e, h0, h1 => by
    obtain⟨hd,e2⟩:=kW h.2.1 e
    have hp:=Cy h.2.1 hd
    unfold rb
    by_cases q:jU j≤c
    · rw[decide_eq_true q,cond_true,aN (n:=c-jU j) (by omega) (by omega)]
      obtain⟨g1,g2,g3,g4,g5⟩:=za d (c-jU j) (fS j) (h.step hd) e2 (by omega) (by omega)
      refine⟨g1,g2,by omega,?_,fun e=>by omega⟩
      have hs:(fS j).cS=IntKind.i64.wrap (j.cS+jU j):=rfl
      generalize (rb d (c-jU j) (fS j)).1.cS=z at g4⊢
      obtain⟨q1,w1⟩:=vq (j.cS+jU j)
      obtain⟨q2,w2⟩:=vq (z-(fS j).cS)
      rw[g4,hs,w1]at w2
      rw[←aN (n:=c-(rb d (c-jU j) (fS j)).2) (by omega) (by omega)]
      exact od (q1-q2) (by omega)
    · rw[decide_eq_false q,cond_false]
      exact⟨h,h0,Int.le_refl _,by rw[Int.sub_self,Int.sub_self];rfl,fun _=>rfl⟩
theorem vK {k:Nat} {j:Job} (hk:j.tot+1<k) (hN:j.tot<b7) (h:lA j=true):nc k j=some (j.at_==(j.model.ai.length:Int)):=by
  unfold nc
  rw[gA hk hN,h,aa,cond_true]
  rfl
theorem DU {k:Nat} {R:Type} {fin:Int→Option R} {p:List Int× Int× List Int× Int× Int× Int× Int× Int× Int× Int× Int× Int× Int× Int× Int× Int× Int× List ag× List ag× List Int× List Int} (hk:p.2.2.1.length<k) (hl:p.2.2.1.length≤100000):
    iter (fun u n=>cz k p u n fin) k ((0:Int),(0:Int))=fin (Ea p.2.2.1):=by
  have:=E7 (g:=fun u n=>cz k p u n fin) (fin:=fun v=>fin v.1) (st:=fun i=>(Ea (p.2.2.1.take i),(i:Int))) (n:=p.2.2.1.length) (k:=k) (fun i hi next=>by
    show cz k p _ next fin=_
    unfold cz
    rw[ae,if_pos (by simp only;omega)]
    simp only
    rw[bF,aK hi,aa,aN (n:=(i:Int)+1) (by omega) (by omega)]
    congr 2
    unfold Ea
    rw[gM hi,List.foldl_append];rfl) (fun next=>by
    show cz k p _ next fin=_
    unfold cz
    rw[ae,if_neg (by simp)]) hk
  simp only[List.take_length]at this
  exact this
def Fj (i:Int) (j:Job):Int× Int× Int× Int× Int× Int× Int× Int× Int× List ag× List Int:=(i,j.model.inp.h,j.model.inp.w,j.model.inp.c,j.at_,j.act.sh.h,j.act.sh.w,j.act.sh.c,j.cS,j.model.ai,j.act.data)
theorem xt (code:List Int) (hb:okS okB code):∃k,nd k code=some true:=by
  refine⟨code.length+20001,?_⟩
  have hM:=bm
  have hxl:1000000≤pn:=by unfold pn;omega
  unfold nd EY iE
  rw[aa]
  by_cases c:(code.length:Int)>1048576
  · rw[decide_eq_true c];rfl
  rw[decide_eq_false c,cond_false]
  obtain⟨⟨m,t⟩,e,hs,hl⟩:=ra (b:=code) (by omega) (k:=code.length+20001) (by omega)
  simp only at hs hl
  rw[e]
  simp only[aa]
  have htt:t.tot=t.data.length:=by simp[al.tot]
  rw[tB (by omega) (by omega),aa,qY (by omega) (by omega),aa]
  have same:(jR m t).2=(lB m t).2:=by
    unfold jR lB lA
    cases hm:cd m
    · rfl
    · obtain⟨s,g1,g2,g3⟩:=oW hm
      have hl:=(eF hm).1
      rw[g2]
      simp only[Bool.true_and,show inB (0:Int) 0 (m.ai.length:Int)=true from bE.2 (by omega)]
      cases t.okB
      · rfl
      · simp only[Bool.true_and,Int.toNat_zero,List.getD_cons_zero,List.take_zero]
        cases decide (t.sh=m.inp)<;>rfl
  rw[same,show((lB m t).2==(lB m t).2)=true from by simp,Bool.not_true,cond_false]
  cases hf:(lB m t).2
  · rfl
  rw[Bool.not_true,cond_false]
  have hj:lA ⟨m,0,t,0⟩=true:=by
    rw[hf]at same
    unfold jR at same
    cases h:lA ⟨m,0,t,0⟩<;>rw[h]at same
    · exact nomatch same
  have hm:=(cO hj).1
  have hmb:1≤m.ai.length∧m.ai.length≤6:=(eF hm).1
  have hw:(lB m t).1=eG t m.ai:=by
    unfold lB at hf⊢
    cases h:(cd m&&(t.okB&&decide (t.sh=m.inp)))<;>rw[h]at hf
    · exact nomatch hf
    · rfl
  have hok:(lB m t).1.okB=true:=by
    obtain⟨s,g1,g2,g3⟩:=oW hm
    unfold lB at hf
    rw[hm,Bool.true_and]at hf
    cases ho:(t.okB&&decide (t.sh=m.inp))<;>rw[ho]at hf
    · exact nomatch hf
    · rw[Bool.and_eq_true]at ho
      rw[hw]
      exact(oV m.ai t s (by rw[of_decide_eq_true ho.2];exact g1) ho.1).1
  have hwl:(lB m t).1.data.length≤1025:=by have:=Cw m t;simp only[al.tot]at this;omega
  have g0:DT m (lB m t).1 ⟨m,0,t,0⟩:=⟨rfl,hj,by rw[Cz _ _ hj rfl,hw];rfl⟩
  have es:(jR m t).1=⟨m,0,t,0⟩:=by unfold jR;rw[hj];rfl
  rw[es]
  generalize (lB m t).1=want at hok hwl g0⊢
  have tot:∀j,DT m want j→j.tot≤9000:=fun j h=>by
    have:=(ns h.2.1).2
    rw[h.1]at this;omega
  have fin:∀j,DT m want j→ao ((dX (code.length+20001) j).bind fun r19=>cond (r19.2) ((dp (code.length+20001) r19.1 want).bind fun r20=>some r20) (some false)) fun r=>r=true:=fun j h=>by
    have ht:=tot j h
    rw[lK (by omega) (by omega),aa]
    unfold tM
    rw[h.2.1,cond_true]
    simp only[cond_true,h.2.2]
    rw[kV (by omega) (by omega),hok,decide_eq_true rfl]
    exact ao.some rfl
  suffices h:ao (iter (fun u22 n22=>fw (code.length+20001) (code,m.inp.h,m.inp.w,m.inp.c,want.sh.h,want.sh.w,want.sh.c,m.ai,want.data) u22 n22 (fun y18=>(dX (code.length+20001) (⟨(⟨(⟨y18.1,y18.2.1,y18.2.2.1⟩:Shape),y18.2.2.2.2.2.2.2.2.1⟩:Model),y18.2.2.2.1,(⟨(⟨y18.2.2.2.2.1,y18.2.2.2.2.2.1,y18.2.2.2.2.2.2.1⟩:Shape),y18.2.2.2.2.2.2.2.2.2⟩:al),y18.2.2.2.2.2.2.2.1⟩:Job)).bind fun r19=>cond (r19.2) ((dp (code.length+20001) r19.1 want).bind fun r20=>some r20) (some false)) (fun y21=>some y21)) (code.length+20001) (Fj 0 ⟨m,0,t,0⟩)) fun r=>r=true by
    obtain⟨r,h1,h2⟩:=h
    subst h2
    exact h1
  refine ao.iter (Inv:=fun v=>∃i j,v=Fj i j∧DT m want j∧0≤i∧i≤20) (m:=fun v=>(20-v.1).toNat) (fun v next hv hn=>?_) _ _ ⟨0,_,rfl,g0,by omega,by omega⟩ (by simp only[Fj];omega)
  obtain⟨i,j,rfl,hg,i0,i1⟩:=hv
  have ht:=tot j hg
  have hjm:=hg.1
  have hjb:=hg.2.1
  unfold fw
  simp only[Fj,E9]
  refine ao.cond (fun q=>?_) fun _=>fin j hg
  have q:i<20:=of_decide_eq_true q
  rw[vK (by omega) (by omega) hjb,aa]
  refine ao.cond (fun hd=>?_) fun _=>fin j hg
  have hd:j.at_≠(j.model.ai.length:Int):=by simpa using hd
  have hle:((b5 j.model).drop j.at_.toNat).length≤6:=by
    have h1:=qv j.model
    have h2:j.model.ai.length=m.ai.length:=by rw[hjm]
    rw[List.length_drop]
    omega
  rw[qH (by omega) (by omega) hjb,aa,DU (by simp only;omega) (by simp only;omega)]
  simp only
  rw[lK (by omega) (by omega),aa]
  unfold tM
  rw[hjb]
  simp only[cond_true,hg.2.2,Bool.not_true,cond_false]
  rw[kV (a:=want) (b:=want) (by omega) (by omega),aa,hok,decide_eq_true rfl,Bool.and_true,Bool.not_true,cond_false,qW (m:=m) (by omega) (by omega),aa]
  have hsum:IntKind.i64.wrap (j.cS+Ea ((b5 j.model).drop j.at_.toNat))=kO m:=by
    rw[(cO hjb).2.2.2.2]
    unfold Ea kO
    rw[tL,tL,tL,DQ,←List.sum_append,List.take_append_drop,hjm]
  rw[hsum,show(kO m !=kO m)=false from by simp,cond_false,Ac (j:=j) (by omega) (by omega),hjb,aa,Bool.not_true,cond_false]
  obtain⟨x,hx,x0,x1⟩:=DS (code.length+20001) hb.2 i0 (by omega) (by omega)
  have hmod:=tA (x:=x) (n:=12) x0 (by omega)
  rw[hx,aa,xr (by omega) (by omega),aa]
  have er:tN j (x.tmod 12)=rb (gS j) (x.tmod 12) j:=by
    unfold tN
    rw[hjb,if_neg (by omega)];rfl
  rw[er]
  obtain⟨r1,r2,r3,r4,r5⟩:=za (gS j) (x.tmod 12) j hg rfl hmod.1 (by omega)
  generalize rb (gS j) (x.tmod 12) j=w at r1 r2 r3 r4 r5
  obtain⟨j',c'⟩:=w
  simp only at r1 r2 r3 r4 r5⊢
  rw[decide_eq_false (by omega),cond_false,r4,aN (n:=x.tmod 12-c') (by omega) (by omega),show(x.tmod 12-c' !=x.tmod 12-c')=false from by simp,cond_false]
  have ht':=tot j' r1
  have wi:IntKind.i64.wrap (i+1)=i+1:=aN (by omega) (by omega)
  refine ao.cond (fun p=>?_) fun _=>?_
  · have p:c'=x.tmod 12:=by simpa using p
    have ej:=r5 p
    subst ej
    have hs:DN j'=(fS j',true):=by
      unfold DN
      rw[hjb,show(j'.at_==(j'.model.ai.length:Int))=false from by simpa using hd];rfl
    rw[vH (by omega) (by omega),hs,aa,jV (by omega) (by omega) hjb]
    simp only[Bool.not_true,cond_false,aa]
    rw[show((fS j').cS !=IntKind.i64.wrap (j'.cS+jU j'))=false from by simp[fS],cond_false,wi]
    exact hn _ ⟨i+1,fS j',rfl,hg.step hd,by omega,by omega⟩ (by simp only[Fj];omega)
  · rw[wi]
    exact hn _ ⟨i+1,j',rfl,r1,by omega,by omega⟩ (by simp only[Fj];omega)
end Go.Proofs.Ev
