/- Typed functions and what holds of them: part 7. -/
import Derived.Test.YtkjdnpefjebmlaaGreatDoorEvL6
import Derived.Lib.ItoaLen
set_option linter.unusedVariables false
set_option linter.unusedSimpArgs false
set_option linter.unusedSectionVars false
namespace Go.Proofs.Ev
open IntKind(i64 u8 u64)
set_option maxRecDepth 100000
set_option maxHeartbeats 4000000
section
theorem ao.W0 {R α β γ δ ε:Type} {B:(α->β->γ->δ->ε->Option R)->Option R} {K:α->β->γ->δ->ε->Option R} {Q:R->Prop} (P:α->β->γ->δ->ε->Prop) (hK:∀x y z u v,P x y z u v->ao (K x y z u v) Q)
  (hB:∀j:α->β->γ->δ->ε->Option R,(∀x y z u v,P x y z u v->ao (j x y z u v) Q)->ao (B j) Q):ao (Go.Proofs.Ev.bej B K) Q:=hB K hK
theorem ao.Wl {R α β γ δ ε ζ η:Type} {B:(α->β->γ->δ->ε->ζ->η->Option R)->Option R} {K:α->β->γ->δ->ε->ζ->η->Option R} {Q:R->Prop} (P:α->β->γ->δ->ε->ζ->η->Prop) (hK:∀x y z u v w t,P x y z u v w t->ao (K x y z u v w t) Q)
  (hB:∀j:α->β->γ->δ->ε->ζ->η->Option R,(∀x y z u v w t,P x y z u v w t->ao (j x y z u v w t) Q)->ao (B j) Q):ao (Go.Proofs.Ev.bej B K) Q:=hB K hK
theorem ao.UN {R α β γ:Type} {B:(α->β->γ->Option R)->Option R} {K:α->β->γ->Option R} {Q:R->Prop} (P:α->β->γ->Prop) (hK:∀x y z,P x y z->ao (K x y z) Q)
  (hB:∀j:α->β->γ->Option R,(∀x y z,P x y z->ao (j x y z) Q)->ao (B j) Q):ao (Go.Proofs.Ev.bej B K) Q:=hB K hK
section
variable {b:List Int} {k:Nat}
theorem ku (hb:b.length<=1048576) {R:Type} {Q:R->Prop} {c h kd a B0:Int} {K:Int->Int->Int->Int->Int->Option R} (hc:Cur b c) (hK:∀c h kd a b0,Cur b c->ao (K c h kd a b0) Q):
  ao ((bD k b c h (40:Int)).bind λr32=>bej (λ(j40:Int->Int->Int->Int->Int->Option R)=>cond (r32.1) ((ae k b r32.2.1 r32.2.2 (3:Int)).bind λr33=>cond (r33.1==(0:Int)) ((ay k b r33.2.1 r33.2.2 [(-1:Int),(3:Int),(4:Int),(200:Int),(201:Int)]).bind λr34=>(j40 r34.2.1 r34.2.2 kd r34.1 B0)) (cond (r33.1==(1:Int)) ((ay k b r33.2.1 r33.2.2 [(-1:Int),(1000000:Int),(1000001:Int)]).bind λr35=>(j40 r35.2.1 r35.2.2 kd a r35.1)) (cond (r33.1==(2:Int)) ((ay k b r33.2.1 r33.2.2 [(-1:Int),(6:Int)]).bind λr36=>(j40 r36.2.1 r36.2.2 r36.1 a B0)) ((j40 r33.2.1 r33.2.2 kd a B0))))) ((j40 r32.2.1 r32.2.2 kd a B0))) K) Q:=by
 refine(fx hb hc).bind λr32 hc1=>ao.W0 (λc _ _ _ _=>Cur b c) (λc h kd a b0 hc=>hK c h kd a b0 hc) λj hj=>?_;refine ao.cond (λ_=>?_) λ_=>hj _ _ _ _ _ hc1;refine(aI hb hc1).bind λr33 ⟨_,hc2⟩=>?_;refine ao.cond (λ_=>(eM hb hc2 (by simp)).bind λr34 ⟨_,hc3⟩=>hj _ _ _ _ _ hc3) λ_=>?_;refine ao.cond (λ_=>(eM hb hc2 (by simp)).bind λr34 ⟨_,hc3⟩=>hj _ _ _ _ _ hc3) λ_=>?_;exact ao.cond (λ_=>(eM hb hc2 (by simp)).bind λr34 ⟨_,hc3⟩=>hj _ _ _ _ _ hc3) λ_=>hj _ _ _ _ _ hc2
theorem sK (hb:b.length<=1048576) (hk:10000<k) {c h:Int} (hc:Cur b c):ao (fQ k b c h) λr=>r.1.tot<=8055/\Cur b r.2.1:=by
 unfold fQ;refine(sI hb hc (by omega) (by omega)).bind λr1 ⟨ok1,hc1⟩=>(aI hb hc1).bind λr2 ⟨⟨p1,p2,_⟩,hc2⟩=>?_;have p2:=p2 (by omega);refine(CT hb hk ok1 hc2 ?_).bind λr3 ⟨⟨_,l3,_⟩,hc3⟩=>ao.must rfl (ao.some ⟨l3,hc3⟩);rw[aF (by omega) (by omega)];omega
abbrev DV:=Int× Int× Int× List Step× Int× Int× Int× Int× Int× Int× Int× List Task× List Model× List Bool× List Request
def rtD (v:DV):Runtime:=⟨(⟨v.2.2.2.2.1,v.2.2.2.2.2.1,v.2.2.2.2.2.2.1,v.2.2.2.2.2.2.2.2.2.2.2.1,v.2.2.2.2.2.2.2.1,v.2.2.2.2.2.2.2.2.1,v.2.2.2.2.2.2.2.2.2.1,v.2.2.2.2.2.2.2.2.2.2.1⟩:al),v.2.2.2.2.2.2.2.2.2.2.2.2.1,v.2.2.2.2.2.2.2.2.2.2.2.2.2.1,v.2.2.2.2.2.2.2.2.2.2.2.2.2.2⟩
structure TA (b:List Int) (n:Int) (v:DV):Prop where
 cur:Cur b v.2.1
 lo:0<=v.1
 hi:v.1<=400
 len:(v.2.2.2.1.length:Int)=v.1
 small:∀x∈v.2.2.2.1,eA x
 ok:sH (rtD v)
theorem pR (hk:20000000<=k) {n:Int} {R:Type} {Q:R->Prop} {v:DV} (hv:TA b n v) (hn:v.1<n) (h4:n<=400) {next:DV->Option R} (hx:∀w,TA b n w->(n-w.1).toNat<(n-v.1).toNat->ao (next w) Q) {c h:Int} (hc:Cur b c) {x:Step} (hs:eA x):
  ao (cond (Nat.ble (v.2.2.2.1.length+1) aO) ((gC k (rtD v) x).bind λr41=>next (i64.wrap (v.1+(1:Int)),c,h,v.2.2.2.1++[x],r41.2.1,r41.2.2.1,r41.2.2.2.1,r41.2.2.2.2.2.1,r41.2.2.2.2.2.2.1,r41.2.2.2.2.2.2.2.1,r41.2.2.2.2.2.2.2.2.1,r41.2.2.2.2.1,r41.2.2.2.2.2.2.2.2.2.1,r41.2.2.2.2.2.2.2.2.2.2.1,r41.2.2.2.2.2.2.2.2.2.2.2)) none) Q:=by
 have hM:=ak;have hl:=hv.len;have h1:=hv.lo;have h2:=hv.hi;obtain⟨e,r',ok',_,_,hS,_⟩:=Tz hk hv.ok hs;rw[hS,aa,aF (by omega) (by omega)];refine ao.ble (by omega) (hx _ ⟨hc,by simp only;omega,by simp only;omega,by simp only[W5,W7,Xg];omega,λy hy=>?_,ok'⟩ (by simp only;omega))
 rcases XN.1 hy with hy|hy
 ·exact hv.small y hy
 ·rw[Yj.1 hy];exact hs
theorem TB (x:Int):okB (u8.wrap x):=by show 0<=x %256/\x %256<=255;omega
theorem sL (hb:b.length<=1048576) (hk:20000000<=k) {c h n:Int} (hc:Cur b c) (hn:n<=400):ao (fR k b c h n) λr=>((∀x∈r.1,eA x)/\r.1.length<=400/\n<=(r.1.length:Int))/\Cur b r.2.1:=by
 have hM:=ak;unfold fR;rw[Ck (by omega),aa]
 have Wm:bE (Qc 1 1)=true:=by decide
 rw[Wm];simp only[cond_true];refine ao.iter (Inv:=TA b n) (m:=λv=>(n-v.1).toNat) (λv next hv hx=>?_) k _ ⟨hc,by simp,by simp,by simp,λx hx=>absurd hx (by simp),UK Wm⟩ (by simp;omega);have h4:=hn;have nil0:∀{kd a b0:Int},eA ⟨kd,a,b0,[],⟨⟨0,0,0⟩,[]⟩⟩:=λ{kd a b0}=>⟨λy hy=>absurd hy (by simp),by simp,by show 0<=_;omega⟩;have inp0:∀{kd a b0:Int} {s:Shape} {data:List Int},data.length<=513->eA ⟨kd,a,b0,[],⟨s,data⟩⟩:=λ{kd a b0 s data} hd=>⟨λy hy=>absurd hy (by simp),by simp,by show data.length<=_;omega⟩;have dat0:∀{kd a b0:Int} {data:List Int},(∀y∈data,okB y)->data.length<=6000->eA ⟨kd,a,b0,data,⟨⟨0,0,0⟩,[]⟩⟩:=λ{kd a b0 data} hd hl=>⟨hd,by show data.length<=2000000;omega,by show 0<=_;omega⟩;unfold iP;refine ao.cond (λq=>?_) λq=>ao.must (by first|rfl|trivial) (ao.some ⟨⟨hv.small,by have:=hv.len;have:=hv.hi;simp only;omega,by have:=hv.len;have:=of_decide_eq_false q;simp only;omega⟩,hv.cur⟩);have q:v.1<n:=of_decide_eq_true q;refine(eM hb hv.cur (by simp)).bind λr2 ⟨_,hc2⟩=>(aI hb hc2).bind λr3 ⟨⟨a1,a2,_⟩,hc3⟩=>?_;have a2:=a2 (by omega);refine ao.cond (λ_=>?_) λ_=>?_
 ·refine(eM hb hc3 (by simp)).bind λr4 ⟨_,hc4⟩=>?_;refine ao.UN (λc _ _=>Cur b c) (λc h a hc=>ku hb hc λc h kd a b0 hc=>pR hk hv q h4 hx hc nil0) λj53 hj53=>?_;refine ao.Wl (λc _ _ _ _ _ data=>Cur b c/\data.length<=513) (λc h b0 s1 s2 s3 data ⟨hc,hd⟩=>ku hb hc λc h kd a b0 hc=>pR hk hv q h4 hx hc (inp0 hd)) λj42 hj42=>?_;refine ao.UN (λc _ data=>Cur b c/\(∀y∈data,okB y)/\data.length<=6000) (λc h data ⟨hc,hd,hl⟩=>ku hb hc λc h kd a b0 hc=>pR hk hv q h4 hx hc (dat0 hd hl)) λj31 hj31=>?_;refine ao.cond (λ_=>?_) λ_=>?_
  ·refine(sK hb (by omega) hc4).bind λr5 ⟨t5,hc5⟩=>(zo (by omega) (by omega)).bind λr6 ⟨o6,l6⟩=>(fx hb hc5).bind λr7 hc7=>?_;refine ao.cond (λ_=>?_) λ_=>hj31 _ _ _ ⟨hc7,o6,l6⟩;refine ao.cond (λq2=>?_) λ_=>hj31 _ _ _ ⟨hc7,o6,l6⟩;have q2:(r6.1.length:Int)>0:=of_decide_eq_true q2;refine(aI hb hc7).bind λr8 ⟨⟨p1,p2,_⟩,hc8⟩=>(aI hb hc8).bind λr9 ⟨_,hc9⟩=>ao.must ⟨p1,p2 (by omega)⟩ (hj31 _ _ _ ⟨hc9,λy hy=>?_,by rw[XV];exact l6⟩)
   rcases YE hy with hy|rfl
   ·exact o6 y hy
   ·exact TB _
  refine ao.cond (λ_=>?_) λ_=>?_
  ·refine(aI hb hc4).bind λr11 ⟨_,hc11⟩=>?_;have hml:v.2.2.2.2.2.2.2.2.2.2.2.2.1.length=4:=hv.ok.ml
   have hi:r3.1.toNat<v.2.2.2.2.2.2.2.2.2.2.2.2.1.length:=by omega
   refine ao.must (by omega) ?_;rw[On hi,aa];refine(iD hb (by omega) hc11).bind λr13 ⟨⟨_,t13⟩,hc13⟩=>(fx hb hc13).bind λr14 hc14=>?_;refine ao.cond (λ_=>(rl hb (by omega) hc14).bind λr15 ⟨t15,hc15⟩=>hj42 _ _ _ _ _ _ _ ⟨hc15,t15⟩) λ_=>hj42 _ _ _ _ _ _ _ ⟨hc14,?_⟩;have:=Shape.Fp (v.2.2.2.2.2.2.2.2.2.2.2.2.1[r3.1.toNat]'hi).inp;omega
  refine ao.cond (λ_=>?_) λ_=>?_
  ·refine(aI hb hc4).bind λr17 ⟨_,hc17⟩=>ao.cond (λq2=>?_) λ_=>hj53 _ _ _ hc17;have q2:=of_decide_eq_true q2;refine(fx hb hc17).bind λr18 hc18=>ao.cond (λ_=>?_) λ_=>hj53 _ _ _ hc18;refine(aI hb hc18).bind λr19 ⟨⟨p1,p2,_⟩,hc19⟩=>?_;have p2:=p2 (by omega);refine ao.must ⟨p1,p2⟩ ?_;rw[On (show r19.1.toNat<_ by omega),aa];exact hj53 _ _ _ hc19
  refine ao.cond (λ_=>(aI hb hc4).bind λr ⟨_,hc5⟩=>hj53 _ _ _ hc5) λ_=>?_;exact ao.cond (λ_=>(aI hb hc4).bind λr ⟨_,hc5⟩=>hj53 _ _ _ hc5) λ_=>hj53 _ _ _ hc4
 ·refine(fx hb hc3).bind λr64 hc64=>ao.UN (λc _ _=>Cur b c) (λc4 h4' kd hc4=>?_) λj66 hj66=>ao.cond (λ_=>(eM hb hc64 (by simp)).bind λr65 ⟨_,hc65⟩=>hj66 _ _ _ hc65) λ_=>hj66 _ _ _ hc64;refine ao.UN (λc _ _=>Cur b c) (λc h a hc=>ku hb hc λc h kd a b0 hc=>pR hk hv q h4 hx hc nil0) λj53 hj53=>?_;refine ao.Wl (λc _ _ _ _ _ data=>Cur b c/\data.length<=513) (λc h b0 s1 s2 s3 data ⟨hc,hd⟩=>ku hb hc λc h kd a b0 hc=>pR hk hv q h4 hx hc (inp0 hd)) λj42 hj42=>?_;refine ao.UN (λc _ data=>Cur b c/\(∀y∈data,okB y)/\data.length<=6000) (λc h data ⟨hc,hd,hl⟩=>ku hb hc λc h kd a b0 hc=>pR hk hv q h4 hx hc (dat0 hd hl)) λj31 hj31=>?_;refine ao.cond (λ_=>?_) λ_=>?_
  ·refine(sK hb (by omega) hc4).bind λr5 ⟨t5,hc5⟩=>(zo (by omega) (by omega)).bind λr6 ⟨o6,l6⟩=>(fx hb hc5).bind λr7 hc7=>?_;refine ao.cond (λ_=>?_) λ_=>hj31 _ _ _ ⟨hc7,o6,l6⟩;refine ao.cond (λq2=>?_) λ_=>hj31 _ _ _ ⟨hc7,o6,l6⟩;have q2:(r6.1.length:Int)>0:=of_decide_eq_true q2;refine(aI hb hc7).bind λr8 ⟨⟨p1,p2,_⟩,hc8⟩=>(aI hb hc8).bind λr9 ⟨_,hc9⟩=>ao.must ⟨p1,p2 (by omega)⟩ (hj31 _ _ _ ⟨hc9,λy hy=>?_,by rw[XV];exact l6⟩)
   rcases YE hy with hy|rfl
   ·exact o6 y hy
   ·exact TB _
  refine ao.cond (λ_=>?_) λ_=>?_
  ·refine(aI hb hc4).bind λr11 ⟨_,hc11⟩=>?_;have hml:v.2.2.2.2.2.2.2.2.2.2.2.2.1.length=4:=hv.ok.ml
   have hi:r3.1.toNat<v.2.2.2.2.2.2.2.2.2.2.2.2.1.length:=by omega
   refine ao.must (by omega) ?_;rw[On hi,aa];refine(iD hb (by omega) hc11).bind λr13 ⟨⟨_,t13⟩,hc13⟩=>(fx hb hc13).bind λr14 hc14=>?_;refine ao.cond (λ_=>(rl hb (by omega) hc14).bind λr15 ⟨t15,hc15⟩=>hj42 _ _ _ _ _ _ _ ⟨hc15,t15⟩) λ_=>hj42 _ _ _ _ _ _ _ ⟨hc14,?_⟩;have:=Shape.Fp (v.2.2.2.2.2.2.2.2.2.2.2.2.1[r3.1.toNat]'hi).inp;omega
  refine ao.cond (λ_=>?_) λ_=>?_
  ·refine(aI hb hc4).bind λr17 ⟨_,hc17⟩=>ao.cond (λq2=>?_) λ_=>hj53 _ _ _ hc17;have q2:=of_decide_eq_true q2;refine(fx hb hc17).bind λr18 hc18=>ao.cond (λ_=>?_) λ_=>hj53 _ _ _ hc18;refine(aI hb hc18).bind λr19 ⟨⟨p1,p2,_⟩,hc19⟩=>?_;have p2:=p2 (by omega);refine ao.must ⟨p1,p2⟩ ?_;rw[On (show r19.1.toNat<_ by omega),aa];exact hj53 _ _ _ hc19
  refine ao.cond (λ_=>(aI hb hc4).bind λr ⟨_,hc5⟩=>hj53 _ _ _ hc5) λ_=>?_;exact ao.cond (λ_=>(aI hb hc4).bind λr ⟨_,hc5⟩=>hj53 _ _ _ hc5) λ_=>hj53 _ _ _ hc4
theorem Kc (hb:b.length<=1048576) (hk:b.length+20000000<=k):ao (qN k b) λr=>(∀x∈r.1.2.2.2,eA x)/\r.1.2.2.2.length<=400:=by
 have hM:=ak;unfold qN;refine(H6 hb (by omega)).bind λr1 hc1=>(size_eq hb k (by omega) (by omega)).bind λr2 ⟨h20,h21⟩=>(aI hb hc1).bind λr3 ⟨⟨_,h3,_⟩,hc3⟩=>?_;have h3:=h3 (by omega);refine(sL hb (by omega) hc3 (by omega)).bind λr4 ⟨⟨s4,l4,_⟩,hc4⟩=>(fx hb hc4).bind λr5 hc5=>?_
 have fin:∀{c h:Int} {xs:List Step},Cur b c->(∀x∈xs,eA x)->xs.length<=400->ao ((ay k b c h [(0:Int),(1:Int),(3:Int),(3:Int),(-1:Int)]).bind λr8=>(ay k b r8.2.1 r8.2.2 [(0:Int),(1:Int),(2:Int),(21:Int)]).bind λr9=>cond (decide (b=b)) (some (((),r8.1,r9.1,xs),r9.2.1,r9.2.2)) none) λr=>(∀x∈r.1.2.2.2,eA x)/\r.1.2.2.2.length<=400:=λhc hs hl=>
  (eM hb hc (by simp)).bind λr8 ⟨_,hc8⟩=>(eM hb hc8 (by simp)).bind λr9 _=>ao.must rfl (ao.some ⟨hs,hl⟩)
 refine ao.cond (λ_=>?_) λ_=>fin hc5 s4 l4;refine ao.iter (Inv:=λv:Int× Int× List Step=>Cur b v.1/\(∀x∈v.2.2,eA x)/\v.2.2.length<=400) (m:=λv=>500-v.2.2.length) (λv next hv hx=>?_) k _ ⟨hc5,s4,l4⟩ (by simp only;omega);obtain⟨v1,v2,v3⟩:=hv;unfold oR;refine(aI hb v1).bind λr6 ⟨⟨p1,p2,_⟩,hc6⟩=>?_;have p2:=p2 (by omega);refine ao.cond (λq=>?_) λ_=>fin hc6 v2 v3;have q:=of_decide_eq_true q;rw[aF (by omega) (by omega)]at q;refine ao.ble (by omega) (hx _ ⟨hc6,λy hy=>?_,by simp only[W5,W7,Xg];omega⟩ (by simp only[W5,W7,Xg];omega))
 rcases XN.1 hy with hy|hy
 ·exact v2 y hy
 ·rw[Yj.1 hy];exact⟨λy hy=>absurd hy (by simp),by simp,by show 0<=_;omega⟩
end
end
section
def Step.small (x:Step) (n:Int):Prop:=(x.data.length:Int)<=n/\(x.input.data.length:Int)<=n
def jd (a b:List Step):Int:=
 ((a.zip b).findIdx? λp=>!decide (p.1=p.2)).elim (if a.length=b.length then -1 else if a.length<b.length then(a.length:Int)else b.length) λi=>(i:Int)
theorem sM {k:Nat} {a b:List Step} (hk:a.length<k) (ha:okS Step.Ok a) (hb:okS Step.Ok b) (h:∀x∈a,x.data.length<k/\x.input.data.length<k):kX k a b=some (jd a b):=by
  have hl:=ha.1;unfold zP at hl;unfold kX
  have hz:(a.zip b).length<=a.length:=by simp;omega
  generalize hm:(if(b.length:Int)<(a.length:Int)then(b.length:Int)else(a.length:Int))=m
  have hmz:m=((a.zip b).length:Int):=by rw[<-hm,List.length_zip];split<;>omega
  have := er (a.zip b) (λ p => !decide (p.1 = p.2)) (g := λ u next => gu k (a, b, m, m) u next (λ y => cond ((a.length : Int) == (b.length : Int)) (some (-1 : Int)) (some m)) (λ y => some y))
    (no:=some) (yes:=some (if a.length=b.length then -1 else if a.length<b.length then(a.length:Int)else b.length)) (λi hi next=>by
      have h1:i<a.length:=by simp at hi;omega
      have h2:i<b.length:=by simp at hi;omega
      simp only[gu,ab]
      rw[if_pos (by omega),aL,aL,ai h1,ai h2,aa,aa,we (h a[i] (W9 h1)).2 (ha.2 a[i] (W9 h1)) (hb.2 b[i] (W9 h2)),aa,ar h1 (by omega),List.getElem_zip,cond_not]) (λnext=>by
      simp only[gu,ab,dF];rw[if_neg (by omega)];rw[<-hm];by_cases e:a.length=b.length
      · rw[if_pos (by omega),if_pos e]
      · rw[if_neg (by omega),if_neg e];by_cases c:a.length<b.length
        · rw[if_pos c,if_neg (by omega)]
        · rw[if_neg c,if_pos (by omega)]) (k:=k) (by omega)
  refine this.trans ?_;unfold jd;cases(a.zip b).findIdx? _<;>rfl
end
set_option maxRecDepth 100000
section
end
set_option maxRecDepth 100000
section
end
set_option maxRecDepth 100000
section
theorem wH (k:Nat) {code:List Int} (hb:∀x∈code,okB x) {i:Int} (hi:0<=i) (h1:i<=1000000) (hl:code.length<=1048576):∃r,RW k code i=some r/\0<=r/\r<=255:=by
 unfold RW;rw[ab];by_cases c:i<(code.length:Int)
 ·rw[if_pos c,j9 _ hi,ai (show i.toNat<code.length by omega)];have:=hb _ (W9 (show i.toNat<code.length by omega));unfold okB at this;exact⟨_,rfl,by rw[aF (by omega) (by omega)];omega⟩
 ·rw[if_neg c,aF (n:=i*13) (by omega) (by omega),aF (n:=(code.length:Int)*5) (by omega) (by omega),aF (by omega) (by omega)];have:=J2 (x:=i*13+(code.length:Int)*5) (n:=256) (by omega) (by omega);exact⟨_,rfl,this.1,by omega⟩
end
set_option maxRecDepth 100000
section
section
variable {α:Type}
def Srt (R:α->α->Prop) (l:List α):Prop:=l.Pairwise R
def Lt (key pos:α->Int) (x y:α):Prop:=key x<key y\/(key x=key y/\pos x<pos y)
theorem Lt.trans {key pos:α->Int} {x y z:α} (h:Lt key pos x y) (g:Lt key pos y z):Lt key pos x z:=by unfold Lt at*;omega
theorem Lt.le {key pos:α->Int} {x y:α} (h:Lt key pos x y):key x<=key y:=by unfold Lt at h;omega
def TC (key pos:α->Int) (U V:List α):Prop:=∀x∈U,∀y∈V,key x=key y->pos x<pos y
theorem TC.lt {key pos:α->Int} {U V:List α} (h:TC key pos U V) {x y:α} (hx:x∈U) (hy:y∈V) (hk:key x<=key y):Lt key pos x y:=by
 unfold Lt;by_cases c:key x=key y
 ·exact .inr ⟨c,h x hx y hy c⟩
 ·exact .inl (by omega)
end
end
set_option maxRecDepth 100000
section
end
set_option maxRecDepth 100000
section
section
variable {ds:List Int} {k:Nat}
def InD (ds:List Int) (x:Int):Prop:=0<=x/\x<ds.length
def Wn (ds:List Int) (x:Int):Int:=ds.getD x.toNat 0
abbrev LtD (ds:List Int):Int->Int->Prop:=Lt (Wn ds) id
abbrev UO (ds:List Int):List Int->List Int->Prop:=TC (Wn ds) id
def PW (ds:List Int) (l:List Int):Prop:=∀x∈l,InD ds x
end
end
set_option maxRecDepth 100000
section
section
variable {ds:List Int} {k:Nat}
end
end
set_option maxRecDepth 100000
set_option maxHeartbeats 4000000
section
section
variable {ds:List Int}
theorem PW.app {U V:List Int}:PW ds (U++V)↔PW ds U/\PW ds V:=by
 unfold PW;constructor
 ·exactλh=>⟨λx hx=>h x (Za _ hx),λx hx=>h x (Y6 _ hx)⟩
 ·rintro ⟨h1,h2⟩ x hx
  rcases XN.1 hx with hx|hx
  ·exact h1 x hx
  ·exact h2 x hx
end
end
set_option maxRecDepth 100000
set_option maxHeartbeats 4000000
section
section
variable {ds:List Int}
end
end
set_option maxRecDepth 100000
set_option maxHeartbeats 4000000
section
section
variable {ds:List Int}
inductive Full (ds:List Int) (bs:Nat):List Int->List Int->Prop
 |nil:Full ds bs [] []
 |snoc {O A U W:List Int}:Full ds bs O A->U.length=bs->W.Perm U->Srt (LtD ds) W->Full ds bs (O++U) (A++W)
inductive Nc (ds:List Int) (bs:Nat):List Int->List Int->Prop
 |last {O L:List Int}:O.length<=bs->L.Perm O->Srt (LtD ds) L->Nc ds bs O L
 |cons {U W O L:List Int}:U.length=bs->W.Perm U->Srt (LtD ds) W->Nc ds bs O L->Nc ds bs (U++O) (W++L)
theorem Full.runs {bs:Nat} {O A:List Int} (h:Full ds bs O A):∀{O2 L:List Int},Nc ds bs O2 L->Nc ds bs (O++O2) (A++L):=by
 induction h with
 |nil=>exactλh=>h
 |snoc _ h1 h2 h3 ih=>
  intro O2 L h;rw[Xh,Xh];exact ih (.cons h1 h2 h3 h)
theorem Full.perm {bs:Nat} {O A:List Int} (h:Full ds bs O A):A.Perm O:=by
 induction h with
 |nil=>exact .refl _
 |snoc _ h1 h2 h3 ih=>exact ih.append h2
theorem Nc.perm {bs:Nat} {O L:List Int} (h:Nc ds bs O L):L.Perm O:=by
 induction h with
 |last _ h _=>exact h
 |cons _ h2 _ _ ih=>exact h2.append ih
theorem Nc.all {bs:Nat} {O L:List Int} (h:Nc ds bs O L) (hs:O.length<=bs):Srt (LtD ds) L:=by
 cases h with
 |last _ _ h=>exact h
 |cons h1 h2 h3 h4=>
  rename_i U W O L;rw[W5]at hs;have hO:O=[]:=XI.1 (by omega);have hL:L=[]:=XI.1 (by rw[h4.perm.length_eq,hO];rfl);rw[hL,Xo];exact h3
theorem Nc.cut {bs:Nat} {O L:List Int} (h:Nc ds bs O L) (hs:bs<=O.length):∃U W O2 L2,O=U++O2/\L=W++L2/\U.length=bs/\W.Perm U/\Srt (LtD ds) W/\Nc ds bs O2 L2:=by
 cases h with
 |last h1 h2 h3=>exact⟨O,L,[],[],by simp,by simp,by omega,h2,h3,.last (by simp) (.refl _) List.Pairwise.nil⟩
 |cons h1 h2 h3 h4=>exact⟨_,_,_,_,rfl,rfl,h1,h2,h3,h4⟩
structure R6 (ds O:List Int):Prop where
 all:PW ds O
 inc:O.Pairwise (·<·)
theorem R6.right {A B:List Int} (h:R6 ds (A++B)):R6 ds B:=⟨(PW.app.1 h.all).2,(YN.1 h.inc).2.1⟩
theorem R6.left {A B:List Int} (h:R6 ds (A++B)):R6 ds A:=⟨(PW.app.1 h.all).1,(YN.1 h.inc).1⟩
theorem R6.ahead {A B W V:List Int} (h:R6 ds (A++B)) (hW:W.Perm A) (hV:V.Perm B):UO ds W V:=λx hx y hy _=>(YN.1 h.inc).2.2 x (hW.mem_iff.1 hx) y (hV.mem_iff.1 hy)
theorem PW.perm {A B:List Int} (h:PW ds B) (hp:A.Perm B):PW ds A:=λx hx=>h x (hp.mem_iff.1 hx)
end
end
set_option maxRecDepth 100000
set_option maxHeartbeats 4000000
section
section
variable {ds:List Int} {k:Nat}
end
end
set_option maxRecDepth 100000
set_option maxHeartbeats 4000000
section
def Sim {α β:Type} (a:Option α) (b:Option β) (t:α->β):Prop:=∀x,a=some x->b=some (t x)
section
variable {α β γ δ:Type}
theorem Sim.none {b:Option β} {t:α->β}:Sim Option.none b t:=λx h=>nomatch h
theorem Sim.some {x:α} {y:β} {t:α->β} (h:y=t x):Sim (Option.some x) (Option.some y) t:=λ_ e=>by cases e;rw[h]
theorem Sim.cond {c c':Bool} {a a':Option α} {b b':Option β} {t:α->β} (h:c'=c) (h1:Sim a b t) (h2:Sim a' b' t):Sim (cond c a a') (cond c' b b') t:=by
 subst h;cases c'<;>assumption
theorem Sim.must {c:Bool} {a:Option α} {b:Option β} {t:α->β} (h:Sim a b t):Sim (_root_.cond c a Option.none) b t:=by
 cases c
 ·exact Sim.none
 ·exact h
theorem Sim.bind {a:Option γ} {b:Option δ} {s:γ->δ} {F:γ->Option α} {G:δ->Option β} {t:α->β} (h:Sim a b s) (g:∀x,Sim (F x) (G (s x)) t):Sim (a.bind F) (b.bind G) t:=λx e=>by
 rw[An]at e;obtain⟨y,e1,e2⟩:=e;rw[h y e1];exact g y x e2
theorem Sim.get {f:γ->δ} {l:List γ} {i:Nat} {F:γ->Option α} {G:δ->Option β} {t:α->β} (g:∀x,Sim (F x) (G (f x)) t):Sim ((l[i]?).bind F) (((l.map f)[i]?).bind G) t:=
 Sim.bind (s:=f) (λx e=>by rw[XL,e];rfl) g
theorem Sim.iter {V W:Type} (σ:V->W) {g:V->(V->Option α)->Option α} {g':W->(W->Option β)->Option β} {t:α->β} (h:∀s n m,(∀s,Sim (n s) (m (σ s)) t)->Sim (g s n) (g' (σ s) m) t):
  ∀(k:Nat) {s:V} {s':W},s'=σ s->Sim (Ev.iter g k s) (Ev.iter g' k s') t
 |0,_,_,_=>λ_ e=>nomatch e
 |k+1,s,_,rfl=>h s _ _ λs=>Sim.iter σ h k rfl
theorem Sim.bej {V W:Type} (R:V->W->Prop) {B:V->Option α} {B':W->Option β} {K:V} {K':W} {t:α->β} (hB:∀j j',R j j'->Sim (B j) (B' j') t) (hK:R K K'):Sim (Ev.bej B K) (Ev.bej B' K') t:=hB K K' hK
end
section
variable {ds:List Int} {f:Int->LG} (hf:∀k x y,Sim (Bp k x y ds) (zz k (f x) (f y)) id)
include hf
end
end
section
end
section
end
set_option maxRecDepth 100000
set_option maxHeartbeats 4000000
section
structure Vd (most:Int) (i:Nat) (st:List (List Int)× List Int):Prop where
 len:st.1.length=st.2.length
 sum:(st.1.map List.length).sum=i
 inn:∀g∈st.1,1<=g.length/\(g.length:Int)<=most
theorem UP {l:List (List Int)} (h:∀g∈l,1<=g.length):l.length<=(l.map List.length).sum:=by
 induction l with
 |nil=>simp
 |cons g l ih=>
  have:=h g (by simp);have:=ih λg hg=>h g (by simp[hg]);simp;omega
theorem Vd.le {most:Int} {i:Nat} {st:List (List Int)× List Int} (h:Vd most i st):st.1.length<=i:=by
 have:=UP λg hg=>(h.inn g hg).1;rw[h.sum]at this;exact this
theorem Vd.zero (most:Int):Vd most 0 ([],[]):=⟨rfl,rfl,λg h=>nomatch h⟩
section
variable {R:Type} {k:Nat} {most:Int} {st:List (List Int)× List Int} {x:LG}
end
end
set_option maxRecDepth 100000
set_option maxHeartbeats 4000000
section
section
variable {R:Type} {k:Nat} {most:Int} {W:List LG} {x:LG}
end
end
set_option maxRecDepth 100000
set_option maxHeartbeats 4000000
section
theorem PX {k:Nat} {b:List Int} {a:Int} (hk:b.length<k):ao (O4 k b a) λr=>r.length<=3001:=by
 have hM:=ak;unfold O4;refine ao.iter (Inv:=λ(v:Int× List Int)=>0<=v.1/\v.1<=(b.length:Int)/\v.1<=3000/\v.2.length=v.1.toNat+1) (m:=λ(v:Int× List Int)=>b.length-v.1.toNat) ?_ k _ ⟨ZE _,by simp only;omega,by simp only;omega,rfl⟩ (by simp only;omega)
 rintro ⟨j,l⟩ next ⟨h0,h1,h2,hl⟩ hnx
 unfold Fo;simp only at h0 h1 h2 hl⊢;refine ao.cond (λa=>ao.cond (λc=>?_) λc=>ao.some (by omega)) λa=>ao.some (by omega);have a:=of_decide_eq_true a;have c:=of_decide_eq_true c;rw[j9 _ h0,ai (by omega),aa];refine ao.ble (by simp;omega) ?_;rw[aF (by omega) (by omega)];exact hnx _ ⟨by simp only;omega,by simp only;omega,by simp only;omega,by simp;omega⟩ (by simp only;omega)
end
set_option maxRecDepth 100000
set_option maxHeartbeats 4000000
section
def UQ:Nat->List UInt8
 |0=>[]
 |m+1=>Go.Lib.decDigits (m+1)
theorem Ii {m:Nat} (h:m≠0):UQ m=UQ (m/10)++[UInt8.ofNat (48+m %10)]:=by
 obtain⟨m,rfl⟩:∃j,m=j+1:=⟨m-1,by omega⟩;show Go.Lib.decDigits (m+1)=_;rw[Go.Lib.decDigits];split
 ·rename_i hlt
  have e1:(m+1)/10=0:=by omega
  have e2:(m+1) %10=m+1:=by omega
  rw[e1,e2];rfl
 ·rename_i hge
  have:(m+1)/10≠0:=by omega
  obtain⟨j,hj⟩:∃j,(m+1)/10=j+1:=⟨(m+1)/10-1,by omega⟩;rw[hj];rfl
theorem Lq:∀(d m:Nat),m<10^d->(UQ m).length<=d
  | 0, m, h => by have : m = 0 := by simp at h; exact h
                  subst this;exact Xt _
  | d + 1, m, h => by
    by_cases h0:m=0
    · subst h0;exact XE _
    · rw[Ii h0,W5];have:=Lq d (m/10) (by rw[Nat.pow_succ]at h;omega);simp;omega
theorem Lr {R:Type} {k:Nat} {x0:List UInt8->Option R} {p:Bool} (neg:Bool):∀(d m:Nat) (out:List UInt8) (f:Nat),m<10^d->d<f->m<9223372036854775809->d+out.length<=100->
  iter (λu n=>nk k p u n x0) f (cond neg (-(m:Int)) (m:Int),out)=x0 (UQ m++out)
 |d,m,out,0,_,h,_,_=>by omega
 |d,m,out,f+1,hm,hf,hb,ho=>by
  have hM:=ak;show nk k p _ _ x0=_;rw[nk];simp only;by_cases h0:m=0
  ·subst h0;cases neg<;>rfl
  obtain⟨d,rfl⟩:∃e,d=e+1:=by
   cases d with
   |zero=>simp at hm;omega
   |succ e=>exact⟨e,rfl⟩
  have ih:=Lr (R:=R) (k:=k) (x0:=x0) (p:=p) neg d (m/10) (UInt8.ofNat (48+m %10)::out) f (by rw[Nat.pow_succ]at hm;omega) (by omega) (by omega) (by simp;omega)
  have e0:((cond neg (-(m:Int)) (m:Int)) !=0)=true:=by cases neg<;>simp<;>omega
  have e1:(cond neg (-(m:Int)) (m:Int)).tmod 10=cond neg (-((m %10:Nat):Int)) ((m %10:Nat):Int):=by
   cases neg
   ·exact Int.ofNat_tmod m 10|>.symm
   ·show(-(m:Int)).tmod 10=_;rw[Int.neg_tmod];exact congrArg _ (Int.ofNat_tmod m 10|>.symm)
  have e2:(cond neg (-(m:Int)) (m:Int)).tdiv 10=cond neg (-((m/10:Nat):Int)) ((m/10:Nat):Int):=by
   cases neg
   ·exact Int.ofNat_tdiv m 10|>.symm
   ·show(-(m:Int)).tdiv 10=_;rw[Int.neg_tdiv];exact congrArg _ (Int.ofNat_tdiv m 10|>.symm)
  have hd:m %10<10:=Zi _ (by omega)
  have hs:i64.wrap (cond neg (-((m/10:Nat):Int)) ((m/10:Nat):Int))=cond neg (-((m/10:Nat):Int)) ((m/10:Nat):Int):=by
   cases neg<;>exact aF (by simp only[cond_true,cond_false];omega) (by simp only[cond_true,cond_false];omega)
  have hch:∀z:Int,z=((m %10:Nat):Int)->bytesOf [u8.wrap (i64.wrap (48+z))]=[UInt8.ofNat (48+m %10)]:=λz hz=>by
   subst hz
   have:∀j:Fin 10,bytesOf [u8.wrap (i64.wrap (48+(j.val:Int)))]=[UInt8.ofNat (48+j.val)]:=by decide+kernel
   exact this ⟨m %10,hd⟩
  rw[e0,e1,e2,hs,cond_true,Ii h0,Xh];by_cases c:(cond neg (-((m %10:Nat):Int)) ((m %10:Nat):Int))<0
  ·rw[ab,if_pos c]
   have hn:neg=true:=by cases neg with
    |true=>rfl
    |false=>simp only[cond_false]at c;omega
   subst hn;simp only[cond_true]at ih⊢;have hz:i64.wrap (0- -((m %10:Nat):Int))=((m %10:Nat):Int):=(aF (by omega) (by omega)).trans (by omega);simp only[hch _ hz];rw[ab,if_pos (by simp;omega)];exact ih
  ·rw[ab,if_neg c]
   have hz:(cond neg (-((m %10:Nat):Int)) ((m %10:Nat):Int))=((m %10:Nat):Int):=by
    cases neg with
    |false=>rfl
    |true=>simp only[cond_true]at c⊢;omega
   simp only[hch _ hz];rw[ab,if_pos (by simp;omega)];exact ih
theorem Ls {m:Nat} (h:m≠0):UQ m=Go.Lib.decDigits m:=by
 cases m with
 |zero=>exact absurd rfl h
 |succ m=>rfl
theorem gG {k:Nat} {n:Int} (hk:22<k) (hn:okI n):jH k n=some (Go.Lib.itoa n):=by
 have hM:=ak;obtain⟨h1,h2⟩:=hn;unfold jH;by_cases h0:n=0
 ·subst h0;rw[show Go.Lib.itoa 0=[48]from Go.Lib.decDigits_one (i:=0) (by omega)];rfl
 rw[show(n==0)=false by simpa using h0,cond_false]
 have e:n=cond (decide (n<0)) (-(n.natAbs:Int)) (n.natAbs:Int):=by
  by_cases c:n<0
  ·rw[decide_eq_true c,cond_true];omega
  ·rw[decide_eq_false c,cond_false];omega
 have hl:=Lr (R:=List UInt8) (k:=k) (p:=decide (n<0)) (x0:=λy1=>cond (decide (n<0)) (cond (decide (([45]:List UInt8).length+y1.length<=aO)) (some (([45]:List UInt8)++y1)) none) (some y1)) (decide (n<0)) 20 n.natAbs [] k (by omega) (by omega) (by omega) (by simp);rw[<-e]at hl;rw[hl,Xo,Ls (by omega)];have hle:=Lq 20 n.natAbs (by omega);rw[Ls (by omega)]at hle;unfold Go.Lib.itoa;by_cases c:n<0
 ·rw[decide_eq_true c,cond_true,ab,if_pos (by simp;omega),if_pos c];rfl
 ·rw[decide_eq_false c,cond_false,if_neg c]
  congr 2;omega
theorem jO {k:Nat} {n:Int} (hn:okI n):strconv_Itoa k n=some (Go.Lib.itoa n):=by
 unfold strconv_Itoa;rw[decide_eq_true hn.1,decide_eq_true hn.2];rfl
theorem dr {n:Int} (hn:okI n):(Go.Lib.itoa n).length<=21:=Go.Lib.itoa_length_le n hn.1 hn.2
theorem vd:∀l:List Int,(∀x∈l,okI x)->(spacedL l).length<=22*l.length
 |[],_=>Xt _
 |x::l,h=>by
  have:=dr (h x (by simp));have:=vd l λy hy=>h y (by simp[hy]);simp only[spacedL,W7,W5];omega
theorem ve {k:Nat} {l:List Int} (hl:l.length<=2000000) (h:∀x∈l,okI x):I_spaced k l=some (spacedL l):=by
 unfold I_spaced
 have:(l.all λx=>decide (-9223372036854775808<=x)&&decide (x<=9223372036854775807))=true:=by
  rw[Xv];intro x hx;rw[decide_eq_true (h x hx).1,decide_eq_true (h x hx).2];rfl
 rw[decide_eq_true hl,this];rfl
theorem Lu {R:Type} {k:Nat} (hk:22<k) {x0:List UInt8->Option R} {p1 p2 p3:Int} {l:List Int} (h:∀x∈l,okI x) (hl:l.length<=2000000):∀(j:Nat) (out:List UInt8) (f:Nat),j<=l.length->l.length-j<f->out.length+22*(l.length-j)<=50000000->
  iter (λu n=>gF k (p1,p2,p3,l) u n x0) f (out,(j:Int))=x0 (out++spacedL (l.drop j))
 |j,out,0,_,h2,_=>by omega
 |j,out,f+1,h1,h2,h3=>by
  have hM:=ak;show gF k _ _ _ x0=_;rw[gF];simp only;by_cases c:j<l.length
  ·have hx:l[j]? =some l[j]:=On c;have ho:=h l[j] (W9 c);have hlen:=dr ho;have ih:=Lu hk (x0:=x0) (p1:=p1) (p2:=p2) (p3:=p3) h hl (j+1) ((out++[32])++Go.Lib.itoa l[j]) f (by omega) (by omega) (by simp;omega);rw[ab,if_pos (by omega),ab,if_pos (by simp;omega),show idx l (j:Int)=some l[j]from by simp[idx,hx],aa,gG hk ho,aa,ab,if_pos (by simp;omega),aF (by omega) (by omega)];refine ih.trans ?_;rw[YD c];simp[spacedL]
  ·have e:j=l.length:=by omega
   subst e;rw[ab,if_neg (by omega),Y3,spacedL,Xo]
def vf (t:aD):List UInt8:=cond t.okB (Go.Lib.itoa t.sh.h++(120::(Go.Lib.itoa t.sh.w++(120::(Go.Lib.itoa t.sh.c++(58::spacedL t.data)))))) []
theorem Cs {t:aD} (h:t.Ok):(vf t).length<=66+22*t.data.length:=by
 unfold vf;have h1:=dr h.1.1;have h2:=dr h.1.2.1;have h3:=dr h.1.2.2;have h4:=vd t.data h.2.2;cases t.okB
 ·exact XE _
 ·simp only[cond_true,W5,W7];omega
theorem Ct {k:Nat} {t:aD} (hk:t.data.length+23<k) (h:t.Ok) (hl:t.data.length<=2000000):lg k t=some (vf t):=by
 have hM:=ak;have h1:=dr h.1.1;have h2:=dr h.1.2.1;have h3:=dr h.1.2.2;unfold lg vf;rw[jJ (by omega) h.2.1,aa];cases t.okB
 ·rfl
 simp only[Xa,cond_false,cond_true];rw[gG (by omega) h.1.1,aa,ab,if_pos (by simp;omega),gG (by omega) h.1.2.1,aa,ab,if_pos (by simp;omega),ab,if_pos (by simp;omega),gG (by omega) h.1.2.2,aa,ab,if_pos (by simp;omega),ab,if_pos (by simp;omega)];refine(Lu (by omega) h.2.2 hl 0 _ k (by omega) (by omega) (by simp;omega)).trans ?_;simp
theorem zF {k:Nat} {s:Shape} (h:s.Ok):l0 k s=some (Go.Lib.itoa s.h++(120::(Go.Lib.itoa s.w++(120::Go.Lib.itoa s.c)))):=by
 have hM:=ak;have h1:=dr h.1;have h2:=dr h.2.1;have h3:=dr h.2.2;unfold l0;rw[jO h.1,aa,ab,if_pos (by simp;omega),jO h.2.1,aa,ab,if_pos (by simp;omega),ab,if_pos (by simp;omega),jO h.2.2,aa,ab,if_pos (by simp;omega)];simp
theorem Cu {k:Nat} {t:aD} (hk:t.data.length+23<k) (h:t.Ok) (hl:t.data.length<=2000000):lh k t=some (vf t):=by
 have hM:=ak;have h1:=dr h.1.1;have h2:=dr h.1.2.1;have h3:=dr h.1.2.2;have h4:=vd t.data h.2.2;unfold lh vf;rw[l5 (by omega) h.2.1,aa];cases t.okB
 ·rfl
 simp only[Xa,cond_false,cond_true];rw[zF h.1,aa,ab,if_pos (by simp;omega),ve hl h.2.2,aa,ab,if_pos (by simp;omega)];simp
def stepT (x:Step):List UInt8:=Go.Lib.itoa x.kind++(32::(Go.Lib.itoa x.a++(32::Go.Lib.itoa x.b)))++
 (cond (decide ((x.data.length:Int)>0)) ([32,100,97,116,97,32]++Go.Lib.itoa x.data.length) []++cond x.input.okB ([32,105,110,112,117,116,32]++vf x.input) [])
theorem F5 {k:Nat} {x:Step} (hk:x.tot+23<k) (h:x.Ok) (hl:x.tot<=2000000):mr k x=some (stepT x):=by
 have hM:=ak;have hl:x.data.length+(x.input.data.length+0+0)<=2000000:=hl;have hk:x.data.length+(x.input.data.length+0+0)+23<k:=hk;obtain⟨o1,o2,o3,o4,o5⟩:=h;have h1:=dr o1;have h2:=dr o2;have h3:=dr o3;have o6:okI (x.data.length:Int):=⟨by omega,by omega⟩;have h6:=dr o6;have h5:=Cs o5;unfold mr stepT
 simp only[jJ (k:=k) (t:=x.input) (by omega) o5.2.1,Ct (k:=k) (t:=x.input) (by omega) o5 (by omega),gG (k:=k) (n:=x.kind) (by omega) o1,gG (k:=k) (n:=x.a) (by omega) o2,
  gG (k:=k) (n:=x.b) (by omega) o3,gG (k:=k) (n:=(x.data.length:Int)) (by omega) o6,aa]
 rw[ab,if_pos (by simp;omega),ab,if_pos (by simp;omega),ab,if_pos (by simp;omega),ab,if_pos (by simp;omega)];cases decide ((x.data.length:Int)>0)<;>cases x.input.okB<;>simp only[cond_true,cond_false]
 ·simp
 ·rw[ab,if_pos (by simp;omega),ab,if_pos (by simp;omega)];simp
 ·rw[ab,if_pos (by simp;omega),ab,if_pos (by simp;omega)];simp
 ·rw[ab,if_pos (by simp;omega),ab,if_pos (by simp;omega),ab,if_pos (by simp;omega),ab,if_pos (by simp;omega)];simp
theorem F6 {k:Nat} {x:Step} (hk:x.tot+23<k) (h:x.Ok) (hl:x.tot<=2000000):mu k x=some (stepT x):=by
 have hM:=ak;have hl:x.data.length+(x.input.data.length+0+0)<=2000000:=hl;have hk:x.data.length+(x.input.data.length+0+0)+23<k:=hk;obtain⟨o1,o2,o3,o4,o5⟩:=h;have h1:=dr o1;have h2:=dr o2;have h3:=dr o3;have o6:okI (x.data.length:Int):=⟨by omega,by omega⟩;have h6:=dr o6;have h5:=Cs o5;unfold mu stepT
 simp only[l5 (k:=k) (t:=x.input) (by omega) o5.2.1,Cu (k:=k) (t:=x.input) (by omega) o5 (by omega),jO (k:=k) o1,
  ve (k:=k) (l:=[x.a,x.b]) (by simp) (by simp[o2,o3]),ve (k:=k) (l:=[(x.data.length:Int)]) (by simp) (by simp[o6]),aa]
 rw[ab,if_pos (by simp[spacedL];omega)];cases decide ((x.data.length:Int)>0)<;>cases x.input.okB<;>simp only[cond_true,cond_false]
 ·simp[spacedL]
 ·rw[ab,if_pos (by simp;omega),ab,if_pos (by simp[spacedL];omega)];simp[spacedL]
 ·rw[ab,if_pos (by simp[spacedL];omega),ab,if_pos (by simp[spacedL];omega)];simp[spacedL]
 ·rw[ab,if_pos (by simp[spacedL];omega),ab,if_pos (by simp[spacedL];omega),ab,if_pos (by simp;omega),ab,if_pos (by simp[spacedL];omega)];simp[spacedL]
end
section
theorem Rt (b:List Int):-1000003<kq b/\kq b<1000003:=by
 unfold kq
 have:∀(b:List Int) (s:Int),(-1000003<s/\s<1000003)->-1000003<b.foldl nm s/\b.foldl nm s<1000003:=λb=>by
  induction b with
  |nil=>intro s h;exact h
  |cons x l ih=>
   intro s h;refine ih _ ?_;unfold nm;generalize i64.wrap ((i64.wrap ((i64.wrap ((257:Int)*s))+(i64.wrap x)))+(1:Int))=y;have h1:=YG y (show(0:Int)<1000003 by omega)
   have h2:-1000003<y.tmod 1000003:=by
    have:=YG (-y) (show(0:Int)<1000003 by omega);rw[Int.neg_tmod]at this;omega
   exact⟨h2,h1⟩
 exact this b 1 (by omega)
def bg (xs:List Step):List Int:=xs.flatMap b6
def eB (n:Nat):List Int:=[84,49]++en [(n:Int)]
def ly (b:List Int):List Int:=b++en [kq b]
def wI (xs:List Step):List Int× Bool:=
 cond (decide ((xs.length:Int)>200)) ([],false) (cond (xs.all ns)
  (cond (decide (((ly (eB xs.length++bg xs)).length:Int)>20000)) ([],false) (ly (eB xs.length++bg xs),true)) ([],false))
theorem F7 (n:Nat):(eB n).length<=9:=by
 have:=eU [(n:Int)];simp only[W7,Xg]at this;unfold eB;rw[W5];simp;omega
theorem Ru (b:List Int):b.length<=(ly b).length/\(ly b).length<=b.length+7:=by
 have:=eU [kq b];simp only[W7,Xg]at this;unfold ly;rw[W5];omega
theorem Lv:∀{xs:List Step},xs.all ns=true->(bg xs).length<=10000*xs.length
 |[],_=>by simp[bg]
 |x::l,h=>by
  rw[Yw,W3]at h;have h1:=Lv h.2;have h2:=Cq h.1;unfold bg at*;rw[List.flatMap_cons,W5,W7];omega
theorem Ai (b:List Int):bN (kq b)=true:=by
 have:=Rt b;exact aY.2 (by omega)
theorem Lw {xs:List Step} {x:Step} (h:x∈xs):x.tot<=gp Step.tot xs:=by have:=jy Step.tot h;omega
theorem UR {xs:List Step} {i:Nat} (hi:i<xs.length) (hp:ns xs[i]=false):xs.all ns=false:=by
 cases hq:xs.all ns with
 |false=>rfl
 |true=>have:=Xv.1 hq _ (W9 hi);rw[hp]at this;exact nomatch this
theorem Rv {xs:List Step} {i:Nat} (hi:i<xs.length) (ha:(xs.take i).all ns=true) (hp:ns xs[i]=true):(xs.take (i+1)).all ns=true:=by
 rw[dh hi,List.all_append,ha];simp[hp]
theorem Ij {xs:List Step} {i:Nat} (hi:i<xs.length) (h:List Int):h++bg (xs.take (i+1))=h++bg (xs.take i)++b6 xs[i]:=by
 rw[dh hi];unfold bg;rw[YA,Xh];simp
def tQ (xs:List Step):List Int× Bool:=cond (xs.all ns) (cond (decide (((ly (eB xs.length++bg xs)).length:Int)>20000)) ([],false) (ly (eB xs.length++bg xs),true)) ([],false)
theorem US {ρ:Type} {k:Nat} {xs:List Step} {i:Nat} {out:List Int} {next:Int× List Int->Option ρ} {x0:List Int->Option ρ} {eF:Bool->Option ρ} (hi:i<xs.length) (hk:xs[i].tot+20<k) (hN:7*xs[i].tot+100<=aO) (hl:xs.length<=aO) (ho:out.length+10000<=aO):
  gA k (xs,(xs.length:Int)) ((i:Int),out) next x0 eF=cond (ns xs[i]) (next (((i+1:Nat):Int),out++b6 xs[i])) (eF false):=by
 have hM:=ak;unfold gA;simp only;rw[ab,if_pos (by omega),aL,ai hi,aa,zm hk hN,aa];unfold Lo;cases hp:ns xs[i]
 ·rfl
 ·have hpl:=Cq hp;simp only[cond_true,Xa,cond_false];rw[bO (by omega),ar hi (by omega)]
theorem VX {ρ:Type} {k:Nat} {xs:List Step} {out:List Int} {next:Int× List Int->Option ρ} {x0:List Int->Option ρ} {eF:Bool->Option ρ}:
  gA k (xs,(xs.length:Int)) ((xs.length:Int),out) next x0 eF=x0 out:=by
 unfold gA;simp only;rw[ab,if_neg (by omega)]
theorem UT {ρ:Type} {k:Nat} {xs:List Step} {i:Nat} {out:List Int} {next:Int× List Int->Option ρ} {x0:List Int->Option ρ} {eF:Bool->Option ρ} (hi:i<xs.length) (hk:xs[i].tot+8000<k) (hN:7*xs[i].tot+100<=aO) (hl:xs.length<=aO) (ho:out.length+10000<=aO) (hko:out.length+10000<k):
  gz k xs ((i:Int),out) next x0 eF=cond (ns xs[i]) (cond (decide ((out.length:Int)>20000)) (eF false) (next (((i+1:Nat):Int),out++b6 xs[i]))) (eF false):=by
 have hM:=ak;unfold gz;simp only;rw[ab,if_pos (by omega),aL,ai hi,aa,zn hk hN,aa];unfold Lo;cases hp:ns xs[i]
 ·rfl
 ·have hpl:=Cq hp;simp only[cond_true,Xa,cond_false];rw[zk (by omega) (by omega),aa,ar hi (by omega)]
theorem VY {ρ:Type} {k:Nat} {xs:List Step} {out:List Int} {next:Int× List Int->Option ρ} {x0:List Int->Option ρ} {eF:Bool->Option ρ}:
  gz k xs ((xs.length:Int),out) next x0 eF=x0 out:=by
 unfold gz;simp only;rw[ab,if_neg (by omega)]
section
variable {k:Nat} {xs:List Step} {g:Int× List Int->(Int× List Int->Option (List Int× Bool))->Option (List Int× Bool)} {x0:List Int->Option (List Int× Bool)}
theorem yD {B:Nat} (hB:30000<=B) (early:Bool)
    (hg:∀(i:Nat) (out:List Int) (next:Int× List Int->Option (List Int× Bool)) (hi:i<xs.length),out.length<=B->g ((i:Int),out) next=cond (ns xs[i]) (cond (early&&decide ((out.length:Int)>20000)) (some ([],false)) (next (((i+1:Nat):Int),out++b6 xs[i]))) (some ([],false)))
    (hx:∀(out:List Int) (next:Int× List Int->Option (List Int× Bool)),out.length<=B->g ((xs.length:Int),out) next=x0 out)
    (h0:∀out:List Int,out.length<=B->x0 out=some (cond (decide (((ly out).length:Int)>20000)) ([],false) (ly out,true))) (hlen:early=true\/10000*xs.length+9<=B):
    ∀ (d i kf : Nat), xs.length - i = d -> i <= xs.length -> (xs.take i).all ns = true -> (eB xs.length ++ bg (xs.take i)).length <= B -> d < kf ->
      iter g kf ((i:Int),eB xs.length++bg (xs.take i))=some (tQ xs)
  | 0, i, kf, hd, hi, ha, hl, hk => by
    have:i=xs.length:=by omega
    subst this;obtain⟨kf,rfl⟩:∃n,kf=n+1:=⟨kf-1,by omega⟩;rw[XO]at ha hl⊢;rw[aS,hx _ _ hl,h0 _ hl];unfold tQ
    rw[ha,cond_true]
  | d + 1, i, kf, hd, hi, ha, hl, hk => by
    have hlt:i<xs.length:=by omega
    obtain⟨kf,rfl⟩:∃n,kf=n+1:=⟨kf-1,by omega⟩;rw[aS,hg i _ _ hlt hl];cases hp:ns xs[i]
    · unfold tQ;rw[UR hlt hp];rfl
    · rw [cond_true];have hpl:=Cq hp;have ha':=Rv hlt ha hp;cases hc:(early&&decide (((eB xs.length++bg (xs.take i)).length:Int)>20000))
      · rw [cond_false]
        have:=yD hB early hg hx h0 hlen d (i+1) kf (by omega) (by omega) ha' (by
          rcases hlen with he|he
          · rw[he,Xf]at hc;have:=of_decide_eq_false hc;rw[Ij hlt,W5];omega
          · have hb:=Lv ha';have hh:=F7 xs.length;rw[Xw,YR (by omega)]at hb;rw[W5];have:10000*(i+1)<=10000*xs.length:=Nat.mul_le_mul_left _ (by omega)
            omega) (by omega)
        rw[Ij hlt]at this;exact this
      · rw [cond_true];have hc:=of_decide_eq_true (XY.1 hc).2;unfold tQ;cases hq:xs.all ns
        · rfl
        · have hge:(eB xs.length++bg (xs.take i)).length<=(eB xs.length++bg xs).length:=by
            have e:bg xs=bg (xs.take i)++bg (xs.drop i):=by
              unfold bg;rw[<-YA,XU]
            rw[e,<-Xh,@W5 _ (eB xs.length++bg (xs.take i))];omega
          have hs:=Ru (eB xs.length++bg xs);rw[decide_eq_true (show((ly (eB xs.length++bg xs)).length:Int)>20000 by omega)];rfl
end
theorem Ik (xs:List Step) (c1:¬(xs.length:Int)>200):wI xs=tQ xs:=by
 unfold wI tQ;rw[ab,if_neg c1]
theorem Il {k:Nat} {xs:List Step} (hk:gp Step.tot xs+2100000<k) (hN:7*gp Step.tot xs+2200000<=aO):vS k xs=some (wI xs):=by
  have hM:=ak;have hlen:=bu Step.tot xs;unfold vS;by_cases c1:(xs.length:Int)>200
  · unfold wI;rw[ab,ab,if_pos c1,if_pos c1]
  rw[ab,if_neg c1,jN (by simp;omega) (by simp;omega) (by simp[dU (n:=xs.length) (by omega)]),aa,Ik xs c1];have hh:=F7 xs.length
  have:=yD (xs:=xs) (B:=2000009) (x0:=λy4=>(lI k y4).bind λr5=>(fB k y4 [r5]).bind λr6=>cond (decide ((r6.length:Int)>(20000:Int))) (some (([]:List Int),false)) (some (r6,true)))
    (g:=λu8 n8=>gA k (xs,(xs.length:Int)) u8 n8 (λy4=>(lI k y4).bind λr5=>(fB k y4 [r5]).bind λr6=>cond (decide ((r6.length:Int)>(20000:Int))) (some (([]:List Int),false)) (some (r6,true))) (λy7=>some (([]:List Int),y7))) (by omega) false
    (λi out next hi ho=>by
      have hst:=Lw (W9 hi)
      exact US hi (by omega) (by omega) (by omega) (by omega)) (λout next ho=>VX) (λout ho=>by
      rw[xL (by omega) (by omega),aa,jN (by simp;omega) (by simp only[W7,Xg];omega) (by simp[Ai]),aa];show cond (decide (((ly out).length:Int)>20000)) _ _=_
      cases decide (((ly out).length:Int)>20000)<;>rfl) (.inr (by omega)) xs.length 0 k (by omega) (by omega) (by simp) (by simp only[Zb,bg,List.flatMap_nil,Xo];omega) (by omega)
  simp only[Zb,bg,List.flatMap_nil,Xo]at this;exact this
theorem Im {k:Nat} {xs:List Step} (hk:gp Step.tot xs+2100000<k) (hN:7*gp Step.tot xs+2200000<=aO):vR k xs=some (wI xs):=by
  have hM:=ak;have hlen:=bu Step.tot xs;unfold vR;by_cases c1:(xs.length:Int)>200
  · unfold wI;rw[ab,ab,if_pos c1,if_pos c1]
  rw[ab,if_neg c1,fb (by simp;omega) (by simp;omega) (by simp[dU (n:=xs.length) (by omega)]),aa,Ik xs c1];have hh:=F7 xs.length
  have:=yD (xs:=xs) (B:=30000) (x0:=λy5=>(qE k y5).bind λr6=>(dA k y5 [r6]).bind λr7=>cond (decide ((r7.length:Int)>(20000:Int))) (some (([]:List Int),false)) (some (r7,true)))
    (g:=λu9 n9=>gz k xs u9 n9 (λy5=>(qE k y5).bind λr6=>(dA k y5 [r6]).bind λr7=>cond (decide ((r7.length:Int)>(20000:Int))) (some (([]:List Int),false)) (some (r7,true))) (λy8=>some (([]:List Int),y8))) (by omega) true
    (λi out next hi ho=>by
      have hst:=Lw (W9 hi)
      exact UT hi (by omega) (by omega) (by omega) (by omega) (by omega)) (λout next ho=>VY) (λout ho=>by
      rw[xK (by omega) (by omega),aa,fb (by simp;omega) (by simp only[W7,Xg];omega) (by simp[Ai]),aa];show cond (decide (((ly out).length:Int)>20000)) _ _=_
      cases decide (((ly out).length:Int)>20000)<;>rfl) (.inl rfl) xs.length 0 k (by omega) (by omega) (by simp) (by simp only[Zb,bg,List.flatMap_nil,Xo];omega) (by omega)
  simp only[Zb,bg,List.flatMap_nil,Xo]at this;exact this
end
set_option maxRecDepth 100000
set_option maxHeartbeats 4000000
section
def Io (U:Nat):Int:=cond (decide (U %2=1)) (-(((U+1)/2:Nat):Int)) ((U/2:Nat):Int)
theorem PY (x:Int):Io (zig x)=x:=by
 unfold Io zig;by_cases c:x<0
 ·rw[if_pos c,decide_eq_true (by omega),cond_true];omega
 ·rw[if_neg c,decide_eq_false (by omega),cond_false];omega
theorem PZ (U:Nat):zig (Io U)=U:=by
 unfold Io zig;by_cases c:U %2=1
 ·rw[decide_eq_true c,cond_true,if_pos (by omega)];omega
 ·rw[decide_eq_false c,cond_false,if_neg (by omega)];omega
theorem Lx {v:Nat} (h:v<128) (g:Nat):vb g v=[(v:Int)]:=by
 cases g with
 |zero=>rfl
 |succ g=>unfold vb;rw[if_neg (by omega)]
theorem P0 {v:Nat} (h:128<=v) (g:Nat):vb (g+1) v=((128+v %128:Nat):Int)::vb g (v/128):=by rw[vb,if_pos h]
theorem Ip {b:List Int} {n:Nat} {c:Int} {l:List Int} (h:b.drop n=c::l):b[n]? =some c/\b.drop (n+1)=l:=by
 have h1:=congrArg (λl=>l[0]?) h;simp only[Xl,Y1,XB]at h1;have h2:=congrArg List.tail h;rw[List.tail_drop,List.tail_cons]at h2;exact⟨h1,h2⟩
theorem F8 (u v i:Nat):u+v %128*2^(7*i)+v/128*2^(7*(i+1))=u+v*2^(7*i):=by
 have e:2^(7*(i+1))=128*2^(7*i):=by rw[Nat.mul_succ,Nat.pow_add,XD]
 rw[e,<-Nat.mul_assoc,XX,<-Xx]
 congr 2
 omega
theorem Ea {b:List Int} {at_:Nat} {tail:List Int}:∀(f i u v g:Nat),v<2^(7*(f+1))->f<=g->(0<i->0<v)->u+v*2^(7*i)<=2199023255551->b.drop (at_+i)=vb g v++tail->
  jT b at_ (f+1) i u=(Io (u+v*2^(7*i)),((at_+i+(vb g v).length:Nat):Int))
 |f,i,u,v,g,hv,hg,h0,hb,hd=>by
  by_cases c:128<=v
  ·obtain⟨f,rfl⟩:∃e,f=e+1:=by
    cases f with
    |zero=>simp at hv;omega
    |succ e=>exact⟨e,rfl⟩
   obtain⟨g,rfl⟩:∃e,g=e+1:=⟨g-1,by omega⟩;rw[P0 c]at hd;obtain⟨h1,h2⟩:=Ip hd;have ih:=Ea (b:=b) (at_:=at_) (tail:=tail) f (i+1) (u+v %128*2^(7*i)) (v/128) g (by rw[show 7*(f+1+1)=7*(f+1)+7 from by omega,Nat.pow_add]at hv;omega) (by omega) (by omega) (by rw[F8];exact hb) h2;rw[jT,h1];simp only;rw[W4,decide_eq_true (show 128<=128+v %128 by omega),cond_true,show(128+v %128) %128=v %128 by omega,ih,F8,P0 c,W7]
   congr 2;omega
  ·rw[Lx (by omega)]at hd⊢;obtain⟨h1,_⟩:=Ip hd;rw[jT,h1];simp only;rw[W4,decide_eq_false c,cond_false,show v %128=v by omega,decide_eq_false (show¬2199023255551<u+v*2^(7*i) by omega),Bool.or_false]
   have:(decide (0<i)&&decide (v=0))=false:=by
    by_cases hi:0<i
    ·rw[decide_eq_false (show¬v=0 by have:=h0 hi;omega),YM]
    ·rw[decide_eq_false hi];rfl
   rw[this];rfl
theorem Eb {b:List Int} {at_:Nat} (hb:∀x∈b,okB x):∀(f i u:Nat) (x p:Int),jT b at_ f i u=(x,p)->p≠-1->∃v:Nat,(0<i->0<v)/\u+v*2^(7*i)<=2199023255551/\x=Io (u+v*2^(7*i))/\
      ∀g,f<=g+1->p=((at_+i+(vb g v).length:Nat):Int)/\b.drop (at_+i)=vb g v++b.drop (at_+i+(vb g v).length)
  | 0, i, u, x, p, h, hp => by
    simp only[jT,Xc]at h
    exact absurd h.2.symm hp
  | f + 1, i, u, x, p, h, hp => by
    rw[jT]at h
    cases hc:b[at_+i]? with
    |none=>rw[hc]at h;simp only[Xc]at h;exact absurd h.2.symm hp
    | some c =>
      rw[hc]at h;simp only at h;obtain⟨k1,k2⟩:=Of.1 hc;have ho:=hb c (Xn hc)
      have hd:b.drop (at_+i)=c::b.drop (at_+i+1):=by rw[YD k1,k2]
      have hcn:c=((c.toNat:Nat):Int):=(Y0 ho.1).symm;by_cases Wo:128<=c.toNat
      · rw [decide_eq_true Wo, cond_true] at h;obtain⟨v,a1,a2,a3,a4⟩:=Eb hb f (i+1) _ x p h hp;have a1:=a1 (by omega)
        have c255:c.toNat<=255:=by have:=ho.2;omega
        have e1:(c.toNat %128+128*v) %128=c.toNat %128:=by omega
        have e2:(c.toNat %128+128*v)/128=v:=by omega
        have e3:=F8 u (c.toNat %128+128*v) i;rw[e1,e2]at e3;rw[e3]at a2 a3;refine⟨c.toNat %128+128*v,by omega,a2,a3,λg hg=>?_⟩
        obtain⟨g,rfl⟩:∃e,g=e+1:=by
          cases g with
          | zero =>
            have:f=0:=by omega
            subst this;simp only[jT,Xc]at h
            exact absurd h.2.symm hp
          |succ e=>exact⟨e,rfl⟩
        obtain⟨b1,b2⟩:=a4 g (by omega)
        have e4:vb (g+1) (c.toNat %128+128*v)=c::vb g v:=by
          rw[P0 (by omega),e1,e2]
          congr 1
          omega
        rw[e4,W7];refine⟨by rw[b1];congr 1;omega,?_⟩;rw[hd,Ym,show at_+i+((vb g v).length+1)=at_+(i+1)+(vb g v).length by omega,<-b2];rfl
      · rw [decide_eq_false Wo, cond_false, show c.toNat % 128 = c.toNat by omega] at h
        cases hq:((decide (0<i)&&decide (c.toNat=0))||decide (2199023255551<u+c.toNat*2^(7*i)))with
        |true=>rw[hq]at h;simp only[cond_true,Xc]at h;exact absurd h.2.symm hp
        | false =>
          rw[hq,cond_false,Xc]at h;rw[Bool.or_eq_false_iff,decide_eq_false_iff_not,Bool.and_eq_false_iff]at hq;refine⟨c.toNat,λhi=>?_,by omega,h.1.symm,λg hg=>?_⟩
          · rcases hq.1 with q|q
            · exact absurd hi (of_decide_eq_false q)
            · have:=of_decide_eq_false q;omega
          · rw[Lx (by omega)];refine⟨by rw[<-h.2];rfl,?_⟩;rw[hd,<-hcn];rfl
section
variable {b:List Int}
theorem nq {a:Nat} {x:Int} {tail:List Int} (hx:bN x=true) (hd:b.drop a=wide x++tail):rp b a=some (x,((a+(wide x).length:Nat):Int)):=by
 have h1:=Ea (b:=b) (at_:=a) (tail:=tail) 5 0 0 (zig x) 6 (by have:=Ig hx;omega) (by omega) (by omega) (by have:=Ig hx;omega) hd;rw[Nat.mul_zero,Nat.pow_zero,ZD,Xe,PY,XB]at h1;unfold rp ed;rw[decide_eq_true (show(0:Int)<=(a:Int) by omega),cond_true,W4,h1,decide_eq_false (by simp only;omega)];rfl
theorem Kd {v:Nat} (h:v<=2199023255551):bN (Io v)=true:=by
 refine aY.2 ?_;unfold Io;by_cases c:v %2=1
 ·rw[decide_eq_true c,cond_true];omega
 ·rw[decide_eq_false c,cond_false];omega
theorem nr (hb:∀x∈b,okB x) {a:Nat} {x p:Int} (h:rp b a=some (x,p)):bN x=true/\p=((a+(wide x).length:Nat):Int)/\b.drop a=wide x++b.drop (a+(wide x).length):=by
 unfold rp at h
 cases hc:decide ((ed b a).2<0)with
 |true=>rw[hc]at h;exact nomatch h
 |false=>
  rw[hc,cond_false,It]at h;rw[h]at hc;have hc:=of_decide_eq_false hc;unfold ed at h;rw[decide_eq_true (show(0:Int)<=(a:Int) by omega),cond_true,W4]at h;obtain⟨v,_,h2,h3,h4⟩:=Eb hb 6 0 0 x p h (by simp only at hc;omega);rw[Nat.mul_zero,Nat.pow_zero,ZD,Xe]at h2 h3;obtain⟨h5,h6⟩:=h4 6 (by omega)
  have e:wide x=vb 6 v:=by unfold wide;rw[h3,PZ]
  rw[e];exact⟨h3▸Kd h2,h5,h6⟩
theorem fy {a n:Nat} {l t:List Int} (h:b.drop a=l++t) (hn:n=a+l.length):b.drop n=t:=by
 subst hn;rw[<-List.drop_drop,h,List.drop_left]
theorem Ly:∀{xs:List Int} {a:Nat} {tail:List Int},xs.all bN=true->b.drop a=en xs++tail->pN b xs.length a=some (xs,((a+(en xs).length:Nat):Int))
 |[],a,tail,_,_=>by simp[pN,en]
 |x::xs,a,tail,hx,hd=>by
  rw[Yw,W3]at hx
  have hd:b.drop a=wide x++(en xs++tail):=by rw[hd];simp[en]
  rw[W7,pN,nq hx.1 hd,W6];simp only;rw[Ly hx.2 (fy hd rfl),W6];simp only[It,Xc,true_and];show _=((a+(wide x++en xs).length:Nat):Int);rw[W5];congr 1;omega
theorem Lz (hb:∀x∈b,okB x):∀{n:Nat} {a:Nat} {xs:List Int} {p:Int},pN b n a=some (xs,p)->xs.all bN=true/\p=((a+(en xs).length:Nat):Int)/\b.drop a=en xs++b.drop (a+(en xs).length)/\xs.length=n
 |0,a,xs,p,h=>by
  simp only[pN,It,Xc]at h;obtain⟨rfl,rfl⟩:=h
  exact⟨rfl,by simp[en],by simp[en],rfl⟩
 |n+1,a,xs,p,h=>by
  rw[pN]at h
  cases hq:rp b a with
  |none=>rw[hq]at h;exact nomatch h
  |some q=>
   obtain⟨x,p1⟩:=q;rw[hq,W6]at h;obtain⟨h1,rfl,h3⟩:=nr hb hq;simp only at h
   cases hr:pN b n ((a+(wide x).length:Nat):Int)with
   |none=>rw[hr]at h;exact nomatch h
   |some r=>
    obtain⟨ys,p2⟩:=r;rw[hr,W6]at h;simp only[It,Xc]at h;obtain⟨rfl,rfl⟩:=h;obtain⟨g1,g2,g3,g4⟩:=Lz hb hr
    have e:(en (x::ys)).length=(wide x).length+(en ys).length:=by show(wide x++en ys).length=_;rw[W5]
    refine⟨by rw[Yw,h1,g1];rfl,by rw[g2,e];congr 1;omega,?_,by rw[W7,g4]⟩;rw[e,h3,g3,<-XX];show _=(wide x++en ys)++_;rw[Xh]
end
end
set_option maxRecDepth 100000
set_option maxHeartbeats 4000000
section
section
variable {b:List Int}
theorem qX (x:Step) (t:List Int):b6 x++t=wide x.kind++(wide x.a++(wide x.b++(wide (x.data.length:Int)++(x.data++(wide x.input.sh.h++(wide x.input.sh.w++(wide x.input.sh.c++(wide (x.input.data.length:Int)++(en x.input.data++t))))))))):=by
 simp[b6,en]
theorem zp (x:Step):(b6 x).length=(wide x.kind).length+(wide x.a).length+(wide x.b).length+(wide (x.data.length:Int)).length+x.data.length+(wide x.input.sh.h).length+(wide x.input.sh.w).length+(wide x.input.sh.c).length+(wide (x.input.data.length:Int)).length+(en x.input.data).length:=by
 have:=congrArg List.length (qX x []);simp only[Xo,W5]at this;omega
theorem sN {x:Step}:ns x=true↔x.data.length<=6000/\x.input.data.length<=512/\(bN x.kind=true/\bN x.a=true/\bN x.b=true)/\(bN x.input.sh.h=true/\bN x.input.sh.w=true/\bN x.input.sh.c=true)/\x.input.data.all bN=true:=by
 unfold ns;simp only[W3,decide_eq_true_eq,Yw,List.all_nil,Zf];constructor
 ·rintro ⟨h1,h2,⟨h3,h4,h5⟩,⟨h6,h7,h8⟩,h9⟩
  exact⟨by omega,by omega,⟨h3,h4,h5⟩,⟨h6,h7,h8⟩,h9⟩
 ·rintro ⟨h1,h2,⟨h3,h4,h5⟩,⟨h6,h7,h8⟩,h9⟩
  exact⟨by omega,by omega,⟨h3,h4,h5⟩,⟨h6,h7,h8⟩,h9⟩
theorem LA {a:Nat} {x:Step} {tail:List Int} (hx:ns x=true) (hd:b.drop a=b6 x++tail):ft b a=some (x,((a+(b6 x).length:Nat):Int)):=by
 obtain⟨l1,l2,⟨w1,w2,w3⟩,⟨w4,w5,w6⟩,w7⟩:=sN.1 hx;rw[qX]at hd;have d1:=fy hd rfl;have d2:=fy d1 rfl;have d3:=fy d2 rfl;have d4:=fy d3 rfl;have d5:=fy d4 rfl;have d6:=fy d5 rfl;have d7:=fy d6 rfl;have d8:=fy d7 rfl;have d9:=fy d8 rfl;have n1:=nq w1 hd;have n2:=nq w2 d1;have n3:=nq w3 d2;have n4:=nq (dU (by omega)) d3;have n5:=nq w4 d5;have n6:=nq w5 d6;have n7:=nq w6 d7;have n8:=nq (dU (by omega)) d8;have n9:=Ly w7 d9;unfold ft BB;rw[n1,W6];simp only;rw[n2,W6];simp only;rw[n3,W6];simp only;rw[n4,W6];simp only;rw[aY.2 (show(0:Int)<=(x.data.length:Int)/\(x.data.length:Int)<=6000 by omega),cond_true];have hl:=congrArg List.length d4;rw[XZ,W5]at hl;generalize hp4:a+(wide x.kind).length+(wide x.a).length+(wide x.b).length+(wide (x.data.length:Int)).length=p4 at*
 have hne:x.data.length=0\/p4+x.data.length<=b.length:=by omega
 have hp4b:p4<=b.length:=by
  have:=hJ n4;omega
 rw[decide_eq_false (show¬((x.data.length:Int)>(b.length:Int)-(p4:Int)) by omega),cond_false,show((p4:Nat):Int)+(x.data.length:Int)=((p4+x.data.length:Nat):Int)from by omega,n5,W6];simp only;rw[n6,W6];simp only;rw[n7,W6];simp only;rw[n8,W6];simp only;rw[aY.2 (show(0:Int)<=(x.input.data.length:Int)/\(x.input.data.length:Int)<=512 by omega),cond_true,W4,n9,W6,W4,W4,List.drop_take,d4,show p4+x.data.length-p4=x.data.length by omega,List.take_left];simp only[It,Xc,true_and];rw[zp]
 congr 1;omega
theorem jP {α β:Type} {o:Option α} {f:α->Option β} {r:β} (h:o.bind f=some r):∃x,o=some x/\f x=some r:=An.1 h
theorem LB {α:Type} {c:Bool} {x:Option α} {r:α} (h:cond c x none=some r):c=true/\x=some r:=by
 cases c
 ·exact nomatch h
 ·exact⟨rfl,h⟩
theorem P1 {α:Type} {c:Bool} {x:Option α} {r:α} (h:cond c none x=some r):c=false/\x=some r:=by
 cases c
 ·exact⟨rfl,h⟩
 ·exact nomatch h
theorem Rw (hb:∀x∈b,okB x) {a:Nat} {x:Step} {p:Int} (h:ft b a=some (x,p)):ns x=true/\(∀y∈x.data,okB y)/\p=((a+(b6 x).length:Nat):Int)/\b.drop a=b6 x++b.drop (a+(b6 x).length):=by
 unfold ft BB at h;obtain⟨⟨x1,p1⟩,n1,h⟩:=jP h;obtain⟨w1,rfl,d1⟩:=nr hb n1;simp only at h;obtain⟨⟨x2,p2⟩,n2,h⟩:=jP h;obtain⟨w2,rfl,d2⟩:=nr hb n2;simp only at h;obtain⟨⟨x3,p3⟩,n3,h⟩:=jP h;obtain⟨w3,rfl,d3⟩:=nr hb n3;simp only at h;obtain⟨⟨x4,p4⟩,n4,h⟩:=jP h;obtain⟨w4,rfl,d4⟩:=nr hb n4;simp only at h;obtain⟨c1,h⟩:=LB h;obtain⟨c2,h⟩:=P1 h;have c1:=aY.1 c1;have c2:=of_decide_eq_false c2;obtain⟨n,rfl⟩:∃n:Nat,x4=(n:Int):=⟨x4.toNat,by omega⟩;generalize hp4:a+(wide x1).length+(wide x2).length+(wide x3).length+(wide (n:Int)).length=q at*;rw[show((q:Nat):Int)+(n:Int)=((q+n:Nat):Int)from by omega]at h
 have dq:b.drop q=(b.drop q).take n++b.drop (q+n):=by rw[<-List.drop_drop,XU]
 have hdl:((b.drop q).take n).length=n:=by rw[Xw,XZ];omega
 obtain⟨⟨x5,p5⟩,n5,h⟩:=jP h;obtain⟨w5,rfl,d5⟩:=nr hb n5;simp only at h;obtain⟨⟨x6,p6⟩,n6,h⟩:=jP h;obtain⟨w6,rfl,d6⟩:=nr hb n6;simp only at h;obtain⟨⟨x7,p7⟩,n7,h⟩:=jP h;obtain⟨w7,rfl,d7⟩:=nr hb n7;simp only at h;obtain⟨⟨ys,p9⟩,h9,h⟩:=jP h;obtain⟨⟨x8,p8⟩,n8,h9⟩:=jP h9;obtain⟨w8,rfl,d8⟩:=nr hb n8;simp only at h9;obtain⟨c3,h9⟩:=LB h9;have c3:=aY.1 c3;obtain⟨m,rfl⟩:∃n:Nat,x8=(n:Int):=⟨x8.toNat,by omega⟩;rw[W4]at h9;obtain⟨w9,rfl,d9,l9⟩:=Lz hb h9;simp only[It,Xc]at h;obtain⟨rfl,rfl⟩:=h;rw[W4,W4,List.drop_take,show q+n-q=n by omega];subst l9;generalize hD:(b.drop q).take n=D at*;subst hdl
 have e:b.drop a=b6 ⟨x1,x2,x3,D,⟨⟨x5,x6,x7⟩,ys⟩⟩++b.drop (q+D.length+(wide x5).length+(wide x6).length+(wide x7).length+(wide (ys.length:Int)).length+(en ys).length):=by
  rw[qX];simp only;rw[d1,d2,d3,d4,dq,d5,d6,d7,d8,d9]
 have el:a+(b6 ⟨x1,x2,x3,D,⟨⟨x5,x6,x7⟩,ys⟩⟩).length=q+D.length+(wide x5).length+(wide x6).length+(wide x7).length+(wide (ys.length:Int)).length+(en ys).length:=by
  rw[zp];simp only;omega
 refine⟨sN.2 ⟨by simp only;omega,by simp only;omega,⟨w1,w2,w3⟩,⟨w5,w6,w7⟩,w9⟩,λy hy=>?_,by rw[el],by rw[el];exact e⟩
 have hy:y∈(b.drop q).take D.length:=by rw[hD];exact hy
 exact hb y (Zc (X8 hy))
theorem Iq:∀{xs:List Step} {a:Nat} {tail:List Int},xs.all ns=true->b.drop a=bg xs++tail->lL b xs.length a=some (xs,((a+(bg xs).length:Nat):Int))
 |[],a,tail,_,_=>by simp[lL,bg]
 |x::xs,a,tail,hx,hd=>by
  rw[Yw,W3]at hx
  have hd:b.drop a=b6 x++(bg xs++tail):=by rw[hd];simp[bg]
  rw[W7,lL,LA hx.1 hd,W6];simp only;rw[Iq hx.2 (fy hd rfl),W6];simp only[It,Xc,true_and];show _=((a+(b6 x++bg xs).length:Nat):Int);rw[W5];congr 1;omega
theorem Ir (hb:∀x∈b,okB x):∀{n:Nat} {a:Nat} {xs:List Step} {p:Int},lL b n a=some (xs,p)->xs.all ns=true/\(∀x∈xs,∀y∈x.data,okB y)/\p=((a+(bg xs).length:Nat):Int)/\b.drop a=bg xs++b.drop (a+(bg xs).length)/\xs.length=n
 |0,a,xs,p,h=>by
  simp only[lL,It,Xc]at h;obtain⟨rfl,rfl⟩:=h
  exact⟨rfl,(λx hx=>nomatch hx),by simp[bg],by simp[bg],rfl⟩
 |n+1,a,xs,p,h=>by
  rw[lL]at h;obtain⟨⟨x,p1⟩,hq,h⟩:=jP h;obtain⟨h1,h1b,rfl,h3⟩:=Rw hb hq;simp only at h;obtain⟨⟨ys,p2⟩,hr,h⟩:=jP h;simp only[It,Xc]at h;obtain⟨rfl,rfl⟩:=h;obtain⟨g1,g1b,g2,g3,g4⟩:=Ir hb hr
  have e:(bg (x::ys)).length=(b6 x).length+(bg ys).length:=by show(b6 x++bg ys).length=_;rw[W5]
  refine⟨by rw[Yw,h1,g1];rfl,λz hz=>?_,by rw[g2,e];congr 1;omega,?_,by rw[W7,g4]⟩
  ·rcases Xm.1 hz with rfl|hz
   ·exact h1b
   ·exact g1b z hz
  ·rw[e,h3,g3,<-XX];show _=(b6 x++bg ys)++_;rw[Xh]
def bF (xs:List Step):List Int:=ly (eB xs.length++bg xs)
theorem tR (xs:List Step) (t:List Int):bF xs++t=[84,49]++(wide (xs.length:Int)++(bg xs++(wide (kq (eB xs.length++bg xs))++t))):=by
 unfold bF ly eB;simp[en]
theorem LC {xs:List Step} {tail:List Int} (hx:xs.all ns=true) (hn:xs.length<=200) (hb:b=bF xs++tail) (hl:b.length<=20000):cq b=cond (decide (tail=[])) (xs,0) ([],3):=by
 have hd:=hb.trans (tR xs tail)
 have d2:b.drop 2=wide (xs.length:Int)++(bg xs++(wide (kq (eB xs.length++bg xs))++tail)):=by rw[hd];rfl
 have d3:=fy d2 rfl;have d4:=fy d3 rfl;have n1:=nq (dU (by omega)) d2;have n2:=Iq hx d3;have n3:=nq (Ai _) d4;unfold cq;rw[decide_eq_false (by omega),cond_false,show b.take 2=[84,49] by rw[hd];rfl,decide_eq_true rfl,cond_true];rw[show(2:Int)=((2:Nat):Int)from rfl,n1,W8,aY.2 (show(0:Int)<=(xs.length:Int)/\(xs.length:Int)<=200 by omega),cond_true];simp only;rw[W4,n2,W8];simp only;rw[n3,W8];simp only
 have ht:b.take (2+(wide (xs.length:Int)).length+(bg xs).length)=eB xs.length++bg xs:=by
  have e:b=(eB xs.length++bg xs)++(wide (kq (eB xs.length++bg xs))++tail):=by rw[hd];simp[eB,en]
  have el:2+(wide (xs.length:Int)).length+(bg xs).length=(eB xs.length++bg xs).length:=by simp[eB,en];omega
  rw[el]
  conv=>lhs;rw[e]
  exact List.take_left
 rw[W4,ht]
 have hbl:b.length=2+(wide (xs.length:Int)).length+(bg xs).length+(wide (kq (eB xs.length++bg xs))).length+tail.length:=by
  have:=congrArg List.length hd;simp only[W5,W7,Xg]at this;omega
 congr 1
 rw[decide_eq_decide];constructor
 ·rintro ⟨_,h2⟩
  exact XI.1 (by omega)
 ·rintro rfl
  simp only[Xg]at hbl;exact⟨rfl,by omega⟩
theorem F9 (hb:∀x∈b,okB x) {xs:List Step} {c:Int} (h:cq b=(xs,c)) (hc:c=0):xs.all ns=true/\(∀x∈xs,∀y∈x.data,okB y)/\xs.length<=200/\b=bF xs/\b.length<=20000:=by
 subst hc;unfold cq at h
 cases c1:decide ((b.length:Int)>20000)with
 |true=>rw[c1]at h;simp at h
 |false=>
 rw[c1,cond_false]at h;have c1:=of_decide_eq_false c1
 cases c2:decide (b.take 2=[84,49])with
 |false=>rw[c2]at h;simp at h
 |true=>
 rw[c2,cond_true]at h;have c2:=of_decide_eq_true c2
 cases n1:rp b 2 with
 |none=>rw[n1]at h;simp at h
 |some q=>
 obtain⟨z,p⟩:=q;rw[n1,W8]at h;obtain⟨w1,rfl,d2⟩:=nr hb (a:=2) n1;simp only at h
 cases c3:inB z 0 200 with
 |false=>rw[c3]at h;simp at h
 |true=>
 rw[c3,cond_true]at h;have c3:=aY.1 c3;obtain⟨n,rfl⟩:∃n:Nat,z=(n:Int):=⟨z.toNat,by omega⟩;rw[W4]at h
 cases n2:lL b n ((2+(wide (n:Int)).length:Nat):Int)with
 |none=>rw[n2]at h;simp at h
 |some q=>
 obtain⟨ys,p2⟩:=q;rw[n2,W8]at h;obtain⟨g1,g1b,rfl,g3,rfl⟩:=Ir hb n2;simp only at h
 cases n3:rp b ((2+(wide (ys.length:Int)).length+(bg ys).length:Nat):Int)with
 |none=>rw[n3]at h;simp at h
 |some q=>
 obtain⟨s,p3⟩:=q;rw[n3,W8]at h;obtain⟨w3,rfl,d3⟩:=nr hb n3;simp only at h;rw[W4]at h
 cases c4:decide (s=kq (b.take (2+(wide (ys.length:Int)).length+(bg ys).length))/\((2+(wide (ys.length:Int)).length+(bg ys).length+(wide s).length:Nat):Int)=(b.length:Int))with
 |false=>rw[c4]at h;simp at h
 |true=>
 rw[c4,cond_true,Xc]at h;obtain⟨rfl,_⟩:=h;obtain⟨k1,k2⟩:=of_decide_eq_true c4
 have e0:b=[84,49]++(wide (ys.length:Int)++(bg ys++wide s)):=by
  have:b=b.take 2++b.drop 2:=(XU 2 b).symm;rw[c2,d2,g3,d3,List.drop_eq_nil_of_le (by omega),Xo]at this;exact this
 have ht:b.take (2+(wide (ys.length:Int)).length+(bg ys).length)=eB ys.length++bg ys:=by
  have e:b=(eB ys.length++bg ys)++wide s:=by rw[e0];simp[eB,en]
  have el:2+(wide (ys.length:Int)).length+(bg ys).length=(eB ys.length++bg ys).length:=by simp[eB,en];omega
  rw[el]
  conv=>lhs;rw[e]
  exact List.take_left
 rw[ht]at k1;refine⟨g1,g1b,by omega,?_,by omega⟩;have:=tR ys [];rw[Xo,Xo]at this;rw[this,<-k1];exact e0
end
end
set_option maxRecDepth 100000
set_option maxHeartbeats 4000000
section
theorem R7 {x:Step} (h:ns x=true) (hd:∀y∈x.data,okB y):∀y∈b6 x,okB y:=λy hy=>by
 obtain⟨l1,l2,⟨w1,w2,w3⟩,⟨w4,w5,w6⟩,w7⟩:=sN.1 h;have e:=qX x [];rw[Xo]at e;rw[e]at hy;simp only[XN,YI,or_false]at hy;have a4:=np (dU (n:=x.data.length) (by omega));have a8:=np (dU (n:=x.input.data.length) (by omega))
 rcases hy with h|h|h|h|h|h|h|h|h|h
 ·exact np w1 y h
 ·exact np w2 y h
 ·exact np w3 y h
 ·exact a4 y h
 ·exact hd y h
 ·exact np w4 y h
 ·exact np w5 y h
 ·exact np w6 y h
 ·exact a8 y h
 ·exact qW w7 y h
theorem LD {xs:List Step} (h:xs.all ns=true) (hd:∀x∈xs,∀y∈x.data,okB y) (hn:xs.length<=200):∀y∈bF xs,okB y:=λy hy=>by
 have e:=tR xs [];rw[Xo]at e;rw[e]at hy;simp only[XN,YI,or_false,Xm]at hy
 rcases hy with(h0|h0)|h0|h0|h0
 ·subst h0;exact⟨by omega,by omega⟩
 ·subst h0;exact⟨by omega,by omega⟩
 ·exact np (dU (by omega)) y h0
 ·obtain⟨x,hx,hy⟩:=YT.1 h0;exact R7 (Xv.1 h x hx) (hd x hx) y hy
 ·exact np (Ai _) y h0
theorem qY {x:Int} (h:bN x=true):okI x:=by
 have:=aY.1 h;exact⟨by omega,by omega⟩
theorem P2 {x:Step} (h:ns x=true) (hd:∀y∈x.data,okB y):x.Ok:=by
 obtain⟨l1,l2,⟨w1,w2,w3⟩,⟨w4,w5,w6⟩,w7⟩:=sN.1 h;exact⟨qY w1,qY w2,qY w3,⟨by unfold zP;omega,hd⟩,⟨qY w4,qY w5,qY w6⟩,⟨by unfold zP;omega,λy hy=>qY (Xv.1 w7 y hy)⟩⟩
theorem yE {x:Step} (h:ns x=true):x.tot<=6512:=by
 obtain⟨l1,l2,_⟩:=sN.1 h;show x.data.length+(x.input.data.length+0+0)<=_;omega
theorem LF {xs:List Step} (h:xs.all ns=true) (hd:∀x∈xs,∀y∈x.data,okB y) (hn:xs.length<=200):okS Step.Ok xs:=⟨by unfold zP;omega,λx hx=>P2 (Xv.1 h x hx) (hd x hx)⟩
theorem Cv (a:List Step):jd a a=-1:=by
 unfold jd
 have:(a.zip a).findIdx? (λp=>!decide (p.1=p.2))=none:=by
  rw[X9];intro p hp;have:=List.of_mem_zip hp;obtain⟨i,hi,e⟩:=XC.1 hp;rw[List.getElem_zip]at e;subst e;simp
 rw[this,XM,if_pos rfl]
theorem Ga {a b:List Step} (h:jd a b=-1):a=b:=by
 unfold jd at h
 cases hf:(a.zip b).findIdx? (λp=>!decide (p.1=p.2))with
 |some i=>rw[hf,W8]at h;omega
 |none=>
  rw[hf,XM]at h;by_cases c:a.length=b.length
  ·rw[X9]at hf;refine List.ext_getElem c λi h1 h2=>?_
   have:=hf (a[i],b[i]) (by
    rw[XC]
    exact⟨i,by rw[List.length_zip];omega,List.getElem_zip⟩)
   simpa using this
  ·rw[if_neg c]at h;split at h<;>omega
theorem Ke (xs:List Step):(wI xs=([],false))\/(wI xs=(bF xs,true)/\xs.all ns=true/\xs.length<=200/\(bF xs).length<=20000):=by
 unfold wI;by_cases c1:(xs.length:Int)>200
 ·rw[decide_eq_true c1];exact .inl rfl
 rw[decide_eq_false c1,cond_false];cases hp:xs.all ns
 ·exact .inl rfl
 rw[cond_true];by_cases c2:((ly (eB xs.length++bg xs)).length:Int)>20000
 ·rw[decide_eq_true c2];exact .inl rfl
 rw[decide_eq_false c2,cond_false];exact .inr ⟨rfl,rfl,by omega,by unfold bF;omega⟩
theorem Ec {xs:List Step} (hp:xs.all ns=true) (hn:xs.length<=200) (hl:(bF xs).length<=20000):cq (bF xs)=(xs,0):=by
 have:=LC (b:=bF xs) (tail:=[]) hp hn (by simp) hl;rw[this];rfl
theorem Rx {xs:List Step} (hp:xs.all ns=true) (hd:∀x∈xs,∀y∈x.data,okB y) (hn:xs.length<=200) (hl:(bF xs).length<=20000) {c:Nat} (hc:c<(bF xs).length):(cq ((bF xs).take c)).2≠0:=λh=>by
 have ho:=LD hp hd hn;obtain⟨g1,g2,g3,g4,g5⟩:=F9 (b:=(bF xs).take c) (λy hy=>ho y (X8 hy)) (xs:=(cq ((bF xs).take c)).1) (c:=(cq ((bF xs).take c)).2) rfl h
 have e:bF xs=bF (cq ((bF xs).take c)).1++(bF xs).drop c:=by
  rw[<-g4,XU]
 have r1:=LC (b:=bF xs) g1 g3 e hl;rw[Ec hp hn hl]at r1
 have hne:(bF xs).drop c≠[]:=λh0=>by
  have:=congrArg List.length h0;rw[XZ,Xg]at this;omega
 rw[decide_eq_false hne,cond_false,Xc]at r1;exact absurd r1.2 (by omega)
theorem P3 {xs ys:List Step} {b:List Int} (hb:∀y∈b,okB y) (h:(cq b).2=0) (he:(cq b).1=xs) (hne:b≠bF xs):False:=by
 obtain⟨_,_,_,g4,_⟩:=F9 hb (xs:=(cq b).1) (c:=(cq b).2) rfl h;rw[he]at g4;exact hne g4
theorem TD {x d:Int} (hx:okB x) (h1:1<=d) (h2:d<=255):u8.wrap (((BitVec.ofInt u8.bits x^^^ BitVec.ofInt u8.bits (u8.wrap d)).toNat:Nat):Int)≠x:=by
 obtain⟨n,rfl⟩:∃n:Nat,x=(n:Int):=⟨x.toNat,(Y0 hx.1).symm⟩;obtain⟨m,rfl⟩:∃m:Nat,d=(m:Int):=⟨d.toNat,by omega⟩
 have hn:n<256:=by have:=hx.2;omega
 have hm:m<256:=by omega
 rw[show u8.wrap (m:Int)=(m:Int)from Be (by omega) (by omega)]
 have e:(BitVec.ofInt u8.bits (n:Int)^^^ BitVec.ofInt u8.bits (m:Int)).toNat=n^^^ m:=by
  rw[BitVec.toNat_xor,pM,pM];show n %256^^^ m %256=_;rw[XK hn,XK hm]
 rw[e];have hlt:n^^^ m<256:=Nat.xor_lt_two_pow (n:=8) hn hm;rw[Be (by omega) (by omega)];intro h
 have h:n^^^ m=n:=by omega
 have:m=0:=by
  have:=congrArg (n^^^ ·) h;simpa[<-Nat.xor_assoc]using this
 omega
end
set_option maxRecDepth 100000
set_option maxHeartbeats 4000000
section
theorem CV {k:Nat} {b:List Int} (hb:b.length<=1048576) (hk:b.length+20000000<=k):ao (jI k b) eA:=by
 have hM:=ak;unfold jI;refine(H6 hb (by omega)).bind λr1 hc1=>(aI hb hc1).bind λr2 ⟨⟨a2,b2,_⟩,hc2⟩=>?_;have b2:=b2 (by omega);rw[aF (by omega) (by omega)];refine(sL hb (by omega) hc2 (by omega)).bind λr3 ⟨⟨s3,l3,n3⟩,hc3⟩=>?_;rw[aF (by omega) (by omega)];refine ao.must (by omega) ?_;rw[On (show((r3.1.length:Int)-1).toNat<r3.1.length by omega),aa];have he:=s3 _ (W9 (show((r3.1.length:Int)-1).toNat<r3.1.length by omega));generalize r3.1[((r3.1.length:Int)-1).toNat]'(by omega)=e4 at he;refine(fx hb hc3).bind λr5 hc5=>ao.cond (λ_=>?_) λ_=>ao.some he;refine(aI hb hc5).bind λr6 ⟨_,hc6⟩=>ao.cond (λ_=>?_) λ_=>ao.cond (λ_=>?_) λ_=>ao.cond (λ_=>?_) λ_=>ao.some he
 ·exact(aI hb hc6).bind λr7 _=>ao.some ⟨he.byte,he.data,he.input⟩
 ·refine(aI hb hc6).bind λr8 ⟨⟨a8,b8,_⟩,_⟩=>?_;have b8:=b8 (by omega);rw[aF (by omega) (by omega)];refine ao.must (by omega) (ao.some ⟨λy hy=>?_,?_,he.input⟩)
  ·rw[(YU.1 hy).2];exact⟨by omega,by omega⟩
  ·rw[Yq];omega
 ·refine(aI hb hc6).bind λr9 ⟨⟨a9,b9,_⟩,_⟩=>?_;have b9:=b9 (by omega);rw[aF (by omega) (by omega)];refine ao.must (by omega) (ao.some ⟨he.byte,he.data,?_⟩);show(List.replicate _ (0:Int)).length+0<=_;rw[Yq];omega
theorem P4 {xs:List Step} {n:Nat} (hs:∀x∈xs,eA x) (hl:xs.length<=n):gp Step.tot xs<=4000001*n:=by
 induction xs generalizing n with
 |nil=>exact XE _
 |cons x l ih=>
  obtain⟨n,rfl⟩:∃m,n=m+1:=⟨n-1,by simp at hl;omega⟩;have h1:=hs x (by simp);have h2:=ih (n:=n) (λy hy=>hs y (by simp[hy])) (by simp at hl;omega);have h3:=h1.data;have h4:=h1.input;have h5:x.tot=x.data.length+(x.input.tot+0):=rfl;rw[pn];omega
theorem Ry {k:Nat} {x:Step} {v:Bool} (hk:20000000<=k) (hx:eA x) (hv:v=true):
  ((m9 k x).bind λr18=>(mZ k x).bind λr19=>cond (!(r18.2==r19.2)) (some false) (cond ((r18.1.length:Int) !=(r19.1.length:Int)) (some false) (cond (r19.2) ((mq k r18.1 (0:Int)).bind λr20=>cond (r20.2 !=(r18.1.length:Int)) (some false) ((ka k r20.1 x).bind λr21=>cond (!r21) (some false) ((mu k r20.1).bind λr22=>(mr k x).bind λr23=>cond (!(r22==r23)) (some false) (some v)))) (some v))))=some true:=by
 have hM:=ak;subst hv;have h3:=hx.data;have h4:=hx.input;have h5:x.tot=x.data.length+(x.input.tot+0):=rfl;rw[zm (by omega) (by omega),aa,zn (by omega) (by omega),aa];unfold Lo;cases hp:ns x
 ·rfl
 simp only[cond_true,beq_self_eq_true,Xa,cond_false,bne_self_eq_false];have ho:=P2 hp hx.byte;have ht:=yE hp;have hpl:=Cq hp;rw[FB (by omega) (R7 hp hx.byte) (by omega),aa];have e:=LA (b:=b6 x) (a:=0) (tail:=[]) hp (by simp)
 have e:zY (b6 x) 0=(x,((b6 x).length:Int)):=by
  unfold zY;rw[show(0:Int)=((0:Nat):Int)from rfl,e,Xe];rfl
 rw[e];simp only[bne_self_eq_false,cond_false];have hin:x.input.data.length<=x.input.tot:=Xt _;rw[we (by omega) ho ho,aa,decide_eq_true rfl,Xa,cond_false,F6 (by omega) ho (by omega),aa,F5 (by omega) ho (by omega),aa];simp
theorem Gb (b:List Int) (hb:okS okB b):∃k,pI k b=some true:=by
 have hM:=ak;obtain⟨k,hk⟩:∃k,k=b.length+3000000000:=⟨_,rfl⟩;refine⟨k,?_⟩;unfold pI Ta;rw[aa];by_cases c:(b.length:Int)>1048576
 ·rw[decide_eq_true c];rfl
 rw[decide_eq_false c,cond_false]
 have hbl:b.length<=1048576:=by omega
 obtain⟨r,hr,hs,hl⟩:=Kc (k:=k) hbl (by omega);unfold qO;rw[hr,aa,aa];generalize r.1.2.2.2=xs at hs hl;have ht:=P4 hs hl;rw[Im (by omega) (by omega),aa,Il (by omega) (by omega),aa];have hd:∀x∈xs,∀y∈x.data,okB y:=λx hx=>(hs x hx).byte
 rcases Ke xs with e|⟨e,hp,hn,htl⟩
 ·rw[e];rfl
 rw[e];have ho:=LD hp hd hn;have hso:=LF hp hd hn;simp only[beq_self_eq_true,Xa,cond_false,bne_self_eq_false]
 have hdl:∀x∈xs,x.data.length<k/\x.input.data.length<k:=λx hx=>by
  have:=yE (Xv.1 hp x hx);have h5:x.tot=x.data.length+(x.input.data.length+0+0):=rfl;omega
 rw[oV (by omega) ho (by omega),aa,Ec hp hn htl];simp only[bne_self_eq_false,cond_false];rw[sM (by omega) hso hso hdl,aa,Cv];simp only[bne_self_eq_false,cond_false];obtain⟨n7,e7,p7,q7⟩:=wH k hb.2 (i:=0) (by omega) (by omega) hbl;obtain⟨n8,e8,p8,q8⟩:=wH k hb.2 (i:=1) (by omega) (by omega) hbl;obtain⟨n10,e10,p10,q10⟩:=wH k hb.2 (i:=2) (by omega) (by omega) hbl;obtain⟨n11,e11,p11,q11⟩:=wH k hb.2 (i:=3) (by omega) (by omega) hbl;obtain⟨n13,e13,p13,q13⟩:=wH k hb.2 (i:=4) (by omega) (by omega) hbl;obtain⟨b16,e16,l16⟩:=PX (k:=k) (b:=b) (a:=1) (by omega);obtain⟨x17,e17,s17⟩:=CV (k:=k) (b:=b16) (by omega) (by omega);have TE:=λv hv=>Ry (k:=k) (x:=x17) (v:=v) (by omega) s17 hv
 have Md:0<(bF xs).length:=by
  have:=tR xs [];rw[Xo]at this;rw[this];simp
 have VZ:∀a c:Int,0<=a->a<=255->0<=c->c<=255->0<=i64.wrap (a*i64.wrap (1+c)):=λa c h1 h2 h3 h4=>by
  rw[aF (n:=1+c) (by omega) (by omega)];have h5:0<=a*(1+c):=X7 h1 (by omega);have h6:a*(1+c)<=255*256:=Yy h2 (by omega) (by omega) (by omega);rw[aF (by omega) (by omega)];exact h5
 have Wp:∀a c:Int,0<=a->a<=255->0<=c->c<=255->∃j:Nat,j<(bF xs).length/\(i64.wrap (a*i64.wrap (1+c))).tmod ((bF xs).length:Int)=(j:Int):=λa c h1 h2 h3 h4=>by
  have h5:=VZ a c h1 h2 h3 h4;have h6:=Zh ((bF xs).length:Int) h5;have h7:=YG (i64.wrap (a*i64.wrap (1+c))) (show(0:Int)<((bF xs).length:Int) by omega);exact⟨_,by omega,(Y0 h6).symm⟩
 obtain⟨j,hj,ej⟩:=Wp n7 n8 p7 q7 p8 q8;obtain⟨i,hi,ei⟩:=Wp n10 n11 p10 q10 p11 q11;have hne:decide (((bF xs).length:Int)=0)=false:=decide_eq_false (by omega);simp only[e7,e8,e10,e11,e13,e16,e17,aa,hne,cond_false,ej,ei,X5,W4,Y2,XP];rw[decide_eq_true (show(0:Int)<=(j:Int)/\(j:Int)<=((bF xs).length:Int) by omega),cond_true,oV (by omega) (λy hy=>ho y (X8 hy)) (by rw[Xw];omega),aa,bO (by simp;omega)];rw[decide_eq_true (show(0:Int)<=(i:Int)/\(i:Int)<((bF xs).length:Int) by omega),cond_true,ai hi,aa,cond_true];have W1:=Rx hp hd hn htl hj
 have hv:((cq ((bF xs).take j)).2 !=0)=true:=by simpa using W1
 rw[hv]at*;have TE:=TE true rfl;have hoi:=ho _ (W9 hi)
 have hbd:1<=i64.wrap (1+n13.tmod 255)/\i64.wrap (1+n13.tmod 255)<=255:=by
  have h6:=Zh (255:Int) p13;have h7:=YG n13 (show(0:Int)<255 by omega);rw[aF (by omega) (by omega)];omega
 have V0:=TD hoi hbd.1 hbd.2;generalize hw:u8.wrap (((BitVec.ofInt u8.bits (bF xs)[i]^^^ BitVec.ofInt u8.bits (u8.wrap (i64.wrap (1+n13.tmod 255)))).toNat:Nat):Int)=w at*
 have how:okB w:=by rw[<-hw];exact TB _
 have hob:∀y∈(bF xs).set i w,okB y:=λy hy=>by
  rcases YE hy with hy|rfl
  ·exact ho y hy
  ·exact how
 rw[oV (by omega) hob (by rw[XV];omega),aa,TE];by_cases hz:(cq ((bF xs).set i w)).2=0
 ·rw[hz];simp only[beq_self_eq_true,cond_true];obtain⟨g1,g2,g3,g4,g5⟩:=F9 hob (xs:=(cq ((bF xs).set i w)).1) (c:=(cq ((bF xs).set i w)).2) rfl hz
  rw[sM (by omega) (LF g1 g2 g3) hso (λx hx=>by
   have:=yE (Xv.1 g1 x hx);have h5:x.tot=x.data.length+(x.input.data.length+0+0):=rfl
   omega),aa]
  have:jd (cq ((bF xs).set i w)).1 xs≠-1:=λh=>by
   refine P3 (xs:=xs) (ys:=xs) hob hz (Ga h) λh2=>V0 ?_;have:=congrArg (λl=>l[i]?) h2;simp only[Ya hi,On hi,It]at this;exact this
  rw[show(jd (cq ((bF xs).set i w)).1 xs==-1)=false by simpa using this];rfl
 ·rw[show((cq ((bF xs).set i w)).2==0)=false by simpa using hz];rfl
end
end Go.Proofs.Ev
