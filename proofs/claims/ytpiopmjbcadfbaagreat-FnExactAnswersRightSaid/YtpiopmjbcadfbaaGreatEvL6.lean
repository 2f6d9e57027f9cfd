/- Typed functions and what holds of them: part 6. -/
import Derived.Test.YtpiopmjbcadfbaaGreatEvL5
set_option linter.unusedVariables false
set_option linter.unusedSimpArgs false
set_option linter.unusedSectionVars false
namespace Go.Proofs.Ev
set_option maxRecDepth 100000
set_option maxHeartbeats 4000000
section
theorem Bs {k:Nat} (hk:20000000<=k) {steps:List Step} (hs:∀x∈steps,lR x) (hl:steps.length<=200) {a1 a2 a3 a4 a5 a6 a7 b1 b2 b3 b4 b5 b6 b7:Int} {Q:List Step->Runtime->List Entry->Prop}
    (hQ:∀(pre:List Step) (x:Step) (r r':Runtime) (E E1:List Entry) (evs e:List Event),zY r E evs pre.length->pre.length<200->Q pre r E->zz r x e r'.sched->Made r x e E E1 r'->Q (pre++[x]) r' E1):∀(qs pre:List Step) (r:Runtime) (E:List Entry) (evs:List Event),steps=pre++qs->zY r E evs pre.length->Q pre r E->
    ∃ (r' : Runtime) (E' : List Entry) (evs' : List Event), zY r' E' evs' steps.length /\ Q steps r' E' /\
      (∀{R:Type} {fin:_->Option R} {kf:Nat},qs.length<kf->iter (λu24 n24=>hY k (steps,a1,a2,a3,a4,a5,a6,a7,[]) u24 n24 fin) kf ((pre.length:Int),r.sched.now,r.sched.ai,r.sched.age,r.sched.run,r.sched.left,r.sched.turns,r.sched.next,E,evs,r.sched.tasks,r.al,r.ax,r.ae)=fin (r'.sched.now,r'.sched.ai,r'.sched.age,r'.sched.run,r'.sched.left,r'.sched.turns,r'.sched.next,E',evs',r'.sched.tasks,r'.al,r'.ax,r'.ae))/\
      (∀{R:Type} {fin:_->Option R} {kf:Nat},qs.length<kf->iter (λu14 n14=>jn k (steps,(steps.length:Int),b1,b2,b3,b4,b5,b6,b7,[]) u14 n14 fin) kf ((pre.length:Int),r.sched.now,r.sched.ai,r.sched.age,r.sched.run,r.sched.left,r.sched.turns,r.sched.next,evs,E,r.sched.tasks,r.al,r.ax,r.ae)=fin (r'.sched.now,r'.sched.ai,r'.sched.age,r'.sched.run,r'.sched.left,r'.sched.turns,r'.sched.next,evs',E',r'.sched.tasks,r'.al,r'.ax,r'.ae))
  | [], pre, r, E, evs, hp, h, hq => by
    have hlen:steps.length=pre.length:=by rw[hp];simp
    refine⟨r,E,evs,by rw[hlen];exact h,by rw[hp,RU];exact hq,λ{R} {fin} {kf} hkf=>?_,λ{R} {fin} {kf} hkf=>?_⟩
    · obtain⟨kf,rfl⟩:∃m,kf=m+1:=⟨kf-1,by simp at hkf;omega⟩;rw[aG];show hY k _ _ _ fin=_;unfold hY;simp only;rw[decide_eq_false (by omega)];rfl
    · obtain⟨kf,rfl⟩:∃m,kf=m+1:=⟨kf-1,by simp at hkf;omega⟩;rw[aG];show jn k _ _ _ fin=_;unfold jn;simp only
      rw[decide_eq_false (by omega)];rfl
  | x :: qs, pre, r, E, evs, hp, h, hq => by
    have hM:=ao
    have hlen:steps.length=pre.length+(qs.length+1):=by rw[hp];simp
    have hat:idx steps (pre.length:Int)=some x:=by rw[aC,hp];simp
    have hx:=hs x (by rw[hp];simp);obtain⟨e,r',h',he,ht,e1,e2,hsc⟩:=Qt hk h.ok hx
    have hw:IntKind.i64.wrap ((pre.length:Int)+1)=((pre++[x]).length:Int):=by rw[aH (by omega) (by omega),Rz];rfl
    obtain⟨E1,hmd,hst,hS,hI⟩:=NU hk hx h h' he (by omega) ht;obtain⟨r2,E2,evs2,g1,gQ,g2,g3⟩:=Bs hk hs hl (a1:=a1) (a2:=a2) (a3:=a3) (a4:=a4) (a5:=a5) (a6:=a6) (a7:=a7) (b1:=b1) (b2:=b2) (b3:=b3) (b4:=b4) (b5:=b5) (b6:=b6) (b7:=b7) hQ qs (pre++[x]) r' E1 (evs++e) (by rw[hp];simp) (by rw[Rz];exact hst) (hQ pre x r r' E E1 evs e h (by omega) hq hsc hmd);refine⟨r2,E2,evs2,g1,gQ,λ{R} {fin} {kf} hkf=>?_,λ{R} {fin} {kf} hkf=>?_⟩
    · obtain⟨kf,rfl⟩:∃m,kf=m+1:=⟨kf-1,by simp at hkf;omega⟩;rw[aG,<-g2 (fin:=fin) (kf:=kf) (by simp at hkf;omega)]
      have st:∀next,hY k (steps,a1,a2,a3,a4,a5,a6,a7,[]) ((pre.length:Int),r.sched.now,r.sched.ai,r.sched.age,r.sched.run,r.sched.left,r.sched.turns,r.sched.next,E,evs,r.sched.tasks,r.al,r.ax,r.ae) next fin=next (((pre++[x]).length:Int),r'.sched.now,r'.sched.ai,r'.sched.age,r'.sched.run,r'.sched.left,r'.sched.turns,r'.sched.next,E1,evs++e,r'.sched.tasks,r'.al,r'.ax,r'.ae):=λnext=>by
        unfold hY;simp only;rw[decide_eq_true (by omega),cond_true,hat,aa,show(⟨⟨r.sched.now,r.sched.ai,r.sched.age,r.sched.tasks,r.sched.run,r.sched.left,r.sched.turns,r.sched.next⟩,r.al,r.ax,r.ae⟩:Runtime)=r from rfl,e1,aa,hw];exact hS rfl rfl rfl
      exact st _
    · obtain⟨kf,rfl⟩:∃m,kf=m+1:=⟨kf-1,by simp at hkf;omega⟩;rw[aG,<-g3 (fin:=fin) (kf:=kf) (by simp at hkf;omega)]
      have st:∀next,jn k (steps,(steps.length:Int),b1,b2,b3,b4,b5,b6,b7,[]) ((pre.length:Int),r.sched.now,r.sched.ai,r.sched.age,r.sched.run,r.sched.left,r.sched.turns,r.sched.next,evs,E,r.sched.tasks,r.al,r.ax,r.ae) next fin=next (((pre++[x]).length:Int),r'.sched.now,r'.sched.ai,r'.sched.age,r'.sched.run,r'.sched.left,r'.sched.turns,r'.sched.next,evs++e,E1,r'.sched.tasks,r'.al,r'.ax,r'.ae):=λnext=>by
        unfold jn;simp only;rw[decide_eq_true (by omega),cond_true,hat,aa,show(⟨⟨r.sched.now,r.sched.ai,r.sched.age,r.sched.tasks,r.sched.run,r.sched.left,r.sched.turns,r.sched.next⟩,r.al,r.ax,r.ae⟩:Runtime)=r from rfl,e2,aa,hw];exact hI rfl rfl rfl rfl rfl rfl
      exact st _
theorem Qv {a b:Int} (h:ba (wM a b)=true):zY (rt0 (wM a b)) [] [] 0:=⟨Qu h,rfl,λi hi=>absurd hi (by simp),(λi hi=>nomatch hi),RE _,RE _,λe h=>(by cases h),λy h=>(by cases h)⟩
theorem G7 {k:Nat} (hk:20000000<=k) {a b:Int} {xs:List Step} (hs:∀x∈xs,lR x) {Q:List Step->Runtime->List Entry->Prop}
  (hQ:∀(pre:List Step) (x:Step) (r r':Runtime) (E E1:List Entry) (evs e:List Event),zY r E evs pre.length->pre.length<200->Q pre r E->zz r x e r'.sched->Made r x e E E1 r'->Q (pre++[x]) r' E1) (h0:ba (wM a b)=true->Q [] (rt0 (wM a b)) []):
  (iQ k a b xs=some ([],[],(iQ k a b xs).elim Py (λv=>v.2.2.1),false)/\sd k a b xs=some (Py,[],[],false)/\(iQ k a b xs).isSome/\(ba (wM a b)&&decide (xs.length<=200))=false)\/
  ∃(r:Runtime) (E:List Entry) (evs:List Event),zY r E evs xs.length/\xs.length<=200/\(Q xs r E/\ba (wM a b)=true)/\iQ k a b xs=some (E,evs,r,true)/\sd k a b xs=some (r,evs,E,true):=by
 unfold iQ sd;rw[zA (by omega),zB (by omega),aa,aa];cases c:ba (wM a b)
 ·exact .inl ⟨rfl,rfl,rfl,rfl⟩
 simp only[cond_true,Rq,cond_false];by_cases c2:(xs.length:Int)>200
 ·rw[decide_eq_true c2];exact .inl ⟨rfl,rfl,rfl,by rw[decide_eq_false (by omega)];rfl⟩
 rw[decide_eq_false c2];simp only[cond_false];obtain⟨r,E,evs,g1,gQ,g2,g3⟩:=Bs hk hs (by omega) (a1:=0) (a2:=0) (a3:=0) (a4:=0) (a5:=0) (a6:=0) (a7:=0) (b1:=0) (b2:=0) (b3:=0) (b4:=0) (b5:=0) (b6:=0) (b7:=0) hQ xs [] (rt0 (wM a b)) [] [] rfl (Qv c) (h0 c);exact .inr ⟨r,E,evs,g1,by omega,⟨gQ,by first|rfl|trivial⟩,g2 (by omega),g3 (by omega)⟩
theorem JU {k:Nat} (hk:20000000<=k) {a b:Int} {xs:List Step} (hs:∀x∈xs,lR x):
  (iQ k a b xs=some ([],[],(iQ k a b xs).elim Py (λv=>v.2.2.1),false)/\sd k a b xs=some (Py,[],[],false)/\(iQ k a b xs).isSome)\/
  ∃(r:Runtime) (E:List Entry) (evs:List Event),zY r E evs xs.length/\xs.length<=200/\iQ k a b xs=some (E,evs,r,true)/\sd k a b xs=some (r,evs,E,true):=by
 rcases G7 hk hs (a:=a) (b:=b) (Q:=λ_ _ _=>True) (λ_ _ _ _ _ _ _ _ _ _ _ _ _=>trivial) λ_=>trivial with⟨h1,h2,h3,_⟩|⟨r,E,evs,h1,h2,_,h3⟩
 ·exact .inl ⟨h1,h2,h3⟩
 ·exact .inr ⟨r,E,evs,h1,h2,h3⟩
end
set_option maxRecDepth 100000
set_option maxHeartbeats 4000000
section
def waits (E:List Entry):List Int:=(E.filter λy=>y.done).map λy=>IntKind.i64.wrap (y.end_-y.at_)
end
set_option maxRecDepth 100000
set_option maxHeartbeats 4000000
section
def seg (lo hi a b:Int):Int:=if(if hi<b then hi else b)>(if lo>a then lo else a)then(if hi<b then hi else b)-(if lo>a then lo else a)else 0
def GW (lo hi:Int):Int->List Step->Int
 |_,[]=>0
 |now,x::l=>cond (x.kind==5) (seg lo hi now (now+takes x)) 0+GW lo hi (now+takes x) l
end
set_option maxRecDepth 100000
set_option maxHeartbeats 4000000
section
end
set_option maxRecDepth 100000
set_option maxHeartbeats 4000000
section
end
section
theorem Io (t:ak) (l:ay):(yX t l).1.data.length<=512:=by
 cases h1:t.okB
 ·unfold yX;rw[h1];exact RX _
 cases h2:gL t.sh l
 ·unfold yX;rw[h1,h2];exact RX _
 obtain⟨h3,_,_⟩:=vj h1 h2;unfold ak.okB at h3;simp only[Rk,decide_eq_true_eq]at h3;have:=Shape.Cx (yX t l).1.sh;omega
def fO (t:ak) (ls:List ay):ak:=ls.foldl (λt l=>(yX t l).1) t
theorem Bt:∀(ls:List ay) (t:ak),(fO t ls).data.length<=t.data.length+512
 |[],t=>Nat.le_add_right _ _
 |l::ls,t=>by
  have:∀(ls:List ay) (t:ak),t.data.length<=512->(fO t ls).data.length<=512:=λls=>by
   induction ls with
   |nil=>exactλt h=>h
   |cons l ls ih=>exactλt _=>ih _ (Io t l)
  have:=this ls (yX t l).1 (Io t l);show(fO (yX t l).1 ls).data.length<=_;omega
theorem sA {t:ak} {ls:List ay} {i:Nat} (h:i<ls.length):fO t (ls.take (i+1))=(yX (fO t (ls.take i)) ls[i]).1:=by
 unfold fO;rw[dq h,Sc];rfl
def kr (m:Model) (t:ak):ak× Bool:=cond (di m&&(t.okB&&decide (t.sh=m.inp))) (fO t m.ar,true) (⟨iR,[]⟩,false)
def stE (i:Nat) (t:ak):Int× Int× Int× Int× List Int:=((i:Int),t.sh.h,t.sh.w,t.sh.c,t.data)
theorem zZ {k:Nat} {m:Model} {t:ak} (hk:m.tot+t.data.length+520<k) (hN:m.tot+t.data.length+520<=aQ):oC k m t=some (kr m t):=by
  have hM:=ao;unfold oC kr;rw[p6 (by omega) (by omega),aa];cases hm:di m
  · rfl
  simp only[Rq,cond_false,Rs];rw[gg (by omega) (by unfold pc;omega),aa,CA];cases t.okB
  · rfl
  simp only[Rq,cond_false,Rs];cases decide (t.sh=m.inp)
  · rfl
  simp only[Rq,cond_false,cond_true];rw[mE (by omega) (by omega),aa];obtain⟨hl,_⟩:=lk hm
  exact ep (g:=λu7 n7=>gG k (m.inp.h,m.inp.w,m.inp.c,m.ar,(0:Int),(0:Int),(0:Int)) u7 n7 (λy6=>some ((⟨(⟨y6.1,y6.2.1,y6.2.2.1⟩:Shape),y6.2.2.2⟩:ak),true)))
    (st:=λi=>stE i (fO t (m.ar.take i))) (n:=m.ar.length) (r:=some (fO t m.ar,true)) (λi hi next=>by
      have hlen:=Bt (m.ar.take i) t;have hlt:=mF (k:=k) (m:=m) (by omega) (by omega) (Rp hi);unfold stE;simp only[gG]
      rw[ab,if_pos (by omega),aC,ag hi,aa,show(⟨⟨(fO t (m.ar.take i)).sh.h,(fO t (m.ar.take i)).sh.w,(fO t (m.ar.take i)).sh.c⟩,(fO t (m.ar.take i)).data⟩:ak)=fO t (m.ar.take i)from rfl,
        tS (by omega) (by omega) (by omega) hlt.1 hlt.2,aa,aq hi (by omega),sA hi]) (λnext=>by
      rw[Sa];unfold stE;simp only[gG]
      rw[ab,if_neg (by omega)]) (k:=k) (by omega)
theorem Aa {k:Nat} {m:Model} {t:ak} (hk:m.tot+t.data.length+520<k) (hN:m.tot+t.data.length+520<=aQ):oD k m t=some (kr m t):=by
  have hM:=ao;unfold oD kr;rw[mG (by omega) (by omega),aa];cases hm:di m
  · rfl
  simp only[Rq,cond_false,Rs];rw[oL (by omega) (by unfold pc;omega),aa,CA];cases t.okB
  · rfl
  simp only[Rq,cond_false,Rs];cases decide (t.sh=m.inp)
  · rfl
  simp only[Rq,cond_false,cond_true];obtain⟨hl,_⟩:=lk hm
  have h0:0<m.ar.length:=by omega
  have hlt0:=mF (k:=k) (m:=m) (by omega) (by omega) (Rp h0);rw[ab,if_pos (by omega),s8,ag h0,aa,oS (by omega) (by omega) (by omega) hlt0.1 hlt0.2,aa]
  have e0:((1:Int),(yX t m.ar[0]).1.sh.h,(yX t m.ar[0]).1.sh.w,(yX t m.ar[0]).1.sh.c,(yX t m.ar[0]).1.data)=stE (0+1) (fO t (m.ar.take (0+1))):=by
    rw[sA h0];rfl
  rw[e0]
  exact ep (g:=λu8 n8=>gH k (m.ar,(m.ar.length:Int),(0:Int),(0:Int),(0:Int)) u8 n8 (λy7=>some ((⟨(⟨y7.1,y7.2.1,y7.2.2.1⟩:Shape),y7.2.2.2⟩:ak),true)))
    (st:=λi=>stE (i+1) (fO t (m.ar.take (i+1)))) (n:=m.ar.length-1) (r:=some (fO t m.ar,true)) (λi hi next=>by
      have hi:i+1<m.ar.length:=by omega
      have hlen:=Bt (m.ar.take (i+1)) t;have hlt:=mF (k:=k) (m:=m) (by omega) (by omega) (Rp hi);unfold stE;simp only[gH]
      rw[ab,if_pos (by omega),aC,ag hi,aa,show(⟨⟨(fO t (m.ar.take (i+1))).sh.h,(fO t (m.ar.take (i+1))).sh.w,(fO t (m.ar.take (i+1))).sh.c⟩,(fO t (m.ar.take (i+1))).data⟩:ak)=fO t (m.ar.take (i+1))from rfl,
        oS (by omega) (by omega) (by omega) hlt.1 hlt.2,aa,aq hi (by omega),sA hi]) (λnext=>by
      rw[show m.ar.length-1+1=m.ar.length from by omega,Sa];unfold stE;simp only[gH]
      rw[ab,if_neg (by omega)]) (k:=k) (by omega)
end
set_option maxRecDepth 100000
set_option maxHeartbeats 4000000
section
theorem Mk {t:ak} (h:t.okB=true):t.data.length<=512:=by
 unfold ak.okB at h;simp only[Rk,decide_eq_true_eq]at h;have:=t.sh.Cx;omega
theorem Fb:∀(ls:List ay) (t:ak),(cg t.sh ls).isSome=true->t.okB=true->(fO t ls).okB=true
 |[],t,h,ht=>ht
 |l::ls,t,h,ht=>by
  simp only[cg]at h;cases hb:gL t.sh l<;>simp only[hb,cond_true,cond_false]at h
  ·exact nomatch h
  ·rw[Option.isSome_map]at h;obtain⟨g1,g2,_⟩:=vj ht hb;exact Fb ls (yX t l).1 (by rw[g2];exact h) g1
theorem Ip {m:Model} {t:ak} (h:(kr m t).2=true):(kr m t).1.okB=true:=by
 unfold kr at h⊢;cases hm:di m<;>rw[hm]at h<;>simp only[R8,Rs,cond_false,cond_true]at h⊢
 ·exact nomatch h
 ·cases ht:t.okB<;>rw[ht]at h<;>simp only[R8,Rs,cond_false,cond_true]at h⊢
  ·exact nomatch h
  ·by_cases c:t.sh=m.inp
   ·rw[decide_eq_true c];refine Fb m.ar t ?_ ht;unfold di dy at hm;rw[c];cases h1:(m.inp.okB&&inB (m.ar.length:Int) 1 6)<;>rw[h1]at hm
    ·exact nomatch hm
    ·cases h2:cg m.inp m.ar with
     |none=>rw[h2]at hm;exact nomatch hm
     |some u=>rfl
   ·rw[decide_eq_false c]at h;exact nomatch h
theorem zC {k:Nat} {a b:ak} (ha:a.data.length<=4000) (hb:b.data.length<=4000) (hk:4000<k):j9 k a b=some (a.okB&&(b.okB&&decide (a=b))):=by
  have hL:pc=9223372036854775807:=rfl;unfold j9;rw[gg (by omega) (by omega),aa,gg (by omega) (by omega),aa];cases h1:a.okB
  · rfl
  cases h2:b.okB
  · rfl
  simp only[Rq,cond_false,Rs]
  have hs:(cond (a.sh.h==b.sh.h) (cond (a.sh.w==b.sh.w) (cond (a.sh.c==b.sh.c) true false) false) false)=decide (a.sh=b.sh):=by
    obtain⟨⟨ah,aw,ac⟩,ad⟩:=a;obtain⟨⟨bh,bw,bc⟩,bd⟩:=b;by_cases c1:ah=bh<;>by_cases c2:aw=bw<;>by_cases c3:ac=bc<;>simp[c1,c2,c3]
  rw[hs];by_cases c:a.sh=b.sh
  · rw [decide_eq_true c]
    have hlen:a.data.length=b.data.length:=by
      unfold ak.okB at h1 h2;simp only[Rk,decide_eq_true_eq]at h1 h2;rw[c]at h1;omega
    simp only[Rq,cond_false];refine(za a.data.length (λi=>decide (a.data[i]? =b.data[i]?)) (g:=λu7 n7=>fN k (a.sh.h,a.sh.w,a.sh.c,a.data,b.sh.h,b.sh.w,b.sh.c,b.data) u7 n7 (λy5=>some true) (λy6=>some y6)) (yes:=some true) (no:=some false) (λi hi next=>?_) (λnext=>?_) (by omega)).trans ?_
    · simp only[fN];rw[decide_eq_true (by omega),cond_true,aC,aC,ag hi,ag (show i<b.data.length by omega),aa,aa,aq hi (by omega),kE];by_cases d:a.data[i]=b.data[i]
      · rw[if_pos d,decide_eq_true (by rw[d])];rfl
      · rw[if_neg d,decide_eq_false (by simpa using d)];rfl
    · simp only[fN];rw[ab,if_neg (by omega)]
    · by_cases d:a=b
      · subst d;rw[decide_eq_true rfl,show((List.range a.data.length).all λi=>decide (a.data[i]? =a.data[i]?))=true from by simp];rfl
      · rw [decide_eq_false d];cases hv:(List.range a.data.length).all λi=>decide (a.data[i]? =b.data[i]?)
        · rfl
        · refine absurd ?_ d;obtain⟨ash,ad⟩:=a;obtain⟨bsh,bd⟩:=b;simp only at c hlen hv;subst c
          congr 1
          refine List.ext_getElem? λi=>?_;by_cases hi:i<ad.length
          · have:=SB.1 hv i (by simpa using hi);simpa using this
          · rw[RJ (by omega),RJ (by omega)]
  · rw[decide_eq_false c,decide_eq_false (λe=>c (by rw[e]))];rfl
def vX (E:List Entry) (e:Event):Bool:=let v:=kr (E.getD (e.a-1).toNat noEntry).model (E.getD (e.a-1).toNat noEntry).input;v.2&&decide (v.1=e.out)
theorem JV {m:Model} {t:ak} (h:(kr m t).2=false):(kr m t).1.okB=false:=by
 unfold kr at h⊢;cases hc:(di m&&(t.okB&&decide (t.sh=m.inp)))<;>rw[hc]at h
 ·rfl
 ·exact nomatch h
theorem Bu (m:Model) (t:ak):(kr m t).1.data.length<=512:=by
 cases h:(kr m t).2
 ·unfold kr at h⊢;cases hc:(di m&&(t.okB&&decide (t.sh=m.inp)))<;>rw[hc]at h
  ·simp[cond_false]
  ·exact nomatch h
 ·exact Mk (Ip h)
theorem Ml {k:Nat} (hk:20000000<=k) {m:Model} {t u:ak} (hu:u.okB=true):j9 k (kr m t).1 u=some ((kr m t).2&&decide ((kr m t).1=u)):=by
 have h1:=Bu m t;have h2:=Mk hu;rw[zC (by omega) (by omega) (by omega),hu];cases h:(kr m t).2
 ·rw[JV h];rfl
 ·rw[Ip h];rfl
theorem Mm {k:Nat} (hk:20000000<=k) {E:List Entry} {evs:List Event} {r:Runtime} {n:Nat} (hst:zY r E evs n) (hn:n<=200) {i:Nat} (hi:i<evs.length) (c:evs[i].kind=3) {R:Type} {next:Option R} {no:Bool->Option R}:
  iter (λu12 n12=>dM k ((i:Int),E,evs) u12 n12 (λy10=>next) (λy11=>no y11)) k (0:Int)=cond (vX E evs[i]) next (no false):=by
 have hE:=hst.Q8;obtain⟨a1,a2,a3⟩:=hst.ended _ (Rp hi) c;have hvl:=hst.Q9;refine(jy E (λy=>!(y.id==evs[i].a)||((kr y.model y.input).2&&decide ((kr y.model y.input).1=evs[i].out))) (g:=λu12 n12=>dM k ((i:Int),E,evs) u12 n12 (λy10=>next) (λy11=>no y11)) (yes:=next) (no:=no false) (λj hj nx=>?_) (λnx=>?_) (by omega)).trans ?_
 ·have hd:decide (0<=(j:Int)/\(j:Int)<(E.length:Int))=true:=decide_eq_true (by omega);have hd2:decide (0<=(i:Int)/\(i:Int)<(evs.length:Int))=true:=decide_eq_true (by omega);obtain⟨s1,s2⟩:=hst.small _ (Rp hj);have s3:E[j].input.tot=E[j].input.data.length:=rfl;have hM:=ao;simp only[dM,hd,hd2,cond_true,Rm,ag hj,ag hi,aa];rw[decide_eq_true (by omega),cond_true,zZ (by omega) (by omega),aa,Ml hk a3,aa,aq hj (by omega)];cases(E[j].id==evs[i].a)<;>cases((kr E[j].model E[j].input).2&&decide ((kr E[j].model E[j].input).1=evs[i].out))<;>rfl
 ·simp only[dM];rw[ab,if_neg (by omega)]
 ·have hm:(evs[i].a-1).toNat<E.length:=by omega
  have hid:=hst.E9 _ hm
  congr 1
  unfold vX;rw[bE hm];simp only;cases hv:((kr E[(evs[i].a-1).toNat].model E[(evs[i].a-1).toNat].input).2&&decide ((kr E[(evs[i].a-1).toNat].model E[(evs[i].a-1).toNat].input).1=evs[i].out))
  ·rw[List.all_eq_false];refine⟨E[(evs[i].a-1).toNat],Rp hm,?_⟩;rw[hv,show(E[(evs[i].a-1).toNat].id==evs[i].a)=true from by rw[beq_iff_eq,hid];omega];simp
  ·rw[SB];intro y hy;obtain⟨j,hj,rfl⟩:=RR.1 hy;have:=hst.E9 j hj;by_cases d:E[j].id=evs[i].a
   ·have e:(evs[i].a-1).toNat=j:=by omega
    subst e;rw[hv];simp
   ·rw[show(E[j].id==evs[i].a)=false from by simpa using d];rfl
theorem vw {k:Nat} (hk:20000000<=k) {a b:Int} {xs:List Step} (hs:∀x∈xs,lR x):∃v:Bool,jE k a b xs=some v/\jF k a b xs=some v:=by
  have hM:=ao;unfold jE jF
  rcases JU hk hs (a:=a) (b:=b)with⟨h1,h2,_⟩|⟨r,E,evs,hst,hl,h1,h2⟩
  · refine⟨false,by rw[h1];rfl,?_⟩;rw[h2,aa];obtain⟨k,rfl⟩:∃m,k=m+1:=⟨k-1,by omega⟩;rw[aG];show dh (k+1) _ _ _ _ _=_;simp only[dh,Py];rw[decide_eq_false (by simp),cond_false]
  · have hE:=hst.Q8;have hvl:=hst.Q9;refine⟨evs.all λe=>!(e.kind==3)||vX E e,?_,?_⟩
    · rw[h1,aa];simp only[Rq,cond_false];refine(jy evs (λe=>!(e.kind==3)||vX E e) (g:=λu15 n15=>eX k (E,evs) u15 n15 (λy13=>some true) (λy14=>some y14)) (yes:=some true) (no:=some false) (λi hi next=>?_) (λnext=>?_) (by omega)).trans ?_
      · have hd:decide (0<=(i:Int)/\(i:Int)<(evs.length:Int))=true:=decide_eq_true (by omega);simp only[eX,hd,cond_true,Rm,ag hi,aa];rw[decide_eq_true (by omega),cond_true,aq hi (by omega),kE];by_cases c:evs[i].kind=3
        · rw[if_pos c,Mm hk hst hl hi c,show(evs[i].kind==(3:Int))=true from by simpa using c];simp
        · rw[if_neg c,show(evs[i].kind==(3:Int))=false from by simpa using c];rfl
      · simp only[eX];rw[ab,if_neg (by omega)]
      · cases evs.all λe=>!(e.kind==3)||vX E e<;>rfl
    · rw [h2, aa];refine(jy evs (λe=>!(e.kind==3)||vX E e) (g:=λu8 n8=>dh k (true,(evs.length:Int),E,evs) u8 n8 (λy6=>some true) (λy7=>some y7)) (yes:=some true) (no:=some false) (λi hi next=>?_) (λnext=>?_) (by omega)).trans ?_
      · have hd:decide (0<=(i:Int)/\(i:Int)<(evs.length:Int))=true:=decide_eq_true (by omega);simp only[dh,hd,cond_true,Rm,ag hi,aa];rw[decide_eq_true (by omega),cond_true,aq hi (by omega),kE];by_cases c:evs[i].kind=3
        · obtain⟨a1,a2,a3⟩:=hst.ended _ (Rp hi) c
          have hm:(evs[i].a-1).toNat<E.length:=by omega
          obtain⟨s1,s2⟩:=hst.small _ (Rp hm);have s3:E[(evs[i].a-1).toNat].input.tot=E[(evs[i].a-1).toNat].input.data.length:=rfl;have hL:pc=9223372036854775807:=rfl;have hv:=Bu E[(evs[i].a-1).toNat].model E[(evs[i].a-1).toNat].input;rw[if_pos c,aH (n:=evs[i].a-1) (by omega) (by omega),decide_eq_true (by omega),cond_true,ag hm,aa,Aa (by omega) (by omega),aa,v7 (by omega) (by omega),aa,show(evs[i].kind==(3:Int))=true from by simpa using c];unfold vX;rw[bE hm];simp only;cases(kr E[(evs[i].a-1).toNat].model E[(evs[i].a-1).toNat].input).2<;>cases decide ((kr E[(evs[i].a-1).toNat].model E[(evs[i].a-1).toNat].input).1=evs[i].out)<;>rfl
        · rw[if_neg c,show(evs[i].kind==(3:Int))=false from by simpa using c];rfl
      · simp only[dh];rw[ab,if_neg (by omega)]
      · cases evs.all λe=>!(e.kind==3)||vX E e<;>rfl
theorem nN (a b:Int) (xs:List Step) (ha:okI a) (hb:okI b) (hx:okS Step.Ok xs):∃k,cQ k a b xs=some true:=by
 suffices h:∀kk,fy Step.tot xs+20000000<=kk->cQ kk a b xs=some true from⟨_,h _ (RE _)⟩
 intro kk hkk;have hM:=ao;have hlen:=bu Step.tot xs;unfold cQ;rw[Gz (n:=1048576) hx (by omega) (by omega) (by omega),aa,ab];by_cases c:(1048576:Int)<(fy Step.tot xs:Int)
 ·simp only[if_pos c];rfl
 simp only[if_neg c];rw[if_neg (by omega)]
 have hk:fy Step.tot xs<kk:=by omega
 have hN:fy Step.tot xs<=aQ:=by omega
 obtain⟨v,q1,q2⟩:=vw (k:=kk) (by omega) (a:=a) (b:=b) (G6 hx (by omega));simp only[GA hk hN,aa,q1,q2,GC (ys:=xs) hk hN,decide_true,cond_not,cond_true];cases v<;>rfl
end
end Go.Proofs.Ev
