/- Typed functions and what holds of them: part 7. -/
import Derived.Test.YtkjdnpefjebmlaaGreatDoorEvL6
set_option linter.unusedVariables false
set_option linter.unusedSimpArgs false
set_option linter.unusedSectionVars false
namespace Go.Proofs.Ev
open IntKind(i64 u8 u64)
set_option maxRecDepth 100000
set_option maxHeartbeats 4000000
section
theorem VE {x:Step} (h:oW x=true) (hd:∀y∈x.data,okB y):∀y∈eI x,okB y:=λy hy=>by
 obtain⟨l1,l2,⟨w1,w2,w3⟩,⟨w4,w5,w6⟩,w7⟩:=wI.1 h;have e:=uP x [];rw[XY]at e;rw[e]at hy;simp only[Yr,List.not_mem_nil,or_false]at hy;have a4:=nm (dT (n:=x.data.length) (by omega));have a8:=nm (dT (n:=x.input.data.length) (by omega))
 rcases hy with h|h|h|h|h|h|h|h|h|h
 ·exact nm w1 y h
 ·exact nm w2 y h
 ·exact nm w3 y h
 ·exact a4 y h
 ·exact hd y h
 ·exact nm w4 y h
 ·exact nm w5 y h
 ·exact nm w6 y h
 ·exact a8 y h
 ·exact R6 w7 y h
theorem Sd {xs:List Step} (h:xs.all oW=true) (hd:∀x∈xs,∀y∈x.data,okB y) (hn:xs.length<=200):∀y∈oV xs,okB y:=λy hy=>by
 have e:=Ew xs [];rw[XY]at e;rw[e]at hy;simp only[Yr,List.not_mem_nil,or_false,X3]at hy
 rcases hy with(h0|h0)|h0|h0|h0
 ·subst h0;exact⟨by omega,by omega⟩
 ·subst h0;exact⟨by omega,by omega⟩
 ·exact nm (dT (by omega)) y h0
 ·obtain⟨x,hx,hy⟩:=Zk.1 h0;exact VE (X6.1 h x hx) (hd x hx) y hy
 ·exact nm (Ap _) y h0
theorem qN {x:Int} (h:cK x=true):okI x:=by
 have:=bd.1 h;exact⟨by omega,by omega⟩
theorem Uq {x:Step} (h:oW x=true) (hd:∀y∈x.data,okB y):x.Ok:=by
 obtain⟨l1,l2,⟨w1,w2,w3⟩,⟨w4,w5,w6⟩,w7⟩:=wI.1 h;exact⟨qN w1,qN w2,qN w3,⟨by unfold pK;omega,hd⟩,⟨qN w4,qN w5,qN w6⟩,⟨by unfold pK;omega,λy hy=>qN (X6.1 w7 y hy)⟩⟩
theorem NG {x:Step} (h:oW x=true):x.tot<=6512:=by
 obtain⟨l1,l2,_⟩:=wI.1 h;show x.data.length+(x.input.data.length+0+0)<=_;omega
theorem Se {xs:List Step} (h:xs.all oW=true) (hd:∀x∈xs,∀y∈x.data,okB y) (hn:xs.length<=200):okS Step.Ok xs:=⟨by unfold pK;omega,λx hx=>Uq (X6.1 h x hx) (hd x hx)⟩
theorem CS (a:List Step):mD a a=-1:=by
 unfold mD
 have:(a.zip a).findIdx? (λp=>!decide (p.1=p.2))=none:=by
  rw[YS];intro p hp;have:=List.of_mem_zip hp;obtain⟨i,hi,e⟩:=Yf.1 hp;rw[List.getElem_zip]at e;subst e;simp
 rw[this,X5,if_pos rfl]
theorem KH (xs:List Step):(tW xs=([],false))\/(tW xs=(oV xs,true)/\xs.all oW=true/\xs.length<=200/\(oV xs).length<=20000):=by
 unfold tW;by_cases c1:(xs.length:Int)>200
 ·rw[decide_eq_true c1];exact .inl rfl
 rw[decide_eq_false c1,cond_false];cases hp:xs.all oW
 ·exact .inl rfl
 rw[cond_true];by_cases c2:((lA (fK xs.length++cE xs)).length:Int)>20000
 ·rw[decide_eq_true c2];exact .inl rfl
 rw[decide_eq_false c2,cond_false];exact .inr ⟨rfl,rfl,by omega,by unfold oV;omega⟩
theorem NH {xs:List Step} (hp:xs.all oW=true) (hn:xs.length<=200) (hl:(oV xs).length<=20000):ni (oV xs)=(xs,0):=by
 have:=Sc (b:=oV xs) (tail:=[]) hp hn (by simp) hl;rw[this];rfl
end
set_option maxRecDepth 100000
set_option maxHeartbeats 4000000
section
def waits (E:List Entry):List Int:=(E.filter λy=>y.done).map λy=>i64.wrap (y.end_-y.at_)
end
set_option maxRecDepth 100000
set_option maxHeartbeats 4000000
section
def seg (lo hi a b:Int):Int:=if(if hi<b then hi else b)>(if lo>a then lo else a)then(if hi<b then hi else b)-(if lo>a then lo else a)else 0
def Kw (lo hi:Int):Int->List Step->Int
 |_,[]=>0
 |now,x::l=>cond (x.kind==5) (seg lo hi now (now+takes x)) 0+Kw lo hi (now+takes x) l
end
set_option maxRecDepth 100000
set_option maxHeartbeats 4000000
section
end
set_option maxRecDepth 100000
set_option maxHeartbeats 4000000
section
def more (st:Bool) (n:Int) (f:Int->Int->Int):Int->Int->Int:=λa b=>f a b+cond st (if n+1>a/\n+1<=b then 1 else 0) 0
end
set_option maxRecDepth 100000
set_option maxHeartbeats 4000000
section
end
set_option maxRecDepth 100000
set_option maxHeartbeats 4000000
section
end
set_option maxRecDepth 100000
set_option maxHeartbeats 4000000
section
theorem Sf {k:Nat} {e acc:List Event} {R:Type} {p:List Step× Int× List Event× Int× Int× Int× Int× Int× Int× Int× Int× Int× Int× Int× Int× Int× Int× List Request× List Task× List Model× List Bool× List Request} {fin:List Event->Option R}
  (hp:p.2.2.1=e) (hk:2000000<=k) (he:e.length<=1000) (ha:acc.length<=1000000):iter (λu n=>eP k p u n fin) k ((0:Int),acc)=fin (acc++e):=by
 have hM:=aj;subst hp
 have:=HJ p.2.2.1 id acc (g:=λu n=>eP k p u n fin) (fin:=fin) (λi ys hi next hy=>by
  simp only[eP]
  rw[decide_eq_true (by omega),cond_true,aD,ag hi,aa,bR (by omega),al hi (by omega)];rfl) (λys next=>by
  simp only[eP];rw[ab,if_neg (by omega)]) (k:=k) (by omega)
 rwa [List.map_id]at this
end
set_option maxRecDepth 100000
set_option maxHeartbeats 4000000
section
structure IZ (kd:Int) (v:Event):Prop where
 a:v.a=kd\/okI v.a
 b:okI v.b
 out:v.out.Ok
 len:v.out.data.length<=2000000
theorem Sg:zG.Ok:=⟨⟨⟨by decide,by decide⟩,⟨by decide,by decide⟩,⟨by decide,by decide⟩⟩,⟨Ya _,λy hy=>nomatch hy⟩⟩
theorem gQ {n:Int} (h:-9000000000<=n/\n<=9000000000):okI n:=⟨by omega,by omega⟩
theorem IM (z:Int):okI (i64.wrap z):=by
 have h:i64.wrap z=if z %18446744073709551616>=9223372036854775808 then z %18446744073709551616-18446744073709551616 else z %18446744073709551616:=by
  unfold IntKind.wrap;simp[IntKind.bits,IntKind.signed]
 rw[h];split<;>exact⟨by omega,by omega⟩
theorem mE {kd k a b:Int} (ha:a=kd\/okI a) (hb:okI b):IZ kd ⟨k,a,b,zG⟩:=⟨ha,hb,Sg,Ya _⟩
theorem fH {kd c:Int} (hc:okI c):∀v∈cU kd c,IZ kd v:=λv hv=>by rw[Ym.1 hv];exact mE (.inl rfl) hc
theorem Qt (m:Model):okI (sa m):=by
 unfold sa
 have:∀(l:List Int) (s:Int),okI s->okI (l.foldl (λs x=>i64.wrap (s+x)) s):=λl=>by
  induction l with
  |nil=>intro s h;exact h
  |cons x l ih=>intro s h;exact ih _ (IM _)
 exact this _ 0 ⟨by omega,by omega⟩
theorem Si (r:Runtime) (x:Step):∀v∈(pJ r x).1,IZ x.kind v:=by
 unfold pJ;cases c:(inB x.a 0 3&&!r.aq.getD x.a.toNat false)
 ·exact fH ⟨by omega,by omega⟩
 have c1:=bd.1 (Yn.1 c).1;cases(decide ((dR x.data).2=0)&&sr (dR x.data).1)
 ·exact fH ⟨by omega,by omega⟩
 ·intro v hv;rw[Ym.1 hv];exact mE (.inr (gQ (by omega))) (Qt _)
theorem Gh {kd:Int} (a:Int):∀(qs:List Request) (e:List Event) (s:ak) (rs:List Request),(∀q∈qs,okI q.id)->(∀v∈e,IZ kd v)->∀v∈(wF a qs e s rs).1,IZ kd v
 |[],e,s,rs,_,h=>h
 |q::qs,e,s,rs,hq,h=>by
  unfold wF;cases q.model==a
  ·exact Gh a qs e s rs (λx hx=>hq x (XV _ hx)) h
  ·refine Gh a qs _ _ _ (λx hx=>hq x (XV _ hx)) λv hv=>?_
   rcases Yr.1 hv with hv|hv
   ·exact h v hv
   ·rw[Ym.1 hv];exact mE (.inr (hq q Yc)) ⟨by omega,by omega⟩
theorem Qu {r:Runtime} (h:pM r):∀q∈r.ae,okI q.id:=λq hq=>by
 have:=h.lt q.id (ZE.2 ⟨q,hq,rfl⟩);have:=h.s.next;exact gQ (by omega)
theorem NI {r:Runtime} (h:pM r) (x:Step):∀v∈(eo r x).1,IZ x.kind v:=by
 unfold eo;cases c:IY r x.a
 ·exact fH ⟨by omega,by omega⟩
 have c1:=bd.1 (Yn.1 c).1;intro v hv
 rcases Yr.1 hv with hv|hv
 ·exact Gh (kd:=x.kind) x.a r.ae [] r.sched r.ae (Qu h) (λv hv=>nomatch hv) v hv
 ·rw[Ym.1 hv];exact mE (.inr (gQ (by omega))) ⟨by omega,by omega⟩
theorem NJ {r:Runtime} (h:pM r) (x:Step):∀v∈(dS r x).1,IZ x.kind v:=by
 have hn:=h.s.now;have hx:=h.s.next;unfold dS;cases IY r x.a
 ·exact fH ⟨by omega,by omega⟩
 simp only[cond_true];cases(dw (r.ao.getD x.a.toNat en) x.input).2
 ·exact fH ⟨by omega,by omega⟩
 simp only[cond_true];cases c:inB x.b 0 1000000
 ·exact fH ⟨by omega,by omega⟩
 have c:=bd.1 c;simp only[cond_true];generalize bC (dw (r.ao.getD x.a.toNat en) x.input).1.model=cs;by_cases c3:(eY r.sched cs (r.sched.now+x.b)).2.2=0
 ·obtain⟨h1,_⟩:=Ak c3;rw[decide_eq_true c3];intro v hv;have hv:v∈[(⟨2,(eY r.sched cs (r.sched.now+x.b)).2.1,r.sched.now+x.b,zG⟩:Event)]:=hv;rw[Ym.1 hv,h1];exact mE (.inr (gQ (by omega))) (gQ (by omega))
 ·rw[decide_eq_false c3];exact fH (IM _)
theorem VF {st:Bool} {n:Nat} {s u:ak} {e:List Event} (h:Tr st n s e u):SOk s->∀v∈e,v.kind=3/\okI v.b:=by
 induction h with
 |nil=>exactλ_ v hv=>nomatch hv
 |tick h1 h2 _ ih=>
  intro hs v hv;have hs':=Qf hs st;rw[<-h1]at hs'
  rcases Yr.1 hv with hv|hv
  ·rcases h2 with⟨rfl,_⟩|⟨t,rfl,_⟩
   ·exact nomatch hv
   ·rw[Ym.1 hv];have:=hs'.now;exact⟨rfl,gQ (by simp only;omega)⟩
  ·exact ih hs' v hv
theorem Qv {ids ids':List Int} {e:List Event} (h:nj ids e ids'):∀v∈e,v.kind=3->v.a∈ids/\v.out.okB=true:=by
 induction h with
 |nil=>exactλv hv=>nomatch hv
 |other h1 h2 h3 _ ih=>
  intro v hv hk
  rcases X3.1 hv with rfl|hv
  ·exact absurd hk h2
  ·exact ih v hv hk
 |ends h1 h2 h3 _ ih=>
  intro v hv hk
  rcases X3.1 hv with rfl|hv
  ·exact⟨h2,h3 hk⟩
  ·obtain⟨a1,a2⟩:=ih v hv hk;exact⟨(Yv.1 a1).1,a2⟩
theorem VG {t:az} (h:t.okB=true):t.Ok/\t.data.length<=513:=by
 unfold az.okB at h;rw[XB,XB,decide_eq_true_eq]at h;obtain⟨h1,h2,h3⟩:=h;have hs:=Shape.tc h1;have hb:=Shape.J8 t.sh;refine⟨⟨⟨gQ (by omega),gQ (by omega),gQ (by omega)⟩,⟨by unfold pK;omega,λy hy=>?_⟩⟩,by omega⟩;have:=bd.1 (X6.1 h3 y hy);exact gQ (by omega)
theorem Mb {e e':List Event} {r r':Runtime} (h:Nz e r=Nz e' r'):e=e':=congrArg Prod.fst h
theorem VH {k:Nat} (hk:20000000<=k) {r:Runtime} (h:pM r) {x:Step} (hx:nk x) {e:List Event} {r':Runtime} (hS:ng k r x=some (Nz e r')):∀v∈e,IZ x.kind v:=by
 have hM:=aj;have hq:=h.SS;have ht:=h.tot;obtain⟨e2,r2,_,_,told,hS2,_,sched⟩:=SU hk h hx;have he:e2=e:=Mb (YA (hS2.symm.trans hS));subst he
 rcases sched with⟨c,tr⟩|⟨c,_⟩
 ·have h1:=VF tr h.s;intro v hv;obtain⟨v3,vb⟩:=h1 v hv
  rcases told with⟨tl,_⟩|⟨due,he,_⟩
  ·obtain⟨a1,a2⟩:=Qv tl v hv v3;have:=h.lt v.a a1;have:=h.s.next;have ho:=VG a2;exact⟨.inr (gQ (by omega)),vb,ho.1,by omega⟩
  ·subst he;rw[Ym.1 hv]at v3;exact absurd v3 (show¬(2:Int)=3 by decide)
 ·unfold ng at hS;simp only[cO]at hS
  have fin:∀{e1:List Event} {r1:Runtime},some (Nz e1 r1)=some (Nz e2 r')->(∀v∈e1,IZ x.kind v)->∀v∈e2,IZ x.kind v:=λh1 h2=>by
   rw[<-Mb (YA h1)];exact h2
  by_cases c0:x.kind=0
  ·rw[if_pos c0,Iu (by omega) hx.byte (by have:=hx.data;omega) h.ll h.ml]at hS;exact fin (r1:=⟨r.sched,(pJ r x).2.1,(pJ r x).2.2,r.ae⟩) hS (Si r x)
  rw[if_neg c0]at hS;by_cases c1:x.kind=1
  ·rw[if_pos c1,CH h hk]at hS;exact fin (r1:=(eo r x).2) hS (NI h x)
  rw[if_neg c1]at hS;by_cases c2:x.kind=2
  ·rw[if_pos c2,CD h hk hx.input]at hS;exact fin (r1:=⟨(dS r x).2.1,r.ao,r.aq,(dS r x).2.2⟩) hS (NJ h x)
  rw[if_neg c2]at hS;by_cases c3:x.kind=3
  ·rw[if_pos c3,tz (by omega) (by omega),aa]at hS;by_cases cf:wE r.ae x.a<0
   ·rw[decide_eq_true cf]at hS;unfold bn at hS;exact fin (r1:=r) (e1:=cU x.kind 7) hS (fH ⟨by omega,by omega⟩)
   ·rw[decide_eq_false cf]at hS;obtain⟨q,hq1,hq2⟩:=Iy cf;have hid:1<=x.a:=hq2▸CC h q hq1;have hqi:=Qu h q hq1;rw[hq2]at hqi;rw[cond_false,xY (by omega) (by omega) h.s hid]at hS;refine fin (e1:=[CE x.a]) (r1:=Ui r x.a) hS λv hv=>?_;rw[Ym.1 hv];exact mE (.inr hqi) ⟨by omega,by omega⟩
  rw[if_neg c3]at hS
  have run:∀st,inB x.a 0 200=false->gI k r x st=some (cU x.kind 8,r.sched.now,r.sched.ai,r.sched.age,r.sched.tasks,r.sched.run,r.sched.left,r.sched.turns,r.sched.next,r.ae):=λst hc=>by
   unfold gI bn;rw[bN,aa,hc];simp only[X8,cond_true,aa,decide_true];rfl
  by_cases c4:x.kind=4
  ·rw[c4]at c;have c:inB x.a 0 200=false:=c;rw[if_pos c4,run _ c]at hS;exact fin (r1:=r) (e1:=cU x.kind 8) hS (fH ⟨by omega,by omega⟩)
  rw[if_neg c4]at hS;by_cases c5:x.kind=5
  ·rw[c5]at c;have c:inB x.a 0 200=false:=c;rw[if_pos c5,run _ c]at hS;exact fin (r1:=r) (e1:=cU x.kind 8) hS (fH ⟨by omega,by omega⟩)
  rw[if_neg c5]at hS;unfold bn at hS;exact fin (r1:=r) (e1:=cU x.kind 8) hS (fH ⟨by omega,by omega⟩)
end
set_option maxRecDepth 100000
set_option maxHeartbeats 4000000
section
theorem Ey {k:Nat} (hk:20000000<=k) {steps:List Step} (hs:∀x∈steps,nk x) (hl:steps.length<=200) {a1 a2 a3 a4 a5 a6 a7:Int}:∀(qs pre:List Step) (r:Runtime) (evs:List Event),steps=pre++qs->pM r->evs.length<=1000*pre.length->(∀v∈evs,∃x∈steps,IZ x.kind v)->
    ∃ (r' : Runtime) (evs' : List Event), pM r' /\ evs'.length <= 1000 * steps.length /\ (∀ v ∈ evs', ∃ x ∈ steps, IZ x.kind v) /\ (∀ {R : Type} {fin : _ -> Option R} {kf : Nat}, qs.length < kf -> iter (λ u8 n8 => dP k (steps, a1, a2, a3, a4, a5, a6, a7, []) u8 n8 fin) kf ((pre.length : Int), r.sched.now, r.sched.ai, r.sched.age, r.sched.run, r.sched.left, r.sched.turns, r.sched.next, evs, r.sched.tasks, r.ao, r.aq, r.ae) = fin (r'.sched.now, r'.sched.ai, r'.sched.age, r'.sched.run, r'.sched.left, r'.sched.turns, r'.sched.next, evs', r'.sched.tasks, r'.ao, r'.aq, r'.ae)) /\
      (∀{R:Type} {fin:_->Option R} {kf:Nat},qs.length<kf->iter (λu n=>dQ k (steps,(steps.length:Int),a1,a2,a3,a4,a5,a6,a7,[]) u n fin) kf ((pre.length:Int),r.sched.now,r.sched.ai,r.sched.age,r.sched.run,r.sched.left,r.sched.turns,r.sched.next,evs,r.sched.tasks,r.ao,r.aq,r.ae)=fin (r'.sched.now,r'.sched.ai,r'.sched.age,r'.sched.run,r'.sched.left,r'.sched.turns,r'.sched.next,evs',r'.sched.tasks,r'.ao,r'.aq,r'.ae))
  | [], pre, r, evs, hp, h, hv, he => by
    have hlen:steps.length=pre.length:=by rw[hp];simp
    refine⟨r,evs,h,by rw[hlen];exact hv,he,λ{R} {fin} {kf} hkf=>?_,λ{R} {fin} {kf} hkf=>?_⟩
    · obtain⟨kf,rfl⟩:∃m,kf=m+1:=⟨kf-1,by simp at hkf;omega⟩;rw[aI];show dP k _ _ _ fin=_;unfold dP;simp only;rw[decide_eq_false (by omega)];rfl
    · obtain⟨kf,rfl⟩:∃m,kf=m+1:=⟨kf-1,by simp at hkf;omega⟩;rw[aI];show dQ k _ _ _ fin=_;unfold dQ;simp only
      rw[decide_eq_false (by omega)];rfl
  | x :: qs, pre, r, evs, hp, h, hv, hev => by
    have hM:=aj
    have hlen:steps.length=pre.length+(qs.length+1):=by rw[hp];simp
    have hat:idx steps (pre.length:Int)=some x:=by rw[aD,hp];simp
    have QC:x∈steps:=by rw[hp];simp
    obtain⟨e,r',h',he,ht,e1,e2⟩:=Un hk h (hs x QC);have hes:=VH hk h (hs x QC) e1
    have hw:i64.wrap ((pre.length:Int)+1)=((pre++[x]).length:Int):=by rw[aL (by omega) (by omega),XG];rfl
    obtain⟨r2,evs2,o1,o2,o3,g,g2⟩:=Ey hk hs hl (a1:=a1) (a2:=a2) (a3:=a3) (a4:=a4) (a5:=a5) (a6:=a6) (a7:=a7) qs (pre++[x]) r' (evs++e) (by rw[hp];simp) h' (by simp only[XG,XI,X2];omega) (λv hv=>by
      rcases Yr.1 hv with hv|hv
      · exact hev v hv
      · exact⟨x,QC,hes v hv⟩)
    refine⟨r2,evs2,o1,o2,o3,λ{R} {fin} {kf} hkf=>?_,λ{R} {fin} {kf} hkf=>?_⟩
    · obtain⟨kf,rfl⟩:∃m,kf=m+1:=⟨kf-1,by simp at hkf;omega⟩;rw[aI,<-g (fin:=fin) (kf:=kf) (by simp at hkf;omega)]
      have st:∀next,dP k (steps,a1,a2,a3,a4,a5,a6,a7,[]) ((pre.length:Int),r.sched.now,r.sched.ai,r.sched.age,r.sched.run,r.sched.left,r.sched.turns,r.sched.next,evs,r.sched.tasks,r.ao,r.aq,r.ae) next fin=next (((pre++[x]).length:Int),r'.sched.now,r'.sched.ai,r'.sched.age,r'.sched.run,r'.sched.left,r'.sched.turns,r'.sched.next,evs++e,r'.sched.tasks,r'.ao,r'.aq,r'.ae):=λnext=>by
        unfold dP;simp only;rw[decide_eq_true (by omega),cond_true,hat,aa,show(⟨⟨r.sched.now,r.sched.ai,r.sched.age,r.sched.tasks,r.sched.run,r.sched.left,r.sched.turns,r.sched.next⟩,r.ao,r.aq,r.ae⟩:Runtime)=r from rfl,e1,aa,hw];exact Sf rfl (by omega) he (by omega)
      exact st _
    · obtain⟨kf,rfl⟩:∃m,kf=m+1:=⟨kf-1,by simp at hkf;omega⟩;rw[aI,<-g2 (fin:=fin) (kf:=kf) (by simp at hkf;omega)]
      have st:∀next,dQ k (steps,(steps.length:Int),a1,a2,a3,a4,a5,a6,a7,[]) ((pre.length:Int),r.sched.now,r.sched.ai,r.sched.age,r.sched.run,r.sched.left,r.sched.turns,r.sched.next,evs,r.sched.tasks,r.ao,r.aq,r.ae) next fin=next (((pre++[x]).length:Int),r'.sched.now,r'.sched.ai,r'.sched.age,r'.sched.run,r'.sched.left,r'.sched.turns,r'.sched.next,evs++e,r'.sched.tasks,r'.ao,r'.aq,r'.ae):=λnext=>by
        unfold dQ;simp only;rw[decide_eq_true (by omega),cond_true,hat,aa,show(⟨⟨r.sched.now,r.sched.ai,r.sched.age,r.sched.tasks,r.sched.run,r.sched.left,r.sched.turns,r.sched.next⟩,r.ao,r.aq,r.ae⟩:Runtime)=r from rfl,e2,aa,hw];simp only[Nz];rw[bR (by omega)]
      exact st _
def IP (a b:Int) (xs:List Step):Bool:=bI (Gc a b)&&decide (xs.length<=200)
theorem WK {k:Nat} (hk:20000000<=k) {a b:Int} {xs:List Step} (hs:∀x∈xs,nk x):∃(r:Runtime) (evs:List Event),jJ k a b xs=some (r,evs,IP a b xs)/\jK k a b xs=some (r,evs,IP a b xs)/\evs.length<=200000/\∀v∈evs,∃x∈xs,IZ x.kind v:=by
 unfold jJ jK IP;rw[CI (by omega),aa,CJ (by omega),aa];cases c:bI (Gc a b)
 ·exact⟨_,_,rfl,rfl,Ya _,λv hv=>nomatch hv⟩
 simp only[cond_true,XJ,cond_false,XM];by_cases c2:(xs.length:Int)>200
 ·rw[decide_eq_true c2,decide_eq_false (show¬xs.length<=200 by omega)];exact⟨_,_,rfl,rfl,Ya _,λv hv=>nomatch hv⟩
 rw[decide_eq_false c2,decide_eq_true (show xs.length<=200 by omega)];obtain⟨r,evs,_,g1,g2,g3,g4⟩:=Ey hk hs (by omega) (a1:=0) (a2:=0) (a3:=0) (a4:=0) (a5:=0) (a6:=0) (a7:=0) xs [] (rt0 (Gc a b)) [] rfl (Vv c) (by simp) (λv hv=>nomatch hv);exact⟨_,_,g3 (by omega),g4 (by omega),by simp only;omega,g2⟩
theorem zI {k:Nat} {v:Event} {kd:Int} (hk:3000000<=k) (hv:IZ kd v) (hkd:okI kd):∃t,iR k v=some t:=by
 have hM:=aj;have ha:okI v.a:=hv.a.elim (λh=>h▸hkd) id;have l1:=eJ ha;have l2:=eJ hv.b;have l3:=CO hv.out;have l4:=hv.len;unfold iR;simp only[ko (k:=k) (by omega) ha,ko (k:=k) (by omega) hv.b,CP (k:=k) (t:=v.out) (by omega) hv.out hv.len,aa]
 repeat' first
  |exact⟨_,rfl⟩
  |(rw[ab,if_pos (by simp only[XG,XI,X2];omega)])
  |(refine(?_:∃t,cond _ _ _=some t);rw[cO];split)
theorem zJ {k:Nat} {v:Event} {kd:Int} (hk:3000000<=k) (hv:IZ kd v) (hkd:okI kd):∃t,iS k v=some t:=by
 have hM:=aj;have ha:okI v.a:=hv.a.elim (λh=>h▸hkd) id;have l1:=eJ ha;have l2:=eJ hv.b;have l3:=CO hv.out;have l4:=hv.len;unfold iS;simp only[gP (k:=k) ha,gP (k:=k) hv.b,CQ (k:=k) (t:=v.out) (by omega) hv.out hv.len,aa]
 repeat' first
  |exact⟨_,rfl⟩
  |(rw[ab,if_pos (by simp only[XG,XI,X2];omega)])
  |(refine(?_:∃t,cond _ _ _=some t);rw[cO];split)
theorem yE {k:Nat} {evs:List Event} (hk:evs.length<k) (hl:evs.length<=1000000) (h:∀v∈evs,∃t,iR k v=some t):ov k evs evs=some true:=by
 unfold ov;rw[show((evs.length:Int) !=(evs.length:Int))=false by simp,cond_false];refine(kt evs (λ_=>true) (g:=λu next=>gN k (evs,evs) u next (λy5=>some true) (λy6=>some y6)) (yes:=some true) (no:=some false) (λi hi next=>?_) (λnext=>?_) (k:=k) (by omega)).trans (by rw[X6.2 λ_ _=>rfl];rfl)
 ·obtain⟨t,e⟩:=h _ (XH hi);simp only[gN];rw[ab,if_pos (by omega),aD,ag hi,aa,e,aa,aa,e,aa,al hi (by omega)];simp
 ·simp only[gN];rw[ab,if_neg (by omega)]
theorem yF {k:Nat} {evs:List Event} (hk:evs.length<k) (hl:evs.length<=1000000) (h:∀v∈evs,∃t,iS k v=some t):oz k evs evs=some true:=by
 unfold oz;rw[if_neg (by omega)];refine(kt evs (λ_=>true) (g:=λu next=>gO k (evs,evs,(evs.length:Int)) u next (λy5=>some ((evs.length:Int)==(evs.length:Int))) (λy6=>some y6)) (yes:=some ((evs.length:Int)==(evs.length:Int))) (no:=some false) (λi hi next=>?_) (λnext=>?_) (k:=k) (by omega)).trans (by rw[X6.2 λ_ _=>rfl];simp)
 ·obtain⟨t,e⟩:=h _ (XH hi);simp only[gO];rw[ab,if_pos (by omega),aD,ag hi,aa,e,aa,aa,e,aa,al hi (by omega)];simp
 ·simp only[gO];rw[ab,if_neg (by omega)]
def KI (a b:Int) (xs:List Step):Bool:=(tW xs).2&&IP a b xs
theorem IQ {xs:List Step} (hp:xs.all oW=true) (k:Nat) (hk:20000000<=k):∀x∈xs,x.data.length<k/\x.input.data.length<k:=λx hx=>by
 have:=NG (X6.1 hp x hx);have h5:x.tot=x.data.length+(x.input.data.length+0+0):=rfl;omega
theorem KJ {k:Nat} {a b:Int} {xs:List Step} (hk:fI Step.tot xs+30000000<=k) (hN:7*fI Step.tot xs+2200000<=aG) (hs:∀x∈xs,nk x):ow k a b xs=some (KI a b xs)/\oA k a b xs=some (KI a b xs):=by
 have hM:=aj;obtain⟨r,evs,p1,p2,el,ev⟩:=WK (k:=k) (by omega) (a:=a) (b:=b) hs;unfold ow oA KI;rw[II (by omega) (by omega),IH (by omega) (by omega),aa,aa]
 rcases KH xs with e|⟨e,hp,hn,htl⟩
 ·rw[e];exact⟨rfl,rfl⟩
 rw[e];have hd:∀x∈xs,∀y∈x.data,okB y:=λx hx=>(hs x hx).byte;have ho:=Sd hp hd hn;have hso:=Se hp hd hn
 have hkd:∀v∈evs,∃kd,IZ kd v/\okI kd:=λv hv=>by
  obtain⟨x,hx,h⟩:=ev v hv;exact⟨x.kind,h,(hso.2 x hx).1⟩
 have t1:∀v∈evs,∃t,iR k v=some t:=λv hv=>by
  obtain⟨kd,h1,h2⟩:=hkd v hv;exact zI (by omega) h1 h2
 have t2:∀v∈evs,∃t,iS k v=some t:=λv hv=>by
  obtain⟨kd,h1,h2⟩:=hkd v hv;exact zJ (by omega) h1 h2
 simp only[XJ,cond_false];rw[De (by omega) ho (by omega),Df (by omega) ho (by omega),aa,aa,NH hp hn htl];simp only;rw[p1,p2,aa,aa,aa,aa,CM (by omega) hso (IQ hp k (by omega)),CN (by omega) hso hso (IQ hp k (by omega)),aa,aa,CS,yE (by omega) (by omega) t1,yF (by omega) (by omega) t2];cases IP a b xs<;>exact⟨rfl,rfl⟩
theorem qY (a b:Int) (xs:List Step) (ha:okI a) (hb:okI b) (hx:okS Step.Ok xs):∃k,eD k a b xs=some true:=by
 have hM:=aj;have hl:=br Step.tot xs;obtain⟨k,hk⟩:∃k,k=fI Step.tot xs+40000000:=⟨_,rfl⟩;refine⟨k,?_⟩;unfold eD;rw[Ke (n:=1048576) hx (by omega) (by omega) (by omega),aa,ab];by_cases c:(1048576:Int)<(fI Step.tot xs:Int)
 ·simp only[if_pos c];rfl
 simp only[if_neg c];rw[if_neg (by omega)];have hs:=KE hx (by omega);obtain⟨q1,q2⟩:=KJ (k:=k) (a:=a) (b:=b) (by omega) (by omega) hs;simp only[Kf (xs:=xs) (k:=k) (by omega) (by omega),aa,q1,q2,Kg (ys:=xs) (k:=k) (xs:=xs) (by omega) (by omega)];simp
end
end Go.Proofs.Ev
