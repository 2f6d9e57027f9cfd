/- Typed functions and what holds of them: part 6. -/
import Derived.Test.YtkjdnpefjebmlaaGreatDoorEvL5
import Derived.Lib.ItoaLen
set_option linter.unusedVariables false
set_option linter.unusedSimpArgs false
set_option linter.unusedSectionVars false
namespace Go.Proofs.Ev
open IntKind(i64 u8 u64)
set_option maxRecDepth 100000
set_option maxHeartbeats 4000000
section
theorem SOk.tot {s:ak} (h:SOk s):s.tot<=84:=by
 have h1:=Kx (t:=Task.tot) (B:=6) (xs:=s.tasks) λt ht=>LU (h.task t ht).1;have h2:=h.len;show fI Task.tot s.tasks+0<=84;omega
theorem LW (rs:List Request) (id:Int):(Ai rs id).length<=rs.length:=Zn _ _
def CE (id:Int):Event:=⟨4,id,0,zG⟩
def wF (a:Int):List Request->List Event->ak->List Request->List Event× ak× List Request
 |[],e,s,rs=>(e,s,rs)
 |q::qs,e,s,rs=>cond (q.model==a) (wF a qs (e++[CE q.id]) (xW s q.id) (Ai rs q.id)) (wF a qs e s rs)
theorem CF (a:Int) (ms:List Model) (ls:List Bool):∀(qs:List Request) (e:List Event) (s:ak) (rs:List Request),(∀q∈qs,1<=q.id)->pM ⟨s,ms,ls,rs⟩->pM ⟨(wF a qs e s rs).2.1,ms,ls,(wF a qs e s rs).2.2⟩/\(wF a qs e s rs).1.length<=e.length+qs.length
 |[],e,s,rs,_,h=>⟨h,X1 _⟩
 |q::qs,e,s,rs,hq,h=>by
  unfold wF;cases q.model==a
  ·have:=CF a ms ls qs e s rs (λx hx=>hq x (XV _ hx)) h;exact⟨this.1,YW this.2 (by simp)⟩
  ·have:=CF a ms ls qs (e++[CE q.id]) (xW s q.id) (Ai rs q.id) (λx hx=>hq x (XV _ hx)) (LV h (hq q Yc));exact⟨this.1,YW this.2 (by simp;omega)⟩
inductive nj:List Int->List Event->List Int->Prop
 |nil {ids:List Int}:nj ids [] ids
 |other {ids ids':List Int} {e:Event} {es:List Event}:e.kind≠2->e.kind≠3->e.kind≠4->nj ids es ids'->nj ids (e::es) ids'
 |ends {ids ids':List Int} {e:Event} {es:List Event}:e.kind=3\/e.kind=4->e.a∈ids->(e.kind=3->e.out.okB=true)->nj (ids.filter λi=>!(i==e.a)) es ids'->nj ids (e::es) ids'
theorem nj.app {a b c:List Int} {e f:List Event} (h:nj a e b) (g:nj b f c):nj a (e++f) c:=by
 induction h with
 |nil=>exact g
 |other h1 h2 h3 _ ih=>exact .other h1 h2 h3 (ih g)
 |ends h1 h2 h3 _ ih=>exact .ends h1 h2 h3 (ih g)
def tU (rs:List Request):List Int:=rs.map λq=>q.id
theorem Aj (rs:List Request) (id:Int):tU (Ai rs id)=(tU rs).filter λi=>!(i==id):=by
 unfold tU Ai;rw[List.filter_map];rfl
theorem Lk.W2 {qs:List Request} {ts:List Task} (h:Lk qs ts):tU qs=ts.map λt=>t.id:=by
 induction h with
 |nil=>rfl
 |cons l _ ih=>unfold tU at ih⊢;rw[Yp,Yp,ih,l.id]
theorem pM.inc {r:Runtime} (h:pM r):(tU r.ae).Pairwise (·<·):=by
 rw[h.req.W2,List.pairwise_map];exact h.s.ids
theorem pM.lt {r:Runtime} (h:pM r):∀i∈tU r.ae,1<=i/\i<r.sched.next:=by
 rw[h.req.W2];intro i hi;obtain⟨t,ht,rfl⟩:=ZE.1 hi;have:=h.s.task t ht;exact⟨(ch this.1).1.1,this.2.1⟩
theorem CG (a:Int):∀(qs:List Request) (e:List Event) (s:ak) (rs:List Request),(tU qs).Pairwise (·<·)->(∀i∈tU qs,i∈tU rs)->∃d,(wF a qs e s rs).1=e++d/\nj (tU rs) d (tU (wF a qs e s rs).2.2)
 |[],e,s,rs,_,_=>⟨[],by simp[wF],.nil⟩
 |q::qs,e,s,rs,hp,hm=>by
  unfold wF;have hp':=ZN.1 hp;cases q.model==a
  ·exact CG a qs e s rs hp'.2 λi hi=>hm i (XV _ hi)
  ·obtain⟨d,h1,h2⟩:=CG a qs (e++[CE q.id]) (xW s q.id) (Ai rs q.id) hp'.2 λi hi=>by
    rw[Aj,Yv];have:q.id<i:=hp'.1 i hi;exact⟨hm i (XV _ hi),by simp;omega⟩
   refine⟨CE q.id::d,by rw[cond_true,h1,XP];rfl,.ends (.inr rfl) (hm _ Yc) (λh=>absurd h (show¬(4:Int)=3 by decide)) ?_⟩;rw[Aj]at h2;exact h2
section
variable {k:Nat} (hk:20000000<=k)
include hk
theorem xZ {R:Type} {orig:List Request} {a q1 q2 q4 q5 q6:Int} {q3 q7:List Int} {ms:List Model} {ls:List Bool} {fin:Int× Int× Int× Int× Int× Int× Int× List Event× List Task× List Request->Option R}:∀(qs pre:List Request) (e:List Event) (s:ak) (rs:List Request) (kf:Nat),qs.length<kf->orig=pre++qs->orig.length<=12->e.length+qs.length<=100->(∀q∈qs,1<=q.id)->SOk s->rs.length<=12->
  iter (λu10 n10=>cX k (orig,q1,a,q2,q3,q4,q5,q6,q7,ms,ls) u10 n10 fin) kf ((pre.length:Int),s.now,s.ai,s.age,s.run,s.left,s.turns,s.next,e,s.tasks,rs)=
   (let y:=wF a qs e s rs;fin (y.2.1.now,y.2.1.ai,y.2.1.age,y.2.1.run,y.2.1.left,y.2.1.turns,y.2.1.next,y.1,y.2.1.tasks,y.2.2))
 |_,_,_,_,_,0,h,_,_,_,_,_,_=>by omega
 |[],pre,e,s,rs,kf+1,_,ho,hl,_,_,_,_=>by
  rw[aI];show cX k _ _ _ fin=_;unfold cX;simp only
  rw[decide_eq_false (by rw[ho];simp)];rfl
 |q::qs,pre,e,s,rs,kf+1,hkf,ho,hl,he,hq,hs,hr=>by
  have hM:=aj;simp only[XI]at hkf he
  have hol:orig.length=pre.length+(qs.length+1):=by rw[ho];simp
  have hat:idx orig (pre.length:Int)=some q:=by rw[aD,ho];simp
  have hst:=hs.tot;rw[aI];unfold wF;cases c:q.model==a
  ·have st:∀next,cX k (orig,q1,a,q2,q3,q4,q5,q6,q7,ms,ls) ((pre.length:Int),s.now,s.ai,s.age,s.run,s.left,s.turns,s.next,e,s.tasks,rs) next fin=next (((pre++[q]).length:Int),s.now,s.ai,s.age,s.run,s.left,s.turns,s.next,e,s.tasks,rs):=λnext=>by
    unfold cX;simp only;rw[decide_eq_true (by omega),cond_true,hat,aa,c,cond_false,aL (by omega) (by omega),XG];rfl
   exact(st _).trans (xZ qs (pre++[q]) e s rs kf (by omega) (by rw[ho];simp) hl (by omega) (λx hx=>hq x (XV _ hx)) hs hr)
  ·have st:∀next,cX k (orig,q1,a,q2,q3,q4,q5,q6,q7,ms,ls) ((pre.length:Int),s.now,s.ai,s.age,s.run,s.left,s.turns,s.next,e,s.tasks,rs) next fin=next (((pre++[q]).length:Int),(xW s q.id).now,(xW s q.id).ai,(xW s q.id).age,(xW s q.id).run,(xW s q.id).left,(xW s q.id).turns,(xW s q.id).next,e++[CE q.id],(xW s q.id).tasks,Ai rs q.id):=λnext=>by
    unfold cX;simp only;rw[decide_eq_true (by omega),cond_true,hat,aa,c,cond_true,aa,Qi (k:=k) (r:=⟨s,ms,ls,rs⟩) (by show s.tot+rs.length<k;omega) (by show s.tot+rs.length<=aG;omega) hs (hq q Yc),aa,aa,bR (by omega),aL (by omega) (by omega),XG];rfl
   exact(st _).trans (xZ qs (pre++[q]) (e++[CE q.id]) (xW s q.id) (Ai rs q.id) kf (by omega) (by rw[ho];simp) hl (by simp;omega) (λx hx=>hq x (XV _ hx)) (Qj hs (hq q Yc)) (YW (LW _ _) hr))
theorem yA {R:Type} {orig:List Request} {a n p1 p2 p3 p4 p5 q1 q2 q4 q5 q6:Int} {q3 q7:List Int} {ms:List Model} {ls:List Bool} {fin:Int× Int× List Event× List Task× List Request->Option R}:∀(qs pre:List Request) (e:List Event) (s:ak) (rs:List Request) (kf:Nat),qs.length<kf->orig=pre++qs->n=orig.length->orig.length<=12->e.length+qs.length<=100->(∀q∈qs,1<=q.id)->SOk s->rs.length<=12->s.now=p1->s.ai=p2->s.age=p3->s.turns=p4->s.next=p5->
  iter (λu7 n7=>bF k (n,p1,p2,p3,p4,p5,q1,a,q2,q3,q4,q5,q6,q7,orig,ms,ls) u7 n7 fin) kf ((pre.length:Int),s.run,s.left,e,s.tasks,rs)=
   (let y:=wF a qs e s rs;fin (y.2.1.run,y.2.1.left,y.1,y.2.1.tasks,y.2.2))
 |_,_,_,_,_,0,h,_,_,_,_,_,_,_,_,_,_,_,_=>by omega
 |[],pre,e,s,rs,kf+1,_,ho,hn,hl,_,_,_,_,_,_,_,_,_=>by
  rw[aI];show bF k _ _ _ fin=_;unfold bF;simp only
  rw[decide_eq_false (by rw[hn,ho];simp)];rfl
 |q::qs,pre,e,s,rs,kf+1,hkf,ho,hn,hl,he,hq,hs,hr,e1,e2,e3,e4,e5=>by
  have hM:=aj;simp only[XI]at hkf he
  have hol:orig.length=pre.length+(qs.length+1):=by rw[ho];simp
  have hat:orig[(pre.length:Int).toNat]? =some q:=by rw[XE,ho];simp
  have hst:=hs.tot;rw[aI];unfold wF;cases c:q.model==a
  ·have st:∀next,bF k (n,p1,p2,p3,p4,p5,q1,a,q2,q3,q4,q5,q6,q7,orig,ms,ls) ((pre.length:Int),s.run,s.left,e,s.tasks,rs) next fin=next (((pre++[q]).length:Int),s.run,s.left,e,s.tasks,rs):=λnext=>by
    unfold bF;simp only;rw[decide_eq_true (by omega),cond_true,decide_eq_true (by omega),cond_true,hat,aa,c,cond_false,aL (by omega) (by omega),XG];rfl
   exact(st _).trans (yA qs (pre++[q]) e s rs kf (by omega) (by rw[ho];simp) hn hl (by omega) (λx hx=>hq x (XV _ hx)) hs hr e1 e2 e3 e4 e5)
  ·have st:∀next,bF k (n,p1,p2,p3,p4,p5,q1,a,q2,q3,q4,q5,q6,q7,orig,ms,ls) ((pre.length:Int),s.run,s.left,e,s.tasks,rs) next fin=next (((pre++[q]).length:Int),(xW s q.id).run,(xW s q.id).left,e++[CE q.id],(xW s q.id).tasks,Ai rs q.id):=λnext=>by
    subst e1 e2 e3 e4 e5;unfold bF;simp only;rw[decide_eq_true (by omega),cond_true,decide_eq_true (by omega),cond_true,hat,aa,c,cond_true,Iv (k:=k) (r:=⟨s,ms,ls,rs⟩) (by show s.tot+rs.length<k;omega) (by show s.tot+rs.length<=aG;omega),aa,bR (by omega),aL (by omega) (by omega),XG];rfl
   exact(st _).trans (yA qs (pre++[q]) (e++[CE q.id]) (xW s q.id) (Ai rs q.id) kf (by omega) (by rw[ho];simp) hn hl (by simp;omega) (λx hx=>hq x (XV _ hx)) (Qj hs (hq q Yc)) (YW (LW _ _) hr) e1 e2 e3 e4 e5)
end
def eo (r:Runtime) (x:Step):List Event× Runtime:=
 cond (IY r x.a) (let y:=wF x.a r.ae [] r.sched r.ae;(y.1++[⟨1,x.a,0,zG⟩],⟨y.2.1,r.ao.set x.a.toNat en,r.aq.set x.a.toNat false,y.2.2⟩)) (cU x.kind 1,r)
theorem yB (a:Int):∀(qs:List Request) (e:List Event) (s:ak) (rs:List Request),(wF a qs e s rs).2.1.now=s.now/\(wF a qs e s rs).2.1.ai=s.ai/\(wF a qs e s rs).2.1.age=s.age/\(wF a qs e s rs).2.1.turns=s.turns/\(wF a qs e s rs).2.1.next=s.next
 |[],e,s,rs=>⟨rfl,rfl,rfl,rfl,rfl⟩
 |q::qs,e,s,rs=>by
  unfold wF;cases q.model==a
  ·exact yB a qs e s rs
  ·exact yB a qs (e++[CE q.id]) (xW s q.id) (Ai rs q.id)
section
variable {k:Nat} {r:Runtime} {x:Step} (h:pM r) (hk:20000000<=k)
include h hk
theorem CH:l7 k r x=some (let e:=eo r x;(e.1,e.2.sched.now,e.2.sched.ai,e.2.sched.age,e.2.sched.tasks,e.2.sched.run,e.2.sched.left,e.2.sched.turns,e.2.sched.next,e.2.ao,e.2.aq,e.2.ae)):=by
 have hM:=aj;have hq:=h.SS;have hlo:=h.ll;have hmo:=h.ml;unfold l7 eo bn IY;rw[bN,aa];cases c1:inB x.a 0 3
 ·rfl
 have c1':=of_decide_eq_true c1
 have hi:x.a.toNat<r.aq.length:=by omega
 simp only[XJ,cond_false,XM];rw[decide_eq_true (by omega),cond_true,ag hi,aa,dj hi];cases c2:r.aq[x.a.toNat]
 ·rfl
 simp only[XJ,cond_false,cond_true];have hu:=CF x.a r.ao r.aq r.ae [] r.sched r.ae (CC h) h;refine(xZ hk r.ae [] [] r.sched r.ae k (by omega) rfl hq (by simp;omega) (CC h) h.s hq).trans ?_;generalize wF x.a r.ae [] r.sched r.ae=y at hu;have:=hu.2;simp only[X2]at this;simp only;rw[decide_eq_true (by omega),cond_true,bR (by omega)];rfl
theorem Kz:fQ k r x=some (let e:=eo r x;(e.1,e.2.sched.tasks,e.2.sched.run,e.2.sched.left,e.2.ao,e.2.aq,e.2.ae))/\(eo r x).2.sched.now=r.sched.now/\(eo r x).2.sched.ai=r.sched.ai/\(eo r x).2.sched.age=r.sched.age/\(eo r x).2.sched.turns=r.sched.turns/\(eo r x).2.sched.next=r.sched.next:=by
 have hM:=aj;have hq:=h.SS;have hlo:=h.ll;have hmo:=h.ml;unfold fQ eo ek;rw[wD h.ll,aa];cases c0:IY r x.a
 ·simp only[X8,cond_true,aa,decide_true,cond_false];exact⟨rfl,trivial,trivial,trivial,trivial,trivial⟩
 have c1':=of_decide_eq_true (Yn.1 c0).1;simp only[XJ,cond_false,cond_true]
 have hc:b9 k r.ae=some r.ae:=by
  unfold b9;rw[bR (by simp;omega)];simp only[decide_true,cond_true,YC]
  cases r.ae with
  |nil=>exact we _
  |cons=>rfl
 have hkp:=yB x.a r.ae [] r.sched r.ae;refine⟨?_,hkp⟩;rw[hc,aa];have hu:=CF x.a r.ao r.aq r.ae [] r.sched r.ae (CC h) h;refine(yA hk r.ae [] [] r.sched r.ae k (by omega) rfl rfl hq (by simp;omega) (CC h) h.s hq rfl rfl rfl rfl rfl).trans ?_;generalize wF x.a r.ae [] r.sched r.ae=y at hu;have:=hu.2;simp only[X2]at this;simp only;rw[decide_eq_true (by omega),cond_true,decide_eq_true (by omega),cond_true,bR (by omega)];simp only[decide_true,cond_true];rfl
end
end
set_option maxRecDepth 100000
set_option maxHeartbeats 4000000
section
section
variable {k:Nat}
theorem R3 (s:ak) (ms:List Model) (ls:List Bool) (rs:List Request):ia k s.now s.ai s.age s.tasks s.run s.left s.turns s.next ms ls rs=eO k s:=by
 unfold ia eO;simp only[decide_true,cond_true]
theorem Uj (a b c d e f g id:Int) (zs:List dY) (ms:List Model) (ls:List Bool) (rs:List Request):dA k a b c zs d e f g ms ls rs id=dN k a b c zs d e f g id:=by
 unfold dA dN;simp only[decide_true,cond_true]
theorem Uk (s:ak) (ms:List Model) (ls:List Bool) (rs:List Request) (st:Bool):fZ k s.now s.ai s.age s.tasks s.run s.left s.turns s.next ms ls rs st=gG k s st:=by
 unfold fZ gG;rw[R3];simp only[Uj,decide_true,cond_true]
theorem Ul {s:ak} (h:SOk s) (hn:s.now≠1000000) (hk:1000<k) (st:Bool) (ms:List Model) (ls:List Bool) (rs:List Request):
  fZ k s.now s.ai s.age s.tasks s.run s.left s.turns s.next ms ls rs st=some (((fU s st).2.1,(fU s st).2.2),(fU s st).1.now,(fU s st).1.tasks,(fU s st).1.run,(fU s st).1.left,(fU s st).1.turns)/\
   (fU s st).1.ai=s.ai/\(fU s st).1.age=s.age/\(fU s st).1.next=s.next:=by
 have hM:=aj;have ht:=h.tot;have e:=Di (k:=k) (s:=s) (st:=st) (by omega) (by omega);unfold uz at e;rw[kj (by omega) (by omega),aa,ly (by omega) (by omega),aa,Ag h,cO,if_neg hn]at e;simp only[XJ,cond_false]at e;rw[Uk]
 cases hm:gG k s st with
 |none=>rw[hm]at e;exact nomatch e
 |some r3=>
  rw[hm]at e;have e:=YA e;rw[<-e];exact⟨rfl,rfl,rfl,rfl⟩
inductive LY (s:ak):ak× Int× Bool->Prop
 |rest {u:ak}:u.tasks=s.tasks->LY s (u,0,false)
 |next {u:ak} {pre post:List Task} {t:Task}:s.tasks=pre++t::post->(∀v∈pre,v.id≠t.id)->1<=t.id->t.at_+1<t.av.length->u.tasks=pre++sq t::post->LY s (u,t.id,false)
 |done {u:ak} {pre post:List Task} {t:Task}:s.tasks=pre++t::post->(∀v∈pre,v.id≠t.id)->(∀v∈post,v.id≠t.id)->1<=t.id->t.at_<t.av.length->u.tasks=pre++post->u.run=0->LY s (u,t.id,true)
theorem Vu {s:ak} (h:SOk s) (st:Bool):LY s (fU s st):=by
 by_cases hn:s.now=1000000
 ·rw[Ah hn];exact .rest rfl
 cases st
 ·rcases Iq h hn with⟨_,_,_,e⟩|⟨t,L,tr,T,_⟩
  ·rw[e];exact .rest rfl
  ·obtain⟨pre,post,e,h1,h2,h3,h4,h5⟩:=LR h.ids T.mem;have hb:=ch (h.task t T.mem).1
   have n1:∀u∈pre,u.id≠t.id:=λu hu=>by have:=h1 u hu;omega
   have n2:∀u∈post,u.id≠t.id:=λu hu=>by have:=h2 u hu;omega
   rw[T.eq,Er e n1 n2];by_cases c1:L-1>0
   ·rw[if_pos c1];exact .rest rfl
   rw[if_neg c1];by_cases c2:t.at_+1<t.av.length
   ·rw[if_pos c2];exact .next e n1 hb.1.1 c2 rfl
   ·rw[if_neg c2];exact .done e n1 n2 hb.1.1 hb.2.2.1.2 rfl rfl
 ·rw[zp h hn];exact .rest rfl
end
inductive Tr (st:Bool):Nat->ak->List Event->ak->Prop
 |nil {s:ak}:Tr st 0 s [] s
 |tick {n:Nat} {s s' u:ak} {d e:List Event}:s'=(fU s st).1->(d=[]/\(fU s st).2.2=false\/∃t,d=[⟨3,(fU s st).2.1,s'.now,t⟩]/\(fU s st).2.2=true)->Tr st n s' e u->Tr st (n+1) s (d++e) u
theorem Lk.split {t:Task}:∀{pre post:List Task} {qs:List Request},Lk qs (pre++t::post)->∃qp q qo,qs=qp++q::qo/\Lk qp pre/\R2 q t/\Lk qo post
 |[],post,_,.cons (q:=q) (qs:=qs) h g=>⟨[],q,qs,rfl,.nil,h,g⟩
 |p::pre,post,_,.cons (q:=q) (qs:=qs) h g=>by
  obtain⟨qp,q',qo,e,h1,h2,h3⟩:=g.split (pre:=pre);exact⟨q::qp,q',qo,by rw[e];rfl,.cons h h1,h2,h3⟩
theorem Lk.join {ts:List Task} {ro:List Request} (g:Lk ro ts):∀{rs:List Request} {us:List Task},Lk rs us->Lk (rs++ro) (us++ts)
 |_,_,.nil=>g
 |_,_,.cons h f=>.cons h (g.join f)
theorem Lk.ne {id:Int}:∀{qs:List Request} {ts:List Task},Lk qs ts->(∀v∈ts,v.id≠id)->∀q∈qs,q.id≠id:=λ{qs ts} h hn q hq=>by
 obtain⟨t,h1,h2⟩:=h.ids q hq;rw[h2];exact hn t h1
theorem LZ {id:Int} {q:Request} (hq:q.id=id):∀{qp qo:List Request},(∀v∈qp,v.id≠id)->((qp++q::qo).findIdx? λq=>q.id==id)=some qp.length
 |[],qo,_=>by rw[YC,ZL,hq];simp
 |p::qp,qo,h=>by
  have h1:=h p Yc;rw[YY,ZL,show(p.id==id)=false from by simpa using h1,LZ hq λv hv=>h v (XV _ hv)];simp
theorem Qk {id:Int} {q:Request} (hq:q.id=id) {qp qo:List Request} (h1:∀v∈qp,v.id≠id) (h2:∀v∈qo,v.id≠id):Ai (qp++q::qo) id=qp++qo:=by
 unfold Ai;rw[Zl,Y6,hq];simp only[beq_self_eq_true,XJ,YX,if_false];rw[YT.2 λv hv=>by simpa using h1 v hv,YT.2 λv hv=>by simpa using h2 v hv]
theorem uN {q:Request} {t:Task} (l:R2 q t) (hc:t.at_<t.av.length):wJ (xS q.job)=true/\q.job.at_≠(q.job.model.aF.length:Int)/\R2 ⟨q.id,q.model,xS q.job,q.due⟩ (sq t):=by
 have hl:=iZ (jN l.job).1;rw[l.av]at hl
 have hne:q.job.at_≠(q.job.model.aF.length:Int):=by rw[l.at_];omega
 have hs:=P2 l.job hne;refine⟨hs,hne,⟨l.id,hs,?_,l.av,l.tot⟩⟩;show(xS q.job).at_=t.at_+1;rw[<-l.at_];rfl
end
set_option maxRecDepth 100000
set_option maxHeartbeats 4000000
section
def qM (q:Request):Request:=⟨q.id,q.model,xS q.job,q.due⟩
def Ql (id now:Int) (t:az):Event:=⟨3,id,now,t⟩
theorem KA {q:Request} {t:Task} (l:R2 q t):q.job.tot<=8003000:=by
 have:=(P1 l.job).2;have:=l.tot;omega
theorem wG {k:Nat} {qp qo:List Request} {q:Request} {t:Task} (l:R2 q t) (hc:t.at_<t.av.length) (hk:20000000<=k):kH k qp.length (qp++q::qo)=some (qp++qM q::qo):=by
 have hM:=aj;have htt:=KA l;obtain⟨hs,hne,_⟩:=uN l hc;generalize hj:q.job=j at*;have ht:j.tot=j.model.tot+(j.act.data.length+0+0):=rfl;have h:wJ j=true:=hj▸l.job;obtain⟨hm,hat,hok,hsh,hsp⟩:=jN h;obtain⟨hlen,_⟩:=tu hm;obtain⟨hl,hlt⟩:=Ie h hne
 have gm:∀(y:Request) (qs:List Request),(qp++y::qs)[qp.length]? =some y:=λy qs=>by simp
 have sm:∀(y z:Request) (qs:List Request),(qp++y::qs).set qp.length z=qp++z::qs:=λy z qs=>by simp
 unfold kH qM;simp only[gm,sm,aa,hj];rw[F1 (by omega) (by omega) h,aa];rw[uu _ hat.1,hl,aa,FZ (by omega) (by omega) (by omega) (by omega) (by omega),aa,aL (n:=j.at_+1) (by omega) (by omega)];rfl
theorem wH {q:Request} {qp qo:List Request} (h:∀v∈qp,v.id≠q.id):wE (qp++q::qo) q.id=(qp.length:Int):=by
 unfold wE;rw[LZ rfl h];rfl
theorem Ny {k:Nat} {qp qo:List Request} {q:Request} (hl:qp.length+qo.length<=100):bW k (qp++q::qo) (qp.length:Int) (i64.wrap ((qp.length:Int)+1))=some (qp++qo):=by
 have hlen:(qp++q::qo).length=qp.length+qo.length+1:=by simp;omega
 have t1:(qp.length:Int).toNat=qp.length:=XE _
 have t2:((qp.length:Int)+1).toNat=qp.length+1:=by omega
 have e1:(qp++q::qo).take (qp.length-0)=qp:=by simp
 have e2:((qp++q::qo).drop (qp.length+1)).take (qp.length+qo.length+1-(qp.length+1))=qo:=by
  rw[show qp++q::qo=(qp++[q])++qo from by simp,List.drop_left' (by simp),Y1 (by omega)]
 have e3:((qp++q::qo).drop (qp.length-0+(qp.length+qo.length+1-(qp.length+1)))).length=1:=by rw[YE,hlen];omega
 have e4:qp.length-0+(qp.length+qo.length+1-(qp.length+1))=qp.length+qo.length:=by omega
 unfold bW;rw[aL (by omega) (by omega)];simp only[t1,t2,hlen,e1,e2,XE];generalize (qp++q::qo).drop (qp.length-0+(qp.length+qo.length+1-(qp.length+1)))=z at e3;rw[e4]
 have hT:(qp++qo++z).length=qp.length+qo.length+1:=by simp[e3];omega
 rw[hT]
 rw[decide_eq_true (show(0:Int)<=((qp.length+qo.length+1:Nat):Int)/\((qp.length+qo.length+1:Nat):Int)<=((qp.length+qo.length+1:Nat):Int) by omega),cond_true,
  decide_eq_true (show(0:Int)<=(qp.length:Int)+1/\(qp.length:Int)+1<=((qp.length+qo.length+1:Nat):Int) by omega),cond_true,
  decide_eq_true (show(0:Int)<=(qp.length:Int)/\(qp.length:Int)<=((qp.length+1:Nat):Int) by omega),cond_true,cO,if_neg (by omega),
  decide_eq_true (show(0:Int)<=(qp.length:Int)/\(qp.length:Int)<=((qp.length+qo.length+1:Nat):Int) by omega),cond_true,cond_true]
 have hb:((qp.length+qo.length).ble (qp.length+qo.length+1)&&((qp.length+1+(qp.length+qo.length+1-(qp.length+1))).ble (qp.length+qo.length+1)&&Nat.ble 1 (qp.length+qo.length+1)))=true:=by
  rw[XB,XB,Nat.ble_eq,Nat.ble_eq,Nat.ble_eq];omega
 rw[hb,cond_true,decide_eq_true (show(0:Int)<=((qp.length+qo.length+1:Nat):Int)/\((qp.length+qo.length+1:Nat):Int)<=((qp.length+qo.length+1-0:Nat):Int) by omega),cond_true,
  decide_eq_true (show(0:Int)<=((qp.length+qo.length:Nat):Int)/\((qp.length+qo.length:Nat):Int)<=((qp.length+qo.length+1:Nat):Int) by omega),cond_true]
 congr 1
 rw[XN,XP,YU (by rw[X9,hT];omega),List.take_take,Nat.min_self,YU (by simp),Y1 (by simp)]
theorem Qm {k:Nat} (hk:20000000<=k) {st:Bool} {s:ak} {ms:List Model} {ls:List Bool} {rs:List Request} {e:List Event} (h:pM ⟨s,ms,ls,rs⟩) (he:e.length<=1000) {i a:Int} (hi:0<=i) (hia:i<a) (ha:a<=200) {q1 q2 q4 q5 q6 kd p9:Int} {q3 q7:List Int} (hkd:(kd==5)=st):
  ∃(e':List Event) (s':ak) (rs':List Request),pM ⟨s',ms,ls,rs'⟩/\e'.length<=e.length+1/\(∃d,e'=e++d/\nj (tU rs) d (tU rs')/\s'=(fU s st).1/\(d=[]/\(fU s st).2.2=false\/∃t,d=[⟨3,(fU s st).2.1,s'.now,t⟩]/\(fU s st).2.2=true))/\(s'.ai=s.ai/\s'.age=s.age/\s'.next=s.next)/\
   (∀(R:Type) (next:_->Option R) fin,dv k (st,q1,a,q2,q3,q4,q5,q6,q7,ms,ls) (i,s.now,s.ai,s.age,s.run,s.left,s.turns,s.next,e,s.tasks,rs) next fin=next (i+1,s'.now,s'.ai,s'.age,s'.run,s'.left,s'.turns,s'.next,e',s'.tasks,rs'))/\
   (s.now=1000000->e'=e/\s'=s/\rs'=rs)/\
   (s.now≠1000000->∀(R:Type) (next:_->Option R) fin,bB k (a,s.ai,s.age,s.next,kd,p9,q2,q3,q4,q5,q6,q7,ms,ls) (i,s.now,s.run,s.left,s.turns,e,s.tasks,rs) next fin=next (i+1,s'.now,s'.run,s'.left,s'.turns,e',s'.tasks,rs')):=by
 have hM:=aj;have ht:s.tot<=84:=SOk.tot h.s;have hq:rs.length<=12:=h.SS;have hTK:=Vu h.s st;have hok:=Qf h.s st;have hS:=Dh (k:=k) (s:=s) (st:=st) (by omega) (by omega);have hI:=λhn:s.now≠1000000=>Ul (k:=k) h.s hn (by omega) st ms ls rs
 have WG:(fU s st).1.ai=s.ai/\(fU s st).1.age=s.age/\(fU s st).1.next=s.next:=by
  by_cases hn:s.now=1000000
  ·rw[Ah hn];exact⟨rfl,rfl,rfl⟩
  ·exact(hI hn).2
 have Um:s.now=1000000->fU s st=(s,0,false):=λhn=>Ah hn st;generalize fU s st=T at*;have hw:i64.wrap (i+1)=i+1:=aL (by omega) (by omega);have WH:Lk rs s.tasks:=h.req
 cases hTK with
 |rest hu=>
  rename_i u;refine⟨e,u,rs,⟨hok,h.ml,h.ll,h.mod,by show Lk rs u.tasks;rw[hu];exact WH⟩,by omega,⟨[],by simp,.nil,rfl,.inl ⟨rfl,rfl⟩⟩,WG,λR next fin=>?_,λhn=>?_,λhn R next fin=>?_⟩
  ·unfold dv;simp only;rw[decide_eq_true hia,cond_true,hS,aa,hw];rfl
  ·have:=congrArg Prod.fst (Um hn);exact⟨rfl,this,rfl⟩
  ·unfold bB;simp only
   rw[decide_eq_true hia,cond_true,cO,if_neg hn,hkd,(hI hn).1,aa,hw];rfl
 |next e1 n1 p1 c1 hu=>
  rename_i u pre post t;obtain⟨qp,q,qo,rfl,l1,l,l2⟩:=(e1▸WH:Lk rs (pre++t::post)).split;have hqp:=l1.ne n1;rw[<-l.id]at hqp;obtain⟨hs,hne,l'⟩:=uN l (by omega)
  have hlen:(qp++q::qo).length=qp.length+qo.length+1:=by simp;omega
  have hq:(qp++q::qo).length<=12:=hq;have hjt:=KA l
  have gm:∀(y:Request) (qs:List Request),(qp++y::qs)[qp.length]? =some y:=λy qs=>by simp
  have sm:∀(y z:Request) (qs:List Request),(qp++y::qs).set qp.length z=qp++z::qs:=λy z qs=>by simp
  have hz:(t.id==(0:Int))=false:=by simp;omega
  refine⟨e,u,qp++qM q::qo,⟨hok,h.ml,h.ll,h.mod,by show Lk (qp++qM q::qo) u.tasks;rw[hu];exact(Lk.cons l' l2).join l1⟩,by omega,⟨[],by simp,by unfold tU;rw[YJ,YJ];exact .nil,rfl,.inl ⟨rfl,rfl⟩⟩,WG,λR next fin=>?_,λhn=>absurd (congrArg (λx=>x.2.1) (Um hn)) (by show¬t.id=0;omega),λhn R next fin=>?_⟩
  ·unfold dv;simp only;rw[decide_eq_true hia,cond_true,hS,aa,hz,cond_false,tz (by show(qp++q::qo).length<k;omega) (by show(qp++q::qo).length<=aG;omega),aa];simp only;rw[<-l.id,wH hqp,decide_eq_true (by omega),cond_true,XE,gm,aa,zn (by omega) (by omega),aa,cond_true,aa,cond_false,hw,sm];unfold RS;rw[l.job,show(q.job.at_==(q.job.model.aF.length:Int))=false from by simpa using hne];rfl
  ·unfold bB;simp only;rw[decide_eq_true hia,cond_true,cO,if_neg hn,hkd,(hI hn).1,aa];simp only;rw[hz,cond_false,xV (by show(qp++q::qo).length<k;omega) (by show(qp++q::qo).length<=aG;omega),aa];simp only
   rw[<-l.id,wH hqp,decide_eq_true (by omega),cond_true,XE,wG l (by omega) hk,aa,cond_false,hw]
 |done e1 n1 n2 p1 c1 hu hr=>
  rename_i u pre post t;obtain⟨qp,q,qo,rfl,l1,l,l2⟩:=(e1▸WH:Lk rs (pre++t::post)).split;have hqp:=l1.ne n1;have hqo:=l2.ne n2;rw[<-l.id]at hqp hqo;obtain⟨hs,hne,l'⟩:=uN l c1
  have hlen:(qp++q::qo).length=qp.length+qo.length+1:=by simp;omega
  have hlen2:(qp++qM q::qo).length=qp.length+qo.length+1:=by simp;omega
  have hq:(qp++q::qo).length<=12:=hq;have hjt:=KA l
  have gm:∀(y:Request) (qs:List Request),(qp++y::qs)[qp.length]? =some y:=λy qs=>by simp
  have sm:∀(y z:Request) (qs:List Request),(qp++y::qs).set qp.length z=qp++z::qs:=λy z qs=>by simp
  have hz:(t.id==(0:Int))=false:=by simp;omega
  have hut:u.tot<=84:=SOk.tot hok
  have UY:xW u q.id=u:=by
   unfold xW;rw[hr,show((0:Int)==q.id)=false from by rw[l.id];simp;omega]
   have:NR u.tasks q.id=u.tasks:=YT.2 λv hv=>by
    rw[hu]at hv;rw[l.id]
    rcases Yr.1 hv with hv|hv
    ·simpa using n1 v hv
    ·simpa using n2 v hv
   rw[this,<-hr];rfl
  refine⟨e++[Ql q.id u.now (xS q.job).act],u,qp++qo,⟨hok,h.ml,h.ll,h.mod,by show Lk (qp++qo) u.tasks;rw[hu];exact l2.join l1⟩,by simp,⟨[Ql q.id u.now (xS q.job).act],rfl,.ends (.inl rfl) (by unfold tU;simp[Ql]) (λ_=>(jN l'.job).2.2.1) (by rw[show(Ql q.id u.now (xS q.job).act).a=q.id from rfl,<-Aj,Qk rfl hqp hqo];exact .nil),rfl,.inr ⟨(xS q.job).act,by unfold Ql;rw[l.id],rfl⟩⟩,WG,λR next fin=>?_,λhn=>absurd (congrArg (λx=>x.2.1) (Um hn)) (by show¬t.id=0;omega),λhn R next fin=>?_⟩
  ·unfold dv;simp only;rw[decide_eq_true hia,cond_true,hS,aa,hz,cond_false,tz (by show(qp++q::qo).length<k;omega) (by show(qp++q::qo).length<=aG;omega),aa];simp only;rw[<-l.id,wH hqp,decide_eq_true (by omega),cond_true,XE,gm,aa,zn (by omega) (by omega),aa,cond_true,aa,cond_true,hw,sm];unfold RS;rw[l.job,show(q.job.at_==(q.job.model.aF.length:Int))=false from by simpa using hne];simp only[X8,XM,cond_true];rw[xY (k:=k) (r:=⟨u,ms,ls,qp++(⟨q.id,q.model,xS q.job,q.due⟩:Request)::qo⟩) (by show u.tot+(qp++qM q::qo).length<k;omega) (by show u.tot+(qp++qM q::qo).length<=aG;omega) hok (by rw[l.id];exact p1),aa,bR (by omega)];simp only;rw[UY,Qk (q:=(⟨q.id,q.model,xS q.job,q.due⟩:Request)) rfl hqp hqo];rfl
  ·unfold bB;simp only;rw[decide_eq_true hia,cond_true,cO,if_neg hn,hkd,(hI hn).1,aa];simp only;rw[hz,cond_false,xV (by show(qp++q::qo).length<k;omega) (by show(qp++q::qo).length<=aG;omega),aa];simp only;rw[<-l.id,wH hqp,decide_eq_true (by omega),cond_true,XE,wG l c1 hk,aa,cond_true,decide_eq_true (by omega),cond_true,gm,aa,bR (by omega),Ny (by omega),aa,hw];rfl
end
set_option maxRecDepth 100000
set_option maxHeartbeats 4000000
section
theorem L0 {k:Nat} (hk:20000000<=k) {st:Bool} {ms:List Model} {ls:List Bool} {a:Int} (ha:a<=200) {q1 q2 q4 q5 q6 kd p9:Int} {q3 q7:List Int} (hkd:(kd==5)=st):∀(n:Nat) (i:Int) (s:ak) (rs:List Request) (e:List Event),a=i+n->0<=i->pM ⟨s,ms,ls,rs⟩->e.length+n<=1000->
  ∃(e':List Event) (s':ak) (rs':List Request),pM ⟨s',ms,ls,rs'⟩/\e'.length<=e.length+n/\(∃d,e'=e++d/\nj (tU rs) d (tU rs')/\Tr st n s d s')/\(s'.ai=s.ai/\s'.age=s.age/\s'.next=s.next)/\
   (s.now=1000000->e'=e/\s'=s/\rs'=rs)/\
   (∀(R:Type) (fin:_->Option R) (kf:Nat),n<kf->iter (λu10 n10=>dv k (st,q1,a,q2,q3,q4,q5,q6,q7,ms,ls) u10 n10 fin) kf (i,s.now,s.ai,s.age,s.run,s.left,s.turns,s.next,e,s.tasks,rs)=fin (e',s'.now,s'.ai,s'.age,s'.run,s'.left,s'.turns,s'.next,s'.tasks,rs'))/\
   (∀(R:Type) (fin:_->Option R) (kf:Nat),n<kf->iter (λu9 n9=>bB k (a,s.ai,s.age,s.next,kd,p9,q2,q3,q4,q5,q6,q7,ms,ls) u9 n9 fin) kf (i,s.now,s.run,s.left,s.turns,e,s.tasks,rs)=fin (e',s'.now,s'.run,s'.left,s'.turns,s'.tasks,rs'))
 |0,i,s,rs,e,hi,h0,h,he=>by
  refine⟨e,s,rs,h,X1 _,⟨[],by simp,.nil,.nil⟩,⟨rfl,rfl,rfl⟩,λ_=>⟨rfl,rfl,rfl⟩,λR fin kf hkf=>?_,λR fin kf hkf=>?_⟩
  ·obtain⟨kf,rfl⟩:∃m,kf=m+1:=⟨kf-1,by omega⟩;rw[aI];show dv k _ _ _ fin=_;unfold dv;simp only;rw[decide_eq_false (by omega)];rfl
  ·obtain⟨kf,rfl⟩:∃m,kf=m+1:=⟨kf-1,by omega⟩;rw[aI];show bB k _ _ _ fin=_;unfold bB;simp only
   rw[decide_eq_false (by omega)];rfl
 |n+1,i,s,rs,e,hi,h0,h,he=>by
  obtain⟨e1,s1,r1,g1,g2,⟨d1,dd1,td1,w1,w2⟩,g3,g4,g5,g6⟩:=Qm (e:=e) hk h (by omega) h0 (show i<a by omega) ha (q1:=q1) (q2:=q2) (q4:=q4) (q5:=q5) (q6:=q6) (kd:=kd) (p9:=p9) (q3:=q3) (q7:=q7) hkd;obtain⟨e2,s2,r2,f1,f2,⟨d2,dd2,td2,tr2⟩,f3,f4,f5,f6⟩:=L0 hk (ms:=ms) (ls:=ls) ha (q1:=q1) (q2:=q2) (q4:=q4) (q5:=q5) (q6:=q6) (kd:=kd) (p9:=p9) (q3:=q3) (q7:=q7) hkd n (i+1) s1 r1 e1 (by omega) (by omega) g1 (by omega);refine⟨e2,s2,r2,f1,by omega,⟨d1++d2,by rw[dd2,dd1,XP],td1.app td2,.tick w1 w2 tr2⟩,⟨f3.1.trans g3.1,f3.2.1.trans g3.2.1,f3.2.2.trans g3.2.2⟩,λhn=>?_,λR fin kf hkf=>?_,λR fin kf hkf=>?_⟩
  ·obtain⟨x1,x2,x3⟩:=g5 hn;subst x1 x2 x3;exact f4 hn
  ·obtain⟨kf,rfl⟩:∃m,kf=m+1:=⟨kf-1,by omega⟩;rw[aI];exact(g4 R _ fin).trans (f5 R fin kf (by omega))
  ·obtain⟨kf,rfl⟩:∃m,kf=m+1:=⟨kf-1,by omega⟩;rw[aI];by_cases hn:s.now=1000000
   ·obtain⟨x1,x2,x3⟩:=g5 hn;subst x1 x2 x3;obtain⟨y1,y2,y3⟩:=f4 hn;subst y1 y2 y3;show bB k _ _ _ fin=_;unfold bB;simp only;rw[decide_eq_true (by omega),cond_true,cO,if_pos hn]
   ·refine(g6 hn R _ fin).trans ?_;have:=f6 R fin kf (by omega);rw[g3.1,g3.2.1,g3.2.2]at this;exact this
def Nz (e:List Event) (r:Runtime):List Event× Int× Int× Int× List Task× Int× Int× Int× Int× List Model× List Bool× List Request:=(e,r.sched.now,r.sched.ai,r.sched.age,r.sched.tasks,r.sched.run,r.sched.left,r.sched.turns,r.sched.next,r.ao,r.aq,r.ae)
structure nk (x:Step):Prop where
 byte:∀y∈x.data,okB y
 data:x.data.length<=2000000
 input:x.input.tot<=2000000
theorem Qn {r:Runtime} (h:pM r) (x:Step):pM ⟨r.sched,(pJ r x).2.1,(pJ r x).2.2,r.ae⟩/\(pJ r x).1.length<=1:=by
 unfold pJ;cases(inB x.a 0 3&&!r.aq.getD x.a.toNat false)
 ·exact⟨⟨h.s,h.ml,h.ll,h.mod,h.req⟩,by simp[cU]⟩
 cases(decide ((dR x.data).2=0)&&sr (dR x.data).1)
 ·exact⟨⟨h.s,h.ml,h.ll,h.mod,h.req⟩,by simp[cU]⟩
 refine⟨⟨h.s,by simp[h.ml],by simp[h.ll],λm hm=>?_,h.req⟩,by simp⟩
 rcases List.mem_or_eq_of_mem_set hm with hm|rfl
 ·exact h.mod m hm
 ·exact uM _
theorem Ak {s:ak} {av:List Int} {due:Int} (h:(eY s av due).2.2=0):(eY s av due).2.1=s.next/\(eY s av due).1.tasks=s.tasks++[⟨s.next,av,0,due,s.now⟩]:=by
 unfold eY at h⊢;cases c1:(bI s&&je ⟨s.next,av,0,due,s.now⟩)
 ·rw[c1]at h;exact absurd (show(1:Int)=0 from h) (by decide)
 rw[c1]at h;cases c2:((s.tasks.length:Int)==12||s.next==1000000)
 ·rw[c2]at h;cases c3:Cp ⟨s.now,s.ai,s.age,s.tasks++[⟨s.next,av,0,due,s.now⟩],s.run,s.left,s.turns,s.next+1⟩
  ·rw[c3]at h;exact absurd (show(3:Int)=0 from h) (by decide)
  ·exact⟨rfl,rfl⟩
 ·rw[c2]at h;exact absurd (show(2:Int)=0 from h) (by decide)
theorem Iw {r:Runtime} (h:pM r) (x:Step):pM ⟨(dS r x).2.1,r.ao,r.aq,(dS r x).2.2⟩/\(dS r x).1.length<=1:=by
 have same:∀c,pM ⟨(cU x.kind c,r.sched,r.ae).2.1,r.ao,r.aq,(cU x.kind c,r.sched,r.ae).2.2⟩/\(cU x.kind c,r.sched,r.ae).1.length<=1:=λc=>⟨⟨h.s,h.ml,h.ll,h.mod,h.req⟩,by simp[cU]⟩;unfold dS;cases c0:IY r x.a
 ·exact same _
 simp only[cond_true];have c1':=of_decide_eq_true (Yn.1 c0).1;have hmo:=h.ml
 have hmt:(r.ao.getD x.a.toNat en).tot<=8002000:=by
  rw[dj (show x.a.toNat<r.ao.length by omega)];exact h.mod _ (XH _)
 generalize r.ao.getD x.a.toNat en=m at hmt;cases c2:(dw m x.input).2
 ·exact same _
 have hj:wJ ⟨m,0,x.input,0⟩=true/\(dw m x.input).1=⟨m,0,x.input,0⟩:=by
  unfold dw at c2⊢;cases c:wJ ⟨m,0,x.input,0⟩
  ·rw[c]at c2;exact nomatch c2
  ·exact⟨rfl,rfl⟩
 rw[hj.2];simp only[cond_true];cases inB x.b 0 1000000
 ·exact same _
 simp only[cond_true];have ho:=RZ h.s (bC m) (r.sched.now+x.b);by_cases c3:(eY r.sched (bC m) (r.sched.now+x.b)).2.2=0
 ·obtain⟨h1,h2⟩:=Ak c3;rw[decide_eq_true c3];simp only[cond_true];refine⟨⟨ho,h.ml,h.ll,h.mod,?_⟩,by simp⟩;show Lk (r.ae++[_]) (eY r.sched (bC m) (r.sched.now+x.b)).1.tasks;rw[h2];exact h.req.app ⟨h1,hj.1,rfl,rfl,hmt⟩
 ·rw[decide_eq_false c3];exact same _
theorem Ix {r:Runtime} (h:pM r) (x:Step):pM (eo r x).2/\(eo r x).1.length<=13:=by
 unfold eo;cases IY r x.a
 ·exact⟨h,by simp[cU]⟩
 have hu:=CF x.a r.ao r.aq r.ae [] r.sched r.ae (CC h) h;have hq:=h.SS;refine⟨⟨hu.1.s,by simp[h.ml],by simp[h.ll],λm hm=>?_,hu.1.req⟩,?_⟩
 ·rcases List.mem_or_eq_of_mem_set hm with hm|rfl
  ·exact h.mod m hm
  ·exact Ya _
 ·have:=hu.2;simp only[X2]at this;simp only[cond_true,XG,XI,X2];omega
theorem Iy {rs:List Request} {id:Int} (h:¬wE rs id<0):∃q∈rs,q.id=id:=by
 unfold wE at h
 cases hf:rs.findIdx? λq=>q.id==id with
 |none=>rw[hf]at h;exact absurd (show(-1:Int)<0 by decide) h
 |some i=>
  obtain⟨hi,hp,_⟩:=YL.1 hf;exact⟨rs[i],XH hi,by simpa using hp⟩
def tV (s:ak) (e:List Event):ak:=e.foldl (λs v=>cond (v.kind==4) (xW s v.a) s) s
def Qo (r:Runtime) (x:Step) (e:List Event) (s':ak):Prop:=
 ((inB x.kind 4 5&&inB x.a 0 200)=true/\Tr (x.kind==5) x.a.toNat r.sched e s')\/
 ((inB x.kind 4 5&&inB x.a 0 200)=false/\((s'=tV r.sched e/\∀v∈e,v.kind≠3)\/∃cs due,e=[⟨2,r.sched.next,due,zG⟩]/\eY r.sched cs due=(s',r.sched.next,0)))
theorem gj (s:ak) (kd c:Int):s=tV s (cU kd c)/\∀v∈cU kd c,v.kind≠3:=⟨rfl,λv hv=>by rw[Ym.1 hv];exact(show¬(5:Int)=3 by decide)⟩
theorem R4 (r:Runtime) (x:Step):r.sched=tV r.sched (pJ r x).1/\∀v∈(pJ r x).1,v.kind≠3:=by
 unfold pJ;cases(inB x.a 0 3&&!r.aq.getD x.a.toNat false)
 ·exact gj _ _ _
 cases(decide ((dR x.data).2=0)&&sr (dR x.data).1)
 ·exact gj _ _ _
 ·exact⟨rfl,λv hv=>by rw[Ym.1 hv];exact(show¬(0:Int)=3 by decide)⟩
theorem Ge (a:Int) (s0:ak):∀(qs:List Request) (e:List Event) (s:ak) (rs:List Request),s=tV s0 e->(∀v∈e,v.kind≠3)->(wF a qs e s rs).2.1=tV s0 (wF a qs e s rs).1/\∀v∈(wF a qs e s rs).1,v.kind≠3
 |[],e,s,rs,h1,h2=>⟨h1,h2⟩
 |q::qs,e,s,rs,h1,h2=>by
  unfold wF;cases q.model==a
  ·exact Ge a s0 qs e s rs h1 h2
  ·refine Ge a s0 qs _ _ _ (by unfold tV at h1⊢;rw[Yx,<-h1];rfl) λv hv=>?_
   rcases Yr.1 hv with hv|hv
   ·exact h2 v hv
   ·rw[Ym.1 hv];exact(show¬(4:Int)=3 by decide)
theorem NA (r:Runtime) (x:Step):(eo r x).2.sched=tV r.sched (eo r x).1/\∀v∈(eo r x).1,v.kind≠3:=by
 unfold eo;cases IY r x.a
 ·exact gj _ _ _
 obtain⟨h1,h2⟩:=Ge x.a r.sched r.ae [] r.sched r.ae rfl λv hv=>absurd hv (by simp);refine⟨?_,λv hv=>?_⟩
 ·unfold tV at h1⊢;simp only[cond_true];rw[Yx,<-h1];rfl
 ·rcases Yr.1 hv with hv|hv
  ·exact h2 v hv
  ·rw[Ym.1 hv];exact(show¬(1:Int)=3 by decide)
theorem NB (r:Runtime) (x:Step):((dS r x).2.1=tV r.sched (dS r x).1/\∀v∈(dS r x).1,v.kind≠3)\/∃cs due,(dS r x).1=[⟨2,r.sched.next,due,zG⟩]/\eY r.sched cs due=((dS r x).2.1,r.sched.next,0):=by
 unfold dS;cases IY r x.a
 ·exact .inl (gj _ _ _)
 simp only[cond_true];cases(dw (r.ao.getD x.a.toNat en) x.input).2
 ·exact .inl (gj _ _ _)
 simp only[cond_true];cases inB x.b 0 1000000
 ·exact .inl (gj _ _ _)
 simp only[cond_true];generalize bC (dw (r.ao.getD x.a.toNat en) x.input).1.model=cs;by_cases c3:(eY r.sched cs (r.sched.now+x.b)).2.2=0
 ·obtain⟨h1,_⟩:=Ak c3;rw[decide_eq_true c3];refine .inr ⟨cs,r.sched.now+x.b,by rw[cond_true,h1],?_⟩;rw[cond_true,<-h1,<-c3]
 ·rw[decide_eq_false c3];exact .inl (gj _ _ _)
def Al (r:Runtime) (x:Step) (e:List Event) (r':Runtime):Prop:=
 (nj (tU r.ae) e (tU r'.ae)/\r'.sched.next=r.sched.next)\/
 ∃due,e=[⟨2,r.sched.next,due,zG⟩]/\r'.sched.next=r.sched.next+1/\r'.ae=r.ae++[⟨r.sched.next,x.a,⟨r.ao.getD x.a.toNat en,0,x.input,0⟩,due⟩]/\r'.ao=r.ao/\0<=x.a/\x.a<4
theorem Qp {r:Runtime} (x:Step):nj (tU r.ae) (pJ r x).1 (tU r.ae):=by
 have ref:∀c,nj (tU r.ae) (cU x.kind c) (tU r.ae):=λc=>.other (by simp) (by simp) (by simp) .nil;unfold pJ;cases(inB x.a 0 3&&!r.aq.getD x.a.toNat false)
 ·exact ref _
 cases(decide ((dR x.data).2=0)&&sr (dR x.data).1)
 ·exact ref _
 ·exact .other (by simp) (by simp) (by simp) .nil
theorem KB {r:Runtime} (h:pM r) (x:Step):Al r x (dS r x).1 ⟨(dS r x).2.1,r.ao,r.aq,(dS r x).2.2⟩:=by
 have ref:∀c,Al r x (cU x.kind c,r.sched,r.ae).1 ⟨(cU x.kind c,r.sched,r.ae).2.1,r.ao,r.aq,(cU x.kind c,r.sched,r.ae).2.2⟩:=λc=>.inl ⟨.other (by simp) (by simp) (by simp) .nil,rfl⟩;unfold dS;cases c0:IY r x.a
 ·exact ref _
 simp only[cond_true];have c1':=of_decide_eq_true (Yn.1 c0).1;cases c2:(dw (r.ao.getD x.a.toNat en) x.input).2
 ·exact ref _
 have hj:(dw (r.ao.getD x.a.toNat en) x.input).1=⟨r.ao.getD x.a.toNat en,0,x.input,0⟩:=by
  unfold dw at c2⊢;cases c:wJ ⟨r.ao.getD x.a.toNat en,0,x.input,0⟩
  ·rw[c]at c2;exact nomatch c2
  ·rfl
 rw[hj];simp only[cond_true];cases inB x.b 0 1000000
 ·exact ref _
 simp only[cond_true];generalize hc:bC (r.ao.getD x.a.toNat en)=cs;by_cases c3:(eY r.sched cs (r.sched.now+x.b)).2.2=0
 ·obtain⟨h1,h2⟩:=Ak c3;rw[decide_eq_true c3];simp only[cond_true];refine .inr ⟨r.sched.now+x.b,by rw[h1],?_,by rw[h1],rfl,c1'.1,by omega⟩
  rcases Cx r.sched cs (r.sched.now+x.b)with⟨_,_,_,_,g⟩|⟨g,_⟩
  ·show(eY r.sched cs (r.sched.now+x.b)).1.next=_
   rw[g]
  ·exact(g c3).elim
 ·rw[decide_eq_false c3];exact ref _
theorem KC {r:Runtime} (h:pM r) (x:Step):nj (tU r.ae) (eo r x).1 (tU (eo r x).2.ae):=by
 unfold eo;cases IY r x.a
 ·exact .other (by simp) (by simp) (by simp) .nil
 obtain⟨d,h1,h2⟩:=CG x.a r.ae [] r.sched r.ae h.inc λi hi=>hi;simp only[cond_true];rw[h1,YC];exact h2.app (.other (by simp) (by simp) (by simp) .nil)
theorem SU {k:Nat} (hk:20000000<=k) {r:Runtime} (h:pM r) {x:Step} (hx:nk x):∃(e:List Event) (r':Runtime),pM r'/\e.length<=1000/\Al r x e r'/\ng k r x=some (Nz e r')/\gK k r x=some (Nz e r')/\Qo r x e r'.sched:=by
 have hM:=aj;have hq:=h.SS;have ht:=h.tot;unfold ng gK;simp only[cO];by_cases c0:x.kind=0
 ·simp only[if_pos c0];rw[Iu (by omega) hx.byte (by have:=hx.data;have:=aj;omega) h.ll h.ml,Qh (by omega) hx.byte (by have:=hx.data;have:=aj;omega) h.ll h.ml];exact⟨(pJ r x).1,⟨r.sched,(pJ r x).2.1,(pJ r x).2.2,r.ae⟩,(Qn h x).1,by have:=(Qn h x).2;omega,.inl ⟨Qp x,rfl⟩,rfl,rfl,.inr ⟨by rw[c0];rfl,.inl (R4 r x)⟩⟩
 simp only[if_neg c0];by_cases c1:x.kind=1
 ·simp only[if_pos c1];obtain⟨i1,i2,i3,i4,i5,i6⟩:=Kz h hk (x:=x);rw[CH h hk,i1];refine⟨(eo r x).1,(eo r x).2,(Ix h x).1,by have:=(Ix h x).2;omega,.inl ⟨KC h x,i6⟩,rfl,?_,.inr ⟨by rw[c1];rfl,.inl (NA r x)⟩⟩;simp only[aa,Nz,i2,i3,i4,i5,i6]
 simp only[if_neg c1];by_cases c2:x.kind=2
 ·simp only[if_pos c2];rw[CD h hk hx.input,Ky h hk hx.input];exact⟨(dS r x).1,⟨(dS r x).2.1,r.ao,r.aq,(dS r x).2.2⟩,(Iw h x).1,by have:=(Iw h x).2;omega,KB h x,rfl,rfl,.inr ⟨by rw[c2];rfl,NB r x⟩⟩
 simp only[if_neg c2];by_cases c3:x.kind=3
 ·simp only[if_pos c3];unfold iQ;rw[tz (by omega) (by omega),aa,xV (by omega) (by omega),aa];by_cases c:wE r.ae x.a<0
  ·rw[decide_eq_true c];unfold bn ek;simp only[cond_true,aa,decide_true];exact⟨cU x.kind 7,r,h,by simp[cU],.inl ⟨.other (by simp) (by simp) (by simp) .nil,rfl⟩,rfl,rfl,.inr ⟨by rw[c3];rfl,.inl (gj _ _ _)⟩⟩
  ·rw[decide_eq_false c];obtain⟨q,hq1,hq2⟩:=Iy c;have hid:1<=x.a:=hq2▸CC h q hq1;simp only[cond_false];rw[xY (by omega) (by omega) h.s hid,Iv (by omega) (by omega)];simp only[aa,decide_true,cond_true];exact⟨[CE x.a],Ui r x.a,LV h hid,by simp,.inl ⟨.ends (.inr rfl) (by show x.a∈tU r.ae;unfold tU;exact ZE.2 ⟨q,hq1,hq2⟩) (λh=>absurd h (show¬(4:Int)=3 by decide)) (by show nj ((tU r.ae).filter λi=>!(i==x.a)) [] (tU (Ai r.ae x.a));rw[Aj];exact .nil),rfl⟩,rfl,rfl,.inr ⟨by rw[c3];rfl,.inl ⟨rfl,λv hv=>by rw[Ym.1 hv];exact(show¬(4:Int)=3 by decide)⟩⟩⟩
 simp only[if_neg c3]
 have run:∀(st:Bool),(x.kind==5)=st->∃(e:List Event) (s':ak) (rs':List Request),pM ⟨s',r.ao,r.aq,rs'⟩/\e.length<=1000/\(nj (tU r.ae) e (tU rs')/\((inB x.a 0 200=true/\Tr st x.a.toNat r.sched e s')\/(inB x.a 0 200=false/\s'=tV r.sched e/\∀v∈e,v.kind≠3)))/\(s'.ai=r.sched.ai/\s'.age=r.sched.age/\s'.next=r.sched.next)/\
   gI k r x st=some (e,s'.now,s'.ai,s'.age,s'.tasks,s'.run,s'.left,s'.turns,s'.next,rs')/\gd k r x=some (e,s'.now,s'.tasks,s'.run,s'.left,s'.turns,rs'):=λst hst=>by
  unfold gI gd bn ek;rw[bN,aa,gn,aa];cases c:inB x.a 0 200
  ·simp only[X8,cond_true,aa,decide_true];exact⟨cU x.kind 8,r.sched,r.ae,h,by simp[cU],⟨.other (by simp) (by simp) (by simp) .nil,.inr ⟨by first|rfl|trivial,gj _ _ _⟩⟩,⟨rfl,rfl,rfl⟩,rfl,rfl⟩
  have c':=of_decide_eq_true c;simp only[XJ,cond_false,decide_true,cond_true];obtain⟨e,s',rs',g1,g2,⟨d,dd,td,tr⟩,g3,_,g5,g6⟩:=L0 hk (st:=st) (ms:=r.ao) (ls:=r.aq) (a:=x.a) (by omega) (q1:=x.kind) (q2:=x.b) (q4:=x.input.sh.h) (q5:=x.input.sh.w) (q6:=x.input.sh.c) (kd:=x.kind) (p9:=x.a) (q3:=x.data) (q7:=x.input.data) hst x.a.toNat 0 r.sched r.ae [] (by omega) (by omega) h (by simp;omega);refine⟨e,s',rs',g1,?_,⟨by rw[dd];exact td,.inl ⟨by first|rfl|trivial,by rw[dd];exact tr⟩⟩,g3,g5 _ _ k (by omega),g6 _ _ k (by omega)⟩;simp only[X2]at g2;omega
 by_cases c4:x.kind=4
 ·simp only[if_pos c4];obtain⟨e,s',rs',g1,g2,⟨td,tt⟩,g3,g4,g5⟩:=run false (by rw[c4];rfl);rw[g4,g5]
  refine⟨e,⟨s',r.ao,r.aq,rs'⟩,g1,g2,.inl ⟨td,g3.2.2⟩,rfl,?_,by
   rcases tt with⟨t1,t2⟩|⟨t1,t2⟩
   ·exact .inl ⟨by rw[c4,t1];rfl,by rw[c4];exact t2⟩
   ·exact .inr ⟨by rw[c4,t1];rfl,.inl t2⟩⟩
  simp only[aa,Nz,g3.1,g3.2.1,g3.2.2]
 simp only[if_neg c4];by_cases c5:x.kind=5
 ·simp only[if_pos c5];obtain⟨e,s',rs',g1,g2,⟨td,tt⟩,g3,g4,g5⟩:=run true (by rw[c5];rfl);rw[g4,g5]
  refine⟨e,⟨s',r.ao,r.aq,rs'⟩,g1,g2,.inl ⟨td,g3.2.2⟩,rfl,?_,by
   rcases tt with⟨t1,t2⟩|⟨t1,t2⟩
   ·exact .inl ⟨by rw[c5,t1];rfl,by rw[c5];exact t2⟩
   ·exact .inr ⟨by rw[c5,t1];rfl,.inl t2⟩⟩
  simp only[aa,Nz,g3.1,g3.2.1,g3.2.2]
 simp only[if_neg c5];unfold bn ek;simp only[aa];exact⟨cU x.kind 8,r,h,by simp[cU],.inl ⟨.other (by simp) (by simp) (by simp) .nil,rfl⟩,rfl,rfl,.inr ⟨by rw[show inB x.kind 4 5=false from decide_eq_false (by omega)];rfl,.inl (gj _ _ _)⟩⟩
theorem Un {k:Nat} (hk:20000000<=k) {r:Runtime} (h:pM r) {x:Step} (hx:nk x):∃(e:List Event) (r':Runtime),pM r'/\e.length<=1000/\Al r x e r'/\ng k r x=some (Nz e r')/\gK k r x=some (Nz e r'):=by
 obtain⟨e,r',a,b,c,d,f,_⟩:=SU hk h hx;exact⟨e,r',a,b,c,d,f⟩
end
set_option maxRecDepth 100000
set_option maxHeartbeats 4000000
section
def rt0 (s:ak):Runtime:=⟨s,List.replicate 4 en,List.replicate 4 false,[]⟩
def W3:Runtime:=⟨⟨0,0,0,[],0,0,0,0⟩,[],[],[]⟩
theorem CI {k:Nat} {a b:Int} (hk:0<k):oo k a b=some (cond (bI (Gc a b)) (rt0 (Gc a b),true) (W3,false)):=by
 unfold oo;rw[RX hk,aa];cases bI (Gc a b)<;>rfl
theorem CJ {k:Nat} {a b:Int} (hk:0<k):oq k a b=some (cond (bI (Gc a b)) (rt0 (Gc a b),true) (W3,false)):=by
 unfold oq;rw[RY hk,aa];cases bI (Gc a b)<;>rfl
theorem Vv {a b:Int} (h:bI (Gc a b)=true):pM (rt0 (Gc a b)):=⟨SQ h,rfl,rfl,λm hm=>by rw[(ZJ.1 hm).2];exact Ya _,.nil⟩
theorem KE {xs:List Step} (hx:okS Step.Ok xs) (ht:fI Step.tot xs<=1048576):∀x∈xs,nk x:=λx hm=>by
 have hM:=aj;have h1:=hx.2 x hm;have h2:=fl Step.tot hm;have h3:x.tot=x.data.length+(x.input.tot+0):=rfl;exact⟨h1.2.2.2.1.2,by omega,by omega⟩
end
set_option maxRecDepth 100000
set_option maxHeartbeats 4000000
section
def Et (E:List Entry):Prop:=∀(i:Nat) (h:i<E.length),E[i].id=(i:Int)+1
theorem Et.set {E:List Entry} (h:Et E) {j:Nat} {y:Entry} (hy:y.id=(j:Int)+1):Et (E.set j y):=λi hi=>by
 rw[List.getElem_set];by_cases c:j=i
 ·subst c;rw[if_pos rfl];exact hy
 ·rw[if_neg c];exact h i (by simpa using hi)
theorem Et.app {E:List Entry} (h:Et E) {y:Entry} (hy:y.id=(E.length:Int)+1):Et (E++[y]):=λi hi=>by
 rw[List.getElem_append];by_cases c:i<E.length
 ·rw[dif_pos c];exact h i c
 ·rw[dif_neg c];simp only[XG,XI,X2]at hi
  have:i=E.length:=by omega
  subst this;simpa using hy
section
variable {k:Nat} {p:List Step× Int× Int× List Event× Int× Int× Int× Int× Int× Int× Int× Int× Int× Int× Int× Int× Int× Int× Int× List Event× Int× Int× Int× Int× Int× Int× List Int× List Request× List Task× List Model× List Bool× List Request} {ev:Event} {now:Int}
 (h1:p.2.2.2.2.2.2.2.2.2.2.2.2.2.2.2.2.2.2.2.2.1=ev.kind) (h2:p.2.2.2.2.2.2.2.2.2.2.2.2.2.2.2.2.2.2.2.2.2.1=ev.a) (h3:p.2.2.2.2.2.2.2.2.2.2.2.2.2.2.2.2.2.2.2.2.2.2.1=ev.b) (h4:p.2.2.1=now)
include h1 h2 h3 h4
end
end
set_option maxRecDepth 100000
set_option maxHeartbeats 4000000
section
end
set_option maxRecDepth 100000
set_option maxHeartbeats 4000000
section
theorem nj.sub {ids ids':List Int} {es:List Event} (h:nj ids es ids'):∀i∈ids',i∈ids:=by
 induction h with
 |nil=>exactλi h=>h
 |other _ _ _ _ ih=>exact ih
 |ends _ _ _ _ ih=>exactλi hi=>(Yv.1 (ih i hi)).1
theorem nj.told {ids ids':List Int} {es:List Event} (h:nj ids es ids'):∀e∈es,e.kind=3->e.a∈ids/\e.out.okB=true:=by
 induction h with
 |nil=>exactλe he=>absurd he (by simp)
 |other k2 k3 k4 _ ih=>
  intro e he hk
  rcases X3.1 he with rfl|he
  ·exact absurd hk k3
  ·exact ih e he hk
 |ends kk hm ho _ ih=>
  intro e he hk
  rcases X3.1 he with rfl|he
  ·exact⟨hm,ho hk⟩
  ·obtain⟨g1,g2⟩:=ih e he hk;exact⟨(Yv.1 g1).1,g2⟩
end
set_option maxRecDepth 100000
set_option maxHeartbeats 4000000
section
end
section
end
section
end
set_option maxRecDepth 100000
section
theorem mm.of {α β:Type} {a:α} {f:α->Option β} {Q:β->Prop} (h:mm (f a) Q):mm ((Option.some a).bind f) Q:=h
section
variable {b:List Int} {k:Nat}
end
end
set_option maxRecDepth 100000
section
section
variable {b:List Int} {k:Nat}
end
end
set_option maxRecDepth 100000
section
section
variable {b:List Int} {k:Nat}
end
end
section
def vb:Nat->Nat->List Int
 |0,u=>[(u:Int)]
 |f+1,u=>if 128<=u then((128+u %128:Nat):Int)::vb f (u/128)else[(u:Int)]
def zig (x:Int):Nat:=if x<0 then(-2*x-1).toNat else(2*x).toNat
def wide (x:Int):List Int:=vb 6 (zig x)
def cK (x:Int):Bool:=inB x (-1099511627776) 1099511627775
theorem SW:∀f u,(vb f u).length<=f+1
 |0,u=>by simp[vb]
 |f+1,u=>by
  simp only[vb];split
  ·have:=SW f (u/128);simp;omega
  ·simp
theorem Am (x:Int):(wide x).length<=7:=SW 6 _
theorem Iz {x:Int} (h:cK x=true):zig x<2199023255552:=by
 have:=bd.1 h;unfold zig;split<;>omega
theorem NC (u:Nat):u8.wrap (u:Int)=((u %256:Nat):Int):=by
 show(u:Int) %256=_;omega
theorem Vw (u:Nat):u8.wrap (((BitVec.ofInt u8.bits (u8.wrap (u:Int))||| BitVec.ofInt u8.bits (128:Int)).toNat:Nat):Int)=((128+u %128:Nat):Int):=by
 have e:(BitVec.ofInt u8.bits (u8.wrap (u:Int))||| BitVec.ofInt u8.bits (128:Int)).toNat=128+u %128:=by
  rw[NC,BitVec.toNat_or,wu];show u %256 %2^8||| 128=_
  have h1:u %256 %2^8=u %256:=by omega
  rw[h1]
  have h2:u %256=u %128+128*(u/128 %2):=by omega
  have h4:u/128 %2=0\/u/128 %2=1:=by omega
  have h5:=Nat.two_pow_add_eq_or_of_lt (i:=7) (show u %128<2^7 by omega) 1;rw[show 2^7*1=128 from rfl]at h5
  rcases h4 with h4|h4
  ·rw[h2,h4,Nat.mul_zero,Yd,Nat.or_comm,<-h5]
  ·rw[h2,h4,Nat.mul_one,Nat.add_comm (u %128) 128,h5,Nat.or_comm 128,Nat.or_assoc,show(128||| 128:Nat)=128 from rfl,Nat.or_comm]
 rw[e,Hx (by omega) (by omega)]
theorem R5 (u:Nat):u8.wrap (i64.wrap ((128:Int)+((u:Int).tmod (128:Int))))=((128+u %128:Nat):Int):=by
 have e:((u:Int).tmod 128)=((u %128:Nat):Int):=rfl;rw[e,aL (by omega) (by omega),Hx (by omega) (by omega)];rfl
section
variable {R:Type}
theorem KF {g:Int× List Int->(Int× List Int->Option R)->Option R} {F:List Int->Option R} {L:Nat}
  (hgo:∀(u:Nat) (out:List Int) (next:Int× List Int->Option R),128<=u->u<2^62->out.length<=L->g ((u:Int),out) next=next (((u/128:Nat):Int),out++[((128+u %128:Nat):Int)]))
  (Um:∀(u:Nat) (out:List Int) (next:Int× List Int->Option R),u<128->out.length<=L->g ((u:Int),out) next=F (out++[(u:Int)])):
  ∀(f u k:Nat) (out:List Int),u<2^(7*(f+1))->u<2^62->out.length+f<=L->f<k->iter g k ((u:Int),out)=F (out++vb f u)
 |f,u,0,_,_,_,_,hk=>by omega
 |0,u,k+1,out,hu,_,hl,_=>by
  rw[aI]
  exact Um u out _ (by simpa using hu) (by omega)
 |f+1,u,k+1,out,hu,hu2,hl,hk=>by
  rw[aI];simp only[vb];by_cases c:128<=u
  ·rw[if_pos c,hgo u out _ c hu2 (by omega)]
   have hd:u/128<2^(7*(f+1)):=by
    rw[show 7*(f+1+1)=7*(f+1)+7 from by omega,Nat.pow_add]at hu;exact Nat.div_lt_of_lt_mul (by omega)
   rw[KF hgo Um f (u/128) k _ hd (by omega) (by simp;omega) (by omega)];rw[XP];rfl
  ·rw[if_neg c];exact Um u out _ (by omega) (by omega)
end
theorem su {k:Nat} {x:Int} (hk:6<k):pq k x=some (cond (cK x) (wide x) []):=by
 have hM:=aj;unfold pq;rw[bN,aa];show cond (!cK x) _ _=_;cases h:cK x
 ·rfl
 simp only[XJ,cond_false,cond_true];have hx:=bd.1 h;have hz:=Iz h
 have run:∀(u:Nat),u<2199023255552->iter (λu3 n3=>iY k () u3 n3 (λy2=>cond (Nat.ble (y2.2.length+[(u8.wrap (y2.1))].length) aG) (some (y2.2++[(u8.wrap (y2.1))])) none)) k ((u:Int),([]:List Int))=some (vb 6 u):=λu hu=>by
  refine(KF (F:=some) (L:=100) (λu out next hu1 hu2 ho=>?_) (λu out next hu1 ho=>?_) 6 u k [] (by omega) (by omega) (by simp) hk)
  ·simp only[iY];have e2:(u:Int).tdiv 128=((u/128:Nat):Int):=rfl;rw[ab,if_pos (by omega),R5,bR (by simp;omega),e2,aL (by omega) (by omega)]
  ·simp only[iY];rw[ab,if_neg (by omega),bR (by simp;omega),Hx (by omega) (by omega)]
 unfold wide zig at*;by_cases c:x<0
 ·rw[ab,if_pos c];rw[if_pos c]at hz⊢;rw[aL (n:=-2*x) (by omega) (by omega),aL (n:=-2*x-1) (by omega) (by omega)];have:=run (-2*x-1).toNat (by omega);rw[show(((-2*x-1).toNat:Nat):Int)=-2*x-1 from by omega]at this;exact this
 ·rw[ab,if_neg c];rw[if_neg c]at hz⊢;rw[aL (n:=2*x) (by omega) (by omega)];have:=run (2*x).toNat (by omega);rw[show(((2*x).toNat:Nat):Int)=2*x from by omega]at this;exact this
def ic (xs:List Int):List Int:=xs.flatMap wide
theorem jO:∀xs:List Int,(ic xs).length<=7*xs.length
 |[]=>by simp[ic]
 |x::l=>by
  have h1:=jO l;have h2:=Am x;unfold ic at*;rw[List.flatMap_cons,XG,XI];omega
theorem IA (xs ys:List Int):ic (xs++ys)=ic xs++ic ys:=Y2
section
variable {R:Type}
theorem tA {xs out0:List Int} {g:Int× List Int->(Int× List Int->Option R)->Option R} {F:List Int->Option R}
  (h:∀(i:Nat) (out:List Int) (hi:i<xs.length) (next:Int× List Int->Option R),out.length<=out0.length+7*i->g ((i:Int),out) next=next (((i+1:Nat):Int),out++wide xs[i]))
  (hn:∀(out:List Int) (next:Int× List Int->Option R),out.length<=out0.length+7*xs.length->g ((xs.length:Int),out) next=F out) {k:Nat} (hk:xs.length<k):iter g k (0,out0)=F (out0++ic xs):=by
 have hl:∀i,i<=xs.length->(out0++ic (xs.take i)).length<=out0.length+7*i:=λi hi=>by
  have:=jO (xs.take i);rw[X9,Zh hi]at this;rw[XG];omega
 have:=eG (g:=g) (st:=λi=>((i:Int),out0++ic (xs.take i))) (n:=xs.length) (r:=F (out0++ic xs)) (λi hi next=>by
  rw[h i _ hi next (hl i (by omega)),cR hi,IA,XP]
  simp[ic]) (λnext=>by
  have:=hl xs.length (X1 _);rw[Yj]at this;simp only[Yj]
  exact hn _ next this) hk
 simpa[ic]using this
end
theorem Ao {R:Type} {xs out0:List Int} {g:Int× List Int->(Int× List Int->Option R)->Option R} {F:List Int->Option R} (hN:out0.length+xs.length<=aG)
  (h:∀(i:Nat) (out:List Int) (hi:i<xs.length) (next:Int× List Int->Option R),out.length+1<=aG->g ((i:Int),out) next=next (((i+1:Nat):Int),out++[xs[i]]))
  (hn:∀(out:List Int) (next:Int× List Int->Option R),g ((xs.length:Int),out) next=F out) {k:Nat} (hk:xs.length<k):iter g k (0,out0)=F (out0++xs):=by
 have:=eG (g:=g) (st:=λi=>((i:Int),out0++xs.take i)) (n:=xs.length) (r:=F (out0++xs)) (λi hi next=>by
  rw[h i _ hi next (by rw[XG,X9,Zh (by omega)];omega),cR hi,XP]) (λnext=>by
  simp only[Yj];exact hn _ next) hk
 simpa using this
theorem Dj {k:Nat} {xs:List Int} (hk:xs.length+7<k) (hN:7*xs.length+7<=aG) (hw:xs.all cK=true):mW k xs=some (ic xs):=by
 have hM:=aj;unfold mW;refine(tA (xs:=xs) (out0:=[]) (F:=some) (λi out hi next hl=>?_) (λout next _=>?_) (by omega)).trans (by simp)
 ·simp only[ky];rw[ab,if_pos (by omega),ab,if_pos (by omega),show(i:Int).toNat=i from rfl,ag hi,aa,su (by omega),aa,X6.1 hw _ (XH hi),cond_true];have h7:=Am xs[i];refine Ao (F:=λo=>next (i64.wrap ((i:Int)+1),o)) (xs:=wide xs[i]) (out0:=out) (by simp at hl;omega) (λj o hj nx ho=>?_) (λo nx=>?_) (by omega)|>.trans ?_
  ·simp only[kv];rw[ab,if_pos (by omega),ab,if_pos (by omega),show(j:Int).toNat=j from rfl,ag hj,aa,bR (by simp;omega),al hj (by omega)]
  ·simp only[kv];rw[ab,if_neg (by omega)]
  ·rw[al hi (by omega)]
 ·simp only[ky];rw[ab,if_neg (by omega)]
theorem oU {k:Nat} {a xs:List Int} (hk:xs.length+7<k) (hN:a.length+7*xs.length+7<=aG) (hw:xs.all cK=true):fN k a xs=some (a++ic xs):=by
 have hM:=aj;unfold fN;refine(tA (xs:=xs) (out0:=a) (F:=some) (λi out hi next hl=>?_) (λout next _=>?_) (by omega))
 ·simp only[kA];rw[ab,if_pos (by omega),ab,if_pos (by omega),show(i:Int).toNat=i from rfl,ag hi,aa,su (by omega),aa,X6.1 hw _ (XH hi),cond_true];have h7:=Am xs[i];refine Ao (F:=λo=>next (i64.wrap ((i:Int)+1),o)) (xs:=wide xs[i]) (out0:=out) (by omega) (λj o hj nx ho=>?_) (λo nx=>?_) (by omega)|>.trans ?_
  ·simp only[kz];rw[ab,if_pos (by omega),ab,if_pos (by omega),show(j:Int).toNat=j from rfl,ag hj,aa,bR (by simp;omega),al hj (by omega)]
  ·simp only[kz];rw[ab,if_neg (by omega)]
  ·rw[al hi (by omega)]
 ·simp only[kA];rw[ab,if_neg (by omega)];rfl
theorem Dk {k:Nat} {a xs:List Int} (hk:xs.length+7<k) (hN:a.length+7*xs.length+7<=aG) (hw:xs.all cK=true):mX k a xs=some (a++ic xs):=by
 have hM:=aj;unfold mX;refine(tA (xs:=xs) (out0:=a) (F:=some) (λi out hi next hl=>?_) (λout next _=>?_) (by omega))
 ·simp only[kC];rw[ab,if_pos (by omega),aD,ag hi,aa,su (by omega),aa,X6.1 hw _ (XH hi),cond_true];have h7:=Am xs[i];refine Ao (F:=λo=>next (i64.wrap ((i:Int)+1),o)) (xs:=wide xs[i]) (out0:=out) (by omega) (λj o hj nx ho=>?_) (λo nx=>?_) (by omega)|>.trans ?_
  ·simp only[kB];rw[ab,if_pos (by omega),ab,if_pos (by omega),show(j:Int).toNat=j from rfl,ag hj,aa,bR (by simp;omega),al hj (by omega)]
  ·simp only[kB];rw[ab,if_neg (by omega)]
  ·rw[al hi (by omega)]
 ·simp only[kC];rw[ab,if_neg (by omega)]
theorem Qq {R:Type} {x:Int} (hw:cK x=true) {out:List Int} (hl:out.length+7<=aG) {k:Nat} (hk:6<k) {g:Int× List Int->(Int× List Int->Option R)->Option R} {F:List Int->Option R}
    (hg:∀(v:Int× List Int) (next:Int× List Int->Option R),g v next=cond (decide (v.1>(127:Int))) (cond (Nat.ble (v.2.length+[(u8.wrap (((BitVec.ofInt u8.bits (u8.wrap (v.1))||| BitVec.ofInt u8.bits (128:Int)).toNat:Int)))].length) aG) (next (v.1.fdiv (2^(min (7:Int).toNat i64.bits)),v.2++[(u8.wrap (((BitVec.ofInt u8.bits (u8.wrap (v.1))||| BitVec.ofInt u8.bits (128:Int)).toNat:Int)))])) none)
      (cond (Nat.ble (v.2.length+[(u8.wrap (v.1))].length) aG) (F (v.2++[(u8.wrap (v.1))])) none)):
    cond (decide (x<(0:Int))) (iter g k (i64.wrap ((i64.wrap ((-2:Int)*x))-(1:Int)),out)) (iter g k (i64.wrap ((2:Int)*x),out))=F (out++wide x):=by
  have hx:=bd.1 hw;have hz:=Iz hw
  have run:∀(u:Nat),u<2199023255552->iter g k ((u:Int),out)=F (out++vb 6 u):=λu hu=>by
    refine(KF (F:=F) (L:=out.length+6) (λu o next hu1 hu2 ho=>?_) (λu o next hu1 ho=>?_) 6 u k out (by omega) (by omega) (by omega) hk)
    · rw[hg]
      have e2:(u:Int).fdiv (2^(min (7:Int).toNat i64.bits))=((u/128:Nat):Int):=by
        show(u:Int).fdiv 128=_;rw[Int.fdiv_eq_ediv_of_nonneg _ (by omega)];rfl
      simp only;rw[ab,if_pos (by omega),Vw,bR (by simp;omega),e2]
    · rw[hg];simp only;rw[ab,if_neg (by omega),bR (by simp;omega),Hx (by omega) (by omega)]
  unfold wide zig at*;by_cases c:x<0
  · rw[ab,if_pos c];rw[if_pos c]at hz⊢;rw[aL (n:=-2*x) (by omega) (by omega),aL (n:=-2*x-1) (by omega) (by omega)];have:=run (-2*x-1).toNat (by omega);rw[show(((-2*x-1).toNat:Nat):Int)=-2*x-1 from by omega]at this;exact this
  · rw[ab,if_neg c];rw[if_neg c]at hz⊢;rw[aL (n:=2*x) (by omega) (by omega)];have:=run (2*x).toNat (by omega);rw[show(((2*x).toNat:Nat):Int)=2*x from by omega]at this;exact this
theorem jP {k:Nat} {a xs:List Int} (hk:xs.length+7<k) (hN:a.length+7*xs.length+7<=aG) (hw:xs.all cK=true):fJ k a xs=some (a++ic xs):=by
 have hM:=aj;unfold fJ;refine(tA (xs:=xs) (out0:=a) (F:=some) (λi out hi next hl=>?_) (λout next _=>?_) (by omega))
 ·simp only[jz];rw[ab,if_pos (by omega),aD,ag hi,aa];refine(Qq (F:=λo=>next (i64.wrap ((i:Int)+1),o)) (X6.1 hw _ (XH hi)) (by omega) (by omega) (λv nx=>rfl)).trans ?_;rw[al hi (by omega)]
 ·simp only[jz];rw[ab,if_neg (by omega)]
theorem CK {k:Nat} {xs:List Int} (hk:xs.length+7<k) (hN:7*xs.length+7<=aG) (hw:xs.all cK=true):rU k xs=some (ic xs):=by
 have:=jP (a:=[]) hk (by simpa using hN) hw;rw[YC]at this;exact this
theorem zq {k:Nat} {a b:List Int} (hk:a.length+b.length<k) (hN:a.length+b.length<=aG):pt k a b=some (a++b):=by
 have hM:=aj;unfold pt;rw[wi (by omega) (by omega),aa];refine Ao (xs:=b) (out0:=a) (F:=some) hN (λj o hj nx ho=>?_) (λo nx=>?_) (by omega)
 ·simp only[nO];rw[ab,if_pos (by omega),aD,ag hj,aa,bR (by simp;omega),al hj (by omega)]
 ·simp only[nO];rw[ab,if_neg (by omega)]
def oW (x:Step):Bool:=decide ((x.data.length:Int)<=6000)&&(decide ((x.input.data.length:Int)<=512)&&([x.kind,x.a,x.b].all cK&&([x.input.sh.h,x.input.sh.w,x.input.sh.c].all cK&&x.input.data.all cK)))
def eI (x:Step):List Int:=ic [x.kind,x.a,x.b,(x.data.length:Int)]++x.data++ic ([x.input.sh.h,x.input.sh.w,x.input.sh.c,(x.input.data.length:Int)]++x.input.data)
def ND (x:Step):List Int× Bool:=cond (oW x) (eI x,true) ([],false)
theorem Gf {x:Step} (h:oW x=true):(eI x).length<=10000:=by
 unfold oW at h;simp only[XB,decide_eq_true_eq]at h;have h1:=jO [x.kind,x.a,x.b,(x.data.length:Int)];have h2:=jO ([x.input.sh.h,x.input.sh.w,x.input.sh.c,(x.input.data.length:Int)]++x.input.data);simp only[XG,XI,X2]at h1 h2;unfold eI;rw[XG,XG];omega
theorem zr (k:Nat) (x:Int):iz k x=some (cK x):=by
 unfold iz;rw[bN];rfl
theorem CL {k:Nat} {xs:List Int} (hk:xs.length<k) (hx:xs.length<=aG):aT k xs=some (!xs.all cK):=by
 have hM:=aj;show _=some (!xs.all λx=>inB x (-1099511627776) 1099511627775);unfold aT cy
 rw[dX xs (λx=>!inB x (-1099511627776) 1099511627775) (λi hi next=>by
  simp only[bu,ab,rS,BU,aa]
  rw[if_pos (by omega),aD,ag hi,aa,al hi (by omega)]) (λnext=>by
  simp only[bu,ab];rw[if_neg (by omega)]) hk]
 rw[cQ];simp only[aa,mB];rw[YZ];simp
theorem dT {n:Nat} (h:n<=20000):cK (n:Int)=true:=bd.2 (by omega)
theorem IB {k:Nat} {x:Step} (hk:x.tot+20<k) (hN:7*x.tot+100<=aG):vI k x=some (ND x):=by
 have hM:=aj;have ht:x.tot=x.data.length+(x.input.data.length+0+0):=rfl;unfold vI;rw[bR (by simp;omega),ab];by_cases c1:(x.data.length:Int)>6000
 ·rw[if_pos c1];unfold ND oW;rw[decide_eq_false (show¬(x.data.length:Int)<=6000 by omega)];rfl
 rw[if_neg c1,ab];by_cases c2:(x.input.data.length:Int)>512
 ·rw[if_pos c2];unfold ND oW;rw[decide_eq_false (show¬(x.input.data.length:Int)<=512 by omega),Yy,Zc];rfl
 rw[if_neg c2,CL (by simp;omega) (by simp;omega),aa,CL (by simp;omega) (by simp;omega),aa]
 have e1:[x.kind,x.a,x.b,(x.data.length:Int)].all cK=[x.kind,x.a,x.b].all cK:=by
  simp[dT (n:=x.data.length) (by omega)]
 have e2:([x.input.sh.h,x.input.sh.w,x.input.sh.c,(x.input.data.length:Int)]++x.input.data).all cK=([x.input.sh.h,x.input.sh.w,x.input.sh.c].all cK&&x.input.data.all cK):=by
  rw[List.all_append];simp[dT (n:=x.input.data.length) (by omega)]
 have d1:decide ((x.data.length:Int)<=6000)=true:=decide_eq_true (by omega);have d2:decide ((x.input.data.length:Int)<=512)=true:=decide_eq_true (by omega);cases h1:[x.kind,x.a,x.b].all cK
 ·rw[e1,h1];unfold ND oW;rw[d1,d2,h1];rfl
 cases h2:([x.input.sh.h,x.input.sh.w,x.input.sh.c].all cK&&x.input.data.all cK)
 ·rw[e1,h1,e2,h2];unfold ND oW;rw[d1,d2,h1,h2];rfl
 have w1:=jO [x.kind,x.a,x.b,(x.data.length:Int)];simp only[XI,X2]at w1;rw[CK (by simp;omega) (by simp;omega) (by rw[e1,h1]),aa,bR (by omega)];rw[jP (by simp;omega) (by simp;omega) (by rw[e2,h2]),aa,e1,h1,e2,h2];unfold ND oW;rw[d1,d2,h1,h2];rfl
theorem IC {k:Nat} {x:Step} (hk:x.tot+8000<k) (hN:7*x.tot+100<=aG):vG k x=some (ND x):=by
 have hM:=aj;have ht:x.tot=x.data.length+(x.input.data.length+0+0):=rfl;unfold vG;rw[ab];by_cases c1:(x.data.length:Int)>6000
 ·rw[if_pos c1];unfold ND oW;rw[decide_eq_false (show¬(x.data.length:Int)<=6000 by omega)];rfl
 rw[if_neg c1,ab];by_cases c2:(x.input.data.length:Int)>512
 ·rw[if_pos c2];unfold ND oW;rw[decide_eq_false (show¬(x.input.data.length:Int)<=512 by omega),Yy,Zc];rfl
 rw[if_neg c2];simp only[zr,aa];have d1:decide ((x.data.length:Int)<=6000)=true:=decide_eq_true (by omega);have d2:decide ((x.input.data.length:Int)<=512)=true:=decide_eq_true (by omega)
 have e1:[x.kind,x.a,x.b].all cK=(cK x.kind&&(cK x.a&&cK x.b)):=by simp
 have e3:[x.input.sh.h,x.input.sh.w,x.input.sh.c].all cK=(cK x.input.sh.h&&(cK x.input.sh.w&&cK x.input.sh.c)):=by simp
 have GJ:ND x=cond (cK x.kind) (cond (cK x.a) (cond (cK x.b) (cond (cK x.input.sh.h) (cond (cK x.input.sh.w) (cond (cK x.input.sh.c) (cond (x.input.data.all cK) (eI x,true) ([],false)) ([],false)) ([],false)) ([],false)) ([],false)) ([],false)) ([],false):=by
  unfold ND oW;rw[d1,d2,e1,e3];cases cK x.kind<;>cases cK x.a<;>cases cK x.b<;>cases cK x.input.sh.h<;>cases cK x.input.sh.w<;>cases cK x.input.sh.c<;>cases x.input.data.all cK<;>rfl
 rw[GJ];cases g1:cK x.kind
 ·rfl
 cases g2:cK x.a
 ·rfl
 cases g3:cK x.b
 ·rfl
 cases g4:cK x.input.sh.h
 ·rfl
 cases g5:cK x.input.sh.w
 ·rfl
 cases g6:cK x.input.sh.c
 ·rfl
 simp only[XJ,cond_false,cond_true]
 refine(kt x.input.data cK (yes:=((mW k [x.kind,x.a,x.b,(x.data.length:Int)]).bind λr10=>(pt k r10 x.data).bind λr11=>(fN k r11 [x.input.sh.h,x.input.sh.w,x.input.sh.c,(x.input.data.length:Int)]).bind λr12=>(mX k r12 x.input.data).bind λr13=>some (r13,true))) (no:=some ([],false)) (λi hi next=>by
  simp only[nP];rw[ab,if_pos (by omega),aD,ag hi,aa,zr,aa,al hi (by omega)]
  cases cK x.input.data[i]<;>rfl) (λnext=>by
  simp only[nP]
  rw[ab,if_neg (by omega)]) (by omega)).trans ?_
 cases h2:x.input.data.all cK
 ·rfl
 have w1:=jO [x.kind,x.a,x.b,(x.data.length:Int)];have w2:=jO [x.input.sh.h,x.input.sh.w,x.input.sh.c,(x.input.data.length:Int)];simp only[XI,X2]at w1 w2;rw[cond_true,Dj (by simp;omega) (by simp;omega) (by simp[g1,g2,g3,dT (n:=x.data.length) (by omega)]),aa,zq (by omega) (by omega),aa];rw[oU (by simp;omega) (by simp;omega) (by simp[g4,g5,g6,dT (n:=x.input.data.length) (by omega)]),aa];rw[Dk (by omega) (by simp;omega) h2,aa,cond_true];unfold eI;rw[IA];simp only[XP]
end
set_option maxRecDepth 100000
set_option maxHeartbeats 4000000
section
theorem Vx:∀(f u:Nat),u<128^(f+1)->∀y∈vb f u,okB y
 |0,u,h,y,hy=>by
  obtain rfl:y=(u:Int):=by simpa[vb]using hy
  unfold okB;omega
 |f+1,u,h,y,hy=>by
  unfold vb at hy;split at hy
  ·rcases X3.1 hy with rfl|hy
   ·unfold okB;omega
   ·exact Vx f (u/128) (Nat.div_lt_of_lt_mul (by rw[Nat.pow_succ]at h;omega)) y hy
  ·obtain rfl:y=(u:Int):=by simpa using hy
   unfold okB;omega
theorem nm {x:Int} (h:cK x=true):∀y∈wide x,okB y:=Vx 6 _ (ZK (Iz h) (by decide))
theorem R6 {xs:List Int} (h:xs.all cK=true):∀y∈ic xs,okB y:=λy hy=>by
 obtain⟨x,hx,hy⟩:=Zk.1 hy;exact nm (X6.1 h x hx) y hy
end
set_option maxRecDepth 100000
set_option maxHeartbeats 4000000
section
section
variable {b:List Int} {k:Nat}
end
end
section
def Step.small (x:Step) (n:Int):Prop:=(x.data.length:Int)<=n/\(x.input.data.length:Int)<=n
def mD (a b:List Step):Int:=
 ((a.zip b).findIdx? λp=>!decide (p.1=p.2)).elim (if a.length=b.length then -1 else if a.length<b.length then(a.length:Int)else b.length) λi=>(i:Int)
theorem CM {k:Nat} {a b:List Step} (hk:a.length<k) (ha:okS Step.Ok a) (h:∀x∈a,x.data.length<k/\x.input.data.length<k):nM k a b=some (mD a b):=by
  have hl:=ha.1;unfold pK at hl;unfold nM
  have hz:(a.zip b).length<=a.length:=by simp;omega
  have := dX (a.zip b) (λ p => !decide (p.1 = p.2)) (g := λ u next => gB k (a, b) u next (λ y => cond ((a.length : Int) == (b.length : Int)) (some (-1 : Int)) (cond (decide ((a.length : Int) < (b.length : Int))) (some (a.length : Int)) (some (b.length : Int)))) (λ y => some y))
    (no:=some) (yes:=some (if a.length=b.length then -1 else if a.length<b.length then(a.length:Int)else b.length)) (λi hi next=>by
      have h1:i<a.length:=by simp at hi;omega
      have h2:i<b.length:=by simp at hi;omega
      simp only[gB,ab]
      rw[if_pos (by omega),if_pos (by omega),aD,aD,ag h1,ag h2,aa,aa,FD (h a[i] (XH h1)) (ha.2 a[i] (XH h1)),aa,al h1 (by omega),List.getElem_zip]) (λnext=>by
      simp only[gB,ab,cO];rw[List.length_zip];by_cases c:a.length<=b.length
      · rw[if_neg (by omega)];by_cases e:a.length=b.length
        · rw[if_pos (by omega),if_pos e]
        · rw[if_neg (by omega),if_neg e,if_pos (by omega),if_pos (by omega)]
      · rw[if_pos (by omega),if_neg (by omega),if_neg (by omega),if_neg (by omega),if_neg (by omega),if_neg (by omega)]) (k:=k) (by omega)
  refine this.trans ?_;unfold mD;cases(a.zip b).findIdx? _<;>rfl
theorem CN {k:Nat} {a b:List Step} (hk:a.length<k) (ha:okS Step.Ok a) (hb:okS Step.Ok b) (h:∀x∈a,x.data.length<k/\x.input.data.length<k):nN k a b=some (mD a b):=by
  have hl:=ha.1;unfold pK at hl;unfold nN
  have hz:(a.zip b).length<=a.length:=by simp;omega
  generalize hm:(if(b.length:Int)<(a.length:Int)then(b.length:Int)else(a.length:Int))=m
  have hmz:m=((a.zip b).length:Int):=by rw[<-hm,List.length_zip];split<;>omega
  have := dX (a.zip b) (λ p => !decide (p.1 = p.2)) (g := λ u next => gC k (a, b, m, m) u next (λ y => cond ((a.length : Int) == (b.length : Int)) (some (-1 : Int)) (some m)) (λ y => some y))
    (no:=some) (yes:=some (if a.length=b.length then -1 else if a.length<b.length then(a.length:Int)else b.length)) (λi hi next=>by
      have h1:i<a.length:=by simp at hi;omega
      have h2:i<b.length:=by simp at hi;omega
      simp only[gC,ab]
      rw[if_pos (by omega),aD,aD,ag h1,ag h2,aa,aa,FC (h a[i] (XH h1)).2 (ha.2 a[i] (XH h1)) (hb.2 b[i] (XH h2)),aa,al h1 (by omega),List.getElem_zip,cond_not]) (λnext=>by
      simp only[gC,ab,cO];rw[if_neg (by omega)];rw[<-hm];by_cases e:a.length=b.length
      · rw[if_pos (by omega),if_pos e]
      · rw[if_neg (by omega),if_neg e];by_cases c:a.length<b.length
        · rw[if_pos c,if_neg (by omega)]
        · rw[if_neg c,if_pos (by omega)]) (k:=k) (by omega)
  refine this.trans ?_;unfold mD;cases(a.zip b).findIdx? _<;>rfl
end
set_option maxRecDepth 100000
section
end
set_option maxRecDepth 100000
section
end
set_option maxRecDepth 100000
section
end
set_option maxRecDepth 100000
section
section
variable {α:Type}
def Srt (R:α->α->Prop) (l:List α):Prop:=l.Pairwise R
def Lt (key pos:α->Int) (x y:α):Prop:=key x<key y\/(key x=key y/\pos x<pos y)
theorem Lt.trans {key pos:α->Int} {x y z:α} (h:Lt key pos x y) (g:Lt key pos y z):Lt key pos x z:=by unfold Lt at*;omega
theorem Lt.le {key pos:α->Int} {x y:α} (h:Lt key pos x y):key x<=key y:=by unfold Lt at h;omega
def Uo (key pos:α->Int) (U V:List α):Prop:=∀x∈U,∀y∈V,key x=key y->pos x<pos y
theorem Uo.lt {key pos:α->Int} {U V:List α} (h:Uo key pos U V) {x y:α} (hx:x∈U) (hy:y∈V) (hk:key x<=key y):Lt key pos x y:=by
 unfold Lt;by_cases c:key x=key y
 ·exact .inr ⟨c,h x hx y hy c⟩
 ·exact .inl (by omega)
end
end
set_option maxRecDepth 100000
section
end
set_option maxRecDepth 100000
section
section
variable {ds:List Int} {k:Nat}
def InD (ds:List Int) (x:Int):Prop:=0<=x/\x<ds.length
def W4 (ds:List Int) (x:Int):Int:=ds.getD x.toNat 0
abbrev LtD (ds:List Int):Int->Int->Prop:=Lt (W4 ds) id
abbrev Vy (ds:List Int):List Int->List Int->Prop:=Uo (W4 ds) id
def Qr (ds:List Int) (l:List Int):Prop:=∀x∈l,InD ds x
end
end
set_option maxRecDepth 100000
section
section
variable {ds:List Int} {k:Nat}
end
end
set_option maxRecDepth 100000
set_option maxHeartbeats 4000000
section
section
variable {ds:List Int}
theorem Qr.app {U V:List Int}:Qr ds (U++V)↔Qr ds U/\Qr ds V:=by
 unfold Qr;constructor
 ·exactλh=>⟨λx hx=>h x (ZC _ hx),λx hx=>h x (Zy _ hx)⟩
 ·rintro ⟨h1,h2⟩ x hx
  rcases Yr.1 hx with hx|hx
  ·exact h1 x hx
  ·exact h2 x hx
end
end
set_option maxRecDepth 100000
set_option maxHeartbeats 4000000
section
section
variable {ds:List Int}
end
end
set_option maxRecDepth 100000
set_option maxHeartbeats 4000000
section
section
variable {ds:List Int}
inductive Full (ds:List Int) (bs:Nat):List Int->List Int->Prop
 |nil:Full ds bs [] []
 |snoc {O A U W:List Int}:Full ds bs O A->U.length=bs->W.Perm U->Srt (LtD ds) W->Full ds bs (O++U) (A++W)
inductive NS (ds:List Int) (bs:Nat):List Int->List Int->Prop
 |last {O L:List Int}:O.length<=bs->L.Perm O->Srt (LtD ds) L->NS ds bs O L
 |cons {U W O L:List Int}:U.length=bs->W.Perm U->Srt (LtD ds) W->NS ds bs O L->NS ds bs (U++O) (W++L)
theorem Full.runs {bs:Nat} {O A:List Int} (h:Full ds bs O A):∀{O2 L:List Int},NS ds bs O2 L->NS ds bs (O++O2) (A++L):=by
 induction h with
 |nil=>exactλh=>h
 |snoc _ h1 h2 h3 ih=>
  intro O2 L h;rw[XP,XP];exact ih (.cons h1 h2 h3 h)
theorem Full.perm {bs:Nat} {O A:List Int} (h:Full ds bs O A):A.Perm O:=by
 induction h with
 |nil=>exact .refl _
 |snoc _ h1 h2 h3 ih=>exact ih.append h2
theorem NS.perm {bs:Nat} {O L:List Int} (h:NS ds bs O L):L.Perm O:=by
 induction h with
 |last _ h _=>exact h
 |cons _ h2 _ _ ih=>exact h2.append ih
theorem NS.all {bs:Nat} {O L:List Int} (h:NS ds bs O L) (hs:O.length<=bs):Srt (LtD ds) L:=by
 cases h with
 |last _ _ h=>exact h
 |cons h1 h2 h3 h4=>
  rename_i U W O L;rw[XG]at hs;have hO:O=[]:=Yo.1 (by omega);have hL:L=[]:=Yo.1 (by rw[h4.perm.length_eq,hO];rfl);rw[hL,XY];exact h3
theorem NS.cut {bs:Nat} {O L:List Int} (h:NS ds bs O L) (hs:bs<=O.length):∃U W O2 L2,O=U++O2/\L=W++L2/\U.length=bs/\W.Perm U/\Srt (LtD ds) W/\NS ds bs O2 L2:=by
 cases h with
 |last h1 h2 h3=>exact⟨O,L,[],[],by simp,by simp,by omega,h2,h3,.last (by simp) (.refl _) List.Pairwise.nil⟩
 |cons h1 h2 h3 h4=>exact⟨_,_,_,_,rfl,rfl,h1,h2,h3,h4⟩
structure SX (ds O:List Int):Prop where
 all:Qr ds O
 inc:O.Pairwise (·<·)
theorem SX.right {A B:List Int} (h:SX ds (A++B)):SX ds B:=⟨(Qr.app.1 h.all).2,(Zd.1 h.inc).2.1⟩
theorem SX.left {A B:List Int} (h:SX ds (A++B)):SX ds A:=⟨(Qr.app.1 h.all).1,(Zd.1 h.inc).1⟩
theorem SX.ahead {A B W V:List Int} (h:SX ds (A++B)) (hW:W.Perm A) (hV:V.Perm B):Vy ds W V:=λx hx y hy _=>(Zd.1 h.inc).2.2 x (hW.mem_iff.1 hx) y (hV.mem_iff.1 hy)
theorem Qr.perm {A B:List Int} (h:Qr ds B) (hp:A.Perm B):Qr ds A:=λx hx=>h x (hp.mem_iff.1 hx)
end
end
set_option maxRecDepth 100000
set_option maxHeartbeats 4000000
section
section
variable {ds:List Int} {k:Nat}
end
end
set_option maxRecDepth 100000
set_option maxHeartbeats 4000000
section
def Sim {α β:Type} (a:Option α) (b:Option β) (t:α->β):Prop:=∀x,a=some x->b=some (t x)
section
variable {α β γ δ:Type}
theorem Sim.none {b:Option β} {t:α->β}:Sim Option.none b t:=λx h=>nomatch h
theorem Sim.some {x:α} {y:β} {t:α->β} (h:y=t x):Sim (Option.some x) (Option.some y) t:=λ_ e=>by cases e;rw[h]
theorem Sim.cond {c c':Bool} {a a':Option α} {b b':Option β} {t:α->β} (h:c'=c) (h1:Sim a b t) (h2:Sim a' b' t):Sim (cond c a a') (cond c' b b') t:=by
 subst h;cases c'<;>assumption
theorem Sim.bind {a:Option γ} {b:Option δ} {s:γ->δ} {F:γ->Option α} {G:δ->Option β} {t:α->β} (h:Sim a b s) (g:∀x,Sim (F x) (G (s x)) t):Sim (a.bind F) (b.bind G) t:=λx e=>by
 rw[An]at e;obtain⟨y,e1,e2⟩:=e;rw[h y e1];exact g y x e2
theorem Sim.get {f:γ->δ} {l:List γ} {i:Nat} {F:γ->Option α} {G:δ->Option β} {t:α->β} (g:∀x,Sim (F x) (G (f x)) t):Sim ((l[i]?).bind F) (((l.map f)[i]?).bind G) t:=
 Sim.bind (s:=f) (λx e=>by rw[Yl,e];rfl) g
theorem Sim.iter {V W:Type} (σ:V->W) {g:V->(V->Option α)->Option α} {g':W->(W->Option β)->Option β} {t:α->β} (h:∀s n m,(∀s,Sim (n s) (m (σ s)) t)->Sim (g s n) (g' (σ s) m) t):
  ∀(k:Nat) {s:V} {s':W},s'=σ s->Sim (Ev.iter g k s) (Ev.iter g' k s') t
 |0,_,_,_=>λ_ e=>nomatch e
 |k+1,s,_,rfl=>h s _ _ λs=>Sim.iter σ h k rfl
end
section
variable {ds:List Int} {f:Int->Mc} (hf:∀k x y,Sim (BK k x y ds) (zA k (f x) (f y)) id)
include hf
end
end
section
end
section
end
set_option maxRecDepth 100000
set_option maxHeartbeats 4000000
section
structure V1 (most:Int) (i:Nat) (st:List (List Int)× List Int):Prop where
 len:st.1.length=st.2.length
 sum:(st.1.map List.length).sum=i
 inn:∀g∈st.1,1<=g.length/\(g.length:Int)<=most
theorem Vz {l:List (List Int)} (h:∀g∈l,1<=g.length):l.length<=(l.map List.length).sum:=by
 induction l with
 |nil=>simp
 |cons g l ih=>
  have:=h g (by simp);have:=ih λg hg=>h g (by simp[hg]);simp;omega
theorem V1.le {most:Int} {i:Nat} {st:List (List Int)× List Int} (h:V1 most i st):st.1.length<=i:=by
 have:=Vz λg hg=>(h.inn g hg).1;rw[h.sum]at this;exact this
theorem V1.zero (most:Int):V1 most 0 ([],[]):=⟨rfl,rfl,λg h=>nomatch h⟩
section
variable {R:Type} {k:Nat} {most:Int} {st:List (List Int)× List Int} {x:Mc}
end
end
set_option maxRecDepth 100000
set_option maxHeartbeats 4000000
section
section
variable {R:Type} {k:Nat} {most:Int} {W:List Mc} {x:Mc}
end
end
set_option maxRecDepth 100000
set_option maxHeartbeats 4000000
section
end
set_option maxRecDepth 100000
set_option maxHeartbeats 4000000
section
def VA:Nat->List UInt8
 |0=>[]
 |m+1=>Go.Lib.decDigits (m+1)
theorem ID {m:Nat} (h:m≠0):VA m=VA (m/10)++[UInt8.ofNat (48+m %10)]:=by
 obtain⟨m,rfl⟩:∃j,m=j+1:=⟨m-1,by omega⟩;show Go.Lib.decDigits (m+1)=_;rw[Go.Lib.decDigits];split
 ·rename_i hlt
  have e1:(m+1)/10=0:=by omega
  have e2:(m+1) %10=m+1:=by omega
  rw[e1,e2];rfl
 ·rename_i hge
  have:(m+1)/10≠0:=by omega
  obtain⟨j,hj⟩:∃j,(m+1)/10=j+1:=⟨(m+1)/10-1,by omega⟩;rw[hj];rfl
theorem L3:∀(d m:Nat),m<10^d->(VA m).length<=d
  | 0, m, h => by have : m = 0 := by simp at h; exact h
                  subst this;exact X1 _
  | d + 1, m, h => by
    by_cases h0:m=0
    · subst h0;exact Ya _
    · rw[ID h0,XG];have:=L3 d (m/10) (by rw[Nat.pow_succ]at h;omega);simp;omega
theorem L4 {R:Type} {k:Nat} {x0:List UInt8->Option R} {p:Bool} (neg:Bool):∀(d m:Nat) (out:List UInt8) (f:Nat),m<10^d->d<f->m<9223372036854775809->d+out.length<=100->
  iter (λu n=>nh k p u n x0) f (cond neg (-(m:Int)) (m:Int),out)=x0 (VA m++out)
 |d,m,out,0,_,h,_,_=>by omega
 |d,m,out,f+1,hm,hf,hb,ho=>by
  have hM:=aj;show nh k p _ _ x0=_;rw[nh];simp only;by_cases h0:m=0
  ·subst h0;cases neg<;>rfl
  obtain⟨d,rfl⟩:∃e,d=e+1:=by
   cases d with
   |zero=>simp at hm;omega
   |succ e=>exact⟨e,rfl⟩
  have ih:=L4 (R:=R) (k:=k) (x0:=x0) (p:=p) neg d (m/10) (UInt8.ofNat (48+m %10)::out) f (by rw[Nat.pow_succ]at hm;omega) (by omega) (by omega) (by simp;omega)
  have e0:((cond neg (-(m:Int)) (m:Int)) !=0)=true:=by cases neg<;>simp<;>omega
  have e1:(cond neg (-(m:Int)) (m:Int)).tmod 10=cond neg (-((m %10:Nat):Int)) ((m %10:Nat):Int):=by
   cases neg
   ·exact Int.ofNat_tmod m 10|>.symm
   ·show(-(m:Int)).tmod 10=_;rw[Int.neg_tmod];exact congrArg _ (Int.ofNat_tmod m 10|>.symm)
  have e2:(cond neg (-(m:Int)) (m:Int)).tdiv 10=cond neg (-((m/10:Nat):Int)) ((m/10:Nat):Int):=by
   cases neg
   ·exact Int.ofNat_tdiv m 10|>.symm
   ·show(-(m:Int)).tdiv 10=_;rw[Int.neg_tdiv];exact congrArg _ (Int.ofNat_tdiv m 10|>.symm)
  have hd:m %10<10:=ZI _ (by omega)
  have hs:i64.wrap (cond neg (-((m/10:Nat):Int)) ((m/10:Nat):Int))=cond neg (-((m/10:Nat):Int)) ((m/10:Nat):Int):=by
   cases neg<;>exact aL (by simp only[cond_true,cond_false];omega) (by simp only[cond_true,cond_false];omega)
  have hch:∀z:Int,z=((m %10:Nat):Int)->bytesOf [u8.wrap (i64.wrap (48+z))]=[UInt8.ofNat (48+m %10)]:=λz hz=>by
   subst hz
   have:∀j:Fin 10,bytesOf [u8.wrap (i64.wrap (48+(j.val:Int)))]=[UInt8.ofNat (48+j.val)]:=by decide+kernel
   exact this ⟨m %10,hd⟩
  rw[e0,e1,e2,hs,cond_true,ID h0,XP];by_cases c:(cond neg (-((m %10:Nat):Int)) ((m %10:Nat):Int))<0
  ·rw[ab,if_pos c]
   have hn:neg=true:=by cases neg with
    |true=>rfl
    |false=>simp only[cond_false]at c;omega
   subst hn;simp only[cond_true]at ih⊢;have hz:i64.wrap (0- -((m %10:Nat):Int))=((m %10:Nat):Int):=(aL (by omega) (by omega)).trans (by omega);simp only[hch _ hz];rw[ab,if_pos (by simp;omega)];exact ih
  ·rw[ab,if_neg c]
   have hz:(cond neg (-((m %10:Nat):Int)) ((m %10:Nat):Int))=((m %10:Nat):Int):=by
    cases neg with
    |false=>rfl
    |true=>simp only[cond_true]at c⊢;omega
   simp only[hch _ hz];rw[ab,if_pos (by simp;omega)];exact ih
theorem L5 {m:Nat} (h:m≠0):VA m=Go.Lib.decDigits m:=by
 cases m with
 |zero=>exact absurd rfl h
 |succ m=>rfl
theorem ko {k:Nat} {n:Int} (hk:22<k) (hn:okI n):ma k n=some (Go.Lib.itoa n):=by
 have hM:=aj;obtain⟨h1,h2⟩:=hn;unfold ma;by_cases h0:n=0
 ·subst h0;rw[show Go.Lib.itoa 0=[48]from Go.Lib.decDigits_one (i:=0) (by omega)];rfl
 rw[show(n==0)=false by simpa using h0,cond_false]
 have e:n=cond (decide (n<0)) (-(n.natAbs:Int)) (n.natAbs:Int):=by
  by_cases c:n<0
  ·rw[decide_eq_true c,cond_true];omega
  ·rw[decide_eq_false c,cond_false];omega
 have hl:=L4 (R:=List UInt8) (k:=k) (p:=decide (n<0)) (x0:=λy1=>cond (decide (n<0)) (cond (decide (([45]:List UInt8).length+y1.length<=aG)) (some (([45]:List UInt8)++y1)) none) (some y1)) (decide (n<0)) 20 n.natAbs [] k (by omega) (by omega) (by omega) (by simp);rw[<-e]at hl;rw[hl,XY,L5 (by omega)];have hle:=L3 20 n.natAbs (by omega);rw[L5 (by omega)]at hle;unfold Go.Lib.itoa;by_cases c:n<0
 ·rw[decide_eq_true c,cond_true,ab,if_pos (by simp;omega),if_pos c];rfl
 ·rw[decide_eq_false c,cond_false,if_neg c]
  congr 2;omega
theorem gP {k:Nat} {n:Int} (hn:okI n):strconv_Itoa k n=some (Go.Lib.itoa n):=by
 unfold strconv_Itoa;rw[decide_eq_true hn.1,decide_eq_true hn.2];rfl
theorem eJ {n:Int} (hn:okI n):(Go.Lib.itoa n).length<=21:=Go.Lib.itoa_length_le n hn.1 hn.2
theorem uO:∀l:List Int,(∀x∈l,okI x)->(spacedL l).length<=22*l.length
 |[],_=>X1 _
 |x::l,h=>by
  have:=eJ (h x (by simp));have:=uO l λy hy=>h y (by simp[hy]);simp only[spacedL,XI,XG];omega
theorem KG {k:Nat} {l:List Int} (hl:l.length<=2000000) (h:∀x∈l,okI x):I_spaced k l=some (spacedL l):=by
 unfold I_spaced
 have:(l.all λx=>decide (-9223372036854775808<=x)&&decide (x<=9223372036854775807))=true:=by
  rw[X6];intro x hx;rw[decide_eq_true (h x hx).1,decide_eq_true (h x hx).2];rfl
 rw[decide_eq_true hl,this];rfl
theorem L6 {R:Type} {k:Nat} (hk:22<k) {x0:List UInt8->Option R} {p1 p2 p3:Int} {l:List Int} (h:∀x∈l,okI x) (hl:l.length<=2000000):∀(j:Nat) (out:List UInt8) (f:Nat),j<=l.length->l.length-j<f->out.length+22*(l.length-j)<=50000000->
  iter (λu n=>gL k (p1,p2,p3,l) u n x0) f (out,(j:Int))=x0 (out++spacedL (l.drop j))
 |j,out,0,_,h2,_=>by omega
 |j,out,f+1,h1,h2,h3=>by
  have hM:=aj;show gL k _ _ _ x0=_;rw[gL];simp only;by_cases c:j<l.length
  ·have hx:l[j]? =some l[j]:=So c;have ho:=h l[j] (XH c);have hlen:=eJ ho;have ih:=L6 hk (x0:=x0) (p1:=p1) (p2:=p2) (p3:=p3) h hl (j+1) ((out++[32])++Go.Lib.itoa l[j]) f (by omega) (by omega) (by simp;omega);rw[ab,if_pos (by omega),ab,if_pos (by simp;omega),show idx l (j:Int)=some l[j]from by simp[idx,hx],aa,ko hk ho,aa,ab,if_pos (by simp;omega),aL (by omega) (by omega)];refine ih.trans ?_;rw[Zo c];simp[spacedL]
  ·have e:j=l.length:=by omega
   subst e;rw[ab,if_neg (by omega),Zj,spacedL,XY]
def yC (t:az):List UInt8:=cond t.okB (Go.Lib.itoa t.sh.h++(120::(Go.Lib.itoa t.sh.w++(120::(Go.Lib.itoa t.sh.c++(58::spacedL t.data)))))) []
theorem CO {t:az} (h:t.Ok):(yC t).length<=66+22*t.data.length:=by
 unfold yC;have h1:=eJ h.1.1;have h2:=eJ h.1.2.1;have h3:=eJ h.1.2.2;have h4:=uO t.data h.2.2;cases t.okB
 ·exact Ya _
 ·simp only[cond_true,XG,XI];omega
theorem CP {k:Nat} {t:az} (hk:t.data.length+23<k) (h:t.Ok) (hl:t.data.length<=2000000):ot k t=some (yC t):=by
 have hM:=aj;have h1:=eJ h.1.1;have h2:=eJ h.1.2.1;have h3:=eJ h.1.2.2;unfold ot yC;rw[md (by omega) h.2.1,aa];cases t.okB
 ·rfl
 simp only[XJ,cond_false,cond_true];rw[ko (by omega) h.1.1,aa,ab,if_pos (by simp;omega),ko (by omega) h.1.2.1,aa,ab,if_pos (by simp;omega),ab,if_pos (by simp;omega),ko (by omega) h.1.2.2,aa,ab,if_pos (by simp;omega),ab,if_pos (by simp;omega)];refine(L6 (by omega) h.2.2 hl 0 _ k (by omega) (by omega) (by simp;omega)).trans ?_;simp
theorem zH {k:Nat} {s:Shape} (h:s.Ok):mb k s=some (Go.Lib.itoa s.h++(120::(Go.Lib.itoa s.w++(120::Go.Lib.itoa s.c)))):=by
 have hM:=aj;have h1:=eJ h.1;have h2:=eJ h.2.1;have h3:=eJ h.2.2;unfold mb;rw[gP h.1,aa,ab,if_pos (by simp;omega),gP h.2.1,aa,ab,if_pos (by simp;omega),ab,if_pos (by simp;omega),gP h.2.2,aa,ab,if_pos (by simp;omega)];simp
theorem CQ {k:Nat} {t:az} (hk:t.data.length+23<k) (h:t.Ok) (hl:t.data.length<=2000000):ou k t=some (yC t):=by
 have hM:=aj;have h1:=eJ h.1.1;have h2:=eJ h.1.2.1;have h3:=eJ h.1.2.2;have h4:=uO t.data h.2.2;unfold ou yC;rw[qC (by omega) h.2.1,aa];cases t.okB
 ·rfl
 simp only[XJ,cond_false,cond_true];rw[zH h.1,aa,ab,if_pos (by simp;omega),KG hl h.2.2,aa,ab,if_pos (by simp;omega)];simp
end
section
theorem R7 (b:List Int):-1000003<nw b/\nw b<1000003:=by
 unfold nw
 have:∀(b:List Int) (s:Int),(-1000003<s/\s<1000003)->-1000003<b.foldl xK s/\b.foldl xK s<1000003:=λb=>by
  induction b with
  |nil=>intro s h;exact h
  |cons x l ih=>
   intro s h;refine ih _ ?_;unfold xK;generalize i64.wrap ((i64.wrap ((i64.wrap ((257:Int)*s))+(i64.wrap x)))+(1:Int))=y;have h1:=ZM y (show(0:Int)<1000003 by omega)
   have h2:-1000003<y.tmod 1000003:=by
    have:=ZM (-y) (show(0:Int)<1000003 by omega);rw[Int.neg_tmod]at this;omega
   exact⟨h2,h1⟩
 exact this b 1 (by omega)
def cE (xs:List Step):List Int:=xs.flatMap eI
def fK (n:Nat):List Int:=[84,49]++ic [(n:Int)]
def lA (b:List Int):List Int:=b++ic [nw b]
def tW (xs:List Step):List Int× Bool:=
 cond (decide ((xs.length:Int)>200)) ([],false) (cond (xs.all oW)
  (cond (decide (((lA (fK xs.length++cE xs)).length:Int)>20000)) ([],false) (lA (fK xs.length++cE xs),true)) ([],false))
theorem Gg (n:Nat):(fK n).length<=9:=by
 have:=jO [(n:Int)];simp only[XI,X2]at this;unfold fK;rw[XG];simp;omega
theorem R8 (b:List Int):b.length<=(lA b).length/\(lA b).length<=b.length+7:=by
 have:=jO [nw b];simp only[XI,X2]at this;unfold lA;rw[XG];omega
theorem L7:∀{xs:List Step},xs.all oW=true->(cE xs).length<=10000*xs.length
 |[],_=>by simp[cE]
 |x::l,h=>by
  rw[Zi,XB]at h;have h1:=L7 h.2;have h2:=Gf h.1;unfold cE at*;rw[List.flatMap_cons,XG,XI];omega
theorem Ap (b:List Int):cK (nw b)=true:=by
 have:=R7 b;exact bd.2 (by omega)
theorem L8 {xs:List Step} {x:Step} (h:x∈xs):x.tot<=fI Step.tot xs:=by have:=fl Step.tot h;omega
theorem VB {xs:List Step} {i:Nat} (hi:i<xs.length) (hp:oW xs[i]=false):xs.all oW=false:=by
 cases hq:xs.all oW with
 |false=>rfl
 |true=>have:=X6.1 hq _ (XH hi);rw[hp]at this;exact nomatch this
theorem R9 {xs:List Step} {i:Nat} (hi:i<xs.length) (ha:(xs.take i).all oW=true) (hp:oW xs[i]=true):(xs.take (i+1)).all oW=true:=by
 rw[cR hi,List.all_append,ha];simp[hp]
theorem IE {xs:List Step} {i:Nat} (hi:i<xs.length) (h:List Int):h++cE (xs.take (i+1))=h++cE (xs.take i)++eI xs[i]:=by
 rw[cR hi];unfold cE;rw[Y2,XP];simp
def tB (xs:List Step):List Int× Bool:=cond (xs.all oW) (cond (decide (((lA (fK xs.length++cE xs)).length:Int)>20000)) ([],false) (lA (fK xs.length++cE xs),true)) ([],false)
theorem VC {ρ:Type} {k:Nat} {xs:List Step} {i:Nat} {out:List Int} {next:Int× List Int->Option ρ} {x0:List Int->Option ρ} {dE:Bool->Option ρ} (hi:i<xs.length) (hk:xs[i].tot+20<k) (hN:7*xs[i].tot+100<=aG) (hl:xs.length<=aG) (ho:out.length+10000<=aG):
  gE k (xs,(xs.length:Int)) ((i:Int),out) next x0 dE=cond (oW xs[i]) (next (((i+1:Nat):Int),out++eI xs[i])) (dE false):=by
 have hM:=aj;unfold gE;simp only;rw[ab,if_pos (by omega),aD,ag hi,aa,IB hk hN,aa];unfold ND;cases hp:oW xs[i]
 ·rfl
 ·have hpl:=Gf hp;simp only[cond_true,XJ,cond_false];rw[bR (by omega),al hi (by omega)]
theorem WI {ρ:Type} {k:Nat} {xs:List Step} {out:List Int} {next:Int× List Int->Option ρ} {x0:List Int->Option ρ} {dE:Bool->Option ρ}:
  gE k (xs,(xs.length:Int)) ((xs.length:Int),out) next x0 dE=x0 out:=by
 unfold gE;simp only;rw[ab,if_neg (by omega)]
theorem VD {ρ:Type} {k:Nat} {xs:List Step} {i:Nat} {out:List Int} {next:Int× List Int->Option ρ} {x0:List Int->Option ρ} {dE:Bool->Option ρ} (hi:i<xs.length) (hk:xs[i].tot+8000<k) (hN:7*xs[i].tot+100<=aG) (hl:xs.length<=aG) (ho:out.length+10000<=aG) (hko:out.length+10000<k):
  gD k xs ((i:Int),out) next x0 dE=cond (oW xs[i]) (cond (decide ((out.length:Int)>20000)) (dE false) (next (((i+1:Nat):Int),out++eI xs[i]))) (dE false):=by
 have hM:=aj;unfold gD;simp only;rw[ab,if_pos (by omega),aD,ag hi,aa,IC hk hN,aa];unfold ND;cases hp:oW xs[i]
 ·rfl
 ·have hpl:=Gf hp;simp only[cond_true,XJ,cond_false];rw[zq (by omega) (by omega),aa,al hi (by omega)]
theorem WJ {ρ:Type} {k:Nat} {xs:List Step} {out:List Int} {next:Int× List Int->Option ρ} {x0:List Int->Option ρ} {dE:Bool->Option ρ}:
  gD k xs ((xs.length:Int),out) next x0 dE=x0 out:=by
 unfold gD;simp only;rw[ab,if_neg (by omega)]
section
variable {k:Nat} {xs:List Step} {g:Int× List Int->(Int× List Int->Option (List Int× Bool))->Option (List Int× Bool)} {x0:List Int->Option (List Int× Bool)}
theorem yD {B:Nat} (hB:30000<=B) (early:Bool)
    (hg:∀(i:Nat) (out:List Int) (next:Int× List Int->Option (List Int× Bool)) (hi:i<xs.length),out.length<=B->g ((i:Int),out) next=cond (oW xs[i]) (cond (early&&decide ((out.length:Int)>20000)) (some ([],false)) (next (((i+1:Nat):Int),out++eI xs[i]))) (some ([],false)))
    (hx:∀(out:List Int) (next:Int× List Int->Option (List Int× Bool)),out.length<=B->g ((xs.length:Int),out) next=x0 out)
    (h0:∀out:List Int,out.length<=B->x0 out=some (cond (decide (((lA out).length:Int)>20000)) ([],false) (lA out,true))) (hlen:early=true\/10000*xs.length+9<=B):
    ∀ (d i kf : Nat), xs.length - i = d -> i <= xs.length -> (xs.take i).all oW = true -> (fK xs.length ++ cE (xs.take i)).length <= B -> d < kf ->
      iter g kf ((i:Int),fK xs.length++cE (xs.take i))=some (tB xs)
  | 0, i, kf, hd, hi, ha, hl, hk => by
    have:i=xs.length:=by omega
    subst this;obtain⟨kf,rfl⟩:∃n,kf=n+1:=⟨kf-1,by omega⟩;rw[Yj]at ha hl⊢;rw[aI,hx _ _ hl,h0 _ hl];unfold tB
    rw[ha,cond_true]
  | d + 1, i, kf, hd, hi, ha, hl, hk => by
    have hlt:i<xs.length:=by omega
    obtain⟨kf,rfl⟩:∃n,kf=n+1:=⟨kf-1,by omega⟩;rw[aI,hg i _ _ hlt hl];cases hp:oW xs[i]
    · unfold tB;rw[VB hlt hp];rfl
    · rw [cond_true];have hpl:=Gf hp;have ha':=R9 hlt ha hp;cases hc:(early&&decide (((fK xs.length++cE (xs.take i)).length:Int)>20000))
      · rw [cond_false]
        have:=yD hB early hg hx h0 hlen d (i+1) kf (by omega) (by omega) ha' (by
          rcases hlen with he|he
          · rw[he,XM]at hc;have:=of_decide_eq_false hc;rw[IE hlt,XG];omega
          · have hb:=L7 ha';have hh:=Gg xs.length;rw[X9,Zh (by omega)]at hb;rw[XG];have:10000*(i+1)<=10000*xs.length:=Nat.mul_le_mul_left _ (by omega)
            omega) (by omega)
        rw[IE hlt]at this;exact this
      · rw [cond_true];have hc:=of_decide_eq_true (Yn.1 hc).2;unfold tB;cases hq:xs.all oW
        · rfl
        · have hge:(fK xs.length++cE (xs.take i)).length<=(fK xs.length++cE xs).length:=by
            have e:cE xs=cE (xs.take i)++cE (xs.drop i):=by
              unfold cE;rw[<-Y2,YN]
            rw[e,<-XP,@XG _ (fK xs.length++cE (xs.take i))];omega
          have hs:=R8 (fK xs.length++cE xs);rw[decide_eq_true (show((lA (fK xs.length++cE xs)).length:Int)>20000 by omega)];rfl
end
theorem IG (xs:List Step) (c1:¬(xs.length:Int)>200):tW xs=tB xs:=by
 unfold tW tB;rw[ab,if_neg c1]
theorem IH {k:Nat} {xs:List Step} (hk:fI Step.tot xs+2100000<k) (hN:7*fI Step.tot xs+2200000<=aG):vJ k xs=some (tW xs):=by
  have hM:=aj;have hlen:=br Step.tot xs;unfold vJ;by_cases c1:(xs.length:Int)>200
  · unfold tW;rw[ab,ab,if_pos c1,if_pos c1]
  rw[ab,if_neg c1,jP (by simp;omega) (by simp;omega) (by simp[dT (n:=xs.length) (by omega)]),aa,IG xs c1];have hh:=Gg xs.length
  have:=yD (xs:=xs) (B:=2000009) (x0:=λy4=>(lK k y4).bind λr5=>(fJ k y4 [r5]).bind λr6=>cond (decide ((r6.length:Int)>(20000:Int))) (some (([]:List Int),false)) (some (r6,true)))
    (g:=λu8 n8=>gE k (xs,(xs.length:Int)) u8 n8 (λy4=>(lK k y4).bind λr5=>(fJ k y4 [r5]).bind λr6=>cond (decide ((r6.length:Int)>(20000:Int))) (some (([]:List Int),false)) (some (r6,true))) (λy7=>some (([]:List Int),y7))) (by omega) false
    (λi out next hi ho=>by
      have hst:=L8 (XH hi)
      exact VC hi (by omega) (by omega) (by omega) (by omega)) (λout next ho=>WI) (λout ho=>by
      rw[xM (by omega) (by omega),aa,jP (by simp;omega) (by simp only[XI,X2];omega) (by simp[Ap]),aa];show cond (decide (((lA out).length:Int)>20000)) _ _=_
      cases decide (((lA out).length:Int)>20000)<;>rfl) (.inr (by omega)) xs.length 0 k (by omega) (by omega) (by simp) (by simp only[ZD,cE,List.flatMap_nil,XY];omega) (by omega)
  simp only[ZD,cE,List.flatMap_nil,XY]at this;exact this
theorem II {k:Nat} {xs:List Step} (hk:fI Step.tot xs+2100000<k) (hN:7*fI Step.tot xs+2200000<=aG):vH k xs=some (tW xs):=by
  have hM:=aj;have hlen:=br Step.tot xs;unfold vH;by_cases c1:(xs.length:Int)>200
  · unfold tW;rw[ab,ab,if_pos c1,if_pos c1]
  rw[ab,if_neg c1,oU (by simp;omega) (by simp;omega) (by simp[dT (n:=xs.length) (by omega)]),aa,IG xs c1];have hh:=Gg xs.length
  have:=yD (xs:=xs) (B:=30000) (x0:=λy5=>(qn k y5).bind λr6=>(fN k y5 [r6]).bind λr7=>cond (decide ((r7.length:Int)>(20000:Int))) (some (([]:List Int),false)) (some (r7,true)))
    (g:=λu9 n9=>gD k xs u9 n9 (λy5=>(qn k y5).bind λr6=>(fN k y5 [r6]).bind λr7=>cond (decide ((r7.length:Int)>(20000:Int))) (some (([]:List Int),false)) (some (r7,true))) (λy8=>some (([]:List Int),y8))) (by omega) true
    (λi out next hi ho=>by
      have hst:=L8 (XH hi)
      exact VD hi (by omega) (by omega) (by omega) (by omega) (by omega)) (λout next ho=>WJ) (λout ho=>by
      rw[xL (by omega) (by omega),aa,oU (by simp;omega) (by simp only[XI,X2];omega) (by simp[Ap]),aa];show cond (decide (((lA out).length:Int)>20000)) _ _=_
      cases decide (((lA out).length:Int)>20000)<;>rfl) (.inl rfl) xs.length 0 k (by omega) (by omega) (by simp) (by simp only[ZD,cE,List.flatMap_nil,XY];omega) (by omega)
  simp only[ZD,cE,List.flatMap_nil,XY]at this;exact this
end
set_option maxRecDepth 100000
set_option maxHeartbeats 4000000
section
def Up (U:Nat):Int:=cond (decide (U %2=1)) (-(((U+1)/2:Nat):Int)) ((U/2:Nat):Int)
theorem Qs (x:Int):Up (zig x)=x:=by
 unfold Up zig;by_cases c:x<0
 ·rw[if_pos c,decide_eq_true (by omega),cond_true];omega
 ·rw[if_neg c,decide_eq_false (by omega),cond_false];omega
theorem Sa {v:Nat} (h:v<128) (g:Nat):vb g v=[(v:Int)]:=by
 cases g with
 |zero=>rfl
 |succ g=>unfold vb;rw[if_neg (by omega)]
theorem SY {v:Nat} (h:128<=v) (g:Nat):vb (g+1) v=((128+v %128:Nat):Int)::vb g (v/128):=by rw[vb,if_pos h]
theorem IJ {b:List Int} {n:Nat} {c:Int} {l:List Int} (h:b.drop n=c::l):b[n]? =some c/\b.drop (n+1)=l:=by
 have h1:=congrArg (λl=>l[0]?) h;simp only[XU,Zs,Yd]at h1;have h2:=congrArg List.tail h;rw[List.tail_drop,List.tail_cons]at h2;exact⟨h1,h2⟩
theorem L9 (u v i:Nat):u+v %128*2^(7*i)+v/128*2^(7*(i+1))=u+v*2^(7*i):=by
 have e:2^(7*(i+1))=128*2^(7*i):=by rw[Nat.mul_succ,Nat.pow_add,Ye]
 rw[e,<-Nat.mul_assoc,Yz,<-X7]
 congr 2
 omega
theorem Eu {b:List Int} {at_:Nat} {tail:List Int}:∀(f i u v g:Nat),v<2^(7*(f+1))->f<=g->(0<i->0<v)->u+v*2^(7*i)<=2199023255551->b.drop (at_+i)=vb g v++tail->
  oC b at_ (f+1) i u=(Up (u+v*2^(7*i)),((at_+i+(vb g v).length:Nat):Int))
 |f,i,u,v,g,hv,hg,h0,hb,hd=>by
  by_cases c:128<=v
  ·obtain⟨f,rfl⟩:∃e,f=e+1:=by
    cases f with
    |zero=>simp at hv;omega
    |succ e=>exact⟨e,rfl⟩
   obtain⟨g,rfl⟩:∃e,g=e+1:=⟨g-1,by omega⟩;rw[SY c]at hd;obtain⟨h1,h2⟩:=IJ hd;have ih:=Eu (b:=b) (at_:=at_) (tail:=tail) f (i+1) (u+v %128*2^(7*i)) (v/128) g (by rw[show 7*(f+1+1)=7*(f+1)+7 from by omega,Nat.pow_add]at hv;omega) (by omega) (by omega) (by rw[L9];exact hb) h2;rw[oC,h1];simp only;rw[XE,decide_eq_true (show 128<=128+v %128 by omega),cond_true,show(128+v %128) %128=v %128 by omega,ih,L9,SY c,XI]
   congr 2;omega
  ·rw[Sa (by omega)]at hd⊢;obtain⟨h1,_⟩:=IJ hd;rw[oC,h1];simp only;rw[XE,decide_eq_false c,cond_false,show v %128=v by omega,decide_eq_false (show¬2199023255551<u+v*2^(7*i) by omega),Bool.or_false]
   have:(decide (0<i)&&decide (v=0))=false:=by
    by_cases hi:0<i
    ·rw[decide_eq_false (show¬v=0 by have:=h0 hi;omega),Zc]
    ·rw[decide_eq_false hi];rfl
   rw[this];rfl
section
variable {b:List Int}
theorem np {a:Nat} {x:Int} {tail:List Int} (hx:cK x=true) (hd:b.drop a=wide x++tail):nq b a=some (x,((a+(wide x).length:Nat):Int)):=by
 have h1:=Eu (b:=b) (at_:=a) (tail:=tail) 5 0 0 (zig x) 6 (by have:=Iz hx;omega) (by omega) (by omega) (by have:=Iz hx;omega) hd;rw[Nat.mul_zero,Nat.pow_zero,Nat.mul_one,XN,Qs,Yd]at h1;unfold nq cI;rw[decide_eq_true (show(0:Int)<=(a:Int) by omega),cond_true,XE,h1,decide_eq_false (by simp only;omega)];rfl
theorem fG {a n:Nat} {l t:List Int} (h:b.drop a=l++t) (hn:n=a+l.length):b.drop n=t:=by
 subst hn;rw[<-List.drop_drop,h,List.drop_left]
theorem Ma:∀{xs:List Int} {a:Nat} {tail:List Int},xs.all cK=true->b.drop a=ic xs++tail->qG b xs.length a=some (xs,((a+(ic xs).length:Nat):Int))
 |[],a,tail,_,_=>by simp[qG,ic]
 |x::xs,a,tail,hx,hd=>by
  rw[Zi,XB]at hx
  have hd:b.drop a=wide x++(ic xs++tail):=by rw[hd];simp[ic]
  rw[XI,qG,np hx.1 hd,XC];simp only;rw[Ma hx.2 (fG hd rfl),XC];simp only[It,XO,true_and];show _=((a+(wide x++ic xs).length:Nat):Int);rw[XG];congr 1;omega
end
end
set_option maxRecDepth 100000
set_option maxHeartbeats 4000000
section
section
variable {b:List Int}
theorem uP (x:Step) (t:List Int):eI x++t=wide x.kind++(wide x.a++(wide x.b++(wide (x.data.length:Int)++(x.data++(wide x.input.sh.h++(wide x.input.sh.w++(wide x.input.sh.c++(wide (x.input.data.length:Int)++(ic x.input.data++t))))))))):=by
 simp[eI,ic]
theorem IK (x:Step):(eI x).length=(wide x.kind).length+(wide x.a).length+(wide x.b).length+(wide (x.data.length:Int)).length+x.data.length+(wide x.input.sh.h).length+(wide x.input.sh.w).length+(wide x.input.sh.c).length+(wide (x.input.data.length:Int)).length+(ic x.input.data).length:=by
 have:=congrArg List.length (uP x []);simp only[XY,XG]at this;omega
theorem wI {x:Step}:oW x=true↔x.data.length<=6000/\x.input.data.length<=512/\(cK x.kind=true/\cK x.a=true/\cK x.b=true)/\(cK x.input.sh.h=true/\cK x.input.sh.w=true/\cK x.input.sh.c=true)/\x.input.data.all cK=true:=by
 unfold oW;simp only[XB,decide_eq_true_eq,Zi,List.all_nil,Zw];constructor
 ·rintro ⟨h1,h2,⟨h3,h4,h5⟩,⟨h6,h7,h8⟩,h9⟩
  exact⟨by omega,by omega,⟨h3,h4,h5⟩,⟨h6,h7,h8⟩,h9⟩
 ·rintro ⟨h1,h2,⟨h3,h4,h5⟩,⟨h6,h7,h8⟩,h9⟩
  exact⟨by omega,by omega,⟨h3,h4,h5⟩,⟨h6,h7,h8⟩,h9⟩
theorem Sb {a:Nat} {x:Step} {tail:List Int} (hx:oW x=true) (hd:b.drop a=eI x++tail):eX b a=some (x,((a+(eI x).length:Nat):Int)):=by
 obtain⟨l1,l2,⟨w1,w2,w3⟩,⟨w4,w5,w6⟩,w7⟩:=wI.1 hx;rw[uP]at hd;have d1:=fG hd rfl;have d2:=fG d1 rfl;have d3:=fG d2 rfl;have d4:=fG d3 rfl;have d5:=fG d4 rfl;have d6:=fG d5 rfl;have d7:=fG d6 rfl;have d8:=fG d7 rfl;have d9:=fG d8 rfl;have n1:=np w1 hd;have n2:=np w2 d1;have n3:=np w3 d2;have n4:=np (dT (by omega)) d3;have n5:=np w4 d5;have n6:=np w5 d6;have n7:=np w6 d7;have n8:=np (dT (by omega)) d8;have n9:=Ma w7 d9;unfold eX BW;rw[n1,XC];simp only;rw[n2,XC];simp only;rw[n3,XC];simp only;rw[n4,XC];simp only;rw[bd.2 (show(0:Int)<=(x.data.length:Int)/\(x.data.length:Int)<=6000 by omega),cond_true];have hl:=congrArg List.length d4;rw[YE,XG]at hl;generalize hp4:a+(wide x.kind).length+(wide x.a).length+(wide x.b).length+(wide (x.data.length:Int)).length=p4 at*
 have hne:x.data.length=0\/p4+x.data.length<=b.length:=by omega
 have hp4b:p4<=b.length:=by
  have:=fS n4;omega
 rw[decide_eq_false (show¬((x.data.length:Int)>(b.length:Int)-(p4:Int)) by omega),cond_false,show((p4:Nat):Int)+(x.data.length:Int)=((p4+x.data.length:Nat):Int)from by omega,n5,XC];simp only;rw[n6,XC];simp only;rw[n7,XC];simp only;rw[n8,XC];simp only;rw[bd.2 (show(0:Int)<=(x.input.data.length:Int)/\(x.input.data.length:Int)<=512 by omega),cond_true,XE,n9,XC,XE,XE,List.drop_take,d4,show p4+x.data.length-p4=x.data.length by omega,List.take_left];simp only[It,XO,true_and];rw[IK]
 congr 1;omega
theorem IL:∀{xs:List Step} {a:Nat} {tail:List Int},xs.all oW=true->b.drop a=cE xs++tail->lu b xs.length a=some (xs,((a+(cE xs).length:Nat):Int))
 |[],a,tail,_,_=>by simp[lu,cE]
 |x::xs,a,tail,hx,hd=>by
  rw[Zi,XB]at hx
  have hd:b.drop a=eI x++(cE xs++tail):=by rw[hd];simp[cE]
  rw[XI,lu,Sb hx.1 hd,XC];simp only;rw[IL hx.2 (fG hd rfl),XC];simp only[It,XO,true_and];show _=((a+(eI x++cE xs).length:Nat):Int);rw[XG];congr 1;omega
def oV (xs:List Step):List Int:=lA (fK xs.length++cE xs)
theorem Ew (xs:List Step) (t:List Int):oV xs++t=[84,49]++(wide (xs.length:Int)++(cE xs++(wide (nw (fK xs.length++cE xs))++t))):=by
 unfold oV lA fK;simp[ic]
theorem Sc {xs:List Step} {tail:List Int} (hx:xs.all oW=true) (hn:xs.length<=200) (hb:b=oV xs++tail) (hl:b.length<=20000):ni b=cond (decide (tail=[])) (xs,0) ([],3):=by
 have hd:=hb.trans (Ew xs tail)
 have d2:b.drop 2=wide (xs.length:Int)++(cE xs++(wide (nw (fK xs.length++cE xs))++tail)):=by rw[hd];rfl
 have d3:=fG d2 rfl;have d4:=fG d3 rfl;have n1:=np (dT (by omega)) d2;have n2:=IL hx d3;have n3:=np (Ap _) d4;unfold ni;rw[decide_eq_false (by omega),cond_false,show b.take 2=[84,49] by rw[hd];rfl,decide_eq_true rfl,cond_true];rw[show(2:Int)=((2:Nat):Int)from rfl,n1,XD,bd.2 (show(0:Int)<=(xs.length:Int)/\(xs.length:Int)<=200 by omega),cond_true];simp only;rw[XE,n2,XD];simp only;rw[n3,XD];simp only
 have ht:b.take (2+(wide (xs.length:Int)).length+(cE xs).length)=fK xs.length++cE xs:=by
  have e:b=(fK xs.length++cE xs)++(wide (nw (fK xs.length++cE xs))++tail):=by rw[hd];simp[fK,ic]
  have el:2+(wide (xs.length:Int)).length+(cE xs).length=(fK xs.length++cE xs).length:=by simp[fK,ic];omega
  rw[el]
  conv=>lhs;rw[e]
  exact List.take_left
 rw[XE,ht]
 have hbl:b.length=2+(wide (xs.length:Int)).length+(cE xs).length+(wide (nw (fK xs.length++cE xs))).length+tail.length:=by
  have:=congrArg List.length hd;simp only[XG,XI,X2]at this;omega
 congr 1
 rw[decide_eq_decide];constructor
 ·rintro ⟨_,h2⟩
  exact Yo.1 (by omega)
 ·rintro rfl
  simp only[X2]at hbl;exact⟨rfl,by omega⟩
end
end
end Go.Proofs.Ev
