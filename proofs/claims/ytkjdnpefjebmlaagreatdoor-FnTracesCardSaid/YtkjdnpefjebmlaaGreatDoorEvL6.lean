/- Typed functions and what holds of them: part 6. -/
import Derived.Test.YtkjdnpefjebmlaaGreatDoorEvL5
set_option linter.unusedVariables false
set_option linter.unusedSimpArgs false
set_option linter.unusedSectionVars false
namespace Go.Proofs.Ev
open IntKind(i64 u8 u64)
set_option maxRecDepth 100000
set_option maxHeartbeats 4000000
section
structure Rp (q:Request) (t:Task):Prop where
 id:q.id=t.id
 job:wJ q.job=true
 at_:q.job.at_=t.at_
 ax:bj q.job.model=t.ax
 tot:q.job.model.tot<=8002000
inductive Lk:List Request->List Task->Prop
 |nil:Lk [] []
 |cons {q:Request} {t:Task} {qs:List Request} {ts:List Task}:Rp q t->Lk qs ts->Lk (q::qs) (t::ts)
theorem Lk.len:∀{qs:List Request} {ts:List Task},Lk qs ts->qs.length=ts.length
 |_,_,.nil=>rfl
 |_,_,.cons _ h=>by simp[h.len]
theorem Lk.off {id:Int}:∀{qs:List Request} {ts:List Task},Lk qs ts->Lk (Ad qs id) (Nb ts id)
 |_,_,.nil=>.nil
 |_,_,.cons (q:=q) (t:=t) (qs:=qs) (ts:=ts) h g=>by
  have e:(q.id==id)=(t.id==id):=by rw[h.id]
  have:=g.off (id:=id);unfold Ad Nb at this⊢;rw[YH,YH,e];cases(t.id==id)
  ·exact .cons h this
  ·exact this
theorem Lk.app {q:Request} {t:Task} (l:Rp q t):∀{qs:List Request} {ts:List Task},Lk qs ts->Lk (qs++[q]) (ts++[t])
 |_,_,.nil=>.cons l .nil
 |_,_,.cons h g=>.cons h (g.app l)
theorem Lk.get:∀{qs:List Request} {ts:List Task},Lk qs ts->∀{i:Nat} (h1:i<qs.length) (h2:i<ts.length),Rp qs[i] ts[i]
 |_,_,.nil,_,h,_=>absurd h (by simp)
 |_,_,.cons h _,0,_,_=>h
 |_,_,.cons _ g,i+1,h1,h2=>g.get (by simpa using h1) (by simpa using h2)
theorem Lk.set {q:Request} {t:Task} (l:Rp q t):∀{qs:List Request} {ts:List Task},Lk qs ts->∀(i:Nat),Lk (qs.set i q) (ts.set i t)
 |_,_,.nil,_=>.nil
 |_,_,.cons _ g,0=>.cons l g
 |_,_,.cons h g,i+1=>.cons h (g.set l i)
theorem Lk.ids {qs:List Request} {ts:List Task} (h:Lk qs ts):∀q∈qs,∃t∈ts,q.id=t.id:=by
 induction h with
 |nil=>exactλq hq=>nomatch hq
 |cons l _ ih=>
  intro q hq
  rcases Xm.1 hq with rfl|hq
  ·exact⟨_,Xz,l.id⟩
  ·obtain⟨t,h1,h2⟩:=ih q hq;exact⟨t,Xq _ h1,h2⟩
structure sH (r:Runtime):Prop where
 s:SOk r.sched
 ml:r.aB.length=4
 ll:r.aC.length=4
 mod:∀m∈r.aB,m.tot<=8002000
 req:Lk r.ag r.sched.tasks
theorem sH.Tq {r:Runtime} (h:sH r):r.ag.length<=12:=by rw[h.req.len];exact h.s.len
theorem Lh {t:Task} (h:je t=true):t.tot<=6:=by
 have:=(bT h).2.1.2;unfold Task.tot;omega
theorem J3 {α:Type} {t:α->Nat} {B:Nat}:∀{xs:List α},(∀x∈xs,t x<=B)->gp t xs<=xs.length*(B+1)
 |[],_=>by simp[gp]
 |x::xs,h=>by
  have h1:=h x Xz;have h2:=J3 (t:=t) (B:=B) (xs:=xs) λy hy=>h y (Xq _ hy);rw[pn,W7,Xx];omega
theorem sH.tot {r:Runtime} (h:sH r):r.sched.tot<=84:=by
 have h1:=J3 (t:=Task.tot) (B:=6) (xs:=r.sched.tasks) λt ht=>Lh (h.s.task t ht).1;have h2:=h.s.len;show gp Task.tot r.sched.tasks+0<=84;omega
theorem D8 {r:Runtime} (h:sH r):∀q∈r.ag,1<=q.id:=λq hq=>by
 obtain⟨t,h1,h2⟩:=h.req.ids q hq;have:=(bT (h.s.task t h1).1).1.1;omega
theorem PJ {s:al} (h:SOk s) {id:Int} (hid:1<=id):SOk (xX s id):=by rw[<-xY h hid];exact PE h id
theorem Li {r:Runtime} (h:sH r) {id:Int} (hid:1<=id):sH (UH r id):=⟨PJ h.s hid,h.ml,h.ll,h.mod,h.req.off⟩
def eZ (r:Runtime) (x:Step):List Event× al× List Request:=
  cond (Lg r x.a) (cond (dH (r.aB.getD x.a.toNat eI) x.input).2 (cond (inB x.b 0 1000000)
    (let ad:=fw r.sched (bj (dH (r.aB.getD x.a.toNat eI) x.input).1.model) (r.sched.now+x.b);
      cond (decide (ad.2.2=0)) ([⟨2,ad.2.1,r.sched.now+x.b,F1⟩],ad.1,r.ag++[⟨ad.2.1,x.a,(dH (r.aB.getD x.a.toNat eI) x.input).1,r.sched.now+x.b⟩]) (dP x.kind (i64.wrap (3+ad.2.2)),r.sched,r.ag))
    (dP x.kind 8,r.sched,r.ag)) (dP x.kind 3,r.sched,r.ag)) (dP x.kind 1,r.sched,r.ag)
def Wi (e:List Event× al× List Request):List Event× Int× Int× Int× List Task× Int× Int× Int× Int× List Request:=(e.1,e.2.1.now,e.2.1.aj,e.2.1.age,e.2.1.tasks,e.2.1.run,e.2.1.left,e.2.1.turns,e.2.1.next,e.2.2)
section
variable {k:Nat} {r:Runtime} {x:Step} (h:sH r) (hk:20000000<=k) (hx:x.input.tot<=2000000)
include h hk hx
theorem J4:lZ k r x=some (Wi (eZ r x)):=by
 have hM:=ak;have hq:=h.Tq;have ht:=h.tot;have R4:=h.s.now;unfold lZ eZ bp Lg;rw[bR,aa];cases c1:inB x.a 0 3
 ·simp only[XA,cond_true,aa,decide_true,X4,cond_false];rfl
 have c1':=of_decide_eq_true c1;have hlo:=h.ll;have hmo:=h.ml
 have hi:x.a.toNat<r.aC.length:=by omega
 have hi2:x.a.toNat<r.aB.length:=by omega
 simp only[Xa,cond_false,Xf];rw[decide_eq_true (by omega),cond_true,ai hi,aa,db hi];cases c2:r.aC[x.a.toNat]
 ·simp only[XA,cond_true,aa,decide_true,cond_false];rfl
 simp only[Xa,cond_false,cond_true];rw[decide_eq_true (by omega),cond_true,ai hi2,aa,db hi2];have hmt:=h.mod _ (W9 hi2);generalize hm:r.aB[x.a.toNat]=m at hmt;have hjt:=yY m x.input;rw[Fu (by omega) (by omega),aa];cases c3:(dH m x.input).2
 ·simp only[XA,cond_true,aa,decide_true,cond_false];rfl
 simp only[Xa,cond_false,cond_true];rw[sA,aa];cases c4:inB x.b 0 1000000
 ·simp only[XA,cond_true,aa,decide_true,cond_false];rfl
 have c4':=of_decide_eq_true c4;simp only[Xa,cond_false,cond_true];rw[aF (n:=r.sched.now+x.b) (by omega) (by omega)];generalize hj:(dH m x.input).1=j at hjt
 have hjm:j.model.tot<=j.tot:=by unfold Job.tot;omega
 have hcl:=ko j.model;have hcl2:=bu aq.tot j.model.aE;have hcl3:j.model.tot=gp aq.tot j.model.aE+0:=rfl;rw[ln (by omega) (by omega),aa,MP (by omega) (by omega),aa,pK];generalize fw r.sched (bj j.model) (r.sched.now+x.b)=ad;by_cases c5:ad.2.2=0
 ·rw[decide_eq_true c5];simp only[cond_true]
  have hlen:(r.ag++[(⟨ad.2.1,x.a,j,r.sched.now+x.b⟩:Request)]).length=r.ag.length+1:=by simp
  rw[bO (by omega),hlen,aF (by omega) (by omega),decide_eq_true (by omega),cond_true,show(((r.ag.length+1:Nat):Int)-1).toNat=r.ag.length from by omega,Xd (Xt _),Nat.sub_self];simp only[Y1,aa,decide_true,cond_true];rfl
 ·rw[decide_eq_false c5];simp only[cond_true,aa,decide_true,cond_false];rfl
theorem J5:iO k r x=some (Wi (eZ r x)):=by
 have hM:=ak;have hq:=h.Tq;have ht:=h.tot;have R4:=h.s.now;have hlo:=h.ll;have hmo:=h.ml;unfold iO eZ eC;rw[wD h.ll,aa];cases c0:Lg r x.a
 ·simp only[XA,cond_true,aa,decide_true,X4,cond_false];rfl
 have c1':=of_decide_eq_true (XY.1 c0).1
 have hi2:x.a.toNat<r.aB.length:=by omega
 simp only[Xa,cond_false,cond_true];rw[decide_eq_true (by omega),cond_true,ai hi2,aa,db hi2];have hmt:=h.mod _ (W9 hi2);generalize hm:r.aB[x.a.toNat]=m at hmt;have hjt:=yY m x.input;rw[Fv (by omega) (by omega),aa];cases c3:(dH m x.input).2
 ·simp only[XA,cond_true,aa,decide_true,cond_false];rfl
 simp only[Xa,cond_false,cond_true];rw[uZ,aa];cases c4:inB x.b 0 1000000
 ·simp only[XA,cond_true,aa,decide_true,cond_false];rfl
 have c4':=of_decide_eq_true c4;simp only[Xa,cond_false,cond_true];rw[aF (n:=r.sched.now+x.b) (by omega) (by omega)];generalize hj:(dH m x.input).1=j at hjt
 have hjm:j.model.tot<=j.tot:=by unfold Job.tot;omega
 have hcl:=ko j.model;have hcl2:=bu aq.tot j.model.aE;have hcl3:j.model.tot=gp aq.tot j.model.aE+0:=rfl;rw[lq (by omega) (by omega),aa,MQ (by omega) (by omega),aa,pK];generalize fw r.sched (bj j.model) (r.sched.now+x.b)=ad;by_cases c5:ad.2.2=0
 ·rw[decide_eq_true c5];simp only[cond_true];rw[bO (by omega)];simp only[aa,decide_true,cond_true];rfl
 ·rw[decide_eq_false c5];simp only[cond_true,aa,decide_true,cond_false];rfl
end
end
set_option maxRecDepth 100000
set_option maxHeartbeats 4000000
section
theorem SOk.tot {s:al} (h:SOk s):s.tot<=84:=by
 have h1:=J3 (t:=Task.tot) (B:=6) (xs:=s.tasks) λt ht=>Lh (h.task t ht).1;have h2:=h.len;show gp Task.tot s.tasks+0<=84;omega
theorem Lj (rs:List Request) (id:Int):(Ad rs id).length<=rs.length:=YW _ _
def CS (id:Int):Event:=⟨4,id,0,F1⟩
def xZ (a:Int):List Request->List Event->al->List Request->List Event× al× List Request
 |[],e,s,rs=>(e,s,rs)
 |q::qs,e,s,rs=>cond (q.model==a) (xZ a qs (e++[CS q.id]) (xX s q.id) (Ad rs q.id)) (xZ a qs e s rs)
theorem Ci (a:Int) (ms:List Model) (ls:List Bool):∀(qs:List Request) (e:List Event) (s:al) (rs:List Request),(∀q∈qs,1<=q.id)->sH ⟨s,ms,ls,rs⟩->sH ⟨(xZ a qs e s rs).2.1,ms,ls,(xZ a qs e s rs).2.2⟩/\(xZ a qs e s rs).1.length<=e.length+qs.length
 |[],e,s,rs,_,h=>⟨h,Xt _⟩
 |q::qs,e,s,rs,hq,h=>by
  unfold xZ;cases q.model==a
  ·have:=Ci a ms ls qs e s rs (λx hx=>hq x (Xq _ hx)) h;exact⟨this.1,Ys this.2 (by simp)⟩
  ·have:=Ci a ms ls qs (e++[CS q.id]) (xX s q.id) (Ad rs q.id) (λx hx=>hq x (Xq _ hx)) (Li h (hq q Xz));exact⟨this.1,Ys this.2 (by simp;omega)⟩
inductive nA:List Int->List Event->List Int->Prop
 |nil {ids:List Int}:nA ids [] ids
 |other {ids ids':List Int} {e:Event} {es:List Event}:e.kind≠2->e.kind≠3->e.kind≠4->nA ids es ids'->nA ids (e::es) ids'
 |ends {ids ids':List Int} {e:Event} {es:List Event}:e.kind=3\/e.kind=4->e.a∈ids->(e.kind=3->e.out.okB=true)->nA (ids.filter λi=>!(i==e.a)) es ids'->nA ids (e::es) ids'
theorem nA.app {a b c:List Int} {e f:List Event} (h:nA a e b) (g:nA b f c):nA a (e++f) c:=by
 induction h with
 |nil=>exact g
 |other h1 h2 h3 _ ih=>exact .other h1 h2 h3 (ih g)
 |ends h1 h2 h3 _ ih=>exact .ends h1 h2 h3 (ih g)
def ur (rs:List Request):List Int:=rs.map λq=>q.id
theorem Ae (rs:List Request) (id:Int):ur (Ad rs id)=(ur rs).filter λi=>!(i==id):=by
 unfold ur Ad;rw[List.filter_map];rfl
theorem Lk.Wj {qs:List Request} {ts:List Task} (h:Lk qs ts):ur qs=ts.map λt=>t.id:=by
 induction h with
 |nil=>rfl
 |cons l _ ih=>unfold ur at ih⊢;rw[XQ,XQ,ih,l.id]
theorem sH.inc {r:Runtime} (h:sH r):(ur r.ag).Pairwise (·<·):=by
 rw[h.req.Wj,List.pairwise_map];exact h.s.ids
theorem sH.lt {r:Runtime} (h:sH r):∀i∈ur r.ag,1<=i/\i<r.sched.next:=by
 rw[h.req.Wj];intro i hi;obtain⟨t,ht,rfl⟩:=Zq.1 hi;have:=h.s.task t ht;exact⟨(bT this.1).1.1,this.2.1⟩
theorem Cj (a:Int):∀(qs:List Request) (e:List Event) (s:al) (rs:List Request),(ur qs).Pairwise (·<·)->(∀i∈ur qs,i∈ur rs)->∃d,(xZ a qs e s rs).1=e++d/\nA (ur rs) d (ur (xZ a qs e s rs).2.2)
 |[],e,s,rs,_,_=>⟨[],by simp[xZ],.nil⟩
 |q::qs,e,s,rs,hp,hm=>by
  unfold xZ;have hp':=Zl.1 hp;cases q.model==a
  ·exact Cj a qs e s rs hp'.2 λi hi=>hm i (Xq _ hi)
  ·obtain⟨d,h1,h2⟩:=Cj a qs (e++[CS q.id]) (xX s q.id) (Ad rs q.id) hp'.2 λi hi=>by
    rw[Ae,X1];have:q.id<i:=hp'.1 i hi;exact⟨hm i (Xq _ hi),by simp;omega⟩
   refine⟨CS q.id::d,by rw[cond_true,h1,Xh];rfl,.ends (.inr rfl) (hm _ Xz) (λh=>absurd h (show¬(4:Int)=3 by decide)) ?_⟩;rw[Ae]at h2;exact h2
section
variable {k:Nat} (hk:20000000<=k)
include hk
theorem yA {R:Type} {orig:List Request} {a q1 q2 q4 q5 q6:Int} {q3 q7:List Int} {ms:List Model} {ls:List Bool} {fin:Int× Int× Int× Int× Int× Int× Int× List Event× List Task× List Request->Option R}:∀(qs pre:List Request) (e:List Event) (s:al) (rs:List Request) (kf:Nat),qs.length<kf->orig=pre++qs->orig.length<=12->e.length+qs.length<=100->(∀q∈qs,1<=q.id)->SOk s->rs.length<=12->
  iter (λu10 n10=>cL k (orig,q1,a,q2,q3,q4,q5,q6,q7,ms,ls) u10 n10 fin) kf ((pre.length:Int),s.now,s.aj,s.age,s.run,s.left,s.turns,s.next,e,s.tasks,rs)=
   (let y:=xZ a qs e s rs;fin (y.2.1.now,y.2.1.aj,y.2.1.age,y.2.1.run,y.2.1.left,y.2.1.turns,y.2.1.next,y.1,y.2.1.tasks,y.2.2))
 |_,_,_,_,_,0,h,_,_,_,_,_,_=>by omega
 |[],pre,e,s,rs,kf+1,_,ho,hl,_,_,_,_=>by
  rw[aS];show cL k _ _ _ fin=_;unfold cL;simp only
  rw[decide_eq_false (by rw[ho];simp)];rfl
 |q::qs,pre,e,s,rs,kf+1,hkf,ho,hl,he,hq,hs,hr=>by
  have hM:=ak;simp only[W7]at hkf he
  have hol:orig.length=pre.length+(qs.length+1):=by rw[ho];simp
  have hat:idx orig (pre.length:Int)=some q:=by rw[aL,ho];simp
  have hst:=hs.tot;rw[aS];unfold xZ;cases c:q.model==a
  ·have st:∀next,cL k (orig,q1,a,q2,q3,q4,q5,q6,q7,ms,ls) ((pre.length:Int),s.now,s.aj,s.age,s.run,s.left,s.turns,s.next,e,s.tasks,rs) next fin=next (((pre++[q]).length:Int),s.now,s.aj,s.age,s.run,s.left,s.turns,s.next,e,s.tasks,rs):=λnext=>by
    unfold cL;simp only;rw[decide_eq_true (by omega),cond_true,hat,aa,c,cond_false,aF (by omega) (by omega),W5];rfl
   exact(st _).trans (yA qs (pre++[q]) e s rs kf (by omega) (by rw[ho];simp) hl (by omega) (λx hx=>hq x (Xq _ hx)) hs hr)
  ·have st:∀next,cL k (orig,q1,a,q2,q3,q4,q5,q6,q7,ms,ls) ((pre.length:Int),s.now,s.aj,s.age,s.run,s.left,s.turns,s.next,e,s.tasks,rs) next fin=next (((pre++[q]).length:Int),(xX s q.id).now,(xX s q.id).aj,(xX s q.id).age,(xX s q.id).run,(xX s q.id).left,(xX s q.id).turns,(xX s q.id).next,e++[CS q.id],(xX s q.id).tasks,Ad rs q.id):=λnext=>by
    unfold cL;simp only;rw[decide_eq_true (by omega),cond_true,hat,aa,c,cond_true,aa,PI (k:=k) (r:=⟨s,ms,ls,rs⟩) (by show s.tot+rs.length<k;omega) (by show s.tot+rs.length<=aO;omega) hs (hq q Xz),aa,aa,bO (by omega),aF (by omega) (by omega),W5];rfl
   exact(st _).trans (yA qs (pre++[q]) (e++[CS q.id]) (xX s q.id) (Ad rs q.id) kf (by omega) (by rw[ho];simp) hl (by simp;omega) (λx hx=>hq x (Xq _ hx)) (PJ hs (hq q Xz)) (Ys (Lj _ _) hr))
theorem yB {R:Type} {orig:List Request} {a n p1 p2 p3 p4 p5 q1 q2 q4 q5 q6:Int} {q3 q7:List Int} {ms:List Model} {ls:List Bool} {fin:Int× Int× List Event× List Task× List Request->Option R}:∀(qs pre:List Request) (e:List Event) (s:al) (rs:List Request) (kf:Nat),qs.length<kf->orig=pre++qs->n=orig.length->orig.length<=12->e.length+qs.length<=100->(∀q∈qs,1<=q.id)->SOk s->rs.length<=12->s.now=p1->s.aj=p2->s.age=p3->s.turns=p4->s.next=p5->
  iter (λu7 n7=>bC k (n,p1,p2,p3,p4,p5,q1,a,q2,q3,q4,q5,q6,q7,orig,ms,ls) u7 n7 fin) kf ((pre.length:Int),s.run,s.left,e,s.tasks,rs)=
   (let y:=xZ a qs e s rs;fin (y.2.1.run,y.2.1.left,y.1,y.2.1.tasks,y.2.2))
 |_,_,_,_,_,0,h,_,_,_,_,_,_,_,_,_,_,_,_=>by omega
 |[],pre,e,s,rs,kf+1,_,ho,hn,hl,_,_,_,_,_,_,_,_,_=>by
  rw[aS];show bC k _ _ _ fin=_;unfold bC;simp only
  rw[decide_eq_false (by rw[hn,ho];simp)];rfl
 |q::qs,pre,e,s,rs,kf+1,hkf,ho,hn,hl,he,hq,hs,hr,e1,e2,e3,e4,e5=>by
  have hM:=ak;simp only[W7]at hkf he
  have hol:orig.length=pre.length+(qs.length+1):=by rw[ho];simp
  have hat:orig[(pre.length:Int).toNat]? =some q:=by rw[W4,ho];simp
  have hst:=hs.tot;rw[aS];unfold xZ;cases c:q.model==a
  ·have st:∀next,bC k (n,p1,p2,p3,p4,p5,q1,a,q2,q3,q4,q5,q6,q7,orig,ms,ls) ((pre.length:Int),s.run,s.left,e,s.tasks,rs) next fin=next (((pre++[q]).length:Int),s.run,s.left,e,s.tasks,rs):=λnext=>by
    unfold bC;simp only;rw[decide_eq_true (by omega),cond_true,decide_eq_true (by omega),cond_true,hat,aa,c,cond_false,aF (by omega) (by omega),W5];rfl
   exact(st _).trans (yB qs (pre++[q]) e s rs kf (by omega) (by rw[ho];simp) hn hl (by omega) (λx hx=>hq x (Xq _ hx)) hs hr e1 e2 e3 e4 e5)
  ·have st:∀next,bC k (n,p1,p2,p3,p4,p5,q1,a,q2,q3,q4,q5,q6,q7,orig,ms,ls) ((pre.length:Int),s.run,s.left,e,s.tasks,rs) next fin=next (((pre++[q]).length:Int),(xX s q.id).run,(xX s q.id).left,e++[CS q.id],(xX s q.id).tasks,Ad rs q.id):=λnext=>by
    subst e1 e2 e3 e4 e5;unfold bC;simp only;rw[decide_eq_true (by omega),cond_true,decide_eq_true (by omega),cond_true,hat,aa,c,cond_true,Ia (k:=k) (r:=⟨s,ms,ls,rs⟩) (by show s.tot+rs.length<k;omega) (by show s.tot+rs.length<=aO;omega),aa,bO (by omega),aF (by omega) (by omega),W5];rfl
   exact(st _).trans (yB qs (pre++[q]) (e++[CS q.id]) (xX s q.id) (Ad rs q.id) kf (by omega) (by rw[ho];simp) hn hl (by simp;omega) (λx hx=>hq x (Xq _ hx)) (PJ hs (hq q Xz)) (Ys (Lj _ _) hr) e1 e2 e3 e4 e5)
end
def fa (r:Runtime) (x:Step):List Event× Runtime:=
 cond (Lg r x.a) (let y:=xZ x.a r.ag [] r.sched r.ag;(y.1++[⟨1,x.a,0,F1⟩],⟨y.2.1,r.aB.set x.a.toNat eI,r.aC.set x.a.toNat false,y.2.2⟩)) (dP x.kind 1,r)
theorem yC (a:Int):∀(qs:List Request) (e:List Event) (s:al) (rs:List Request),(xZ a qs e s rs).2.1.now=s.now/\(xZ a qs e s rs).2.1.aj=s.aj/\(xZ a qs e s rs).2.1.age=s.age/\(xZ a qs e s rs).2.1.turns=s.turns/\(xZ a qs e s rs).2.1.next=s.next
 |[],e,s,rs=>⟨rfl,rfl,rfl,rfl,rfl⟩
 |q::qs,e,s,rs=>by
  unfold xZ;cases q.model==a
  ·exact yC a qs e s rs
  ·exact yC a qs (e++[CS q.id]) (xX s q.id) (Ad rs q.id)
section
variable {k:Nat} {r:Runtime} {x:Step} (h:sH r) (hk:20000000<=k)
include h hk
theorem J6:lY k r x=some (let e:=fa r x;(e.1,e.2.sched.now,e.2.sched.aj,e.2.sched.age,e.2.sched.tasks,e.2.sched.run,e.2.sched.left,e.2.sched.turns,e.2.sched.next,e.2.aB,e.2.aC,e.2.ag)):=by
 have hM:=ak;have hq:=h.Tq;have hlo:=h.ll;have hmo:=h.ml;unfold lY fa bp Lg;rw[bR,aa];cases c1:inB x.a 0 3
 ·rfl
 have c1':=of_decide_eq_true c1
 have hi:x.a.toNat<r.aC.length:=by omega
 simp only[Xa,cond_false,Xf];rw[decide_eq_true (by omega),cond_true,ai hi,aa,db hi];cases c2:r.aC[x.a.toNat]
 ·rfl
 simp only[Xa,cond_false,cond_true];have hu:=Ci x.a r.aB r.aC r.ag [] r.sched r.ag (D8 h) h;refine(yA hk r.ag [] [] r.sched r.ag k (by omega) rfl hq (by simp;omega) (D8 h) h.s hq).trans ?_;generalize xZ x.a r.ag [] r.sched r.ag=y at hu;have:=hu.2;simp only[Xg]at this;simp only;rw[decide_eq_true (by omega),cond_true,bO (by omega)];rfl
theorem J7:iN k r x=some (let e:=fa r x;(e.1,e.2.sched.tasks,e.2.sched.run,e.2.sched.left,e.2.aB,e.2.aC,e.2.ag))/\(fa r x).2.sched.now=r.sched.now/\(fa r x).2.sched.aj=r.sched.aj/\(fa r x).2.sched.age=r.sched.age/\(fa r x).2.sched.turns=r.sched.turns/\(fa r x).2.sched.next=r.sched.next:=by
 have hM:=ak;have hq:=h.Tq;have hlo:=h.ll;have hmo:=h.ml;unfold iN fa eC;rw[wD h.ll,aa];cases c0:Lg r x.a
 ·simp only[XA,cond_true,aa,decide_true,cond_false];exact⟨rfl,trivial,trivial,trivial,trivial,trivial⟩
 have c1':=of_decide_eq_true (XY.1 c0).1;simp only[Xa,cond_false,cond_true]
 have hc:cT k r.ag=some r.ag:=by
  unfold cT;rw[bO (by simp;omega)];simp only[decide_true,cond_true,X5]
  cases r.ag with
  |nil=>exact wi _
  |cons=>rfl
 have hkp:=yC x.a r.ag [] r.sched r.ag;refine⟨?_,hkp⟩;rw[hc,aa];have hu:=Ci x.a r.aB r.aC r.ag [] r.sched r.ag (D8 h) h;refine(yB hk r.ag [] [] r.sched r.ag k (by omega) rfl rfl hq (by simp;omega) (D8 h) h.s hq rfl rfl rfl rfl rfl).trans ?_;generalize xZ x.a r.ag [] r.sched r.ag=y at hu;have:=hu.2;simp only[Xg]at this;simp only;rw[decide_eq_true (by omega),cond_true,decide_eq_true (by omega),cond_true,bO (by omega)];simp only[decide_true,cond_true];rfl
end
end
set_option maxRecDepth 100000
set_option maxHeartbeats 4000000
section
section
variable {k:Nat}
theorem Rq (s:al) (ms:List Model) (ls:List Bool) (rs:List Request):kj k s.now s.aj s.age s.tasks s.run s.left s.turns s.next ms ls rs=eJ k s:=by
 unfold kj eJ;simp only[decide_true,cond_true]
theorem Tt (a b c d e f g id:Int) (zs:List dY) (ms:List Model) (ls:List Bool) (rs:List Request):dS k a b c zs d e f g ms ls rs id=dR k a b c zs d e f g id:=by
 unfold dS dR;simp only[decide_true,cond_true]
theorem Tu (s:al) (ms:List Model) (ls:List Bool) (rs:List Request) (st:Bool):iA k s.now s.aj s.age s.tasks s.run s.left s.turns s.next ms ls rs st=gy k s st:=by
 unfold iA gy;rw[Rq];simp only[Tt,decide_true,cond_true]
theorem Tv {s:al} (h:SOk s) (hn:s.now≠1000000) (hk:1000<k) (st:Bool) (ms:List Model) (ls:List Bool) (rs:List Request):
  iA k s.now s.aj s.age s.tasks s.run s.left s.turns s.next ms ls rs st=some (((fJ s st).2.1,(fJ s st).2.2),(fJ s st).1.now,(fJ s st).1.tasks,(fJ s st).1.run,(fJ s st).1.left,(fJ s st).1.turns)/\
   (fJ s st).1.aj=s.aj/\(fJ s st).1.age=s.age/\(fJ s st).1.next=s.next:=by
 have hM:=ak;have ht:=h.tot;have e:=CQ (k:=k) (s:=s) (st:=st) (by omega) (by omega);unfold uO at e;rw[kr (by omega) (by omega),aa,ov (by omega) (by omega),aa,Ab h,dF,if_neg hn]at e;simp only[Xa,cond_false]at e;rw[Tu]
 cases hm:gy k s st with
 |none=>rw[hm]at e;exact nomatch e
 |some r3=>
  rw[hm]at e;have e:=Yk e;rw[<-e];exact⟨rfl,rfl,rfl,rfl⟩
inductive Ll (s:al):al× Int× Bool->Prop
 |rest {u:al}:u.tasks=s.tasks->Ll s (u,0,false)
 |next {u:al} {pre post:List Task} {t:Task}:s.tasks=pre++t::post->(∀v∈pre,v.id≠t.id)->1<=t.id->t.at_+1<t.ax.length->u.tasks=pre++sG t::post->Ll s (u,t.id,false)
 |done {u:al} {pre post:List Task} {t:Task}:s.tasks=pre++t::post->(∀v∈pre,v.id≠t.id)->(∀v∈post,v.id≠t.id)->1<=t.id->t.at_<t.ax.length->u.tasks=pre++post->u.run=0->Ll s (u,t.id,true)
theorem UI {s:al} (h:SOk s) (st:Bool):Ll s (fJ s st):=by
 by_cases hn:s.now=1000000
 ·rw[Ac hn];exact .rest rfl
 cases st
 ·rcases H7 h hn with⟨_,_,_,e⟩|⟨t,L,tr,T,_⟩
  ·rw[e];exact .rest rfl
  ·obtain⟨pre,post,e,h1,h2,h3,h4,h5⟩:=Ld h.ids T.mem;have hb:=bT (h.task t T.mem).1
   have n1:∀u∈pre,u.id≠t.id:=λu hu=>by have:=h1 u hu;omega
   have n2:∀u∈post,u.id≠t.id:=λu hu=>by have:=h2 u hu;omega
   rw[T.eq,D5 e n1 n2];by_cases c1:L-1>0
   ·rw[if_pos c1];exact .rest rfl
   rw[if_neg c1];by_cases c2:t.at_+1<t.ax.length
   ·rw[if_pos c2];exact .next e n1 hb.1.1 c2 rfl
   ·rw[if_neg c2];exact .done e n1 n2 hb.1.1 hb.2.2.1.2 rfl rfl
 ·rw[zj h hn];exact .rest rfl
end
inductive Tr (st:Bool):Nat->al->List Event->al->Prop
 |nil {s:al}:Tr st 0 s [] s
 |tick {n:Nat} {s s' u:al} {d e:List Event}:s'=(fJ s st).1->(d=[]/\(fJ s st).2.2=false\/∃t,d=[⟨3,(fJ s st).2.1,s'.now,t⟩]/\(fJ s st).2.2=true)->Tr st n s' e u->Tr st (n+1) s (d++e) u
theorem Lk.split {t:Task}:∀{pre post:List Task} {qs:List Request},Lk qs (pre++t::post)->∃qp q qo,qs=qp++q::qo/\Lk qp pre/\Rp q t/\Lk qo post
 |[],post,_,.cons (q:=q) (qs:=qs) h g=>⟨[],q,qs,rfl,.nil,h,g⟩
 |p::pre,post,_,.cons (q:=q) (qs:=qs) h g=>by
  obtain⟨qp,q',qo,e,h1,h2,h3⟩:=g.split (pre:=pre);exact⟨q::qp,q',qo,by rw[e];rfl,.cons h h1,h2,h3⟩
theorem Lk.join {ts:List Task} {ro:List Request} (g:Lk ro ts):∀{rs:List Request} {us:List Task},Lk rs us->Lk (rs++ro) (us++ts)
 |_,_,.nil=>g
 |_,_,.cons h f=>.cons h (g.join f)
theorem Lk.ne {id:Int}:∀{qs:List Request} {ts:List Task},Lk qs ts->(∀v∈ts,v.id≠id)->∀q∈qs,q.id≠id:=λ{qs ts} h hn q hq=>by
 obtain⟨t,h1,h2⟩:=h.ids q hq;rw[h2];exact hn t h1
theorem Lm {id:Int} {q:Request} (hq:q.id=id):∀{qp qo:List Request},(∀v∈qp,v.id≠id)->((qp++q::qo).findIdx? λq=>q.id==id)=some qp.length
 |[],qo,_=>by rw[X5,Zk,hq];simp
 |p::qp,qo,h=>by
  have h1:=h p Xz;rw[Ym,Zk,show(p.id==id)=false from by simpa using h1,Lm hq λv hv=>h v (Xq _ hv)];simp
theorem PK {id:Int} {q:Request} (hq:q.id=id) {qp qo:List Request} (h1:∀v∈qp,v.id≠id) (h2:∀v∈qo,v.id≠id):Ad (qp++q::qo) id=qp++qo:=by
 unfold Ad;rw[YV,YH,hq];simp only[beq_self_eq_true,Xa,Yt,if_false];rw[Yo.2 λv hv=>by simpa using h1 v hv,Yo.2 λv hv=>by simpa using h2 v hv]
theorem vc {q:Request} {t:Task} (l:Rp q t) (hc:t.at_<t.ax.length):wJ (xR q.job)=true/\q.job.at_≠(q.job.model.aE.length:Int)/\Rp ⟨q.id,q.model,xR q.job,q.due⟩ (sG t):=by
 have hl:=iY (jM l.job).1;rw[l.ax]at hl
 have hne:q.job.at_≠(q.job.model.aE.length:Int):=by rw[l.at_];omega
 have hs:=Pp l.job hne;refine⟨hs,hne,⟨l.id,hs,?_,l.ax,l.tot⟩⟩;show(xR q.job).at_=t.at_+1;rw[<-l.at_];rfl
end
set_option maxRecDepth 100000
set_option maxHeartbeats 4000000
section
def qV (q:Request):Request:=⟨q.id,q.model,xR q.job,q.due⟩
def PL (id now:Int) (t:aD):Event:=⟨3,id,now,t⟩
theorem J8 {q:Request} {t:Task} (l:Rp q t):q.job.tot<=8003000:=by
 have:=(Po l.job).2;have:=l.tot;omega
theorem wE {k:Nat} {qp qo:List Request} {q:Request} {t:Task} (l:Rp q t) (hc:t.at_<t.ax.length) (hk:20000000<=k):oQ k qp.length (qp++q::qo)=some (qp++qV q::qo):=by
 have hM:=ak;have htt:=J8 l;obtain⟨hs,hne,_⟩:=vc l hc;generalize hj:q.job=j at*;have ht:j.tot=j.model.tot+(j.act.data.length+0+0):=rfl;have h:wJ j=true:=hj▸l.job;obtain⟨hm,hat,hok,hsh,hsp⟩:=jM h;obtain⟨hlen,_⟩:=tI hm;obtain⟨hl,hlt⟩:=HT h hne
 have gm:∀(y:Request) (qs:List Request),(qp++y::qs)[qp.length]? =some y:=λy qs=>by simp
 have sm:∀(y z:Request) (qs:List Request),(qp++y::qs).set qp.length z=qp++z::qs:=λy z qs=>by simp
 unfold oQ qV;simp only[gm,sm,aa,hj];rw[FN (by omega) (by omega) h,aa];rw[j9 _ hat.1,hl,aa,FL (by omega) (by omega) (by omega) (by omega) (by omega),aa,aF (n:=j.at_+1) (by omega) (by omega)];rfl
theorem wF {q:Request} {qp qo:List Request} (h:∀v∈qp,v.id≠q.id):xU (qp++q::qo) q.id=(qp.length:Int):=by
 unfold xU;rw[Lm rfl h];rfl
theorem MZ {k:Nat} {qp qo:List Request} {q:Request} (hl:qp.length+qo.length<=100):cF k (qp++q::qo) (qp.length:Int) (i64.wrap ((qp.length:Int)+1))=some (qp++qo):=by
 have hlen:(qp++q::qo).length=qp.length+qo.length+1:=by simp;omega
 have t1:(qp.length:Int).toNat=qp.length:=W4 _
 have t2:((qp.length:Int)+1).toNat=qp.length+1:=by omega
 have e1:(qp++q::qo).take (qp.length-0)=qp:=by simp
 have e2:((qp++q::qo).drop (qp.length+1)).take (qp.length+qo.length+1-(qp.length+1))=qo:=by
  rw[show qp++q::qo=(qp++[q])++qo from by simp,List.drop_left' (by simp),Yz (by omega)]
 have e3:((qp++q::qo).drop (qp.length-0+(qp.length+qo.length+1-(qp.length+1)))).length=1:=by rw[XZ,hlen];omega
 have e4:qp.length-0+(qp.length+qo.length+1-(qp.length+1))=qp.length+qo.length:=by omega
 unfold cF;rw[aF (by omega) (by omega)];simp only[t1,t2,hlen,e1,e2,W4];generalize (qp++q::qo).drop (qp.length-0+(qp.length+qo.length+1-(qp.length+1)))=z at e3;rw[e4]
 have hT:(qp++qo++z).length=qp.length+qo.length+1:=by simp[e3];omega
 rw[hT]
 rw[decide_eq_true (show(0:Int)<=((qp.length+qo.length+1:Nat):Int)/\((qp.length+qo.length+1:Nat):Int)<=((qp.length+qo.length+1:Nat):Int) by omega),cond_true,
  decide_eq_true (show(0:Int)<=(qp.length:Int)+1/\(qp.length:Int)+1<=((qp.length+qo.length+1:Nat):Int) by omega),cond_true,
  decide_eq_true (show(0:Int)<=(qp.length:Int)/\(qp.length:Int)<=((qp.length+1:Nat):Int) by omega),cond_true,dF,if_neg (by omega),
  decide_eq_true (show(0:Int)<=(qp.length:Int)/\(qp.length:Int)<=((qp.length+qo.length+1:Nat):Int) by omega),cond_true,cond_true]
 have hb:((qp.length+qo.length).ble (qp.length+qo.length+1)&&((qp.length+1+(qp.length+qo.length+1-(qp.length+1))).ble (qp.length+qo.length+1)&&Nat.ble 1 (qp.length+qo.length+1)))=true:=by
  rw[W3,W3,Nat.ble_eq,Nat.ble_eq,Nat.ble_eq];omega
 rw[hb,cond_true,decide_eq_true (show(0:Int)<=((qp.length+qo.length+1:Nat):Int)/\((qp.length+qo.length+1:Nat):Int)<=((qp.length+qo.length+1-0:Nat):Int) by omega),cond_true,
  decide_eq_true (show(0:Int)<=((qp.length+qo.length:Nat):Int)/\((qp.length+qo.length:Nat):Int)<=((qp.length+qo.length+1:Nat):Int) by omega),cond_true]
 congr 1
 rw[Xe,Xh,Yp (by rw[Xw,hT];omega),List.take_take,Nat.min_self,Yp (by simp),Yz (by simp)]
theorem PM {k:Nat} (hk:20000000<=k) {st:Bool} {s:al} {ms:List Model} {ls:List Bool} {rs:List Request} {e:List Event} (h:sH ⟨s,ms,ls,rs⟩) (he:e.length<=1000) {i a:Int} (hi:0<=i) (hia:i<a) (ha:a<=200) {q1 q2 q4 q5 q6 kd p9:Int} {q3 q7:List Int} (hkd:(kd==5)=st):
  ∃(e':List Event) (s':al) (rs':List Request),sH ⟨s',ms,ls,rs'⟩/\e'.length<=e.length+1/\(∃d,e'=e++d/\nA (ur rs) d (ur rs')/\s'=(fJ s st).1/\(d=[]/\(fJ s st).2.2=false\/∃t,d=[⟨3,(fJ s st).2.1,s'.now,t⟩]/\(fJ s st).2.2=true))/\(s'.aj=s.aj/\s'.age=s.age/\s'.next=s.next)/\
   (∀(R:Type) (next:_->Option R) fin,dj k (st,q1,a,q2,q3,q4,q5,q6,q7,ms,ls) (i,s.now,s.aj,s.age,s.run,s.left,s.turns,s.next,e,s.tasks,rs) next fin=next (i+1,s'.now,s'.aj,s'.age,s'.run,s'.left,s'.turns,s'.next,e',s'.tasks,rs'))/\
   (s.now=1000000->e'=e/\s'=s/\rs'=rs)/\
   (s.now≠1000000->∀(R:Type) (next:_->Option R) fin,bq k (a,s.aj,s.age,s.next,kd,p9,q2,q3,q4,q5,q6,q7,ms,ls) (i,s.now,s.run,s.left,s.turns,e,s.tasks,rs) next fin=next (i+1,s'.now,s'.run,s'.left,s'.turns,e',s'.tasks,rs')):=by
 have hM:=ak;have ht:s.tot<=84:=SOk.tot h.s;have hq:rs.length<=12:=h.Tq;have hTK:=UI h.s st;have hok:=Tp h.s st;have hS:=CP (k:=k) (s:=s) (st:=st) (by omega) (by omega);have hI:=λhn:s.now≠1000000=>Tv (k:=k) h.s hn (by omega) st ms ls rs
 have VV:(fJ s st).1.aj=s.aj/\(fJ s st).1.age=s.age/\(fJ s st).1.next=s.next:=by
  by_cases hn:s.now=1000000
  ·rw[Ac hn];exact⟨rfl,rfl,rfl⟩
  ·exact(hI hn).2
 have Tw:s.now=1000000->fJ s st=(s,0,false):=λhn=>Ac hn st;generalize fJ s st=T at*;have hw:i64.wrap (i+1)=i+1:=aF (by omega) (by omega);have VW:Lk rs s.tasks:=h.req
 cases hTK with
 |rest hu=>
  rename_i u;refine⟨e,u,rs,⟨hok,h.ml,h.ll,h.mod,by show Lk rs u.tasks;rw[hu];exact VW⟩,by omega,⟨[],by simp,.nil,rfl,.inl ⟨rfl,rfl⟩⟩,VV,λR next fin=>?_,λhn=>?_,λhn R next fin=>?_⟩
  ·unfold dj;simp only;rw[decide_eq_true hia,cond_true,hS,aa,hw];rfl
  ·have:=congrArg Prod.fst (Tw hn);exact⟨rfl,this,rfl⟩
  ·unfold bq;simp only
   rw[decide_eq_true hia,cond_true,dF,if_neg hn,hkd,(hI hn).1,aa,hw];rfl
 |next e1 n1 p1 c1 hu=>
  rename_i u pre post t;obtain⟨qp,q,qo,rfl,l1,l,l2⟩:=(e1▸VW:Lk rs (pre++t::post)).split;have hqp:=l1.ne n1;rw[<-l.id]at hqp;obtain⟨hs,hne,l'⟩:=vc l (by omega)
  have hlen:(qp++q::qo).length=qp.length+qo.length+1:=by simp;omega
  have hq:(qp++q::qo).length<=12:=hq;have hjt:=J8 l
  have gm:∀(y:Request) (qs:List Request),(qp++y::qs)[qp.length]? =some y:=λy qs=>by simp
  have sm:∀(y z:Request) (qs:List Request),(qp++y::qs).set qp.length z=qp++z::qs:=λy z qs=>by simp
  have hz:(t.id==(0:Int))=false:=by simp;omega
  refine⟨e,u,qp++qV q::qo,⟨hok,h.ml,h.ll,h.mod,by show Lk (qp++qV q::qo) u.tasks;rw[hu];exact(Lk.cons l' l2).join l1⟩,by omega,⟨[],by simp,by unfold ur;rw[Yl,Yl];exact .nil,rfl,.inl ⟨rfl,rfl⟩⟩,VV,λR next fin=>?_,λhn=>absurd (congrArg (λx=>x.2.1) (Tw hn)) (by show¬t.id=0;omega),λhn R next fin=>?_⟩
  ·unfold dj;simp only;rw[decide_eq_true hia,cond_true,hS,aa,hz,cond_false,xW (by show(qp++q::qo).length<k;omega) (by show(qp++q::qo).length<=aO;omega),aa];simp only;rw[<-l.id,wF hqp,decide_eq_true (by omega),cond_true,W4,gm,aa,zg (by omega) (by omega),aa,cond_true,aa,cond_false,hw,sm];unfold Ri;rw[l.job,show(q.job.at_==(q.job.model.aE.length:Int))=false from by simpa using hne];rfl
  ·unfold bq;simp only;rw[decide_eq_true hia,cond_true,dF,if_neg hn,hkd,(hI hn).1,aa];simp only;rw[hz,cond_false,xV (by show(qp++q::qo).length<k;omega) (by show(qp++q::qo).length<=aO;omega),aa];simp only
   rw[<-l.id,wF hqp,decide_eq_true (by omega),cond_true,W4,wE l (by omega) hk,aa,cond_false,hw]
 |done e1 n1 n2 p1 c1 hu hr=>
  rename_i u pre post t;obtain⟨qp,q,qo,rfl,l1,l,l2⟩:=(e1▸VW:Lk rs (pre++t::post)).split;have hqp:=l1.ne n1;have hqo:=l2.ne n2;rw[<-l.id]at hqp hqo;obtain⟨hs,hne,l'⟩:=vc l c1
  have hlen:(qp++q::qo).length=qp.length+qo.length+1:=by simp;omega
  have hlen2:(qp++qV q::qo).length=qp.length+qo.length+1:=by simp;omega
  have hq:(qp++q::qo).length<=12:=hq;have hjt:=J8 l
  have gm:∀(y:Request) (qs:List Request),(qp++y::qs)[qp.length]? =some y:=λy qs=>by simp
  have sm:∀(y z:Request) (qs:List Request),(qp++y::qs).set qp.length z=qp++z::qs:=λy z qs=>by simp
  have hz:(t.id==(0:Int))=false:=by simp;omega
  have hut:u.tot<=84:=SOk.tot hok
  have Uf:xX u q.id=u:=by
   unfold xX;rw[hr,show((0:Int)==q.id)=false from by rw[l.id];simp;omega]
   have:Nb u.tasks q.id=u.tasks:=Yo.2 λv hv=>by
    rw[hu]at hv;rw[l.id]
    rcases XN.1 hv with hv|hv
    ·simpa using n1 v hv
    ·simpa using n2 v hv
   rw[this,<-hr];rfl
  refine⟨e++[PL q.id u.now (xR q.job).act],u,qp++qo,⟨hok,h.ml,h.ll,h.mod,by show Lk (qp++qo) u.tasks;rw[hu];exact l2.join l1⟩,by simp,⟨[PL q.id u.now (xR q.job).act],rfl,.ends (.inl rfl) (by unfold ur;simp[PL]) (λ_=>(jM l'.job).2.2.1) (by rw[show(PL q.id u.now (xR q.job).act).a=q.id from rfl,<-Ae,PK rfl hqp hqo];exact .nil),rfl,.inr ⟨(xR q.job).act,by unfold PL;rw[l.id],rfl⟩⟩,VV,λR next fin=>?_,λhn=>absurd (congrArg (λx=>x.2.1) (Tw hn)) (by show¬t.id=0;omega),λhn R next fin=>?_⟩
  ·unfold dj;simp only;rw[decide_eq_true hia,cond_true,hS,aa,hz,cond_false,xW (by show(qp++q::qo).length<k;omega) (by show(qp++q::qo).length<=aO;omega),aa];simp only;rw[<-l.id,wF hqp,decide_eq_true (by omega),cond_true,W4,gm,aa,zg (by omega) (by omega),aa,cond_true,aa,cond_true,hw,sm];unfold Ri;rw[l.job,show(q.job.at_==(q.job.model.aE.length:Int))=false from by simpa using hne];simp only[XA,Xf,cond_true];rw[D7 (k:=k) (r:=⟨u,ms,ls,qp++(⟨q.id,q.model,xR q.job,q.due⟩:Request)::qo⟩) (by show u.tot+(qp++qV q::qo).length<k;omega) (by show u.tot+(qp++qV q::qo).length<=aO;omega) hok (by rw[l.id];exact p1),aa,bO (by omega)];simp only;rw[Uf,PK (q:=(⟨q.id,q.model,xR q.job,q.due⟩:Request)) rfl hqp hqo];rfl
  ·unfold bq;simp only;rw[decide_eq_true hia,cond_true,dF,if_neg hn,hkd,(hI hn).1,aa];simp only;rw[hz,cond_false,xV (by show(qp++q::qo).length<k;omega) (by show(qp++q::qo).length<=aO;omega),aa];simp only;rw[<-l.id,wF hqp,decide_eq_true (by omega),cond_true,W4,wE l c1 hk,aa,cond_true,decide_eq_true (by omega),cond_true,gm,aa,bO (by omega),MZ (by omega),aa,hw];rfl
end
set_option maxRecDepth 100000
set_option maxHeartbeats 4000000
section
theorem Ln {k:Nat} (hk:20000000<=k) {st:Bool} {ms:List Model} {ls:List Bool} {a:Int} (ha:a<=200) {q1 q2 q4 q5 q6 kd p9:Int} {q3 q7:List Int} (hkd:(kd==5)=st):∀(n:Nat) (i:Int) (s:al) (rs:List Request) (e:List Event),a=i+n->0<=i->sH ⟨s,ms,ls,rs⟩->e.length+n<=1000->
  ∃(e':List Event) (s':al) (rs':List Request),sH ⟨s',ms,ls,rs'⟩/\e'.length<=e.length+n/\(∃d,e'=e++d/\nA (ur rs) d (ur rs')/\Tr st n s d s')/\(s'.aj=s.aj/\s'.age=s.age/\s'.next=s.next)/\
   (s.now=1000000->e'=e/\s'=s/\rs'=rs)/\
   (∀(R:Type) (fin:_->Option R) (kf:Nat),n<kf->iter (λu10 n10=>dj k (st,q1,a,q2,q3,q4,q5,q6,q7,ms,ls) u10 n10 fin) kf (i,s.now,s.aj,s.age,s.run,s.left,s.turns,s.next,e,s.tasks,rs)=fin (e',s'.now,s'.aj,s'.age,s'.run,s'.left,s'.turns,s'.next,s'.tasks,rs'))/\
   (∀(R:Type) (fin:_->Option R) (kf:Nat),n<kf->iter (λu9 n9=>bq k (a,s.aj,s.age,s.next,kd,p9,q2,q3,q4,q5,q6,q7,ms,ls) u9 n9 fin) kf (i,s.now,s.run,s.left,s.turns,e,s.tasks,rs)=fin (e',s'.now,s'.run,s'.left,s'.turns,s'.tasks,rs'))
 |0,i,s,rs,e,hi,h0,h,he=>by
  refine⟨e,s,rs,h,Xt _,⟨[],by simp,.nil,.nil⟩,⟨rfl,rfl,rfl⟩,λ_=>⟨rfl,rfl,rfl⟩,λR fin kf hkf=>?_,λR fin kf hkf=>?_⟩
  ·obtain⟨kf,rfl⟩:∃m,kf=m+1:=⟨kf-1,by omega⟩;rw[aS];show dj k _ _ _ fin=_;unfold dj;simp only;rw[decide_eq_false (by omega)];rfl
  ·obtain⟨kf,rfl⟩:∃m,kf=m+1:=⟨kf-1,by omega⟩;rw[aS];show bq k _ _ _ fin=_;unfold bq;simp only
   rw[decide_eq_false (by omega)];rfl
 |n+1,i,s,rs,e,hi,h0,h,he=>by
  obtain⟨e1,s1,r1,g1,g2,⟨d1,dd1,td1,w1,w2⟩,g3,g4,g5,g6⟩:=PM (e:=e) hk h (by omega) h0 (show i<a by omega) ha (q1:=q1) (q2:=q2) (q4:=q4) (q5:=q5) (q6:=q6) (kd:=kd) (p9:=p9) (q3:=q3) (q7:=q7) hkd;obtain⟨e2,s2,r2,f1,f2,⟨d2,dd2,td2,tr2⟩,f3,f4,f5,f6⟩:=Ln hk (ms:=ms) (ls:=ls) ha (q1:=q1) (q2:=q2) (q4:=q4) (q5:=q5) (q6:=q6) (kd:=kd) (p9:=p9) (q3:=q3) (q7:=q7) hkd n (i+1) s1 r1 e1 (by omega) (by omega) g1 (by omega);refine⟨e2,s2,r2,f1,by omega,⟨d1++d2,by rw[dd2,dd1,Xh],td1.app td2,.tick w1 w2 tr2⟩,⟨f3.1.trans g3.1,f3.2.1.trans g3.2.1,f3.2.2.trans g3.2.2⟩,λhn=>?_,λR fin kf hkf=>?_,λR fin kf hkf=>?_⟩
  ·obtain⟨x1,x2,x3⟩:=g5 hn;subst x1 x2 x3;exact f4 hn
  ·obtain⟨kf,rfl⟩:∃m,kf=m+1:=⟨kf-1,by omega⟩;rw[aS];exact(g4 R _ fin).trans (f5 R fin kf (by omega))
  ·obtain⟨kf,rfl⟩:∃m,kf=m+1:=⟨kf-1,by omega⟩;rw[aS];by_cases hn:s.now=1000000
   ·obtain⟨x1,x2,x3⟩:=g5 hn;subst x1 x2 x3;obtain⟨y1,y2,y3⟩:=f4 hn;subst y1 y2 y3;show bq k _ _ _ fin=_;unfold bq;simp only;rw[decide_eq_true (by omega),cond_true,dF,if_pos hn]
   ·refine(g6 hn R _ fin).trans ?_;have:=f6 R fin kf (by omega);rw[g3.1,g3.2.1,g3.2.2]at this;exact this
def Tx (e:List Event) (r:Runtime):List Event× Int× Int× Int× List Task× Int× Int× Int× Int× List Model× List Bool× List Request:=(e,r.sched.now,r.sched.aj,r.sched.age,r.sched.tasks,r.sched.run,r.sched.left,r.sched.turns,r.sched.next,r.aB,r.aC,r.ag)
structure eA (x:Step):Prop where
 byte:∀y∈x.data,okB y
 data:x.data.length<=2000000
 input:x.input.tot<=2000000
theorem PN {r:Runtime} (h:sH r) (x:Step):sH ⟨r.sched,(tZ r x).2.1,(tZ r x).2.2,r.ag⟩/\(tZ r x).1.length<=1:=by
 unfold tZ;cases(inB x.a 0 3&&!r.aC.getD x.a.toNat false)
 ·exact⟨⟨h.s,h.ml,h.ll,h.mod,h.req⟩,by simp[dP]⟩
 cases(decide ((ey x.data).2=0)&&uq (ey x.data).1)
 ·exact⟨⟨h.s,h.ml,h.ll,h.mod,h.req⟩,by simp[dP]⟩
 refine⟨⟨h.s,by simp[h.ml],by simp[h.ll],λm hm=>?_,h.req⟩,by simp⟩
 rcases YE hm with hm|rfl
 ·exact h.mod m hm
 ·exact va _
theorem F2 {s:al} {ax:List Int} {due:Int} (h:(fw s ax due).2.2=0):(fw s ax due).2.1=s.next/\(fw s ax due).1.tasks=s.tasks++[⟨s.next,ax,0,due,s.now⟩]:=by
 unfold fw at h⊢;cases c1:(bE s&&je ⟨s.next,ax,0,due,s.now⟩)
 ·rw[c1]at h;exact absurd (show(1:Int)=0 from h) (by decide)
 rw[c1]at h;cases c2:((s.tasks.length:Int)==12||s.next==1000000)
 ·rw[c2]at h;cases c3:B4 ⟨s.now,s.aj,s.age,s.tasks++[⟨s.next,ax,0,due,s.now⟩],s.run,s.left,s.turns,s.next+1⟩
  ·rw[c3]at h;exact absurd (show(3:Int)=0 from h) (by decide)
  ·exact⟨rfl,rfl⟩
 ·rw[c2]at h;exact absurd (show(2:Int)=0 from h) (by decide)
theorem Ib {r:Runtime} (h:sH r) (x:Step):sH ⟨(eZ r x).2.1,r.aB,r.aC,(eZ r x).2.2⟩/\(eZ r x).1.length<=1:=by
 have same:∀c,sH ⟨(dP x.kind c,r.sched,r.ag).2.1,r.aB,r.aC,(dP x.kind c,r.sched,r.ag).2.2⟩/\(dP x.kind c,r.sched,r.ag).1.length<=1:=λc=>⟨⟨h.s,h.ml,h.ll,h.mod,h.req⟩,by simp[dP]⟩;unfold eZ;cases c0:Lg r x.a
 ·exact same _
 simp only[cond_true];have c1':=of_decide_eq_true (XY.1 c0).1;have hmo:=h.ml
 have hmt:(r.aB.getD x.a.toNat eI).tot<=8002000:=by
  rw[db (show x.a.toNat<r.aB.length by omega)];exact h.mod _ (W9 _)
 generalize r.aB.getD x.a.toNat eI=m at hmt;cases c2:(dH m x.input).2
 ·exact same _
 have hj:wJ ⟨m,0,x.input,0⟩=true/\(dH m x.input).1=⟨m,0,x.input,0⟩:=by
  unfold dH at c2⊢;cases c:wJ ⟨m,0,x.input,0⟩
  ·rw[c]at c2;exact nomatch c2
  ·exact⟨rfl,rfl⟩
 rw[hj.2];simp only[cond_true];cases inB x.b 0 1000000
 ·exact same _
 simp only[cond_true];have ho:=Ro h.s (bj m) (r.sched.now+x.b);by_cases c3:(fw r.sched (bj m) (r.sched.now+x.b)).2.2=0
 ·obtain⟨h1,h2⟩:=F2 c3;rw[decide_eq_true c3];simp only[cond_true];refine⟨⟨ho,h.ml,h.ll,h.mod,?_⟩,by simp⟩;show Lk (r.ag++[_]) (fw r.sched (bj m) (r.sched.now+x.b)).1.tasks;rw[h2];exact h.req.app ⟨h1,hj.1,rfl,rfl,hmt⟩
 ·rw[decide_eq_false c3];exact same _
theorem Ic {r:Runtime} (h:sH r) (x:Step):sH (fa r x).2/\(fa r x).1.length<=13:=by
 unfold fa;cases Lg r x.a
 ·exact⟨h,by simp[dP]⟩
 have hu:=Ci x.a r.aB r.aC r.ag [] r.sched r.ag (D8 h) h;have hq:=h.Tq;refine⟨⟨hu.1.s,by simp[h.ml],by simp[h.ll],λm hm=>?_,hu.1.req⟩,?_⟩
 ·rcases YE hm with hm|rfl
  ·exact h.mod m hm
  ·exact XE _
 ·have:=hu.2;simp only[Xg]at this;simp only[cond_true,W5,W7,Xg];omega
theorem PO {rs:List Request} {id:Int} (h:¬xU rs id<0):∃q∈rs,q.id=id:=by
 unfold xU at h
 cases hf:rs.findIdx? λq=>q.id==id with
 |none=>rw[hf]at h;exact absurd (show(-1:Int)<0 by decide) h
 |some i=>
  obtain⟨hi,hp,_⟩:=Yf.1 hf;exact⟨rs[i],W9 hi,by simpa using hp⟩
def uu (s:al) (e:List Event):al:=e.foldl (λs v=>cond (v.kind==4) (xX s v.a) s) s
def PQ (r:Runtime) (x:Step) (e:List Event) (s':al):Prop:=
 ((inB x.kind 4 5&&inB x.a 0 200)=true/\Tr (x.kind==5) x.a.toNat r.sched e s')\/
 ((inB x.kind 4 5&&inB x.a 0 200)=false/\((s'=uu r.sched e/\∀v∈e,v.kind≠3)\/∃cs due,e=[⟨2,r.sched.next,due,F1⟩]/\fw r.sched cs due=(s',r.sched.next,0)))
theorem fU (s:al) (kd c:Int):s=uu s (dP kd c)/\∀v∈dP kd c,v.kind≠3:=⟨rfl,λv hv=>by rw[Yj.1 hv];exact(show¬(5:Int)=3 by decide)⟩
theorem Rr (r:Runtime) (x:Step):r.sched=uu r.sched (tZ r x).1/\∀v∈(tZ r x).1,v.kind≠3:=by
 unfold tZ;cases(inB x.a 0 3&&!r.aC.getD x.a.toNat false)
 ·exact fU _ _ _
 cases(decide ((ey x.data).2=0)&&uq (ey x.data).1)
 ·exact fU _ _ _
 ·exact⟨rfl,λv hv=>by rw[Yj.1 hv];exact(show¬(0:Int)=3 by decide)⟩
theorem F3 (a:Int) (s0:al):∀(qs:List Request) (e:List Event) (s:al) (rs:List Request),s=uu s0 e->(∀v∈e,v.kind≠3)->(xZ a qs e s rs).2.1=uu s0 (xZ a qs e s rs).1/\∀v∈(xZ a qs e s rs).1,v.kind≠3
 |[],e,s,rs,h1,h2=>⟨h1,h2⟩
 |q::qs,e,s,rs,h1,h2=>by
  unfold xZ;cases q.model==a
  ·exact F3 a s0 qs e s rs h1 h2
  ·refine F3 a s0 qs _ _ _ (by unfold uu at h1⊢;rw[X3,<-h1];rfl) λv hv=>?_
   rcases XN.1 hv with hv|hv
   ·exact h2 v hv
   ·rw[Yj.1 hv];exact(show¬(4:Int)=3 by decide)
theorem M0 (r:Runtime) (x:Step):(fa r x).2.sched=uu r.sched (fa r x).1/\∀v∈(fa r x).1,v.kind≠3:=by
 unfold fa;cases Lg r x.a
 ·exact fU _ _ _
 obtain⟨h1,h2⟩:=F3 x.a r.sched r.ag [] r.sched r.ag rfl λv hv=>absurd hv (by simp);refine⟨?_,λv hv=>?_⟩
 ·unfold uu at h1⊢;simp only[cond_true];rw[X3,<-h1];rfl
 ·rcases XN.1 hv with hv|hv
  ·exact h2 v hv
  ·rw[Yj.1 hv];exact(show¬(1:Int)=3 by decide)
theorem M1 (r:Runtime) (x:Step):((eZ r x).2.1=uu r.sched (eZ r x).1/\∀v∈(eZ r x).1,v.kind≠3)\/∃cs due,(eZ r x).1=[⟨2,r.sched.next,due,F1⟩]/\fw r.sched cs due=((eZ r x).2.1,r.sched.next,0):=by
 unfold eZ;cases Lg r x.a
 ·exact .inl (fU _ _ _)
 simp only[cond_true];cases(dH (r.aB.getD x.a.toNat eI) x.input).2
 ·exact .inl (fU _ _ _)
 simp only[cond_true];cases inB x.b 0 1000000
 ·exact .inl (fU _ _ _)
 simp only[cond_true];generalize bj (dH (r.aB.getD x.a.toNat eI) x.input).1.model=cs;by_cases c3:(fw r.sched cs (r.sched.now+x.b)).2.2=0
 ·obtain⟨h1,_⟩:=F2 c3;rw[decide_eq_true c3];refine .inr ⟨cs,r.sched.now+x.b,by rw[cond_true,h1],?_⟩;rw[cond_true,<-h1,<-c3]
 ·rw[decide_eq_false c3];exact .inl (fU _ _ _)
def Af (r:Runtime) (x:Step) (e:List Event) (r':Runtime):Prop:=
 (nA (ur r.ag) e (ur r'.ag)/\r'.sched.next=r.sched.next)\/
 ∃due,e=[⟨2,r.sched.next,due,F1⟩]/\r'.sched.next=r.sched.next+1/\r'.ag=r.ag++[⟨r.sched.next,x.a,⟨r.aB.getD x.a.toNat eI,0,x.input,0⟩,due⟩]/\r'.aB=r.aB/\0<=x.a/\x.a<4
theorem PR {r:Runtime} (x:Step):nA (ur r.ag) (tZ r x).1 (ur r.ag):=by
 have ref:∀c,nA (ur r.ag) (dP x.kind c) (ur r.ag):=λc=>.other (by simp) (by simp) (by simp) .nil;unfold tZ;cases(inB x.a 0 3&&!r.aC.getD x.a.toNat false)
 ·exact ref _
 cases(decide ((ey x.data).2=0)&&uq (ey x.data).1)
 ·exact ref _
 ·exact .other (by simp) (by simp) (by simp) .nil
theorem J9 {r:Runtime} (h:sH r) (x:Step):Af r x (eZ r x).1 ⟨(eZ r x).2.1,r.aB,r.aC,(eZ r x).2.2⟩:=by
 have ref:∀c,Af r x (dP x.kind c,r.sched,r.ag).1 ⟨(dP x.kind c,r.sched,r.ag).2.1,r.aB,r.aC,(dP x.kind c,r.sched,r.ag).2.2⟩:=λc=>.inl ⟨.other (by simp) (by simp) (by simp) .nil,rfl⟩;unfold eZ;cases c0:Lg r x.a
 ·exact ref _
 simp only[cond_true];have c1':=of_decide_eq_true (XY.1 c0).1;cases c2:(dH (r.aB.getD x.a.toNat eI) x.input).2
 ·exact ref _
 have hj:(dH (r.aB.getD x.a.toNat eI) x.input).1=⟨r.aB.getD x.a.toNat eI,0,x.input,0⟩:=by
  unfold dH at c2⊢;cases c:wJ ⟨r.aB.getD x.a.toNat eI,0,x.input,0⟩
  ·rw[c]at c2;exact nomatch c2
  ·rfl
 rw[hj];simp only[cond_true];cases inB x.b 0 1000000
 ·exact ref _
 simp only[cond_true];generalize hc:bj (r.aB.getD x.a.toNat eI)=cs;by_cases c3:(fw r.sched cs (r.sched.now+x.b)).2.2=0
 ·obtain⟨h1,h2⟩:=F2 c3;rw[decide_eq_true c3];simp only[cond_true];refine .inr ⟨r.sched.now+x.b,by rw[h1],?_,by rw[h1],rfl,c1'.1,by omega⟩
  rcases Cc r.sched cs (r.sched.now+x.b)with⟨_,_,_,_,g⟩|⟨g,_⟩
  ·show(fw r.sched cs (r.sched.now+x.b)).1.next=_
   rw[g]
  ·exact(g c3).elim
 ·rw[decide_eq_false c3];exact ref _
theorem Ka {r:Runtime} (h:sH r) (x:Step):nA (ur r.ag) (fa r x).1 (ur (fa r x).2.ag):=by
 unfold fa;cases Lg r x.a
 ·exact .other (by simp) (by simp) (by simp) .nil
 obtain⟨d,h1,h2⟩:=Cj x.a r.ag [] r.sched r.ag h.inc λi hi=>hi;simp only[cond_true];rw[h1,X5];exact h2.app (.other (by simp) (by simp) (by simp) .nil)
theorem UJ {k:Nat} (hk:20000000<=k) {r:Runtime} (h:sH r) {x:Step} (hx:eA x):∃(e:List Event) (r':Runtime),sH r'/\e.length<=1000/\Af r x e r'/\gC k r x=some (Tx e r')/\nj k r x=some (Tx e r')/\PQ r x e r'.sched:=by
 have hM:=ak;have hq:=h.Tq;have ht:=h.tot;unfold gC nj;simp only[dF];by_cases c0:x.kind=0
 ·simp only[if_pos c0];rw[PF (by omega) hx.byte (by have:=hx.data;have:=ak;omega) h.ll h.ml,PH (by omega) hx.byte (by have:=hx.data;have:=ak;omega) h.ll h.ml];exact⟨(tZ r x).1,⟨r.sched,(tZ r x).2.1,(tZ r x).2.2,r.ag⟩,(PN h x).1,by have:=(PN h x).2;omega,.inl ⟨PR x,rfl⟩,rfl,rfl,.inr ⟨by rw[c0];rfl,.inl (Rr r x)⟩⟩
 simp only[if_neg c0];by_cases c1:x.kind=1
 ·simp only[if_pos c1];obtain⟨i1,i2,i3,i4,i5,i6⟩:=J7 h hk (x:=x);rw[J6 h hk,i1];refine⟨(fa r x).1,(fa r x).2,(Ic h x).1,by have:=(Ic h x).2;omega,.inl ⟨Ka h x,i6⟩,rfl,?_,.inr ⟨by rw[c1];rfl,.inl (M0 r x)⟩⟩;simp only[aa,Tx,i2,i3,i4,i5,i6]
 simp only[if_neg c1];by_cases c2:x.kind=2
 ·simp only[if_pos c2];rw[J4 h hk hx.input,J5 h hk hx.input];exact⟨(eZ r x).1,⟨(eZ r x).2.1,r.aB,r.aC,(eZ r x).2.2⟩,(Ib h x).1,by have:=(Ib h x).2;omega,J9 h x,rfl,rfl,.inr ⟨by rw[c2];rfl,M1 r x⟩⟩
 simp only[if_neg c2];by_cases c3:x.kind=3
 ·simp only[if_pos c3];unfold ni;rw[xW (by omega) (by omega),aa,xV (by omega) (by omega),aa];by_cases c:xU r.ag x.a<0
  ·rw[decide_eq_true c];unfold bp eC;simp only[cond_true,aa,decide_true];exact⟨dP x.kind 7,r,h,by simp[dP],.inl ⟨.other (by simp) (by simp) (by simp) .nil,rfl⟩,rfl,rfl,.inr ⟨by rw[c3];rfl,.inl (fU _ _ _)⟩⟩
  ·rw[decide_eq_false c];obtain⟨q,hq1,hq2⟩:=PO c;have hid:1<=x.a:=hq2▸D8 h q hq1;simp only[cond_false];rw[D7 (by omega) (by omega) h.s hid,Ia (by omega) (by omega)];simp only[aa,decide_true,cond_true];exact⟨[CS x.a],UH r x.a,Li h hid,by simp,.inl ⟨.ends (.inr rfl) (by show x.a∈ur r.ag;unfold ur;exact Zq.2 ⟨q,hq1,hq2⟩) (λh=>absurd h (show¬(4:Int)=3 by decide)) (by show nA ((ur r.ag).filter λi=>!(i==x.a)) [] (ur (Ad r.ag x.a));rw[Ae];exact .nil),rfl⟩,rfl,rfl,.inr ⟨by rw[c3];rfl,.inl ⟨rfl,λv hv=>by rw[Yj.1 hv];exact(show¬(4:Int)=3 by decide)⟩⟩⟩
 simp only[if_neg c3]
 have run:∀(st:Bool),(x.kind==5)=st->∃(e:List Event) (s':al) (rs':List Request),sH ⟨s',r.aB,r.aC,rs'⟩/\e.length<=1000/\(nA (ur r.ag) e (ur rs')/\((inB x.a 0 200=true/\Tr st x.a.toNat r.sched e s')\/(inB x.a 0 200=false/\s'=uu r.sched e/\∀v∈e,v.kind≠3)))/\(s'.aj=r.sched.aj/\s'.age=r.sched.age/\s'.next=r.sched.next)/\
   ld k r x st=some (e,s'.now,s'.aj,s'.age,s'.tasks,s'.run,s'.left,s'.turns,s'.next,rs')/\iB k r x=some (e,s'.now,s'.tasks,s'.run,s'.left,s'.turns,rs'):=λst hst=>by
  unfold ld iB bp eC;rw[bR,aa,fH,aa];cases c:inB x.a 0 200
  ·simp only[XA,cond_true,aa,decide_true];exact⟨dP x.kind 8,r.sched,r.ag,h,by simp[dP],⟨.other (by simp) (by simp) (by simp) .nil,.inr ⟨by first|rfl|trivial,fU _ _ _⟩⟩,⟨rfl,rfl,rfl⟩,rfl,rfl⟩
  have c':=of_decide_eq_true c;simp only[Xa,cond_false,decide_true,cond_true];obtain⟨e,s',rs',g1,g2,⟨d,dd,td,tr⟩,g3,_,g5,g6⟩:=Ln hk (st:=st) (ms:=r.aB) (ls:=r.aC) (a:=x.a) (by omega) (q1:=x.kind) (q2:=x.b) (q4:=x.input.sh.h) (q5:=x.input.sh.w) (q6:=x.input.sh.c) (kd:=x.kind) (p9:=x.a) (q3:=x.data) (q7:=x.input.data) hst x.a.toNat 0 r.sched r.ag [] (by omega) (by omega) h (by simp;omega);refine⟨e,s',rs',g1,?_,⟨by rw[dd];exact td,.inl ⟨by first|rfl|trivial,by rw[dd];exact tr⟩⟩,g3,g5 _ _ k (by omega),g6 _ _ k (by omega)⟩;simp only[Xg]at g2;omega
 by_cases c4:x.kind=4
 ·simp only[if_pos c4];obtain⟨e,s',rs',g1,g2,⟨td,tt⟩,g3,g4,g5⟩:=run false (by rw[c4];rfl);rw[g4,g5]
  refine⟨e,⟨s',r.aB,r.aC,rs'⟩,g1,g2,.inl ⟨td,g3.2.2⟩,rfl,?_,by
   rcases tt with⟨t1,t2⟩|⟨t1,t2⟩
   ·exact .inl ⟨by rw[c4,t1];rfl,by rw[c4];exact t2⟩
   ·exact .inr ⟨by rw[c4,t1];rfl,.inl t2⟩⟩
  simp only[aa,Tx,g3.1,g3.2.1,g3.2.2]
 simp only[if_neg c4];by_cases c5:x.kind=5
 ·simp only[if_pos c5];obtain⟨e,s',rs',g1,g2,⟨td,tt⟩,g3,g4,g5⟩:=run true (by rw[c5];rfl);rw[g4,g5]
  refine⟨e,⟨s',r.aB,r.aC,rs'⟩,g1,g2,.inl ⟨td,g3.2.2⟩,rfl,?_,by
   rcases tt with⟨t1,t2⟩|⟨t1,t2⟩
   ·exact .inl ⟨by rw[c5,t1];rfl,by rw[c5];exact t2⟩
   ·exact .inr ⟨by rw[c5,t1];rfl,.inl t2⟩⟩
  simp only[aa,Tx,g3.1,g3.2.1,g3.2.2]
 simp only[if_neg c5];unfold bp eC;simp only[aa];exact⟨dP x.kind 8,r,h,by simp[dP],.inl ⟨.other (by simp) (by simp) (by simp) .nil,rfl⟩,rfl,rfl,.inr ⟨by rw[show inB x.kind 4 5=false from decide_eq_false (by omega)];rfl,.inl (fU _ _ _)⟩⟩
theorem Tz {k:Nat} (hk:20000000<=k) {r:Runtime} (h:sH r) {x:Step} (hx:eA x):∃(e:List Event) (r':Runtime),sH r'/\e.length<=1000/\Af r x e r'/\gC k r x=some (Tx e r')/\nj k r x=some (Tx e r'):=by
 obtain⟨e,r',a,b,c,d,f,_⟩:=UJ hk h hx;exact⟨e,r',a,b,c,d,f⟩
end
set_option maxRecDepth 100000
set_option maxHeartbeats 4000000
section
def rt0 (s:al):Runtime:=⟨s,List.replicate 4 eI,List.replicate 4 false,[]⟩
def WW:Runtime:=⟨⟨0,0,0,[],0,0,0,0⟩,[],[],[]⟩
theorem Ck {k:Nat} {a b:Int} (hk:0<k):oq k a b=some (cond (bE (Qc a b)) (rt0 (Qc a b),true) (WW,false)):=by
 unfold oq;rw[Rn hk,aa];cases bE (Qc a b)<;>rfl
theorem UK {a b:Int} (h:bE (Qc a b)=true):sH (rt0 (Qc a b)):=⟨R3 h,rfl,rfl,λm hm=>by rw[(YU.1 hm).2];exact XE _,.nil⟩
end
set_option maxRecDepth 100000
set_option maxHeartbeats 4000000
section
def D9 (E:List Entry):Prop:=∀(i:Nat) (h:i<E.length),E[i].id=(i:Int)+1
theorem D9.set {E:List Entry} (h:D9 E) {j:Nat} {y:Entry} (hy:y.id=(j:Int)+1):D9 (E.set j y):=λi hi=>by
 rw[List.getElem_set];by_cases c:j=i
 ·subst c;rw[if_pos rfl];exact hy
 ·rw[if_neg c];exact h i (by simpa using hi)
theorem D9.app {E:List Entry} (h:D9 E) {y:Entry} (hy:y.id=(E.length:Int)+1):D9 (E++[y]):=λi hi=>by
 rw[List.getElem_append];by_cases c:i<E.length
 ·rw[dif_pos c];exact h i c
 ·rw[dif_neg c];simp only[W5,W7,Xg]at hi
  have:i=E.length:=by omega
  subst this;simpa using hy
section
variable {k:Nat} {p:List Step× Int× Int× List Event× Int× Int× Int× Int× Int× Int× Int× Int× Int× Int× Int× Int× Int× Int× Int× List Event× Int× Int× Int× Int× Int× Int× List Int× List Request× List Task× List Model× List Bool× List Request} {ev:Event} {now:Int}
 (h1:p.2.2.2.2.2.2.2.2.2.2.2.2.2.2.2.2.2.2.2.2.1=ev.kind) (h2:p.2.2.2.2.2.2.2.2.2.2.2.2.2.2.2.2.2.2.2.2.2.1=ev.a) (h3:p.2.2.2.2.2.2.2.2.2.2.2.2.2.2.2.2.2.2.2.2.2.2.1=ev.b) (h4:p.2.2.1=now)
include h1 h2 h3 h4
end
end
set_option maxRecDepth 100000
set_option maxHeartbeats 4000000
section
end
set_option maxRecDepth 100000
set_option maxHeartbeats 4000000
section
theorem nA.sub {ids ids':List Int} {es:List Event} (h:nA ids es ids'):∀i∈ids',i∈ids:=by
 induction h with
 |nil=>exactλi h=>h
 |other _ _ _ _ ih=>exact ih
 |ends _ _ _ _ ih=>exactλi hi=>(X1.1 (ih i hi)).1
theorem nA.told {ids ids':List Int} {es:List Event} (h:nA ids es ids'):∀e∈es,e.kind=3->e.a∈ids/\e.out.okB=true:=by
 induction h with
 |nil=>exactλe he=>absurd he (by simp)
 |other k2 k3 k4 _ ih=>
  intro e he hk
  rcases Xm.1 he with rfl|he
  ·exact absurd hk k3
  ·exact ih e he hk
 |ends kk hm ho _ ih=>
  intro e he hk
  rcases Xm.1 he with rfl|he
  ·exact⟨hm,ho hk⟩
  ·obtain⟨g1,g2⟩:=ih e he hk;exact⟨(X1.1 g1).1,g2⟩
end
set_option maxRecDepth 100000
set_option maxHeartbeats 4000000
section
end
section
end
section
theorem M3 {m:Model}:eu m=true↔m.inp.okB=true/\inB (m.aE.length:Int) 1 6=true/\(bS m.inp m.aE).isSome=true:=by
 unfold eu dT;cases m.inp.okB<;>cases inB (m.aE.length:Int) 1 6<;>cases bS m.inp m.aE<;>simp
end
set_option maxRecDepth 100000
section
theorem ao.bej {A R:Type} {B:A->Option R} {K:A} {Q:R->Prop} (h:ao (B K) Q):ao (bej B K) Q:=h
theorem ao.Wk {R α:Type} {B:(α->Option R)->Option R} {K:α->Option R} {Q:R->Prop} (P:α->Prop) (hK:∀x,P x->ao (K x) Q) (hB:∀j:α->Option R,(∀x,P x->ao (j x) Q)->ao (B j) Q):ao (Go.Proofs.Ev.bej B K) Q:=hB K hK
theorem ao.WX {R α β γ:Type} {B:(α->β->γ->Option R)->Option R} {K:α->β->γ->Option R} {Q:R->Prop} (P:α->β->γ->Prop) (hK:∀x y z,P x y z->ao (K x y z) Q) (hB:∀j:α->β->γ->Option R,(∀x y z,P x y z->ao (j x y z) Q)->ao (B j) Q):ao (Go.Proofs.Ev.bej B K) Q:=hB K hK
theorem ao.WY {R α β γ δ:Type} {B:(α->β->γ->δ->Option R)->Option R} {K:α->β->γ->δ->Option R} {Q:R->Prop} (P:α->β->γ->δ->Prop) (hK:∀x y z u,P x y z u->ao (K x y z u) Q) (hB:∀j:α->β->γ->δ->Option R,(∀x y z u,P x y z u->ao (j x y z u) Q)->ao (B j) Q):ao (Go.Proofs.Ev.bej B K) Q:=hB K hK
theorem ao.of {α β:Type} {a:α} {f:α->Option β} {Q:β->Prop} (h:ao (f a) Q):ao ((Option.some a).bind f) Q:=h
theorem Shape.Cl {s:Shape}:s.okB=true↔(1<=s.h/\s.h<=8)/\(1<=s.w/\s.w<=8)/\(1<=s.c/\s.c<=8):=by
 unfold Shape.okB;simp only[W3,aY]
theorem Shape.Cm (s:Shape):0<=s.size/\s.size<=512:=by
 unfold Shape.size;cases h:s.okB
 ·simp
 ·obtain⟨⟨a1,a2⟩,⟨b1,b2⟩,c1,c2⟩:=Shape.Cl.1 h;simp only[cond_true];have h1:0<=s.h*s.w:=X7 (by omega) (by omega);have h2:s.h*s.w<=8*8:=Yy a2 b2 (by omega) (by omega);refine⟨X7 h1 (by omega),?_⟩;have h3:s.h*s.w*s.c<=64*8:=Yy (by omega) c2 (by omega) (by omega);omega
theorem Shape.size_pos {s:Shape} (h:s.okB=true):1<=s.size:=by
 unfold Shape.size;rw[h];obtain⟨⟨a1,a2⟩,⟨b1,b2⟩,c1,c2⟩:=Shape.Cl.1 h;simp only[cond_true];have h1:0<s.h*s.w:=Int.mul_pos (by omega) (by omega);have h2:0<s.h*s.w*s.c:=Int.mul_pos h1 (by omega);omega
section
variable {b:List Int} {k:Nat}
theorem sI (hb:b.length<=1048576) {i h m:Int} (hc:Cur b i) (h0:1<=m) (h1:m<=8):ao (fO k b i h m) λr=>r.1.okB=true/\Cur b r.2.1:=by
 unfold fO;refine(aI hb hc).bind λr1 ⟨⟨p1,p2,_⟩,hc1⟩=>(aI hb hc1).bind λr2 ⟨⟨q1,q2,_⟩,hc2⟩=>(aI hb hc2).bind λr3 ⟨⟨u1,u2,_⟩,hc3⟩=>ao.must rfl (ao.some ⟨?_,hc3⟩);have p2:=p2 (by omega);have q2:=q2 (by omega);have u2:=u2 (by omega);refine Shape.Cl.2 ?_;simp only;rw[aF (n:=1+r1.1) (by omega) (by omega),aF (n:=1+r2.1) (by omega) (by omega),aF (n:=1+r3.1) (by omega) (by omega)];omega
theorem uv (hb:b.length<=1048576) {i h:Int} (hc:Cur b i):ao (gE k b i h) λr=>(-128<=r.1/\r.1<=127)/\Cur b r.2.1:=by
 unfold gE;refine(aI hb hc).bind λr1 ⟨⟨p1,p2,_⟩,hc1⟩=>(aI hb hc1).bind λr2 ⟨⟨q1,q2,_⟩,hc2⟩=>(eM hb hc2 (by simp)).bind λr3 ⟨h3,hc3⟩=>ao.must rfl (ao.some ⟨?_,hc3⟩);have p2:=p2 (by omega);have q2:=q2 (by omega);rw[aF (n:=r1.1-128) (by omega) (by omega),aF (n:=r2.1-128) (by omega) (by omega)]at h3;simp only[Xm,YI,or_false]at h3;omega
theorem iD (hb:b.length<=1048576) (hk:1000<k) {i h:Int} {s:Shape} (hc:Cur b i):ao (dB k b i h s) λr=>(r.1.sh=s/\(r.1.data.length:Int)=s.size)/\Cur b r.2.1:=by
 have hM:=ak;have hs:=s.Cm;unfold dB;refine ao.iter (Inv:=λv:Int× Int× Int× List Int=>Cur b v.2.1/\0<=v.1/\v.1<=s.size/\(v.2.2.2.length:Int)=v.1) (m:=λv=>(s.size-v.1).toNat) (λv next hv hn=>?_) k _ ⟨hc,by simp;omega⟩ (by simp only;omega);obtain⟨v1,v2,v3,v4⟩:=hv;unfold ie;rw[iQ];refine ao.of (ao.cond (λh1=>?_) λh1=>ao.must rfl (ao.some ⟨⟨rfl,?_⟩,v1⟩))
 ·have h1:v.1<s.size:=of_decide_eq_true h1;refine(uv hb v1).bind λr2 ⟨_,hc2⟩=>ao.ble (by simp;omega) (hn _ ⟨hc2,?_⟩ ?_)
  ·simp only[W5,W7,Xg];rw[aF (n:=v.1+1) (by omega) (by omega)];omega
  ·simp only;rw[aF (n:=v.1+1) (by omega) (by omega)];omega
 ·have h1:¬v.1<s.size:=of_decide_eq_false h1;simp only;omega
theorem rl (hb:b.length<=1048576) (hk:1000<k) {i h:Int} (hc:Cur b i):ao (fP k b i h) λr=>r.1.data.length<=513/\Cur b r.2.1:=by
 have hM:=ak;unfold fP;refine(sI hb hc (by omega) (by omega)).bind λr1 ⟨ok1,hc1⟩=>(iD hb hk hc1).bind λr2 ⟨⟨e2,l2⟩,hc2⟩=>(fx hb hc2).bind λr3 hc3=>?_;have hs:=r1.1.Cm;have hp:=Shape.size_pos ok1;refine ao.cond (λ_=>(aI hb hc3).bind λr4 ⟨_,hc4⟩=>?_) λ_=>ao.must rfl (ao.some ⟨by simp only;omega,hc3⟩);refine ao.cond (λ_=>?_) λ_=>ao.cond (λ_=>?_) λ_=>ao.cond (λ_=>?_) λ_=>ao.cond (λ_=>?_) λ_=>?_
 ·exact(eM hb hc4 (by simp)).bind λr5 ⟨_,hc5⟩=>ao.must rfl (ao.some ⟨by simp only;omega,hc5⟩)
 ·exact ao.ble (by simp;omega) (ao.must rfl (ao.some ⟨by simp;omega,hc4⟩))
 ·refine(aI hb hc4).bind λr6 ⟨⟨a1,a2,_⟩,hc6⟩=>(eM hb hc6 (by simp)).bind λr7 ⟨_,hc7⟩=>ao.must ⟨a1,a2 (by omega)⟩ (ao.must rfl (ao.some ⟨by simp;omega,hc7⟩))
 ·exact(iD hb hk hc4).bind λr8 ⟨⟨e8,l8⟩,hc8⟩=>ao.must rfl (ao.some ⟨by have:=(⟨8,8,8⟩:Shape).Cm;simp only;omega,hc8⟩)
 ·exact ao.must rfl (ao.some ⟨by simp only;omega,hc4⟩)
end
end
set_option maxRecDepth 100000
section
section
variable {b:List Int} {k:Nat}
theorem Ie (hb:b.length<=1048576) (hk:2000<k) {R:Type} {Q:R->Prop} {fin:(Int× Int× List Int)->Option R} {p:Int× List Int× Int× Int× Int× Int× Int× Int× Int× Int× Int× Int× Int× Int× Int× Int} (hp:p.2.1=b) (h0:0<=p.1) (h1:p.1<=1600) {c h:Int} (hc:Cur b c)
  (hf:∀c' h' ws,Cur b c'->(ws.length:Int)<=1600->ao (fin (c',h',ws)) Q):ao (iter (λu n=>cl k p u n fin) k ((0:Int),c,h,([]:List Int))) Q:=by
 have hM:=ak;refine ao.iter (Inv:=λv:Int× Int× Int× List Int=>Cur b v.2.1/\0<=v.1/\v.1<=p.1/\(v.2.2.2.length:Int)=v.1) (m:=λv=>(p.1-v.1).toNat) (λv next hv hn=>?_) k _ ⟨hc,by simp;omega⟩ (by simp only;omega);obtain⟨v1,v2,v3,v4⟩:=hv;unfold cl;rw[hp];refine ao.cond (λq=>?_) λq=>hf _ _ _ v1 (by omega);have q:v.1<p.1:=of_decide_eq_true q;refine(uv hb v1).bind λr2 ⟨_,hc2⟩=>ao.ble (by simp;omega) (hn _ ⟨hc2,?_⟩ ?_)
 ·simp only[W5,W7,Xg];rw[aF (n:=v.1+1) (by omega) (by omega)];omega
 ·simp only;rw[aF (n:=v.1+1) (by omega) (by omega)];omega
theorem PS (hb:b.length<=1048576) (hk:2000<k) {R:Type} {Q:R->Prop} {fin:(Int× Int× List Int)->Option R} {p:List Int× Int× Int× Int× Int× Int× Int× Int× Int× Int× Int× Int× Int× Int× Int× List Int} (hp:p.1=b) (h0:0<=p.2.2.2.2.2.2.2.2.2.1) (h1:p.2.2.2.2.2.2.2.2.2.1<=3) {c h:Int} (hc:Cur b c)
  (hf:∀c' h' ws,Cur b c'->(ws.length:Int)<=3->ao (fin (c',h',ws)) Q):ao (iter (λu n=>cn k p u n fin) k ((0:Int),c,h,([]:List Int))) Q:=by
 have hM:=ak;refine ao.iter (Inv:=λv:Int× Int× Int× List Int=>Cur b v.2.1/\0<=v.1/\v.1<=p.2.2.2.2.2.2.2.2.2.1/\(v.2.2.2.length:Int)=v.1) (m:=λv=>(p.2.2.2.2.2.2.2.2.2.1-v.1).toNat) (λv next hv hn=>?_) k _ ⟨hc,by simp;omega⟩ (by simp only;omega);obtain⟨v1,v2,v3,v4⟩:=hv;unfold cn;rw[hp];refine ao.cond (λq=>?_) λq=>hf _ _ _ v1 (by omega);have q:v.1<p.2.2.2.2.2.2.2.2.2.1:=of_decide_eq_true q;refine(aI hb v1).bind λr2 ⟨_,hc2⟩=>ao.ble (by simp;omega) (hn _ ⟨hc2,?_⟩ ?_)
 ·simp only[W5,W7,Xg];rw[aF (n:=v.1+1) (by omega) (by omega)];omega
 ·simp only;rw[aF (n:=v.1+1) (by omega) (by omega)];omega
def F4 (b:List Int) (r:aq× Int× Int):Prop:=r.1.tot<=1610/\Cur b r.2.1
theorem lx (hb:b.length<=1048576) {R:Type} {Q:R->Prop} {s:Shape} (hs:s.okB=true) {K c h:Int} (hc:Cur b c) {Z:Int->Int->Int->Int->Option R}
  (hZ:∀c h sz st,Cur b c->0<=sz->sz<=3->ao (Z c h sz st) Q):ao ((bm k K (1:Int) (3:Int)).bind λr96=>bej (λ(j105:Int->Int->Int->Int->Option R)=>cond (r96) (bej (λ(j97:Int->Option R)=>cond (decide (s.h<(3:Int))) ((j97 s.h)) ((j97 (3:Int)))) (λ(j97_0:Int)=>cond (decide (s.w<j97_0)) ((ae k b c h s.w).bind λr101=>(ae k b r101.2.1 r101.2.2 (2:Int)).bind λr102=>(j105 r102.2.1 r102.2.2 (i64.wrap ((1:Int)+r101.1)) (i64.wrap ((1:Int)+r102.1)))) ((ae k b c h j97_0).bind λr103=>(ae k b r103.2.1 r103.2.2 (2:Int)).bind λr104=>(j105 r104.2.1 r104.2.2 (i64.wrap ((1:Int)+r103.1)) (i64.wrap ((1:Int)+r104.1)))))) ((j105 c h (0:Int) (0:Int)))) Z) Q:=by
 obtain⟨⟨a1,a2⟩,⟨b1,b2⟩,c1,c2⟩:=Shape.Cl.1 hs;rw[bR];refine ao.of (ao.WY (λc _ sz _=>Cur b c/\0<=sz/\sz<=3) (λc h sz st ⟨q1,q2,q3⟩=>hZ c h sz st q1 q2 q3) λj hj=>ao.cond (λ_=>?_) λ_=>hj _ _ _ _ ⟨hc,by omega,by omega⟩);refine ao.Wk (λx=>1<=x/\x<=3) (λx ⟨x1,x2⟩=>?_) λj' hj'=>ao.cond (λq=>hj' _ ⟨a1,?_⟩) λ_=>hj' _ ⟨by omega,by omega⟩
 ·refine ao.cond (λq=>?_) λq=>?_
  ·have q:s.w<x:=of_decide_eq_true q;refine(aI hb hc).bind λr1 ⟨⟨p1,p2,_⟩,hc1⟩=>(aI hb hc1).bind λr2 ⟨_,hc2⟩=>hj _ _ _ _ ⟨hc2,?_⟩;have p2:=p2 (by omega);rw[aF (n:=1+r1.1) (by omega) (by omega)];omega
  ·refine(aI hb hc).bind λr1 ⟨⟨p1,p2,_⟩,hc1⟩=>(aI hb hc1).bind λr2 ⟨_,hc2⟩=>hj _ _ _ _ ⟨hc2,?_⟩;have p2:=p2 (by omega);rw[aF (n:=1+r1.1) (by omega) (by omega)];omega
 ·have q:s.h<3:=of_decide_eq_true q;omega
theorem tN (hb:b.length<=1048576) (hk:2000<k) {s:Shape} (hs:s.okB=true) {K c h sz st:Int} (hc:Cur b c) (z0:0<=sz) (z1:sz<=3):ao (cond (decide (K<=(1:Int))) ((ae k b c h (3:Int)).bind λr106=>(ae k b r106.2.1 r106.2.2 (16777216:Int)).bind λr107=>(ae k b r107.2.1 r107.2.2 (10:Int)).bind λr108=>(ae k b r108.2.1 r108.2.2 (9:Int)).bind λr109=>(bY k s).bind λr110=>bej (λ(j111:Int->Option (aq× Int× Int))=>cond (K==(1:Int)) ((j111 (i64.wrap ((i64.wrap ((i64.wrap ((i64.wrap ((1:Int)+r106.1))*sz))*sz))*s.c)))) ((j111 (i64.wrap ((i64.wrap ((1:Int)+r106.1))*r110))))) (λ(j111_0:Int)=>iter (λu117 n117=>cl k (j111_0,b,(0:Int),(0:Int),(0:Int),(0:Int),(0:Int),(0:Int),(0:Int),K,i64.wrap ((1:Int)+r106.1),sz,st,i64.wrap ((1073741824:Int)+(i64.wrap (r107.1*(60:Int)))),r108.1,i64.wrap (r109.1-(4:Int))) u117 n117 (λy113=>iter (λu116 n116=>cn k (b,(0:Int),(0:Int),(0:Int),(0:Int),(0:Int),(0:Int),(0:Int),K,i64.wrap ((1:Int)+r106.1),sz,st,i64.wrap ((1073741824:Int)+(i64.wrap (r107.1*(60:Int)))),r108.1,i64.wrap (r109.1-(4:Int)),y113.2.2) u116 n116 (λy115=>bej (λ(j119:Int->Int->Int->Option (aq× Int× Int))=>cond (K==(4:Int)) ((ae k b y115.1 y115.2.1 (20:Int)).bind λr118=>(j119 (i64.wrap (r118.1-(10:Int))) r118.2.1 r118.2.2)) ((j119 (i64.wrap (r109.1-(4:Int))) y115.1 y115.2.1))) (λ(j119_13:Int) (j119_15:Int) (j119_16:Int)=>cond (decide (b=b)) (some ((⟨K,(i64.wrap ((1:Int)+r106.1)),sz,st,(i64.wrap ((1073741824:Int)+(i64.wrap (r107.1*(60:Int))))),r108.1,j119_13,y113.2.2,y115.2.2⟩:aq),j119_15,j119_16)) none))) k ((0:Int),y113.1,y113.2.1,([]:List Int)))) k ((0:Int),r109.2.1,r109.2.2,([]:List Int)))) (cond (K==(4:Int)) ((ae k b c h (20:Int)).bind λr120=>cond (decide (b=b)) (some ((⟨K,(0:Int),sz,st,(0:Int),(0:Int),(i64.wrap (r120.1-(10:Int))),([]:List Int),([]:List Int)⟩:aq),r120.2.1,r120.2.2)) none) (cond (decide (b=b)) (some ((⟨K,(0:Int),sz,st,(0:Int),(0:Int),(0:Int),([]:List Int),([]:List Int)⟩:aq),c,h)) none))) (F4 b):=by
 obtain⟨⟨a1,a2⟩,⟨b1,b2⟩,c1,c2⟩:=Shape.Cl.1 hs;refine ao.cond (λ_=>?_) λ_=>ao.cond (λ_=>?_) λ_=>?_
 ·refine(aI hb hc).bind λr1 ⟨⟨p1,p2,_⟩,hc1⟩=>(aI hb hc1).bind λr2 ⟨⟨q1,q2,_⟩,hc2⟩=>(aI hb hc2).bind λr3 ⟨_,hc3⟩=>(aI hb hc3).bind λr4 ⟨_,hc4⟩=>?_;have p2:=p2 (by omega);have q2:=q2 (by omega);rw[iQ];have hz:=s.Cm;have m1:0<=(1+r1.1)*sz:=X7 (by omega) z0;have m2:(1+r1.1)*sz<=3*3:=Yy (by omega) z1 z0 (by omega);have m3:0<=(1+r1.1)*sz*sz:=X7 m1 z0;have m4:(1+r1.1)*sz*sz<=9*3:=Yy m2 z1 z0 (by omega);have m5:0<=(1+r1.1)*sz*sz*s.c:=X7 m3 (by omega);have m6:(1+r1.1)*sz*sz*s.c<=27*8:=Yy m4 c2 (by omega) (by omega);have n1:0<=(1+r1.1)*s.size:=X7 (by omega) hz.1;have n2:(1+r1.1)*s.size<=3*512:=Yy (by omega) hz.2 hz.1 (by omega);have w1:=aF (n:=1+r1.1) (by omega) (by omega);refine ao.of (ao.Wk (λn=>0<=n/\n<=1600) (λn ⟨n0,n1⟩=>?_) λj hj=>ao.cond (λ_=>hj _ ?_) λ_=>hj _ ?_)
  ·refine Ie hb hk rfl n0 n1 hc4 λc' h' ws hc' hw=>PS hb hk rfl ?_ ?_ hc' λc2 h2 bs hc2 hbs=>?_
   ·simp only;rw[w1];omega
   ·simp only;rw[w1];omega
   ·refine ao.WX (λ_ c _=>Cur b c) (λz c h hc=>ao.must rfl (ao.some ⟨?_,hc⟩)) λj hj=>ao.cond (λ_=>(aI hb hc2).bind λr5 ⟨_,hc5⟩=>hj _ _ _ hc5) λ_=>hj _ _ _ hc2;simp only[aq.tot];omega
  ·rw[w1,aF (n:=(1+r1.1)*sz) (by omega) (by omega),aF (n:=(1+r1.1)*sz*sz) (by omega) (by omega),aF (n:=(1+r1.1)*sz*sz*s.c) (by omega) (by omega)];omega
  ·rw[w1,aF (n:=(1+r1.1)*s.size) (by omega) (by omega)];omega
 ·exact(aI hb hc).bind λr1 ⟨_,hc1⟩=>ao.must rfl (ao.some ⟨by simp[aq.tot],hc1⟩)
 ·exact ao.must rfl (ao.some ⟨by simp[aq.tot],hc⟩)
theorem Cn (hb:b.length<=1048576) (hk:2000<k) {s:Shape} (hs:s.okB=true) {c h:Int} (hc:Cur b c):ao (iC k b c h s) (F4 b):=by
 unfold iC;refine(eM hb hc (by simp)).bind λr1 ⟨_,hc1⟩=>?_
 have small:∀{K sz st c h},Cur b c->ao ((ae k b c h (20:Int)).bind λr13=>cond (decide (b=b)) (some ((⟨K,(0:Int),sz,st,(0:Int),(0:Int),(i64.wrap (r13.1-(10:Int))),([]:List Int),([]:List Int)⟩:aq),r13.2.1,r13.2.2)) none) (F4 b):=λhc=>
  (aI hb hc).bind λr1 ⟨_,hc1⟩=>ao.must rfl (ao.some ⟨by simp[aq.tot],hc1⟩)
 have any:∀{B:(Int->Option (aq× Int× Int))->Option (aq× Int× Int)} {Z:Int->Option (aq× Int× Int)},(∀K,ao (Z K) (F4 b))->(∀j:Int->Option (aq× Int× Int),(∀x,ao (j x) (F4 b))->ao (B j) (F4 b))->ao (bej B Z) (F4 b):=λh1 h2=>h2 _ h1
 have sized:∀{f:Int->Option (aq× Int× Int)},(∀n,ao (f n) (F4 b))->ao ((bY k s).bind f) (F4 b):=λh=>by rw[iQ];exact h _
 refine ao.cond (λ_=>sized λn=>ao.cond (λ_=>?_) λ_=>ao.cond (λ_=>?_) λ_=>?_) λ_=>ao.cond (λ_=>?_) λ_=>?_
 ·exact lx hb hs hc1 λc h sz st h1 _ _=>small h1
 ·exact sized λn=>any (λK=>lx hb hs hc1 λc h sz st h1 h2 h3=>tN hb hk hs h1 h2 h3) λj hj=>ao.cond (λ_=>hj _) λ_=>hj _
 ·exact lx hb hs hc1 λc h sz st h1 h2 h3=>tN hb hk hs h1 h2 h3
 ·exact sized λn=>any (λK=>lx hb hs hc1 λc h sz st h1 h2 h3=>tN hb hk hs h1 h2 h3) λj hj=>ao.cond (λ_=>hj _) λ_=>hj _
 ·exact lx hb hs hc1 λc h sz st h1 h2 h3=>tN hb hk hs h1 h2 h3
end
end
set_option maxRecDepth 100000
section
theorem M4 {s:Shape} {l:aq} (h:fC s l=true):(shapeOf s l).okB=true:=by
 have hs:s.okB=true:=by
  unfold fC at h;rw[W3]at h;exact h.1
 have hz:=s.Cm
 have ht:(⟨s,List.replicate s.size.toNat 0⟩:aD).okB=true:=by
  unfold aD.okB rh;rw[hs,Xf,W3];refine⟨decide_eq_true (by simp;omega),?_⟩;rw[Xv];intro x hx;rw[YU]at hx;rw[hx.2];rfl
 obtain⟨h1,h2,_⟩:=DY ht h;have h2:(Pn ⟨s,List.replicate s.size.toNat 0⟩ l).1.sh=shapeOf s l:=h2;rw[<-h2];unfold aD.okB at h1;rw[W3]at h1;exact h1.1
section
variable {b:List Int} {k:Nat}
theorem CT (hb:b.length<=1048576) (hk:10000<k) {s:Shape} (hs:s.okB=true) {c h n:Int} (hc:Cur b c) (hn:n<=5):ao (jF k b c h s n) λr=>(r.1.inp=s/\r.1.tot<=8055/\r.1.aE.length<=5)/\Cur b r.2.1:=by
 have hM:=ak;unfold jF;refine ao.iter (Inv:=λv:Int× Int× Int× Int× Int× Int× List aq=>Cur b v.2.1/\0<=v.1/\v.1<=5/\(⟨v.2.2.2.1,v.2.2.2.2.1,v.2.2.2.2.2.1⟩:Shape).okB=true/\((gp aq.tot v.2.2.2.2.2.2:Nat):Int)<=1611*v.1/\(v.2.2.2.2.2.2.length:Int)<=v.1) (m:=λv=>(6-v.1).toNat) (λv next hv hx=>?_) k _ ⟨hc,by simp,by simp,hs,by simp[gp],by simp⟩ (by simp only;omega);obtain⟨v1,v2,v3,v4,v5,v6⟩:=hv;unfold jE;have done:∀c' h':Int,Cur b c'->ao (cond (decide (b=b)) (some ((⟨s,v.2.2.2.2.2.2⟩:Model),c',h')) none) λr=>(r.1.inp=s/\r.1.tot<=8055/\r.1.aE.length<=5)/\Cur b r.2.1:=λc' h' hc'=>ao.must rfl (ao.some ⟨⟨rfl,by simp only[Model.tot];omega,by simp only;omega⟩,hc'⟩);refine ao.cond (λq=>?_) λ_=>done _ _ v1;have q:v.1<n:=of_decide_eq_true q;refine(Cn hb (by omega) v4 v1).bind λr1 ⟨t1,hc1⟩=>?_;rw[l7 (by omega) (by omega)];unfold jK;cases hl:fC (⟨v.2.2.2.1,v.2.2.2.2.1,v.2.2.2.2.2.1⟩:Shape) r1.1
 ·exact done _ _ hc1
 ·refine ao.ble (by omega) (hx _ ⟨hc1,?_,?_,M4 hl,?_,?_⟩ ?_)
  ·simp only;rw[aF (n:=v.1+1) (by omega) (by omega)];omega
  ·simp only;rw[aF (n:=v.1+1) (by omega) (by omega)];omega
  ·simp only;rw[aF (n:=v.1+1) (by omega) (by omega),qq,pn];simp only[gp,Xg,YK,List.sum_nil]at v5⊢;omega
  ·simp only[W5,W7,Xg];rw[aF (n:=v.1+1) (by omega) (by omega)];omega
  ·simp only;rw[aF (n:=v.1+1) (by omega) (by omega)];omega
end
end
section
def vb:Nat->Nat->List Int
 |0,u=>[(u:Int)]
 |f+1,u=>if 128<=u then((128+u %128:Nat):Int)::vb f (u/128)else[(u:Int)]
def zig (x:Int):Nat:=if x<0 then(-2*x-1).toNat else(2*x).toNat
def wide (x:Int):List Int:=vb 6 (zig x)
def bN (x:Int):Bool:=inB x (-1099511627776) 1099511627775
theorem R5:∀f u,(vb f u).length<=f+1
 |0,u=>by simp[vb]
 |f+1,u=>by
  simp only[vb];split
  ·have:=R5 f (u/128);simp;omega
  ·simp
theorem Ag (x:Int):(wide x).length<=7:=R5 6 _
theorem Ig {x:Int} (h:bN x=true):zig x<2199023255552:=by
 have:=aY.1 h;unfold zig;split<;>omega
theorem M5 (u:Nat):u8.wrap (u:Int)=((u %256:Nat):Int):=by
 show(u:Int) %256=_;omega
theorem UL (u:Nat):u8.wrap (((BitVec.ofInt u8.bits (u8.wrap (u:Int))||| BitVec.ofInt u8.bits (128:Int)).toNat:Nat):Int)=((128+u %128:Nat):Int):=by
 have e:(BitVec.ofInt u8.bits (u8.wrap (u:Int))||| BitVec.ofInt u8.bits (128:Int)).toNat=128+u %128:=by
  rw[M5,BitVec.toNat_or,pM];show u %256 %2^8||| 128=_
  have h1:u %256 %2^8=u %256:=by omega
  rw[h1]
  have h2:u %256=u %128+128*(u/128 %2):=by omega
  have h4:u/128 %2=0\/u/128 %2=1:=by omega
  have h5:=Nat.two_pow_add_eq_or_of_lt (i:=7) (show u %128<2^7 by omega) 1;rw[show 2^7*1=128 from rfl]at h5
  rcases h4 with h4|h4
  ·rw[h2,h4,Nat.mul_zero,XB,Nat.or_comm,<-h5]
  ·rw[h2,h4,ZD,Nat.add_comm (u %128) 128,h5,Nat.or_comm 128,Nat.or_assoc,show(128||| 128:Nat)=128 from rfl,Nat.or_comm]
 rw[e,Be (by omega) (by omega)]
theorem Rs (u:Nat):u8.wrap (i64.wrap ((128:Int)+((u:Int).tmod (128:Int))))=((128+u %128:Nat):Int):=by
 have e:((u:Int).tmod 128)=((u %128:Nat):Int):=rfl;rw[e,aF (by omega) (by omega),Be (by omega) (by omega)];rfl
section
variable {R:Type}
theorem Kb {g:Int× List Int->(Int× List Int->Option R)->Option R} {F:List Int->Option R} {L:Nat}
  (hgo:∀(u:Nat) (out:List Int) (next:Int× List Int->Option R),128<=u->u<2^62->out.length<=L->g ((u:Int),out) next=next (((u/128:Nat):Int),out++[((128+u %128:Nat):Int)]))
  (Tw:∀(u:Nat) (out:List Int) (next:Int× List Int->Option R),u<128->out.length<=L->g ((u:Int),out) next=F (out++[(u:Int)])):
  ∀(f u k:Nat) (out:List Int),u<2^(7*(f+1))->u<2^62->out.length+f<=L->f<k->iter g k ((u:Int),out)=F (out++vb f u)
 |f,u,0,_,_,_,_,hk=>by omega
 |0,u,k+1,out,hu,_,hl,_=>by
  rw[aS]
  exact Tw u out _ (by simpa using hu) (by omega)
 |f+1,u,k+1,out,hu,hu2,hl,hk=>by
  rw[aS];simp only[vb];by_cases c:128<=u
  ·rw[if_pos c,hgo u out _ c hu2 (by omega)]
   have hd:u/128<2^(7*(f+1)):=by
    rw[show 7*(f+1+1)=7*(f+1)+7 from by omega,Nat.pow_add]at hu;exact Nat.div_lt_of_lt_mul (by omega)
   rw[Kb hgo Tw f (u/128) k _ hd (by omega) (by simp;omega) (by omega)];rw[Xh];rfl
  ·rw[if_neg c];exact Tw u out _ (by omega) (by omega)
end
theorem sJ {k:Nat} {x:Int} (hk:6<k):pB k x=some (cond (bN x) (wide x) []):=by
 have hM:=ak;unfold pB;rw[bR,aa];show cond (!bN x) _ _=_;cases h:bN x
 ·rfl
 simp only[Xa,cond_false,cond_true];have hx:=aY.1 h;have hz:=Ig h
 have run:∀(u:Nat),u<2199023255552->iter (λu3 n3=>iX k () u3 n3 (λy2=>cond (Nat.ble (y2.2.length+[(u8.wrap (y2.1))].length) aO) (some (y2.2++[(u8.wrap (y2.1))])) none)) k ((u:Int),([]:List Int))=some (vb 6 u):=λu hu=>by
  refine(Kb (F:=some) (L:=100) (λu out next hu1 hu2 ho=>?_) (λu out next hu1 ho=>?_) 6 u k [] (by omega) (by omega) (by simp) hk)
  ·simp only[iX];have e2:(u:Int).tdiv 128=((u/128:Nat):Int):=rfl;rw[ab,if_pos (by omega),Rs,bO (by simp;omega),e2,aF (by omega) (by omega)]
  ·simp only[iX];rw[ab,if_neg (by omega),bO (by simp;omega),Be (by omega) (by omega)]
 unfold wide zig at*;by_cases c:x<0
 ·rw[ab,if_pos c];rw[if_pos c]at hz⊢;rw[aF (n:=-2*x) (by omega) (by omega),aF (n:=-2*x-1) (by omega) (by omega)];have:=run (-2*x-1).toNat (by omega);rw[show(((-2*x-1).toNat:Nat):Int)=-2*x-1 from by omega]at this;exact this
 ·rw[ab,if_neg c];rw[if_neg c]at hz⊢;rw[aF (n:=2*x) (by omega) (by omega)];have:=run (2*x).toNat (by omega);rw[show(((2*x).toNat:Nat):Int)=2*x from by omega]at this;exact this
def en (xs:List Int):List Int:=xs.flatMap wide
theorem eU:∀xs:List Int,(en xs).length<=7*xs.length
 |[]=>by simp[en]
 |x::l=>by
  have h1:=eU l;have h2:=Ag x;unfold en at*;rw[List.flatMap_cons,W5,W7];omega
theorem Ih (xs ys:List Int):en (xs++ys)=en xs++en ys:=YA
section
variable {R:Type}
theorem tO {xs out0:List Int} {g:Int× List Int->(Int× List Int->Option R)->Option R} {F:List Int->Option R}
  (h:∀(i:Nat) (out:List Int) (hi:i<xs.length) (next:Int× List Int->Option R),out.length<=out0.length+7*i->g ((i:Int),out) next=next (((i+1:Nat):Int),out++wide xs[i]))
  (hn:∀(out:List Int) (next:Int× List Int->Option R),out.length<=out0.length+7*xs.length->g ((xs.length:Int),out) next=F out) {k:Nat} (hk:xs.length<k):iter g k (0,out0)=F (out0++en xs):=by
 have hl:∀i,i<=xs.length->(out0++en (xs.take i)).length<=out0.length+7*i:=λi hi=>by
  have:=eU (xs.take i);rw[Xw,YR hi]at this;rw[W5];omega
 have:=ff (g:=g) (st:=λi=>((i:Int),out0++en (xs.take i))) (n:=xs.length) (r:=F (out0++en xs)) (λi hi next=>by
  rw[h i _ hi next (hl i (by omega)),dh hi,Ih,Xh]
  simp[en]) (λnext=>by
  have:=hl xs.length (Xt _);rw[XO]at this;simp only[XO]
  exact hn _ next this) hk
 simpa[en]using this
end
theorem Ah {R:Type} {xs out0:List Int} {g:Int× List Int->(Int× List Int->Option R)->Option R} {F:List Int->Option R} (hN:out0.length+xs.length<=aO)
  (h:∀(i:Nat) (out:List Int) (hi:i<xs.length) (next:Int× List Int->Option R),out.length+1<=aO->g ((i:Int),out) next=next (((i+1:Nat):Int),out++[xs[i]]))
  (hn:∀(out:List Int) (next:Int× List Int->Option R),g ((xs.length:Int),out) next=F out) {k:Nat} (hk:xs.length<k):iter g k (0,out0)=F (out0++xs):=by
 have:=ff (g:=g) (st:=λi=>((i:Int),out0++xs.take i)) (n:=xs.length) (r:=F (out0++xs)) (λi hi next=>by
  rw[h i _ hi next (by rw[W5,Xw,YR (by omega)];omega),dh hi,Xh]) (λnext=>by
  simp only[XO];exact hn _ next) hk
 simpa using this
theorem CU {k:Nat} {xs:List Int} (hk:xs.length+7<k) (hN:7*xs.length+7<=aO) (hw:xs.all bN=true):mY k xs=some (en xs):=by
 have hM:=ak;unfold mY;refine(tO (xs:=xs) (out0:=[]) (F:=some) (λi out hi next hl=>?_) (λout next _=>?_) (by omega)).trans (by simp)
 ·simp only[kD];rw[ab,if_pos (by omega),ab,if_pos (by omega),show(i:Int).toNat=i from rfl,ai hi,aa,sJ (by omega),aa,Xv.1 hw _ (W9 hi),cond_true];have h7:=Ag xs[i];refine Ah (F:=λo=>next (i64.wrap ((i:Int)+1),o)) (xs:=wide xs[i]) (out0:=out) (by simp at hl;omega) (λj o hj nx ho=>?_) (λo nx=>?_) (by omega)|>.trans ?_
  ·simp only[kC];rw[ab,if_pos (by omega),ab,if_pos (by omega),show(j:Int).toNat=j from rfl,ai hj,aa,bO (by simp;omega),ar hj (by omega)]
  ·simp only[kC];rw[ab,if_neg (by omega)]
  ·rw[ar hi (by omega)]
 ·simp only[kD];rw[ab,if_neg (by omega)]
theorem fb {k:Nat} {a xs:List Int} (hk:xs.length+7<k) (hN:a.length+7*xs.length+7<=aO) (hw:xs.all bN=true):dA k a xs=some (a++en xs):=by
 have hM:=ak;unfold dA;refine(tO (xs:=xs) (out0:=a) (F:=some) (λi out hi next hl=>?_) (λout next _=>?_) (by omega))
 ·simp only[kF];rw[ab,if_pos (by omega),ab,if_pos (by omega),show(i:Int).toNat=i from rfl,ai hi,aa,sJ (by omega),aa,Xv.1 hw _ (W9 hi),cond_true];have h7:=Ag xs[i];refine Ah (F:=λo=>next (i64.wrap ((i:Int)+1),o)) (xs:=wide xs[i]) (out0:=out) (by omega) (λj o hj nx ho=>?_) (λo nx=>?_) (by omega)|>.trans ?_
  ·simp only[kE];rw[ab,if_pos (by omega),ab,if_pos (by omega),show(j:Int).toNat=j from rfl,ai hj,aa,bO (by simp;omega),ar hj (by omega)]
  ·simp only[kE];rw[ab,if_neg (by omega)]
  ·rw[ar hi (by omega)]
 ·simp only[kF];rw[ab,if_neg (by omega)];rfl
theorem oW {k:Nat} {a xs:List Int} (hk:xs.length+7<k) (hN:a.length+7*xs.length+7<=aO) (hw:xs.all bN=true):iK k a xs=some (a++en xs):=by
 have hM:=ak;unfold iK;refine(tO (xs:=xs) (out0:=a) (F:=some) (λi out hi next hl=>?_) (λout next _=>?_) (by omega))
 ·simp only[kH];rw[ab,if_pos (by omega),aL,ai hi,aa,sJ (by omega),aa,Xv.1 hw _ (W9 hi),cond_true];have h7:=Ag xs[i];refine Ah (F:=λo=>next (i64.wrap ((i:Int)+1),o)) (xs:=wide xs[i]) (out0:=out) (by omega) (λj o hj nx ho=>?_) (λo nx=>?_) (by omega)|>.trans ?_
  ·simp only[kG];rw[ab,if_pos (by omega),ab,if_pos (by omega),show(j:Int).toNat=j from rfl,ai hj,aa,bO (by simp;omega),ar hj (by omega)]
  ·simp only[kG];rw[ab,if_neg (by omega)]
  ·rw[ar hi (by omega)]
 ·simp only[kH];rw[ab,if_neg (by omega)]
theorem PT {R:Type} {x:Int} (hw:bN x=true) {out:List Int} (hl:out.length+7<=aO) {k:Nat} (hk:6<k) {g:Int× List Int->(Int× List Int->Option R)->Option R} {F:List Int->Option R}
    (hg:∀(v:Int× List Int) (next:Int× List Int->Option R),g v next=cond (decide (v.1>(127:Int))) (cond (Nat.ble (v.2.length+[(u8.wrap (((BitVec.ofInt u8.bits (u8.wrap (v.1))||| BitVec.ofInt u8.bits (128:Int)).toNat:Int)))].length) aO) (next (v.1.fdiv (2^(min (7:Int).toNat i64.bits)),v.2++[(u8.wrap (((BitVec.ofInt u8.bits (u8.wrap (v.1))||| BitVec.ofInt u8.bits (128:Int)).toNat:Int)))])) none)
      (cond (Nat.ble (v.2.length+[(u8.wrap (v.1))].length) aO) (F (v.2++[(u8.wrap (v.1))])) none)):
    cond (decide (x<(0:Int))) (iter g k (i64.wrap ((i64.wrap ((-2:Int)*x))-(1:Int)),out)) (iter g k (i64.wrap ((2:Int)*x),out))=F (out++wide x):=by
  have hx:=aY.1 hw;have hz:=Ig hw
  have run:∀(u:Nat),u<2199023255552->iter g k ((u:Int),out)=F (out++vb 6 u):=λu hu=>by
    refine(Kb (F:=F) (L:=out.length+6) (λu o next hu1 hu2 ho=>?_) (λu o next hu1 ho=>?_) 6 u k out (by omega) (by omega) (by omega) hk)
    · rw[hg]
      have e2:(u:Int).fdiv (2^(min (7:Int).toNat i64.bits))=((u/128:Nat):Int):=by
        show(u:Int).fdiv 128=_;rw[Int.fdiv_eq_ediv_of_nonneg _ (by omega)];rfl
      simp only;rw[ab,if_pos (by omega),UL,bO (by simp;omega),e2]
    · rw[hg];simp only;rw[ab,if_neg (by omega),bO (by simp;omega),Be (by omega) (by omega)]
  unfold wide zig at*;by_cases c:x<0
  · rw[ab,if_pos c];rw[if_pos c]at hz⊢;rw[aF (n:=-2*x) (by omega) (by omega),aF (n:=-2*x-1) (by omega) (by omega)];have:=run (-2*x-1).toNat (by omega);rw[show(((-2*x-1).toNat:Nat):Int)=-2*x-1 from by omega]at this;exact this
  · rw[ab,if_neg c];rw[if_neg c]at hz⊢;rw[aF (n:=2*x) (by omega) (by omega)];have:=run (2*x).toNat (by omega);rw[show(((2*x).toNat:Nat):Int)=2*x from by omega]at this;exact this
theorem jN {k:Nat} {a xs:List Int} (hk:xs.length+7<k) (hN:a.length+7*xs.length+7<=aO) (hw:xs.all bN=true):fB k a xs=some (a++en xs):=by
 have hM:=ak;unfold fB;refine(tO (xs:=xs) (out0:=a) (F:=some) (λi out hi next hl=>?_) (λout next _=>?_) (by omega))
 ·simp only[jD];rw[ab,if_pos (by omega),aL,ai hi,aa];refine(PT (F:=λo=>next (i64.wrap ((i:Int)+1),o)) (Xv.1 hw _ (W9 hi)) (by omega) (by omega) (λv nx=>rfl)).trans ?_;rw[ar hi (by omega)]
 ·simp only[jD];rw[ab,if_neg (by omega)]
theorem Cp {k:Nat} {xs:List Int} (hk:xs.length+7<k) (hN:7*xs.length+7<=aO) (hw:xs.all bN=true):se k xs=some (en xs):=by
 have:=jN (a:=[]) hk (by simpa using hN) hw;rw[X5]at this;exact this
theorem zk {k:Nat} {a b:List Int} (hk:a.length+b.length<k) (hN:a.length+b.length<=aO):pC k a b=some (a++b):=by
 have hM:=ak;unfold pC;rw[Fq (by omega) (by omega),aa];refine Ah (xs:=b) (out0:=a) (F:=some) hN (λj o hj nx ho=>?_) (λo nx=>?_) (by omega)
 ·simp only[nV];rw[ab,if_pos (by omega),aL,ai hj,aa,bO (by simp;omega),ar hj (by omega)]
 ·simp only[nV];rw[ab,if_neg (by omega)]
def ns (x:Step):Bool:=decide ((x.data.length:Int)<=6000)&&(decide ((x.input.data.length:Int)<=512)&&([x.kind,x.a,x.b].all bN&&([x.input.sh.h,x.input.sh.w,x.input.sh.c].all bN&&x.input.data.all bN)))
def b6 (x:Step):List Int:=en [x.kind,x.a,x.b,(x.data.length:Int)]++x.data++en ([x.input.sh.h,x.input.sh.w,x.input.sh.c,(x.input.data.length:Int)]++x.input.data)
def Lo (x:Step):List Int× Bool:=cond (ns x) (b6 x,true) ([],false)
theorem Cq {x:Step} (h:ns x=true):(b6 x).length<=10000:=by
 unfold ns at h;simp only[W3,decide_eq_true_eq]at h;have h1:=eU [x.kind,x.a,x.b,(x.data.length:Int)];have h2:=eU ([x.input.sh.h,x.input.sh.w,x.input.sh.c,(x.input.data.length:Int)]++x.input.data);simp only[W5,W7,Xg]at h1 h2;unfold b6;rw[W5,W5];omega
theorem zl (k:Nat) (x:Int):iv k x=some (bN x):=by
 unfold iv;rw[bR];rfl
theorem Cr {k:Nat} {xs:List Int} (hk:xs.length<k) (hx:xs.length<=aO):aU k xs=some (!xs.all bN):=by
 have hM:=ak;show _=some (!xs.all λx=>inB x (-1099511627776) 1099511627775);unfold aU ch
 rw[er xs (λx=>!inB x (-1099511627776) 1099511627775) (λi hi next=>by
  simp only[bf,ab,sb,Bz,aa]
  rw[if_pos (by omega),aL,ai hi,aa,ar hi (by omega)]) (λnext=>by
  simp only[bf,ab];rw[if_neg (by omega)]) hk]
 rw[cI];simp only[aa,mv];rw[Yv];simp
theorem dU {n:Nat} (h:n<=20000):bN (n:Int)=true:=aY.2 (by omega)
theorem zm {k:Nat} {x:Step} (hk:x.tot+20<k) (hN:7*x.tot+100<=aO):m9 k x=some (Lo x):=by
 have hM:=ak;have ht:x.tot=x.data.length+(x.input.data.length+0+0):=rfl;unfold m9;rw[bO (by simp;omega),ab];by_cases c1:(x.data.length:Int)>6000
 ·rw[if_pos c1];unfold Lo ns;rw[decide_eq_false (show¬(x.data.length:Int)<=6000 by omega)];rfl
 rw[if_neg c1,ab];by_cases c2:(x.input.data.length:Int)>512
 ·rw[if_pos c2];unfold Lo ns;rw[decide_eq_false (show¬(x.input.data.length:Int)<=512 by omega),X4,YM];rfl
 rw[if_neg c2,Cr (by simp;omega) (by simp;omega),aa,Cr (by simp;omega) (by simp;omega),aa]
 have e1:[x.kind,x.a,x.b,(x.data.length:Int)].all bN=[x.kind,x.a,x.b].all bN:=by
  simp[dU (n:=x.data.length) (by omega)]
 have e2:([x.input.sh.h,x.input.sh.w,x.input.sh.c,(x.input.data.length:Int)]++x.input.data).all bN=([x.input.sh.h,x.input.sh.w,x.input.sh.c].all bN&&x.input.data.all bN):=by
  rw[List.all_append];simp[dU (n:=x.input.data.length) (by omega)]
 have d1:decide ((x.data.length:Int)<=6000)=true:=decide_eq_true (by omega);have d2:decide ((x.input.data.length:Int)<=512)=true:=decide_eq_true (by omega);cases h1:[x.kind,x.a,x.b].all bN
 ·rw[e1,h1];unfold Lo ns;rw[d1,d2,h1];rfl
 cases h2:([x.input.sh.h,x.input.sh.w,x.input.sh.c].all bN&&x.input.data.all bN)
 ·rw[e1,h1,e2,h2];unfold Lo ns;rw[d1,d2,h1,h2];rfl
 have w1:=eU [x.kind,x.a,x.b,(x.data.length:Int)];simp only[W7,Xg]at w1;rw[Cp (by simp;omega) (by simp;omega) (by rw[e1,h1]),aa,bO (by omega)];rw[jN (by simp;omega) (by simp;omega) (by rw[e2,h2]),aa,e1,h1,e2,h2];unfold Lo ns;rw[d1,d2,h1,h2];rfl
theorem zn {k:Nat} {x:Step} (hk:x.tot+8000<k) (hN:7*x.tot+100<=aO):mZ k x=some (Lo x):=by
 have hM:=ak;have ht:x.tot=x.data.length+(x.input.data.length+0+0):=rfl;unfold mZ;rw[ab];by_cases c1:(x.data.length:Int)>6000
 ·rw[if_pos c1];unfold Lo ns;rw[decide_eq_false (show¬(x.data.length:Int)<=6000 by omega)];rfl
 rw[if_neg c1,ab];by_cases c2:(x.input.data.length:Int)>512
 ·rw[if_pos c2];unfold Lo ns;rw[decide_eq_false (show¬(x.input.data.length:Int)<=512 by omega),X4,YM];rfl
 rw[if_neg c2];simp only[zl,aa];have d1:decide ((x.data.length:Int)<=6000)=true:=decide_eq_true (by omega);have d2:decide ((x.input.data.length:Int)<=512)=true:=decide_eq_true (by omega)
 have e1:[x.kind,x.a,x.b].all bN=(bN x.kind&&(bN x.a&&bN x.b)):=by simp
 have e3:[x.input.sh.h,x.input.sh.w,x.input.sh.c].all bN=(bN x.input.sh.h&&(bN x.input.sh.w&&bN x.input.sh.c)):=by simp
 have GC:Lo x=cond (bN x.kind) (cond (bN x.a) (cond (bN x.b) (cond (bN x.input.sh.h) (cond (bN x.input.sh.w) (cond (bN x.input.sh.c) (cond (x.input.data.all bN) (b6 x,true) ([],false)) ([],false)) ([],false)) ([],false)) ([],false)) ([],false)) ([],false):=by
  unfold Lo ns;rw[d1,d2,e1,e3];cases bN x.kind<;>cases bN x.a<;>cases bN x.b<;>cases bN x.input.sh.h<;>cases bN x.input.sh.w<;>cases bN x.input.sh.c<;>cases x.input.data.all bN<;>rfl
 rw[GC];cases g1:bN x.kind
 ·rfl
 cases g2:bN x.a
 ·rfl
 cases g3:bN x.b
 ·rfl
 cases g4:bN x.input.sh.h
 ·rfl
 cases g5:bN x.input.sh.w
 ·rfl
 cases g6:bN x.input.sh.c
 ·rfl
 simp only[Xa,cond_false,cond_true]
 refine(nO x.input.data bN (yes:=((mY k [x.kind,x.a,x.b,(x.data.length:Int)]).bind λr10=>(pC k r10 x.data).bind λr11=>(dA k r11 [x.input.sh.h,x.input.sh.w,x.input.sh.c,(x.input.data.length:Int)]).bind λr12=>(iK k r12 x.input.data).bind λr13=>some (r13,true))) (no:=some ([],false)) (λi hi next=>by
  simp only[nW];rw[ab,if_pos (by omega),aL,ai hi,aa,zl,aa,ar hi (by omega)]
  cases bN x.input.data[i]<;>rfl) (λnext=>by
  simp only[nW]
  rw[ab,if_neg (by omega)]) (by omega)).trans ?_
 cases h2:x.input.data.all bN
 ·rfl
 have w1:=eU [x.kind,x.a,x.b,(x.data.length:Int)];have w2:=eU [x.input.sh.h,x.input.sh.w,x.input.sh.c,(x.input.data.length:Int)];simp only[W7,Xg]at w1 w2;rw[cond_true,CU (by simp;omega) (by simp;omega) (by simp[g1,g2,g3,dU (n:=x.data.length) (by omega)]),aa,zk (by omega) (by omega),aa];rw[fb (by simp;omega) (by simp;omega) (by simp[g4,g5,g6,dU (n:=x.input.data.length) (by omega)]),aa];rw[oW (by omega) (by simp;omega) h2,aa,cond_true];unfold b6;rw[Ih];simp only[Xh]
end
set_option maxRecDepth 100000
set_option maxHeartbeats 4000000
section
theorem UM:∀(f u:Nat),u<128^(f+1)->∀y∈vb f u,okB y
 |0,u,h,y,hy=>by
  obtain rfl:y=(u:Int):=by simpa[vb]using hy
  unfold okB;omega
 |f+1,u,h,y,hy=>by
  unfold vb at hy;split at hy
  ·rcases Xm.1 hy with rfl|hy
   ·unfold okB;omega
   ·exact UM f (u/128) (Nat.div_lt_of_lt_mul (by rw[Nat.pow_succ]at h;omega)) y hy
  ·obtain rfl:y=(u:Int):=by simpa using hy
   unfold okB;omega
theorem np {x:Int} (h:bN x=true):∀y∈wide x,okB y:=UM 6 _ (Zj (Ig h) (by decide))
theorem qW {xs:List Int} (h:xs.all bN=true):∀y∈en xs,okB y:=λy hy=>by
 obtain⟨x,hx,hy⟩:=YT.1 hy;exact np (Xv.1 h x hx) y hy
theorem M6 {s:Shape} {l:aq} (h:fC s l=true):(0<=l.kind/\l.kind<=5/\0<=l.out/\l.out<=8/\0<=l.size/\l.size<=3/\0<=l.step/\l.step<=2/\0<=l.mult/\l.mult<=2147483647/\0<=l.shift/\l.shift<=31/\-128<=l.zero/\l.zero<=127)/\(∀x∈l.weights,-128<=x/\x<=127)/\(∀x∈l.my,-1000000<=x/\x<=1000000):=by
 have none_of:∀{xs:List Int} {P:Int->Prop},(xs.length:Int)=0->∀x∈xs,P x:=λ{xs P} e x hx=>by
  have:xs.length=0:=by omega
  rw[XI.1 this]at hx;exact absurd hx (by simp)
 unfold fC at h;rw[W3]at h;obtain⟨_,h⟩:=h;by_cases k0:l.kind=0
 ·rw[decide_eq_true k0,cond_true]at h;simp only[Iu,oT,inB,rh,W3,decide_eq_true_eq,Xv]at h;exact⟨by omega,h.2.1.2.2.2.2.2.2,h.2.1.2.2.2.2.2.1⟩
 rw[decide_eq_false k0,cond_false]at h;by_cases k1:l.kind=1
 ·rw[decide_eq_true k1,cond_true]at h;simp only[Iu,ME,inB,rh,W3,decide_eq_true_eq,Xv]at h;exact⟨by omega,h.2.1.2.2.2.2.2.2,h.2.1.2.2.2.2.2.1⟩
 rw[decide_eq_false k1,cond_false]at h;by_cases k2:l.kind=2\/l.kind=3
 ·rw[show(decide (l.kind=2)||decide (l.kind=3))=true from by simpa using k2,cond_true]at h;simp only[rn,ME,inB,W3,decide_eq_true_eq]at h;exact⟨by omega,none_of h.2.1.2.2.2.1,none_of h.2.1.2.2.2.2⟩
 rw[show(decide (l.kind=2)||decide (l.kind=3))=false from by simpa using k2,cond_false]at h;by_cases k4:l.kind=4
 ·rw[decide_eq_true k4,cond_true]at h;simp only[rn,oT,inB,W3,decide_eq_true_eq]at h;exact⟨by omega,none_of h.2.1.2.2.2.1,none_of h.2.1.2.2.2.2⟩
 rw[decide_eq_false k4,cond_false]at h;by_cases k5:l.kind=5
 ·rw[decide_eq_true k5,cond_true]at h;simp only[rn,oT,inB,W3,decide_eq_true_eq]at h;exact⟨by omega,none_of h.2.1.2.2.2.1,none_of h.2.1.2.2.2.2⟩
 ·rw[decide_eq_false k5,cond_false]at h;exact nomatch h
theorem wG:∀(ls:List aq) (s:Shape),(bS s ls).isSome=true->∀l∈ls,∃s,fC s l=true
 |[],s,_,l,hl=>absurd hl (by simp)
 |m::ls,s,h,l,hl=>by
  simp only[bS]at h;cases hb:fC s m<;>rw[hb]at h
  ·exact nomatch h
  ·rcases Xm.1 hl with rfl|hl
   ·exact⟨s,hb⟩
   ·rw[cond_true,Option.isSome_map]at h;exact wG ls _ h l hl
theorem tP {xs:List Int} (h:∀x∈xs,-1099511627776<=x/\x<=1099511627775):xs.all bN=true:=by
 rw[Xv];intro x hx;unfold bN inB;exact decide_eq_true (h x hx)
theorem PU:∀(b:List Int) (s:Int),(∀x∈b,okB x)->0<=s->s<=1000002->0<=b.foldl nm s/\b.foldl nm s<=1000002
 |[],s,_,h0,h1=>⟨h0,h1⟩
 |x::b,s,hb,h0,h1=>by
  have hx:=hb x Xz;unfold okB at hx
  have:0<=nm s x/\nm s x<=1000002:=by
   unfold nm;rw[aF (n:=257*s) (by omega) (by omega),aF (n:=x) (by omega) (by omega),aF (n:=257*s+x) (by omega) (by omega),aF (n:=257*s+x+1) (by omega) (by omega),Int.tmod_eq_emod_of_nonneg (by omega)];omega
  exact PU b _ (λy hy=>hb y (Xq _ hy)) this.1 this.2
theorem PV (b:List Int) (hb:∀x∈b,okB x):0<=kq b/\kq b<=1099511627775:=by
 have:=PU b 1 hb (by omega) (by omega);unfold kq;omega
theorem zo {k:Nat} {m:Model} (hk:400000<k) (ht:m.tot<=8100):ao (jG k m) λr=>(∀y∈r.1,okB y)/\r.1.length<=6000:=by
 have hM:=ak;have no:ao (some (([]:List Int),false)) λr=>(∀y∈r.1,okB y)/\r.1.length<=6000:=ao.some ⟨λy hy=>absurd hy (by simp),by simp⟩;unfold jG;rw[sr (by omega) (by omega),aa];cases hm:eu m
 ·exact no
 have hmi:=M3.1 hm;have hin:=Shape.tC hmi.1
 have hll:m.aE.length<=6:=by
  have:=hmi.2.1;unfold inB at this;have:=of_decide_eq_true this;omega
 have WZ:=wG m.aE m.inp hmi.2.2
 have hw0:[m.inp.h,m.inp.w,m.inp.c,(m.aE.length:Int)].all bN=true:=tP λx hx=>by
  simp only[Xm,YI,or_false]at hx
  rcases hx with rfl|rfl|rfl|rfl<;>omega
 simp only[Xa,cond_false];rw[fb (by simp;omega) (by simp;omega) hw0,aa];have hl0:=eU [m.inp.h,m.inp.w,m.inp.c,(m.aE.length:Int)];refine ao.iter (Inv:=λv:Int× List Int=>0<=v.1/\v.1<=m.aE.length/\(∀y∈v.2,okB y)/\(v.2.length:Int)<=40+60000*v.1) (m:=λv=>(m.aE.length-v.1).toNat) (λv next hv hx=>?_) k _ ⟨by simp,by simp,λy hy=>?_,by simp at hl0⊢;omega⟩ (by simp;omega)
 ·obtain⟨v1,v2,v3,v4⟩:=hv;unfold lJ;refine ao.cond (λq=>?_) λ_=>?_
  ·have q:v.1<(m.aE.length:Int):=of_decide_eq_true q
   have hi:v.1.toNat<m.aE.length:=by omega
   rw[j9 _ v1,ai hi,aa];generalize hl:m.aE[v.1.toNat]=l;have QW:l∈m.aE:=hl▸W9 hi;obtain⟨s,hs⟩:=WZ l QW;obtain⟨n1,n2,n3⟩:=M6 hs;have hlt:=jy aq.tot QW
   have hmt:gp aq.tot m.aE<=8100:=by simpa[Model.tot]using ht
   have hlw:l.weights.length+l.my.length<=l.tot:=by unfold aq.tot;omega
   have w1:[l.kind,l.out,l.size,l.step,l.mult,l.shift,l.zero,(l.weights.length:Int)].all bN=true:=tP λx hx=>by
    simp only[Xm,YI,or_false]at hx
    rcases hx with rfl|rfl|rfl|rfl|rfl|rfl|rfl|rfl<;>omega
   have w2:l.weights.all bN=true:=tP λx hx=>by have:=n2 x hx;omega
   have w3:[(l.my.length:Int)].all bN=true:=tP λx hx=>by
    simp only[Xm,YI,or_false]at hx;subst hx;omega
   have w4:l.my.all bN=true:=tP λx hx=>by have:=n3 x hx;omega
   have e1:=eU [l.kind,l.out,l.size,l.step,l.mult,l.shift,l.zero,(l.weights.length:Int)];have e2:=eU l.weights;have e3:=eU [(l.my.length:Int)];have e4:=eU l.my;simp only[W7,Xg]at e1 e3
   rw[fb (by simp;omega) (by simp only[W7,Xg];omega) w1,aa,
    oW (by omega) (by simp only[W5];omega) w2,aa,
    fb (by simp;omega) (by simp only[W5,W7,Xg];omega) w3,aa,
    oW (by omega) (by simp only[W5];omega) w4,aa]
   refine hx _ ⟨?_,?_,?_,?_⟩ ?_
   ·simp only;rw[aF (n:=v.1+1) (by omega) (by omega)];omega
   ·simp only;rw[aF (n:=v.1+1) (by omega) (by omega)];omega
   ·intro y hy;simp only[XN]at hy
    rcases hy with(((hy|hy)|hy)|hy)|hy
    ·exact v3 y hy
    ·exact qW w1 y hy
    ·exact qW w2 y hy
    ·exact qW w3 y hy
    ·exact qW w4 y hy
   ·simp only[W5];rw[aF (n:=v.1+1) (by omega) (by omega)];omega
   ·simp only;rw[aF (n:=v.1+1) (by omega) (by omega)];omega
  ·show ao ((qE k v.2).bind _) _;rw[xK (by omega) (by omega),aa];have hs:=PV v.2 v3
   have w5:[kq v.2].all bN=true:=tP λx hx=>by
    simp only[Xm,YI,or_false]at hx;subst hx;omega
   rw[fb (by simp;omega) (by simp only[W7,Xg];omega) w5,aa];refine ao.cond (λ_=>no) λq=>ao.some ⟨λy hy=>?_,?_⟩
   ·rcases XN.1 hy with hy|hy
    ·exact v3 y hy
    ·exact qW w5 y hy
   ·have:=of_decide_eq_false q;show(v.2++en [kq v.2]).length<=6000;omega
 ·rcases XN.1 hy with hy|hy
  ·simp only[Xm,YI,or_false]at hy;unfold okB
   rcases hy with rfl|rfl|rfl<;>omega
  ·exact qW hw0 y hy
end
end Go.Proofs.Ev
