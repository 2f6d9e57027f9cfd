/- Typed functions and what holds of them: part 6. -/
import Derived.Test.YtpiopmjbcadfbaaGreatEvL5
set_option linter.unusedVariables false
set_option linter.unusedSimpArgs false
set_option linter.unusedSectionVars false
namespace Go.Proofs.Ev
set_option maxRecDepth 100000
set_option maxHeartbeats 4000000
section
theorem HZ {k:Nat} (hk:20000000<=k) {st:Bool} {ms:List Model} {ls:List Bool} {a:Int} (ha:a<=200) {q1 q2 q4 q5 q6 kd p9:Int} {q3 q7:List Int} (hkd:(kd==5)=st):∀(n:Nat) (i:Int) (s:aj) (rs:List Request) (e:List Event),a=i+n->0<=i->qY ⟨s,ms,ls,rs⟩->e.length+n<=1000->
  ∃(e':List Event) (s':aj) (rs':List Request),qY ⟨s',ms,ls,rs'⟩/\e'.length<=e.length+n/\(∃d,e'=e++d/\lM (oV rs) d (oV rs'))/\(s'.ag=s.ag/\s'.age=s.age/\s'.next=s.next)/\
   (s.now=1000000->e'=e/\s'=s/\rs'=rs)/\
   (∀(R:Type) (fin:_->Option R) (kf:Nat),n<kf->iter (λu10 n10=>db k (st,q1,a,q2,q3,q4,q5,q6,q7,ms,ls) u10 n10 fin) kf (i,s.now,s.ag,s.age,s.run,s.left,s.turns,s.next,e,s.tasks,rs)=fin (e',s'.now,s'.ag,s'.age,s'.run,s'.left,s'.turns,s'.next,s'.tasks,rs'))/\
   (∀(R:Type) (fin:_->Option R) (kf:Nat),n<kf->iter (λu9 n9=>bj k (a,s.ag,s.age,s.next,kd,p9,q2,q3,q4,q5,q6,q7,ms,ls) u9 n9 fin) kf (i,s.now,s.run,s.left,s.turns,e,s.tasks,rs)=fin (e',s'.now,s'.run,s'.left,s'.turns,s'.tasks,rs'))
 |0,i,s,rs,e,hi,h0,h,he=>by
  refine⟨e,s,rs,h,Rd _,⟨[],by simp,.nil⟩,⟨rfl,rfl,rfl⟩,λ_=>⟨rfl,rfl,rfl⟩,λR fin kf hkf=>?_,λR fin kf hkf=>?_⟩
  ·obtain⟨kf,rfl⟩:∃m,kf=m+1:=⟨kf-1,by omega⟩;rw[aF];show db k _ _ _ fin=_;unfold db;simp only;rw[decide_eq_false (by omega)];rfl
  ·obtain⟨kf,rfl⟩:∃m,kf=m+1:=⟨kf-1,by omega⟩;rw[aF];show bj k _ _ _ fin=_;unfold bj;simp only
   rw[decide_eq_false (by omega)];rfl
 |n+1,i,s,rs,e,hi,h0,h,he=>by
  obtain⟨e1,s1,r1,g1,g2,⟨d1,dd1,td1⟩,g3,g4,g5,g6⟩:=LV (e:=e) hk h (by omega) h0 (show i<a by omega) ha (q1:=q1) (q2:=q2) (q4:=q4) (q5:=q5) (q6:=q6) (kd:=kd) (p9:=p9) (q3:=q3) (q7:=q7) hkd;obtain⟨e2,s2,r2,f1,f2,⟨d2,dd2,td2⟩,f3,f4,f5,f6⟩:=HZ hk (ms:=ms) (ls:=ls) ha (q1:=q1) (q2:=q2) (q4:=q4) (q5:=q5) (q6:=q6) (kd:=kd) (p9:=p9) (q3:=q3) (q7:=q7) hkd n (i+1) s1 r1 e1 (by omega) (by omega) g1 (by omega);refine⟨e2,s2,r2,f1,by omega,⟨d1++d2,by rw[dd2,dd1,Rj],td1.app td2⟩,⟨f3.1.trans g3.1,f3.2.1.trans g3.2.1,f3.2.2.trans g3.2.2⟩,λhn=>?_,λR fin kf hkf=>?_,λR fin kf hkf=>?_⟩
  ·obtain⟨x1,x2,x3⟩:=g5 hn;subst x1 x2 x3;exact f4 hn
  ·obtain⟨kf,rfl⟩:∃m,kf=m+1:=⟨kf-1,by omega⟩;rw[aF];exact(g4 R _ fin).trans (f5 R fin kf (by omega))
  ·obtain⟨kf,rfl⟩:∃m,kf=m+1:=⟨kf-1,by omega⟩;rw[aF];by_cases hn:s.now=1000000
   ·obtain⟨x1,x2,x3⟩:=g5 hn;subst x1 x2 x3;obtain⟨y1,y2,y3⟩:=f4 hn;subst y1 y2 y3;show bj k _ _ _ fin=_;unfold bj;simp only;rw[decide_eq_true (by omega),cond_true,bJ,if_pos hn]
   ·refine(g6 hn R _ fin).trans ?_;have:=f6 R fin kf (by omega);rw[g3.1,g3.2.1,g3.2.2]at this;exact this
def P9 (e:List Event) (r:Runtime):List Event× Int× Int× Int× List Task× Int× Int× Int× Int× List Model× List Bool× List Request:=(e,r.sched.now,r.sched.ag,r.sched.age,r.sched.tasks,r.sched.run,r.sched.left,r.sched.turns,r.sched.next,r.ak,r.al,r.ae)
structure lN (x:Step):Prop where
 byte:∀y∈x.data,okB y
 data:x.data.length<=aU
 input:x.input.tot<=2000000
theorem LW {r:Runtime} (h:qY r) (x:Step):qY ⟨r.sched,(uZ r x).2.1,(uZ r x).2.2,r.ae⟩/\(uZ r x).1.length<=1:=by
 unfold uZ;cases(inB x.a 0 3&&!r.al.getD x.a.toNat false)
 ·exact⟨⟨h.s,h.ml,h.ll,h.mod,h.req⟩,by simp[dG]⟩
 cases(decide ((eH x.data).2=0)&&tI (eH x.data).1)
 ·exact⟨⟨h.s,h.ml,h.ll,h.mod,h.req⟩,by simp[dG]⟩
 refine⟨⟨h.s,by simp[h.ml],by simp[h.ll],λm hm=>?_,h.req⟩,by simp⟩
 rcases List.mem_or_eq_of_mem_set hm with hm|rfl
 ·exact h.mod m hm
 ·exact sb _
theorem H3 {s:aj} {ar:List Int} {due:Int} (h:(fL s ar due).2.2=0):(fL s ar due).2.1=s.next/\(fL s ar due).1.tasks=s.tasks++[⟨s.next,ar,0,due,s.now⟩]:=by
 unfold fL at h⊢;cases c1:(bu s&&im ⟨s.next,ar,0,due,s.now⟩)
 ·rw[c1]at h;exact absurd (show(1:Int)=0 from h) (by decide)
 rw[c1]at h;cases c2:((s.tasks.length:Int)==12||s.next==1000000)
 ·rw[c2]at h;cases c3:yX ⟨s.now,s.ag,s.age,s.tasks++[⟨s.next,ar,0,due,s.now⟩],s.run,s.left,s.turns,s.next+1⟩
  ·rw[c3]at h;exact absurd (show(3:Int)=0 from h) (by decide)
  ·exact⟨rfl,rfl⟩
 ·rw[c2]at h;exact absurd (show(2:Int)=0 from h) (by decide)
theorem EV {r:Runtime} (h:qY r) (x:Step):qY ⟨(hY r x).2.1,r.ak,r.al,(hY r x).2.2⟩/\(hY r x).1.length<=1:=by
 have same:∀c,qY ⟨(dG x.kind c,r.sched,r.ae).2.1,r.ak,r.al,(dG x.kind c,r.sched,r.ae).2.2⟩/\(dG x.kind c,r.sched,r.ae).1.length<=1:=λc=>⟨⟨h.s,h.ml,h.ll,h.mod,h.req⟩,by simp[dG]⟩;unfold hY;cases c0:JI r x.a
 ·exact same _
 simp only[cond_true];have c1':=of_decide_eq_true (SA.1 c0).1;have hmo:=h.ml
 have hmt:(r.ak.getD x.a.toNat dt).tot<=8002000:=by
  rw[b8 (show x.a.toNat<r.ak.length by omega)];exact h.mod _ (Q7 _)
 generalize r.ak.getD x.a.toNat dt=m at hmt;cases c2:(dF m x.input).2
 ·exact same _
 have hj:tP ⟨m,0,x.input,0⟩=true/\(dF m x.input).1=⟨m,0,x.input,0⟩:=by
  unfold dF at c2⊢;cases c:tP ⟨m,0,x.input,0⟩
  ·rw[c]at c2;exact nomatch c2
  ·exact⟨rfl,rfl⟩
 rw[hj.2];simp only[cond_true];cases inB x.b 0 1000000
 ·exact same _
 simp only[cond_true];have ho:=Nr h.s (bC m) (r.sched.now+x.b);by_cases c3:(fL r.sched (bC m) (r.sched.now+x.b)).2.2=0
 ·obtain⟨h1,h2⟩:=H3 c3;rw[decide_eq_true c3];simp only[cond_true];refine⟨⟨ho,h.ml,h.ll,h.mod,?_⟩,by simp⟩;show Lk (r.ae++[_]) (fL r.sched (bC m) (r.sched.now+x.b)).1.tasks;rw[h2];exact h.req.app ⟨h1,hj.1,rfl,rfl,hmt⟩
 ·rw[decide_eq_false c3];exact same _
theorem EW {r:Runtime} (h:qY r) (x:Step):qY (fV r x).2/\(fV r x).1.length<=13:=by
 unfold fV;cases JI r x.a
 ·exact⟨h,by simp[dG]⟩
 have hu:=zn x.a r.ak r.al r.ae [] r.sched r.ae (Bh h) h;have hq:=h.NW;refine⟨⟨hu.1.s,by simp[h.ml],by simp[h.ll],λm hm=>?_,hu.1.req⟩,?_⟩
 ·rcases List.mem_or_eq_of_mem_set hm with hm|rfl
  ·exact h.mod m hm
  ·exact Rv _
 ·have:=hu.2;simp only[Rs]at this;simp only[cond_true,Q5,Q4,Rs];omega
theorem LY {rs:List Request} {id:Int} (h:¬tK rs id<0):∃q∈rs,q.id=id:=by
 unfold tK at h
 cases hf:rs.findIdx? λq=>q.id==id with
 |none=>rw[hf]at h;exact absurd (show(-1:Int)<0 by decide) h
 |some i=>
  obtain⟨hi,hp,_⟩:=R4.1 hf;exact⟨rs[i],Q7 hi,by simpa using hp⟩
def wL (r:Runtime) (x:Step) (e:List Event) (r':Runtime):Prop:=
 (lM (oV r.ae) e (oV r'.ae)/\r'.sched.next=r.sched.next)\/
 ∃due,e=[⟨2,r.sched.next,due,zi⟩]/\r'.sched.next=r.sched.next+1/\r'.ae=r.ae++[⟨r.sched.next,x.a,⟨r.ak.getD x.a.toNat dt,0,x.input,0⟩,due⟩]/\r'.ak=r.ak/\0<=x.a/\x.a<4
theorem LZ {r:Runtime} (x:Step):lM (oV r.ae) (uZ r x).1 (oV r.ae):=by
 have ref:∀c,lM (oV r.ae) (dG x.kind c) (oV r.ae):=λc=>.other (by simp) (by simp) (by simp) .nil;unfold uZ;cases(inB x.a 0 3&&!r.al.getD x.a.toNat false)
 ·exact ref _
 cases(decide ((eH x.data).2=0)&&tI (eH x.data).1)
 ·exact ref _
 ·exact .other (by simp) (by simp) (by simp) .nil
theorem GN {r:Runtime} (h:qY r) (x:Step):wL r x (hY r x).1 ⟨(hY r x).2.1,r.ak,r.al,(hY r x).2.2⟩:=by
 have ref:∀c,wL r x (dG x.kind c,r.sched,r.ae).1 ⟨(dG x.kind c,r.sched,r.ae).2.1,r.ak,r.al,(dG x.kind c,r.sched,r.ae).2.2⟩:=λc=>.inl ⟨.other (by simp) (by simp) (by simp) .nil,rfl⟩;unfold hY;cases c0:JI r x.a
 ·exact ref _
 simp only[cond_true];have c1':=of_decide_eq_true (SA.1 c0).1;cases c2:(dF (r.ak.getD x.a.toNat dt) x.input).2
 ·exact ref _
 have hj:(dF (r.ak.getD x.a.toNat dt) x.input).1=⟨r.ak.getD x.a.toNat dt,0,x.input,0⟩:=by
  unfold dF at c2⊢;cases c:tP ⟨r.ak.getD x.a.toNat dt,0,x.input,0⟩
  ·rw[c]at c2;exact nomatch c2
  ·rfl
 rw[hj];simp only[cond_true];cases inB x.b 0 1000000
 ·exact ref _
 simp only[cond_true];generalize hc:bC (r.ak.getD x.a.toNat dt)=cs;by_cases c3:(fL r.sched cs (r.sched.now+x.b)).2.2=0
 ·obtain⟨h1,h2⟩:=H3 c3;rw[decide_eq_true c3];simp only[cond_true];refine .inr ⟨r.sched.now+x.b,by rw[h1],?_,by rw[h1],rfl,c1'.1,by omega⟩
  rcases zf r.sched cs (r.sched.now+x.b)with⟨_,_,_,_,g⟩|⟨g,_⟩
  ·show(fL r.sched cs (r.sched.now+x.b)).1.next=_
   rw[g]
  ·exact(g c3).elim
 ·rw[decide_eq_false c3];exact ref _
theorem GO {r:Runtime} (h:qY r) (x:Step):lM (oV r.ae) (fV r x).1 (oV (fV r x).2.ae):=by
 unfold fV;cases JI r x.a
 ·exact .other (by simp) (by simp) (by simp) .nil
 obtain⟨d,h1,h2⟩:=zo x.a r.ae [] r.sched r.ae h.inc λi hi=>hi;simp only[cond_true];rw[h1,Si];exact h2.app (.other (by simp) (by simp) (by simp) .nil)
theorem Pa {k:Nat} (hk:20000000<=k) {r:Runtime} (h:qY r) {x:Step} (hx:lN x):∃(e:List Event) (r':Runtime),qY r'/\e.length<=1000/\wL r x e r'/\tp k r x=some (P9 e r')/\iM k r x=some (P9 e r'):=by
 have hM:=ao;have hq:=h.NW;have ht:=h.tot;unfold tp iM;simp only[bJ];by_cases c0:x.kind=0
 ·simp only[if_pos c0];rw[LO (by omega) hx.byte hx.data h.ll h.ml,LQ (by omega) hx.byte hx.data h.ll h.ml];exact⟨(uZ r x).1,⟨r.sched,(uZ r x).2.1,(uZ r x).2.2,r.ae⟩,(LW h x).1,by have:=(LW h x).2;omega,.inl ⟨LZ x,rfl⟩,rfl,rfl⟩
 simp only[if_neg c0];by_cases c1:x.kind=1
 ·simp only[if_pos c1];obtain⟨i1,i2,i3,i4,i5,i6⟩:=GL h hk (x:=x);rw[GK h hk,i1];refine⟨(fV r x).1,(fV r x).2,(EW h x).1,by have:=(EW h x).2;omega,.inl ⟨GO h x,i6⟩,rfl,?_⟩;simp only[aa,P9,i2,i3,i4,i5,i6]
 simp only[if_neg c1];by_cases c2:x.kind=2
 ·simp only[if_pos c2];rw[GI h hk hx.input,GJ h hk hx.input];exact⟨(hY r x).1,⟨(hY r x).2.1,r.ak,r.al,(hY r x).2.2⟩,(EV h x).1,by have:=(EV h x).2;omega,GN h x,rfl,rfl⟩
 simp only[if_neg c2];by_cases c3:x.kind=3
 ·simp only[if_pos c3];unfold gX;rw[qX (by omega) (by omega),aa,va (by omega) (by omega),aa];by_cases c:tK r.ae x.a<0
  ·rw[decide_eq_true c];unfold bE dE;simp only[cond_true,aa,decide_true];exact⟨dG x.kind 7,r,h,by simp[dG],.inl ⟨.other (by simp) (by simp) (by simp) .nil,rfl⟩,rfl,rfl⟩
  ·rw[decide_eq_false c];obtain⟨q,hq1,hq2⟩:=LY c;have hid:1<=x.a:=hq2▸Bh h q hq1;simp only[cond_false];rw[Bg (by omega) (by omega) h.s hid,EU (by omega) (by omega)];simp only[aa,decide_true,cond_true];exact⟨[zN x.a],P7 r x.a,HV h hid,by simp,.inl ⟨.ends (.inr rfl) (by show x.a∈oV r.ae;unfold oV;exact S1.2 ⟨q,hq1,hq2⟩) (by show lM ((oV r.ae).filter λi=>!(i==x.a)) [] (oV (wJ r.ae x.a));rw[wK];exact .nil),rfl⟩,rfl,rfl⟩
 simp only[if_neg c3]
 have run:∀(st:Bool),(x.kind==5)=st->∃(e:List Event) (s':aj) (rs':List Request),qY ⟨s',r.ak,r.al,rs'⟩/\e.length<=1000/\lM (oV r.ae) e (oV rs')/\(s'.ag=r.sched.ag/\s'.age=r.sched.age/\s'.next=r.sched.next)/\
   j4 k r x st=some (e,s'.now,s'.ag,s'.age,s'.tasks,s'.run,s'.left,s'.turns,s'.next,rs')/\fD k r x=some (e,s'.now,s'.tasks,s'.run,s'.left,s'.turns,rs'):=λst hst=>by
  unfold j4 fD bE dE;rw[cw,aa,fw,aa];cases c:inB x.a 0 200
  ·simp only[Ro,cond_true,aa,decide_true];exact⟨dG x.kind 8,r.sched,r.ae,h,by simp[dG],.other (by simp) (by simp) (by simp) .nil,⟨rfl,rfl,rfl⟩,rfl,rfl⟩
  have c':=of_decide_eq_true c;simp only[Q3,cond_false,decide_true,cond_true];obtain⟨e,s',rs',g1,g2,⟨d,dd,td⟩,g3,_,g5,g6⟩:=HZ hk (st:=st) (ms:=r.ak) (ls:=r.al) (a:=x.a) (by omega) (q1:=x.kind) (q2:=x.b) (q4:=x.input.sh.h) (q5:=x.input.sh.w) (q6:=x.input.sh.c) (kd:=x.kind) (p9:=x.a) (q3:=x.data) (q7:=x.input.data) hst x.a.toNat 0 r.sched r.ae [] (by omega) (by omega) h (by simp;omega);refine⟨e,s',rs',g1,?_,by rw[dd];exact td,g3,g5 _ _ k (by omega),g6 _ _ k (by omega)⟩;simp only[Rs]at g2;omega
 by_cases c4:x.kind=4
 ·simp only[if_pos c4];obtain⟨e,s',rs',g1,g2,td,g3,g4,g5⟩:=run false (by rw[c4];rfl);rw[g4,g5];refine⟨e,⟨s',r.ak,r.al,rs'⟩,g1,g2,.inl ⟨td,g3.2.2⟩,rfl,?_⟩;simp only[aa,P9,g3.1,g3.2.1,g3.2.2]
 simp only[if_neg c4];by_cases c5:x.kind=5
 ·simp only[if_pos c5];obtain⟨e,s',rs',g1,g2,td,g3,g4,g5⟩:=run true (by rw[c5];rfl);rw[g4,g5];refine⟨e,⟨s',r.ak,r.al,rs'⟩,g1,g2,.inl ⟨td,g3.2.2⟩,rfl,?_⟩;simp only[aa,P9,g3.1,g3.2.1,g3.2.2]
 simp only[if_neg c5];unfold bE dE;simp only[aa];exact⟨dG x.kind 8,r,h,by simp[dG],.inl ⟨.other (by simp) (by simp) (by simp) .nil,rfl⟩,rfl,rfl⟩
end
set_option maxRecDepth 100000
set_option maxHeartbeats 4000000
section
def rt0 (s:aj):Runtime:=⟨s,List.replicate 4 dt,List.replicate 4 false,[]⟩
def Qa:Runtime:=⟨⟨0,0,0,[],0,0,0,0⟩,[],[],[]⟩
theorem zp {k:Nat} {a b:Int} (hk:0<k):mv k a b=some (cond (bu (Bd a b)) (rt0 (Bd a b),true) (Qa,false)):=by
 unfold mv;rw[Np hk,aa];cases bu (Bd a b)<;>rfl
theorem zq {k:Nat} {a b:Int} (hk:0<k):mx k a b=some (cond (bu (Bd a b)) (rt0 (Bd a b),true) (Qa,false)):=by
 unfold mx;rw[Nq hk,aa];cases bu (Bd a b)<;>rfl
theorem Qb {a b:Int} (h:bu (Bd a b)=true):qY (rt0 (Bd a b)):=⟨NV h,rfl,rfl,λm hm=>by rw[(Tb.1 hm).2];exact Rv _,.nil⟩
theorem GP {xs:List Step} (hx:okS Step.Ok xs) (ht:fJ Step.tot xs<=1048576):∀x∈xs,lN x:=λx hm=>by
 have hM:=ao;have h1:=hx.2 x hm;have h2:=fl Step.tot hm;have h3:x.tot=x.data.length+(x.input.tot+0):=rfl;exact⟨h1.2.2.2.1.2,by omega,by omega⟩
end
set_option maxRecDepth 100000
set_option maxHeartbeats 4000000
section
def mD (E:List Entry):Prop:=∀(i:Nat) (h:i<E.length),E[i].id=(i:Int)+1
theorem mD.set {E:List Entry} (h:mD E) {j:Nat} {y:Entry} (hy:y.id=(j:Int)+1):mD (E.set j y):=λi hi=>by
 rw[List.getElem_set];by_cases c:j=i
 ·subst c;rw[if_pos rfl];exact hy
 ·rw[if_neg c];exact h i (by simpa using hi)
theorem mD.app {E:List Entry} (h:mD E) {y:Entry} (hy:y.id=(E.length:Int)+1):mD (E++[y]):=λi hi=>by
 rw[List.getElem_append];by_cases c:i<E.length
 ·rw[dif_pos c];exact h i c
 ·rw[dif_neg c];simp only[Q5,Q4,Rs]at hi
  have:i=E.length:=by omega
  subst this;simpa using hy
def Nv (now:Int) (ev:Event) (y:Entry):Entry:=⟨y.id,y.model,y.input,y.at_,y.due,cond (ev.kind==4) now ev.b,ev.kind==3⟩
section
variable {k:Nat} {p:List Step× Int× Int× List Event× Int× Int× Int× Int× Int× Int× Int× Int× Int× Int× Int× Int× Int× Int× Int× List Event× Int× Int× Int× Int× Int× Int× List Int× List Request× List Task× List Model× List Bool× List Request} {ev:Event} {now:Int}
 (h1:p.2.2.2.2.2.2.2.2.2.2.2.2.2.2.2.2.2.2.2.2.1=ev.kind) (h2:p.2.2.2.2.2.2.2.2.2.2.2.2.2.2.2.2.2.2.2.2.2.1=ev.a) (h3:p.2.2.2.2.2.2.2.2.2.2.2.2.2.2.2.2.2.2.2.2.2.2.1=ev.b) (h4:p.2.2.1=now)
include h1 h2 h3 h4
theorem Pb {R:Type} {E:List Entry} {fin:List Entry->Option R} {j:Nat} (hj:j<E.length) (hE:E.length<=100000) (next:Int× List Entry->Option R):
  fU k p ((j:Int),E) next fin=next (((j+1:Nat):Int),cond (E[j].id==ev.a) (E.set j (Nv now ev E[j])) E):=by
 have hM:=ao;have hd0:decide ((j:Int)<(E.length:Int))=true:=decide_eq_true (by omega);have hd:decide (0<=(j:Int)/\(j:Int)<(E.length:Int))=true:=decide_eq_true (by omega);have hg:∀y:Entry,(E.set j y)[j]? =some y:=λy=>RO hj;unfold fU;simp only[h1,h2,h3,h4,hd0,hd,QY,RG,cond_true,ai hj,aa,List.set_set,hg,au hj (show E.length<=9223372036854775807 by omega)];cases c:(E[j].id==ev.a)
 ·rfl
 simp only[cond_true,Nv];cases(ev.kind==4)<;>rfl
theorem CT {R:Type} {fin:List Entry->Option R}:∀(n j:Nat) (E:List Entry) (kf:Nat),j+n=E.length->n<kf->E.length<=100000->mD E->
  iter (λu14 n14=>fU k p u14 n14 fin) kf ((j:Int),E)=fin (cond (decide ((j:Int)<ev.a/\ev.a<=(E.length:Int))) (E.set (ev.a-1).toNat (Nv now ev (E.getD (ev.a-1).toNat ⟨0,dt,zi,0,0,0,false⟩))) E)
 |_,_,_,0,_,h,_,_=>by omega
 |0,j,E,kf+1,hj,_,_,_=>by
  rw[aF];show fU k p _ _ fin=_;unfold fU;simp only
  rw[decide_eq_false (show¬(j:Int)<(E.length:Int) by omega),cond_false,decide_eq_false (show¬((j:Int)<ev.a/\ev.a<=(E.length:Int)) by omega)];rfl
 |n+1,j,E,kf+1,hj,hk,hE,hP=>by
  have hjl:j<E.length:=by omega
  have hid:=hP j hjl;rw[aF];refine(Pb h1 h2 h3 h4 hjl hE _).trans ?_;by_cases c:E[j].id=ev.a
  ·rw[show(E[j].id==ev.a)=true from by simpa using c,cond_true]
   have e1:(ev.a-1).toNat=j:=by omega
   have hP2:mD (E.set j (Nv now ev E[j])):=hP.set (by show E[j].id=_;exact hid);refine(CT n (j+1) _ kf (by simp;omega) (by omega) (by simpa using hE) hP2).trans ?_;rw[RG,decide_eq_false (by omega),decide_eq_true (by omega),e1,b8 hjl];rfl
  ·rw[show(E[j].id==ev.a)=false from by simpa using c,cond_false];refine(CT n (j+1) E kf (by omega) (by omega) hE hP).trans ?_;by_cases d:((j+1:Nat):Int)<ev.a/\ev.a<=(E.length:Int)
   ·rw[decide_eq_true d,decide_eq_true (by omega)]
   ·rw[decide_eq_false d,decide_eq_false (by omega)]
end
end
set_option maxRecDepth 100000
set_option maxHeartbeats 4000000
section
def noEntry:Entry:=⟨0,dt,zi,0,0,0,false⟩
def fh (now:Int) (E:List Entry) (ev:Event):List Entry:=cond (ev.kind==3||ev.kind==4) (E.set (ev.a-1).toNat (Nv now ev (E.getD (ev.a-1).toNat noEntry))) E
def Live (E:List Entry) (ids:List Int):Prop:=∀i∈ids,1<=i/\i<=E.length/\(E.getD (i-1).toNat noEntry).done=false
theorem nF (now:Int) (E:List Entry) (ev:Event):(fh now E ev).length=E.length:=by
 unfold fh;cases(ev.kind==3||ev.kind==4)<;>simp
theorem tM {now:Int} {E:List Entry} {ev:Event} (h:mD E):mD (fh now E ev):=by
 unfold fh;cases(ev.kind==3||ev.kind==4)
 ·exact h
 ·intro i hi
  have hi':i<E.length:=by simpa using hi
  simp only[cond_true];rw[List.getElem_set];by_cases c:(ev.a-1).toNat=i
  ·rw[if_pos c,c,b8 hi'];exact h i hi'
  ·rw[if_neg c];exact h i hi'
theorem se {now:Int} {E:List Entry} {ev:Event} {ids:List Int} (h:Live E ids) (ha:1<=ev.a):Live (fh now E ev) (ids.filter λi=>!(i==ev.a)):=λi hi=>by
 obtain⟨h1,h2⟩:=RM.1 hi;obtain⟨g1,g2,g3⟩:=h i h1
 have hne:i≠ev.a:=by simpa using h2
 refine⟨g1,by rw[nF];exact g2,?_⟩;unfold fh;cases(ev.kind==3||ev.kind==4)
 ·exact g3
 ·simp only[cond_true];rw[Rt,Sn (by omega),<-Rt];exact g3
theorem QI {k:Nat} {p:List Step× Int× Int× List Event× Int× Int× Int× Int× Int× Int× Int× Int× Int× Int× Int× Int× Int× Int× List Request× List Task× List Model× List Bool× List Request} {now:Int} (h4:p.2.2.1=now) {R:Type} {fin:List Entry× List Event->Option R} {es:List Event} {ids ids':List Int} (ht:lM ids es ids'):∀(pre:List Event) (E:List Entry) (evs:List Event) (kf:Nat),p.2.2.2.1=pre++es->es.length<kf->E.length+10<k->E.length<=100000->(pre++es).length<=100000->evs.length+es.length<=1000000->mD E->Live E ids->
  iter (λu22 n22=>dw k p u22 n22 fin) kf ((pre.length:Int),E,evs)=fin (es.foldl (fh now) E,evs++es):=by
 have hM:=ao
 induction ht with
 |nil=>
  intro pre E evs kf hL hk _ _ _ _ _ _;obtain⟨kf,rfl⟩:∃m,kf=m+1:=⟨kf-1,by simp at hk;omega⟩;rw[aF];show dw k p _ _ fin=_;unfold dw;simp only
  rw[hL,decide_eq_false (by simp),cond_false,RA];rfl
 |other k2 k3 k4 ht ih=>
  rename_i ids0 ids1 e es;intro pre E evs kf hL hk hE1 hE2 hl hv hP hLv;obtain⟨kf,rfl⟩:∃m,kf=m+1:=⟨kf-1,by simp at hk;omega⟩
  have hlen:(pre++e::es).length=pre.length+(es.length+1):=by simp
  simp only[Q4]at hk hv;rw[aF]
  have st:∀next,dw k p ((pre.length:Int),E,evs) next fin=next (((pre++[e]).length:Int),E,evs++[e]):=λnext=>by
   unfold dw;simp only;rw[hL,decide_eq_true (by omega),cond_true,aD,show(pre++e::es)[pre.length]? =some e from by simp,aa,cy (by omega),bJ,if_neg k2,bJ,if_neg k3,bJ,if_neg k4,aH (by omega) (by omega),Q5];rfl
  refine(st _).trans ((ih (pre++[e]) E (evs++[e]) kf (by rw[hL];simp) (by omega) hE1 hE2 (by simpa using hl) (by simp;omega) hP hLv).trans ?_);rw[RQ,show fh now E e=E from by unfold fh;rw[show(e.kind==3)=false from by simpa using k3,show(e.kind==4)=false from by simpa using k4];rfl]
  simp
 |ends kk hm ht ih=>
  rename_i ids0 ids1 e es;intro pre E evs kf hL hk hE1 hE2 hl hv hP hLv;obtain⟨kf,rfl⟩:∃m,kf=m+1:=⟨kf-1,by simp at hk;omega⟩
  have hlen:(pre++e::es).length=pre.length+(es.length+1):=by simp
  simp only[Q4]at hk hv;obtain⟨a1,a2,a3⟩:=hLv _ hm;rw[aF]
  have hap:fh now E e=E.set (e.a-1).toNat (Nv now e (E.getD (e.a-1).toNat noEntry)):=by
   unfold fh
   rcases kk with kk|kk<;>rw[kk]<;>rfl
  have st:∀next,dw k p ((pre.length:Int),E,evs) next fin=next (((pre++[e]).length:Int),fh now E e,evs++[e]):=λnext=>by
   rw[hap];unfold dw;simp only;rw[hL,decide_eq_true (by omega),cond_true,aD,show(pre++e::es)[pre.length]? =some e from by simp,aa,cy (by omega),bJ,if_neg (by rcases kk with kk|kk<;>rw[kk]<;>decide),bJ]
   rcases kk with kk|kk
   ·rw[if_pos kk];refine(CT (ev:=e) (now:=now) (by rfl) (by rfl) (by rfl) h4 E.length 0 E k (by omega) (by omega) hE2 hP).trans ?_;rw[decide_eq_true (by omega),cond_true,aH (by omega) (by omega),Q5];rfl
   ·rw[if_neg (by rw[kk];decide),bJ,if_pos kk];refine(CT (ev:=e) (now:=now) (by rfl) (by rfl) (by rfl) h4 E.length 0 E k (by omega) (by omega) hE2 hP).trans ?_;rw[decide_eq_true (by omega),cond_true,aH (by omega) (by omega),Q5];rfl
  refine(st _).trans ((ih (pre++[e]) (fh now E e) (evs++[e]) kf (by rw[hL];simp) (by omega) (by rw[nF];exact hE1) (by rw[nF];exact hE2) (by simpa using hl) (by simp;omega) (tM hP) (se hLv a1)).trans ?_);rw[RQ];simp
theorem QJ {k:Nat} {p:Int× List Step× Int× Int× List Event× Int× Int× Int× Int× Int× Int× Int× Int× Int× Int× Int× Int× Int× Int× Int× Int× Int× Int× List Int× Int× Int× Int× List Int× List Request× List Task× List Model× List Bool× List Request} {now:Int} (h4:p.1=now) {R:Type} {fin:List Event× List Entry->Option R} {es:List Event} {ids ids':List Int} (ht:lM ids es ids'):∀(pre:List Event) (E:List Entry) (evs:List Event) (kf:Nat),p.2.2.2.2.1=pre++es->p.2.2.2.2.2.1=((pre++es).length:Int)->es.length<kf->E.length<=100000->(pre++es).length<=100000->evs.length+es.length<=1000000->Live E ids->
  iter (λu12 n12=>eg k p u12 n12 fin) kf ((pre.length:Int),evs,E)=fin (evs++es,es.foldl (fh now) E):=by
 have hM:=ao
 induction ht with
 |nil=>
  intro pre E evs kf hL hL2 hk _ _ _ _;obtain⟨kf,rfl⟩:∃m,kf=m+1:=⟨kf-1,by simp at hk;omega⟩;rw[aF];show eg k p _ _ fin=_;unfold eg;simp only
  rw[hL2,decide_eq_false (by simp),cond_false,RA];rfl
 |other k2 k3 k4 ht ih=>
  rename_i ids0 ids1 e es;intro pre E evs kf hL hL2 hk hE2 hl hv hLv;obtain⟨kf,rfl⟩:∃m,kf=m+1:=⟨kf-1,by simp at hk;omega⟩
  have hlen:(pre++e::es).length=pre.length+(es.length+1):=by simp
  simp only[Q4]at hk hv;rw[aF]
  have st:∀next,eg k p ((pre.length:Int),evs,E) next fin=next (((pre++[e]).length:Int),evs++[e],E):=λnext=>by
   unfold eg;simp only;rw[hL2,hL,decide_eq_true (by omega),cond_true,aD,show(pre++e::es)[pre.length]? =some e from by simp,aa,cy (by omega),bJ,if_neg k2,bJ,if_neg k3,bJ,if_neg k4,aH (by omega) (by omega),Q5];rfl
  refine(st _).trans ((ih (pre++[e]) E (evs++[e]) kf (by rw[hL];simp) (by rw[hL2];simp) (by omega) hE2 (by simpa using hl) (by simp;omega) hLv).trans ?_);rw[RQ,show fh now E e=E from by unfold fh;rw[show(e.kind==3)=false from by simpa using k3,show(e.kind==4)=false from by simpa using k4];rfl]
  simp
 |ends kk hm ht ih=>
  rename_i ids0 ids1 e es;intro pre E evs kf hL hL2 hk hE2 hl hv hLv;obtain⟨kf,rfl⟩:∃m,kf=m+1:=⟨kf-1,by simp at hk;omega⟩
  have hlen:(pre++e::es).length=pre.length+(es.length+1):=by simp
  simp only[Q4]at hk hv;obtain⟨a1,a2,a3⟩:=hLv _ hm;rw[aF]
  have hi:(e.a-1).toNat<E.length:=by omega
  have hap:fh now E e=E.set (e.a-1).toNat (Nv now e (E.getD (e.a-1).toNat noEntry)):=by
   unfold fh
   rcases kk with kk|kk<;>rw[kk]<;>rfl
  have st:∀next,eg k p ((pre.length:Int),evs,E) next fin=next (((pre++[e]).length:Int),evs++[e],fh now E e):=λnext=>by
   rw[hap];rw[b8 hi]at a3⊢;unfold eg;simp only;rw[hL2,hL,decide_eq_true (by omega),cond_true,aD,show(pre++e::es)[pre.length]? =some e from by simp,aa,cy (by omega),bJ,if_neg (by rcases kk with kk|kk<;>rw[kk]<;>decide),bJ,aH (n:=e.a-1) (by omega) (by omega),aH (n:=(pre.length:Int)+1) (by omega) (by omega),h4]
   rcases kk with kk|kk
   ·rw[if_pos kk,decide_eq_true (by omega),cond_true,ai hi,aa,RG,decide_eq_true (by omega),cond_true,RO hi,aa,List.set_set,Q5];unfold Nv;rw[kk];rfl
   ·rw[if_neg (by rw[kk];decide),bJ,if_pos kk,decide_eq_true (by omega),cond_true,ai hi,aa,Q5];unfold Nv;rw[kk,a3];rfl
  refine(st _).trans ((ih (pre++[e]) (fh now E e) (evs++[e]) kf (by rw[hL];simp) (by rw[hL2];simp) (by omega) (by rw[nF];exact hE2) (by simpa using hl) (by simp;omega) (se hLv a1)).trans ?_);rw[RQ];simp
end
set_option maxRecDepth 100000
set_option maxHeartbeats 4000000
section
structure GQ (r:Runtime) (E:List Entry) (evs:List Event) (n:Nat):Prop where
 ok:qY r
 next:r.sched.next=(E.length:Int)+1
 L0:mD E
 live:Live E (oV r.ae)
 QK:E.length<=n
 QV:evs.length<=1000*n
theorem lM.sub {ids ids':List Int} {es:List Event} (h:lM ids es ids'):∀i∈ids',i∈ids:=by
 induction h with
 |nil=>exactλi h=>h
 |other _ _ _ _ ih=>exact ih
 |ends _ _ _ ih=>exactλi hi=>(RM.1 (ih i hi)).1
theorem Nw {now:Int} {ids ids':List Int} {es:List Event} (h:lM ids es ids'):∀{E:List Entry},mD E->Live E ids->mD (es.foldl (fh now) E)/\Live (es.foldl (fh now) E) ids'/\(es.foldl (fh now) E).length=E.length:=by
 induction h with
 |nil=>exactλhP hL=>⟨hP,hL,rfl⟩
 |other k2 k3 k4 _ ih=>
  rename_i e es _;intro E hP hL;rw[RQ,show fh now E e=E from by unfold fh;rw[show(e.kind==3)=false from by simpa using k3,show(e.kind==4)=false from by simpa using k4];rfl]
  exact ih hP hL
 |ends kk hm _ ih=>
  intro E hP hL;rw[RQ];obtain⟨g1,g2,g3⟩:=ih (tM (now:=now) hP) (se (now:=now) hL (hL _ hm).1);exact⟨g1,g2,g3.trans (nF _ _ _)⟩
theorem L3 {rs:List Request} {q:Request} (h:∀i∈oV rs,i<q.id):tK (rs++[q]) q.id=(rs.length:Int):=qa (qo:=[]) λv hv=>by
 have:=h v.id (S1.2 ⟨v,hv,rfl⟩);omega
theorem Nx {E:List Entry} {ids:List Int} (h:Live E ids) (y:Entry):Live (E++[y]) ids:=λi hi=>by
 obtain⟨g1,g2,g3⟩:=h i hi;refine⟨g1,by simp;omega,?_⟩;rw[b8 (by omega)]at g3;rw[b8 (by simp;omega),List.getElem_append_left (by omega)];exact g3
theorem H4 {V R:Type} {g:V->(V->Option R)->Option R} {v w:V} {r:Option R} (h1:∀next,g v next=next w) (h2:∀next,g w next=r) {kf:Nat} (hk:2<=kf):iter g kf v=r:=by
 obtain⟨m,rfl⟩:∃m,kf=m+1+1:=⟨kf-2,by omega⟩;rw[aF,h1,aF,h2]
theorem H5 {α:Type} (x:α) (l:List α):idx (x::l) (0:Int)=some x:=rfl
theorem Ny {k:Nat} (hk:20000000<=k) {r r':Runtime} {x:Step} {e:List Event} {E:List Entry} {evs:List Event} {n:Nat} (hx:lN x) (h:GQ r E evs n) (h':qY r') (he:e.length<=1000) (hn:n<=200) (ht:wL r x e r'):
  ∃E1:List Entry,GQ r' E1 (evs++e) (n+1)/\
   (∀{R:Type} {p:List Step× Int× Int× List Event× Int× Int× Int× Int× Int× Int× Int× Int× Int× Int× Int× Int× Int× Int× List Request× List Task× List Model× List Bool× List Request} {fin:List Entry× List Event->Option R},p.2.2.1=r.sched.now->p.2.2.2.1=e->(⟨(⟨p.2.2.2.2.2.2.2.2.2.2.2.1,p.2.2.2.2.2.2.2.2.2.2.2.2.1,p.2.2.2.2.2.2.2.2.2.2.2.2.2.1,p.2.2.2.2.2.2.2.2.2.2.2.2.2.2.2.2.2.2.2.1,p.2.2.2.2.2.2.2.2.2.2.2.2.2.2.1,p.2.2.2.2.2.2.2.2.2.2.2.2.2.2.2.1,p.2.2.2.2.2.2.2.2.2.2.2.2.2.2.2.2.1,p.2.2.2.2.2.2.2.2.2.2.2.2.2.2.2.2.2.1⟩:aj),p.2.2.2.2.2.2.2.2.2.2.2.2.2.2.2.2.2.2.2.2.1,p.2.2.2.2.2.2.2.2.2.2.2.2.2.2.2.2.2.2.2.2.2.1,p.2.2.2.2.2.2.2.2.2.2.2.2.2.2.2.2.2.2.2.2.2.2⟩:Runtime)=r'->iter (λu22 n22=>dw k p u22 n22 fin) k ((0:Int),E,evs)=fin (E1,evs++e))/\
   (∀{R:Type} {p:Int× List Step× Int× Int× List Event× Int× Int× Int× Int× Int× Int× Int× Int× Int× Int× Int× Int× Int× Int× Int× Int× Int× Int× List Int× Int× Int× Int× List Int× List Request× List Task× List Model× List Bool× List Request} {fin:List Event× List Entry->Option R},p.1=r.sched.now->p.2.2.2.2.1=e->p.2.2.2.2.2.1=(e.length:Int)->p.2.2.2.2.2.2.2.2.2.2.2.2.2.2.2.2.2.2.2.2.2.1=x.a->p.2.2.2.2.2.2.2.2.2.2.2.2.2.2.2.2.2.2.2.2.2.2.2.2.2.2.2.2.2.2.1=r'.ak->(⟨(⟨p.2.2.2.2.2.2.2.2.2.2.2.2.2.2.2.2.2.2.2.2.2.2.2.2.1,p.2.2.2.2.2.2.2.2.2.2.2.2.2.2.2.2.2.2.2.2.2.2.2.2.2.1,p.2.2.2.2.2.2.2.2.2.2.2.2.2.2.2.2.2.2.2.2.2.2.2.2.2.2.1⟩:Shape),p.2.2.2.2.2.2.2.2.2.2.2.2.2.2.2.2.2.2.2.2.2.2.2.2.2.2.2.1⟩:aA)=x.input->iter (λu12 n12=>eg k p u12 n12 fin) k ((0:Int),evs,E)=fin (evs++e,E1)):=by
 have hM:=ao;have hel:=h.QK;have hvl:=h.QV
 rcases ht with⟨ht,hnx⟩|⟨due,rfl,hnx,hrq,hms,xa0,xa1⟩
 ·obtain⟨g1,g2,g3⟩:=Nw (now:=r.sched.now) ht h.L0 h.live;refine⟨e.foldl (fh r.sched.now) E,⟨h',by rw[hnx,h.next,g3],g1,g2,by omega,by rw[Q5];omega⟩,λ{R} {p} {fin} q1 q2 q3=>?_,λ{R} {p} {fin} q1 q2 q3 q4 q5 q6=>?_⟩
  ·exact QI q1 ht [] E evs k q2 (by omega) (by omega) (by omega) (by simpa using(show e.length<=100000 by omega)) (by omega) h.L0 h.live
  ·exact QJ q1 ht [] E evs k q2 q3 (by omega) (by omega) (by simpa using(show e.length<=100000 by omega)) (by omega) h.live
 ·have hmo:=h.ok.ml
  have hi:x.a.toNat<r.ak.length:=by omega
  have hmt:=h.ok.mod _ (Q7 hi);have hxi:=hx.input;have hxt:x.input.tot=x.input.data.length:=rfl;refine⟨E++[⟨r.sched.next,r.ak.getD x.a.toNat dt,x.input,r.sched.now,due,-1,false⟩],⟨h',by rw[hnx,h.next];simp,h.L0.app (by show r.sched.next=_;exact h.next),λi hi=>?_,by simp;omega,by simp;omega⟩,λ{R} {p} {fin} q1 q2 q3=>?_,λ{R} {p} {fin} q1 q2 q3 q4 q5 q6=>?_⟩
  ·rw[hrq]at hi;unfold oV at hi;rw[R2]at hi
   rcases Sg.1 hi with hi|hi
   ·exact Nx h.live _ i hi
   ·obtain rfl:i=r.sched.next:=by simpa using hi
    have hnext:=h.next;refine⟨by omega,by simp;omega,?_⟩;rw[show(r.sched.next-1).toNat=E.length from by omega,b8 (by simp),List.getElem_append_right (Rd _)];simp
  ·refine H4 (w:=((1:Int),E++[⟨r.sched.next,r.ak.getD x.a.toNat dt,x.input,r.sched.now,due,-1,false⟩],evs++[⟨2,r.sched.next,due,zi⟩])) (λnext=>?_) (λnext=>?_) (by omega)
   ·have hr:=congrArg Runtime.ae q3;simp only at hr;have hlt:∀i∈oV r.ae,i<r.sched.next:=λi hi=>(h.ok.lt i hi).2;have hq:=h.ok.NW;have hfr:=L3 (q:=⟨r.sched.next,x.a,⟨r.ak.getD x.a.toNat dt,0,x.input,0⟩,due⟩) hlt;unfold dw;simp only;rw[q2,q3,hr,hrq,decide_eq_true (by simp),cond_true,H5,aa,cy (by omega),bJ,if_pos rfl,qX (by rw[hrq];simp;omega) (by rw[hrq];simp;omega),aa,hrq];simp only;rw[hfr,decide_eq_true (by simp;omega),cond_true,QY,QZ (Rd _),Nat.sub_self,SN,aa,b8 hi,pR (by show r.ak[x.a.toNat].tot<k;omega) (by show r.ak[x.a.toNat].tot<=aU;omega),aa,pO (by show x.input.data.length<k;omega) (by show x.input.data.length<=aU;omega),aa,cy (by omega),q1];rfl
   ·unfold dw;simp only;rw[q2,decide_eq_false (by simp),cond_false]
  ·refine H4 (w:=((1:Int),evs++[⟨2,r.sched.next,due,zi⟩],E++[⟨r.sched.next,r.ak.getD x.a.toNat dt,x.input,r.sched.now,due,-1,false⟩])) (λnext=>?_) (λnext=>?_) (by omega)
   ·unfold eg;simp only;rw[q2,q3,q4,q5,q6,decide_eq_true (by simp),cond_true,H5,aa,cy (by omega),bJ,if_pos rfl,hms,decide_eq_true (by omega),cond_true,ai hi,aa,b8 hi,nA (by omega) (by omega),aa,my (by omega),aa,cy (by omega),q1];rfl
   ·unfold eg;simp only;rw[q3,decide_eq_false (by simp),cond_false]
end
set_option maxRecDepth 100000
set_option maxHeartbeats 4000000
section
theorem Bi {k:Nat} (hk:20000000<=k) {steps:List Step} (hs:∀x∈steps,lN x) (hl:steps.length<=200) {a1 a2 a3 a4 a5 a6 a7 b1 b2 b3 b4 b5 b6 b7:Int}:∀(qs pre:List Step) (r:Runtime) (E:List Entry) (evs:List Event),steps=pre++qs->GQ r E evs pre.length->
    ∃ (r' : Runtime) (E' : List Entry) (evs' : List Event), GQ r' E' evs' steps.length /\
      (∀{R:Type} {fin:_->Option R} {kf:Nat},qs.length<kf->iter (λu24 n24=>gY k (steps,a1,a2,a3,a4,a5,a6,a7,[]) u24 n24 fin) kf ((pre.length:Int),r.sched.now,r.sched.ag,r.sched.age,r.sched.run,r.sched.left,r.sched.turns,r.sched.next,E,evs,r.sched.tasks,r.ak,r.al,r.ae)=fin (r'.sched.now,r'.sched.ag,r'.sched.age,r'.sched.run,r'.sched.left,r'.sched.turns,r'.sched.next,E',evs',r'.sched.tasks,r'.ak,r'.al,r'.ae))/\
      (∀{R:Type} {fin:_->Option R} {kf:Nat},qs.length<kf->iter (λu14 n14=>jl k (steps,(steps.length:Int),b1,b2,b3,b4,b5,b6,b7,[]) u14 n14 fin) kf ((pre.length:Int),r.sched.now,r.sched.ag,r.sched.age,r.sched.run,r.sched.left,r.sched.turns,r.sched.next,evs,E,r.sched.tasks,r.ak,r.al,r.ae)=fin (r'.sched.now,r'.sched.ag,r'.sched.age,r'.sched.run,r'.sched.left,r'.sched.turns,r'.sched.next,evs',E',r'.sched.tasks,r'.ak,r'.al,r'.ae))
  | [], pre, r, E, evs, hp, h => by
    have hlen:steps.length=pre.length:=by rw[hp];simp
    refine⟨r,E,evs,by rw[hlen];exact h,λ{R} {fin} {kf} hkf=>?_,λ{R} {fin} {kf} hkf=>?_⟩
    · obtain⟨kf,rfl⟩:∃m,kf=m+1:=⟨kf-1,by simp at hkf;omega⟩;rw[aF];show gY k _ _ _ fin=_;unfold gY;simp only;rw[decide_eq_false (by omega)];rfl
    · obtain⟨kf,rfl⟩:∃m,kf=m+1:=⟨kf-1,by simp at hkf;omega⟩;rw[aF];show jl k _ _ _ fin=_;unfold jl;simp only
      rw[decide_eq_false (by omega)];rfl
  | x :: qs, pre, r, E, evs, hp, h => by
    have hM:=ao
    have hlen:steps.length=pre.length+(qs.length+1):=by rw[hp];simp
    have hat:idx steps (pre.length:Int)=some x:=by rw[aD,hp];simp
    have hx:=hs x (by rw[hp];simp);obtain⟨e,r',h',he,ht,e1,e2⟩:=Pa hk h.ok hx
    have hw:IntKind.i64.wrap ((pre.length:Int)+1)=((pre++[x]).length:Int):=by rw[aH (by omega) (by omega),Q5];rfl
    obtain⟨E1,hst,hS,hI⟩:=Ny hk hx h h' he (by omega) ht;obtain⟨r2,E2,evs2,g1,g2,g3⟩:=Bi hk hs hl (a1:=a1) (a2:=a2) (a3:=a3) (a4:=a4) (a5:=a5) (a6:=a6) (a7:=a7) (b1:=b1) (b2:=b2) (b3:=b3) (b4:=b4) (b5:=b5) (b6:=b6) (b7:=b7) qs (pre++[x]) r' E1 (evs++e) (by rw[hp];simp) (by rw[Q5];exact hst);refine⟨r2,E2,evs2,g1,λ{R} {fin} {kf} hkf=>?_,λ{R} {fin} {kf} hkf=>?_⟩
    · obtain⟨kf,rfl⟩:∃m,kf=m+1:=⟨kf-1,by simp at hkf;omega⟩;rw[aF,<-g2 (fin:=fin) (kf:=kf) (by simp at hkf;omega)]
      have st:∀next,gY k (steps,a1,a2,a3,a4,a5,a6,a7,[]) ((pre.length:Int),r.sched.now,r.sched.ag,r.sched.age,r.sched.run,r.sched.left,r.sched.turns,r.sched.next,E,evs,r.sched.tasks,r.ak,r.al,r.ae) next fin=next (((pre++[x]).length:Int),r'.sched.now,r'.sched.ag,r'.sched.age,r'.sched.run,r'.sched.left,r'.sched.turns,r'.sched.next,E1,evs++e,r'.sched.tasks,r'.ak,r'.al,r'.ae):=λnext=>by
        unfold gY;simp only;rw[decide_eq_true (by omega),cond_true,hat,aa,show(⟨⟨r.sched.now,r.sched.ag,r.sched.age,r.sched.tasks,r.sched.run,r.sched.left,r.sched.turns,r.sched.next⟩,r.ak,r.al,r.ae⟩:Runtime)=r from rfl,e1,aa,hw];exact hS rfl rfl rfl
      exact st _
    · obtain⟨kf,rfl⟩:∃m,kf=m+1:=⟨kf-1,by simp at hkf;omega⟩;rw[aF,<-g3 (fin:=fin) (kf:=kf) (by simp at hkf;omega)]
      have st:∀next,jl k (steps,(steps.length:Int),b1,b2,b3,b4,b5,b6,b7,[]) ((pre.length:Int),r.sched.now,r.sched.ag,r.sched.age,r.sched.run,r.sched.left,r.sched.turns,r.sched.next,evs,E,r.sched.tasks,r.ak,r.al,r.ae) next fin=next (((pre++[x]).length:Int),r'.sched.now,r'.sched.ag,r'.sched.age,r'.sched.run,r'.sched.left,r'.sched.turns,r'.sched.next,evs++e,E1,r'.sched.tasks,r'.ak,r'.al,r'.ae):=λnext=>by
        unfold jl;simp only;rw[decide_eq_true (by omega),cond_true,hat,aa,show(⟨⟨r.sched.now,r.sched.ag,r.sched.age,r.sched.tasks,r.sched.run,r.sched.left,r.sched.turns,r.sched.next⟩,r.ak,r.al,r.ae⟩:Runtime)=r from rfl,e2,aa,hw];exact hI rfl rfl rfl rfl rfl rfl
      exact st _
theorem Qc {a b:Int} (h:bu (Bd a b)=true):GQ (rt0 (Bd a b)) [] [] 0:=⟨Qb h,rfl,λi hi=>absurd hi (by simp),(λi hi=>nomatch hi),Rd _,Rd _⟩
theorem JA {k:Nat} (hk:20000000<=k) {a b:Int} {xs:List Step} (hs:∀x∈xs,lN x):
  (oz k a b xs=some ([],[],(oz k a b xs).elim Qa (λv=>v.2.2.1),false)/\uO k a b xs=some (Qa,[],[],false)/\(oz k a b xs).isSome)\/
  ∃(r:Runtime) (E:List Entry) (evs:List Event),GQ r E evs xs.length/\xs.length<=200/\oz k a b xs=some (E,evs,r,true)/\uO k a b xs=some (r,evs,E,true):=by
 unfold oz uO;rw[zp (by omega),zq (by omega),aa,aa];cases c:bu (Bd a b)
 ·exact .inl ⟨rfl,rfl,rfl⟩
 simp only[cond_true,Q3,cond_false];by_cases c2:(xs.length:Int)>200
 ·rw[decide_eq_true c2];exact .inl ⟨rfl,rfl,rfl⟩
 rw[decide_eq_false c2];simp only[cond_false];obtain⟨r,E,evs,g1,g2,g3⟩:=Bi hk hs (by omega) (a1:=0) (a2:=0) (a3:=0) (a4:=0) (a5:=0) (a6:=0) (a7:=0) (b1:=0) (b2:=0) (b3:=0) (b4:=0) (b5:=0) (b6:=0) (b7:=0) xs [] (rt0 (Bd a b)) [] [] rfl (Qc c);exact .inr ⟨r,E,evs,g1,by omega,g2 (by omega),g3 (by omega)⟩
end
set_option maxRecDepth 100000
set_option maxHeartbeats 4000000
section
def waits (E:List Entry):List Int:=(E.filter λy=>y.done).map λy=>IntKind.i64.wrap (y.end_-y.at_)
end
set_option maxRecDepth 100000
set_option maxHeartbeats 4000000
section
def seg (lo hi a b:Int):Int:=if(if hi<b then hi else b)>(if lo>a then lo else a)then(if hi<b then hi else b)-(if lo>a then lo else a)else 0
theorem Nz {lo hi a b:Int} (h:a<b):seg lo hi a b=(if a+1>lo/\a+1<=hi then 1 else 0)+seg lo hi (a+1) b:=by
 unfold seg
 (repeat' split)<;>omega
theorem H6 (lo hi a:Int):seg lo hi a a=0:=by
 unfold seg
 (repeat' split)<;>omega
theorem NX (lo hi:Int) {a b:Int} (h:a<=b):0<=seg lo hi a b/\seg lo hi a b<=b-a:=by
 unfold seg
 (repeat' split)<;>omega
theorem H7 {R:Type} {k:Nat} {steps:List Step} {x:Step} {lo hi i:Int} (hx:idx steps i=some x) {fin:Int× Int->Option R}:∀(n:Nat) (c now j:Int) (kf:Nat),n<kf->j+n=takes x->0<=j->0<=c->c+n<=1000000->0<=now->now+n<=1000000->
  iter (λu5 n5=>cK k (steps,lo,hi,i) u5 n5 fin) kf (c,now,j)=fin (c+cond (x.kind==5) (seg lo hi now (now+n)) 0,now+n)
 |_,_,_,_,0,h,_,_,_,_,_,_=>by omega
 |0,c,now,j,kf+1,_,hj,_,_,_,_,_=>by
  rw[aF];show cK k _ _ _ fin=_;unfold cK;simp only;rw[hx,aa,tx,aa,decide_eq_false (by omega),cond_false]
  have e:now+((0:Nat):Int)=now:=by omega
  rw[e,H6]
  cases(x.kind==5)<;>simp
 |n+1,c,now,j,kf+1,hk,hj,h0,c0,c1,n0,n1=>by
  have hb:=Cm x;rw[aF]
  have e:now+((n+1:Nat):Int)=now+1+(n:Int):=by omega
  have st:∀next,cK k (steps,lo,hi,i) (c,now,j) next fin=next (c+cond (x.kind==5) (if now+1>lo/\now+1<=hi then 1 else 0) 0,now+1,j+1):=λnext=>by
   unfold cK;simp only;rw[hx,aa,tx,aa,decide_eq_true (by omega),cond_true,aa,aH (n:=now+1) (by omega) (by omega),aH (n:=j+1) (by omega) (by omega),aH (n:=c+1) (by omega) (by omega)];cases(x.kind==5)
   ·simp
   ·by_cases d1:now+1>lo
    ·by_cases d2:now+1<=hi
     ·simp[d1,d2]
     ·simp[d1,d2]
    ·simp[d1]
  refine(st _).trans ?_
  have hc:0<=cond (x.kind==5) (if now+1>lo/\now+1<=hi then(1:Int)else 0) 0/\cond (x.kind==5) (if now+1>lo/\now+1<=hi then(1:Int)else 0) 0<=1:=by
   cases(x.kind==5)
   ·simp only[cond_false];omega
   ·simp only[cond_true];split<;>omega
  refine(H7 hx n _ (now+1) (j+1) kf (by omega) (by omega) (by omega) (by omega) (by omega) (by omega) (by omega)).trans ?_;rw[e,Nz (show now<now+1+(n:Int) by omega)];cases(x.kind==5)
  ·simp
  ·simp only[cond_true];rw[Int.add_assoc]
def iP (lo hi:Int):Int->List Step->Int
 |_,[]=>0
 |now,x::l=>cond (x.kind==5) (seg lo hi now (now+takes x)) 0+iP lo hi (now+takes x) l
theorem vJ {R:Type} {k:Nat} (hk:1000<k) {steps:List Step} (hl:steps.length<=1000) {lo hi:Int} {fin:Int->Option R}:∀(qs pre:List Step) (c now:Int) (kf:Nat),steps=pre++qs->qs.length<kf->0<=c->c<=200*pre.length->0<=now->now<=200*pre.length->
  iter (λu7 n7=>cL k (steps,lo,hi) u7 n7 fin) kf (c,now,(pre.length:Int))=fin (c+iP lo hi now qs)
 |_,_,_,_,0,_,h,_,_,_,_=>by omega
 |[],pre,c,now,kf+1,hp,_,_,_,_,_=>by
  have hlen:steps.length=pre.length:=by rw[hp];simp
  rw[aF];show cL k _ _ _ fin=_;unfold cL;simp only;rw[decide_eq_false (by omega),cond_false];unfold iP
  rw[S3]
 |x::qs,pre,c,now,kf+1,hp,hkf,c0,c1,n0,n1=>by
  have hlen:steps.length=pre.length+(qs.length+1):=by rw[hp];simp
  simp only[Q4]at hkf;have hb:=Cm x
  have hat:idx steps (pre.length:Int)=some x:=by rw[aD,hp];simp
  have hs:=NX lo hi (show now<=now+takes x by omega)
  have hcc:0<=cond (x.kind==5) (seg lo hi now (now+takes x)) 0/\cond (x.kind==5) (seg lo hi now (now+takes x)) 0<=takes x:=by
   cases(x.kind==5)
   ·simp only[cond_false];omega
   ·simp only[cond_true];omega
  rw[aF]
  have st:∀next,cL k (steps,lo,hi) (c,now,(pre.length:Int)) next fin=next (c+cond (x.kind==5) (seg lo hi now (now+takes x)) 0,now+takes x,((pre++[x]).length:Int)):=λnext=>by
   unfold cL;simp only;rw[decide_eq_true (by omega),cond_true];refine(H7 hat (takes x).toNat c now 0 k (by omega) (by omega) (by omega) c0 (by omega) n0 (by omega)).trans ?_;rw[show(((takes x).toNat:Nat):Int)=takes x from by omega,aH (by omega) (by omega),Q5];rfl
  refine(st _).trans ((vJ hk hl qs (pre++[x]) _ (now+takes x) kf (by rw[hp];simp) (by omega) (by omega) (by rw[Q5];simp only[Q4,Rs];omega) (by omega) (by rw[Q5];simp only[Q4,Rs];omega)).trans ?_);rw[iP,Int.add_assoc]
theorem vK {R:Type} {k:Nat} {steps:List Step} (hl:steps.length<=1000) {lo hi:Int} {fin:Int->Option R}:∀(qs pre:List Step) (c now:Int) (kf:Nat),steps=pre++qs->qs.length<kf->0<=c->c<=200*pre.length->0<=now->now<=200*pre.length->
  iter (λu4 n4=>cM k (lo,hi,steps,(steps.length:Int)) u4 n4 fin) kf (c,now,(pre.length:Int))=fin (c+iP lo hi now qs)
 |_,_,_,_,0,_,h,_,_,_,_=>by omega
 |[],pre,c,now,kf+1,hp,_,_,_,_,_=>by
  have hlen:steps.length=pre.length:=by rw[hp];simp
  rw[aF];show cM k _ _ _ fin=_;unfold cM;simp only;rw[decide_eq_false (by omega),cond_false];unfold iP
  rw[S3]
 |x::qs,pre,c,now,kf+1,hp,hkf,c0,c1,n0,n1=>by
  have hlen:steps.length=pre.length+(qs.length+1):=by rw[hp];simp
  simp only[Q4]at hkf;have hb:=Cm x
  have hat:idx steps (pre.length:Int)=some x:=by rw[aD,hp];simp
  have hs:=NX lo hi (show now<=now+takes x by omega)
  have hcc:0<=cond (x.kind==5) (seg lo hi now (now+takes x)) 0/\cond (x.kind==5) (seg lo hi now (now+takes x)) 0<=takes x:=by
   cases(x.kind==5)
   ·simp only[cond_false];omega
   ·simp only[cond_true];omega
  rw[aF]
  have st:∀next,cM k (lo,hi,steps,(steps.length:Int)) (c,now,(pre.length:Int)) next fin=next (c+cond (x.kind==5) (seg lo hi now (now+takes x)) 0,now+takes x,((pre++[x]).length:Int)):=λnext=>by
   unfold cM;simp only;rw[decide_eq_true (by omega),cond_true,hat,aa,vS,aa,aH (n:=(pre.length:Int)+1) (by omega) (by omega),Q5];cases ht:(inB x.kind 4 5&&inB x.a 0 200)
   ·have hz:takes x=0:=by unfold takes;rw[ht];rfl
    rw[hz,S3,H6];cases(x.kind==5)<;>simp
   ·have hz:takes x=x.a:=by unfold takes;rw[ht];rfl
    rw[hz]at hb hs hcc⊢;rw[aH (n:=now+x.a) (by omega) (by omega)];simp only[Q3,cond_false];cases(x.kind==5)
    ·simp only[cond_false,S3];rfl
    ·simp only[cond_true];unfold seg at hs⊢;by_cases d:(if hi<now+x.a then hi else now+x.a)>(if lo>now then lo else now)
     ·rw[if_pos d]at hs⊢;rw[decide_eq_true d,cond_true,aH (n:=(if hi<now+x.a then hi else now+x.a)-(if lo>now then lo else now)) (by omega) (by omega),aH (by omega) (by omega)];rfl
     ·rw[if_neg d,decide_eq_false d,cond_false,S3];rfl
  refine(st _).trans ((vK hl qs (pre++[x]) _ (now+takes x) kf (by rw[hp];simp) (by omega) (by omega) (by rw[Q5];simp only[Q4,Rs];omega) (by omega) (by rw[Q5];simp only[Q4,Rs];omega)).trans ?_);rw[iP,Int.add_assoc]
theorem vL {k:Nat} {steps:List Step} (hk:steps.length+1000<k) (hl:steps.length<=1000) (lo hi:Int):fE k steps lo hi=some (iP lo hi 0 steps)/\fF k steps lo hi=some (iP lo hi 0 steps):=by
 unfold fE fF;have h1:=vJ (k:=k) (by omega) hl (lo:=lo) (hi:=hi) (fin:=some) steps [] 0 0 k rfl (by omega) (by omega) (by simp) (by omega) (by simp);have h2:=vK (k:=k) hl (lo:=lo) (hi:=hi) (fin:=some) steps [] 0 0 k rfl (by omega) (by omega) (by simp) (by omega) (by simp);rw[Int.zero_add]at h1 h2;exact⟨h1,h2⟩
end
set_option maxRecDepth 100000
set_option maxHeartbeats 4000000
section
def mS (ag:Int) (steps:List Step) (now:Int) (y:Entry):Bool:=(y.done||decide (y.end_<0))&&(decide (y.due<=now)&&decide (iP y.at_ y.due 0 steps<=ag))
theorem vY {k:Nat} {steps:List Step} (hk:steps.length+1000<k) (hl:steps.length<=1000) (y:Entry) (ag now:Int):kQ k y ag steps now=some (mS ag steps now y):=by
 unfold kQ mS;rw[(vL hk hl y.at_ y.due).1];simp only[aa];cases y.done<;>cases decide (y.end_<0)<;>cases decide (y.due<=now)<;>rfl
theorem CU {k:Nat} {a b:Int} {xs:List Step} (hk:20000000<=k) (hs:∀x∈xs,lN x) {r:Runtime} {E:List Entry} {evs:List Event} (hst:GQ r E evs xs.length) (hl:xs.length<=200) (h:uO k a b xs=some (r,evs,E,true)):
  nv k a b xs=some (E.filter (mS a xs r.sched.now),true):=by
 have hM:=ao;have hE:=hst.QK;unfold nv;rw[h,aa]
 have e:E.filter (mS a xs r.sched.now)=(E.filter (mS a xs r.sched.now)).map id:=by rw[List.map_id]
 rw[e];refine lL E (mS a xs r.sched.now) id (g:=λu6 n6=>fv k _ u6 n6 (λy5=>some (y5,true))) (fin:=λy=>some (y,true)) (λi ys hi next hy=>?_) (λys next=>?_) (by omega)
 ·have hd:decide (0<=(i:Int)/\(i:Int)<(E.length:Int))=true:=decide_eq_true (by omega);simp only[fv,hd,cond_true,QY,ai hi,aa];rw[decide_eq_true (by omega),cond_true,(vL (k:=k) (by omega) (by omega) E[i].at_ E[i].due).2,aa,cy (by omega),au hi (by omega)];unfold mS;by_cases c1:E[i].end_<0
  ·rw[decide_eq_false (show¬E[i].end_>=0 by omega),decide_eq_true c1];cases E[i].done<;>cases decide (E[i].due<=r.sched.now)<;>cases decide (iP E[i].at_ E[i].due 0 xs<=a)<;>rfl
  ·rw[decide_eq_true (show E[i].end_>=0 by omega),decide_eq_false c1];cases E[i].done<;>cases decide (E[i].due<=r.sched.now)<;>cases decide (iP E[i].at_ E[i].due 0 xs<=a)<;>rfl
 ·simp only[fv];rw[ab,if_neg (by omega)]
end
set_option maxRecDepth 100000
set_option maxHeartbeats 4000000
section
def CV (y:Entry):Bool:=y.done&&decide (y.end_<=y.due)
theorem vf {k:Nat} (hk:20000000<=k) {a b:Int} {xs:List Step} (hs:∀x∈xs,lN x):∃v:Bool,jB k a b xs=some v/\jC k a b xs=some v:=by
  have hM:=ao;unfold jB jC
  rcases JA hk hs (a:=a) (b:=b)with⟨h1,h2,_⟩|⟨r,E,evs,hst,hl,h1,h2⟩
  · refine⟨false,by rw[h1];rfl,?_⟩;unfold nv;rw[h2,aa];obtain⟨k,rfl⟩:∃m,k=m+1:=⟨k-1,by omega⟩;rw[aF];show(fv (k+1) _ _ _ _).bind _=_;simp only[fv,Qa];rw[decide_eq_false (by simp),cond_false,aa,aF];show dg (k+1) _ _ _ _ _=_;simp only[dg];rw[decide_eq_false (by simp),cond_false]
  · have hE:=hst.QK;have hf:=Ss (mS a xs r.sched.now) E;refine⟨(E.filter (mS a xs r.sched.now)).all CV,?_,?_⟩
    · rw [h1, aa];simp only[Q3,cond_false];refine(ky E (λy=>!mS a xs r.sched.now y||CV y) (g:=λu9 n9=>fc k _ u9 n9 (λy7=>some true) (λy8=>some y8)) (yes:=some true) (no:=some false) (λi hi next=>?_) (λnext=>?_) (by omega)).trans ?_
      · have hd:decide (0<=(i:Int)/\(i:Int)<(E.length:Int))=true:=decide_eq_true (by omega);simp only[fc,hd,cond_true,QY,ai hi,aa,vY (k:=k) (steps:=xs) (by omega) (by omega)];rw[decide_eq_true (by omega),cond_true,au hi (by omega)];unfold CV;by_cases d:E[i].end_<=E[i].due
        · rw[decide_eq_true d,decide_eq_false (show¬E[i].end_>E[i].due by omega)];cases mS a xs r.sched.now E[i]<;>cases E[i].done<;>rfl
        · rw[decide_eq_false d,decide_eq_true (show E[i].end_>E[i].due by omega)];cases mS a xs r.sched.now E[i]<;>cases E[i].done<;>rfl
      · simp only[fc];rw[ab,if_neg (by omega)]
      · rw[List.all_filter];have:(λy=>!mS a xs r.sched.now y||CV y)=λy=>!mS a xs r.sched.now y||CV y:=rfl;cases hv:E.all λy=>!mS a xs r.sched.now y||CV y<;>simp_all
    · rw [CU hk hs hst hl h2, aa];refine(ky (E.filter (mS a xs r.sched.now)) CV (g:=λu5 n5=>dg k (true,((E.filter (mS a xs r.sched.now)).length:Int),E.filter (mS a xs r.sched.now)) u5 n5 (λy3=>some true) (λy4=>some y4)) (yes:=some true) (no:=some false) (λi hi next=>?_) (λnext=>?_) (by omega)).trans ?_
      · have hd:decide (0<=(i:Int)/\(i:Int)<((E.filter (mS a xs r.sched.now)).length:Int))=true:=decide_eq_true (by omega);simp only[dg,hd,cond_true,QY,ai hi,aa];rw[decide_eq_true (by omega),cond_true,au hi (by omega)];unfold CV;generalize (E.filter (mS a xs r.sched.now))[i]=y;by_cases d:y.end_<=y.due
        · rw[decide_eq_true d,decide_eq_false (show¬y.end_>y.due by omega)];cases y.done<;>rfl
        · rw[decide_eq_false d,decide_eq_true (show y.end_>y.due by omega)];cases y.done<;>rfl
      · simp only[dg];rw[ab,if_neg (by omega)]
      · cases(E.filter (mS a xs r.sched.now)).all CV<;>rfl
theorem nG (a b:Int) (xs:List Step) (ha:okI a) (hb:okI b) (hx:okS Step.Ok xs):∃k,cR k a b xs=some true:=by
 suffices h:∀kk,fJ Step.tot xs+20000000<=kk->cR kk a b xs=some true from⟨_,h _ (Rd _)⟩
 intro kk hkk;have hM:=ao;have hlen:=bw Step.tot xs;unfold cR;rw[Gk (n:=1048576) hx (by omega) (by omega) (by omega),aa,ab];by_cases c:(1048576:Int)<(fJ Step.tot xs:Int)
 ·simp only[if_pos c];rfl
 simp only[if_neg c];rw[if_neg (by omega)]
 have hk:fJ Step.tot xs<kk:=by omega
 have hN:fJ Step.tot xs<=aU:=by omega
 obtain⟨v,q1,q2⟩:=vf (k:=kk) (by omega) (a:=a) (b:=b) (GP hx (by omega));simp only[Gl hk hN,aa,q1,q2,Gm (ys:=xs) hk hN,decide_true,cond_not,cond_true];cases v<;>rfl
end
end Go.Proofs.Ev
