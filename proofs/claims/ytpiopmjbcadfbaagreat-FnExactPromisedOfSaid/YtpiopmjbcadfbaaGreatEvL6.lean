/- Typed functions and what holds of them: part 6. -/
import Derived.Test.YtpiopmjbcadfbaaGreatEvL5
set_option linter.unusedVariables false
set_option linter.unusedSimpArgs false
set_option linter.unusedSectionVars false
namespace Go.Proofs.Ev
set_option maxRecDepth 100000
set_option maxHeartbeats 4000000
section
theorem Io {k:Nat} (hk:20000000<=k) {st:Bool} {ms:List Model} {ls:List Bool} {a:Int} (ha:a<=200) {q1 q2 q4 q5 q6 kd p9:Int} {q3 q7:List Int} (hkd:(kd==5)=st):∀(n:Nat) (i:Int) (s:aj) (rs:List Request) (e:List Event),a=i+n->0<=i->rr ⟨s,ms,ls,rs⟩->e.length+n<=1000->
  ∃(e':List Event) (s':aj) (rs':List Request),rr ⟨s',ms,ls,rs'⟩/\e'.length<=e.length+n/\(∃d,e'=e++d/\lR (pd rs) d (pd rs'))/\(s'.ag=s.ag/\s'.age=s.age/\s'.next=s.next)/\
   (s.now=1000000->e'=e/\s'=s/\rs'=rs)/\
   (∀(R:Type) (fin:_->Option R) (kf:Nat),n<kf->iter (λu10 n10=>da k (st,q1,a,q2,q3,q4,q5,q6,q7,ms,ls) u10 n10 fin) kf (i,s.now,s.ag,s.age,s.run,s.left,s.turns,s.next,e,s.tasks,rs)=fin (e',s'.now,s'.ag,s'.age,s'.run,s'.left,s'.turns,s'.next,s'.tasks,rs'))/\
   (∀(R:Type) (fin:_->Option R) (kf:Nat),n<kf->iter (λu9 n9=>bj k (a,s.ag,s.age,s.next,kd,p9,q2,q3,q4,q5,q6,q7,ms,ls) u9 n9 fin) kf (i,s.now,s.run,s.left,s.turns,e,s.tasks,rs)=fin (e',s'.now,s'.run,s'.left,s'.turns,s'.tasks,rs'))
 |0,i,s,rs,e,hi,h0,h,he=>by
  refine⟨e,s,rs,h,Rw _,⟨[],by simp,.nil⟩,⟨rfl,rfl,rfl⟩,λ_=>⟨rfl,rfl,rfl⟩,λR fin kf hkf=>?_,λR fin kf hkf=>?_⟩
  ·obtain⟨kf,rfl⟩:∃m,kf=m+1:=⟨kf-1,by omega⟩;rw[aC];show da k _ _ _ fin=_;unfold da;simp only;rw[decide_eq_false (by omega)];rfl
  ·obtain⟨kf,rfl⟩:∃m,kf=m+1:=⟨kf-1,by omega⟩;rw[aC];show bj k _ _ _ fin=_;unfold bj;simp only
   rw[decide_eq_false (by omega)];rfl
 |n+1,i,s,rs,e,hi,h0,h,he=>by
  obtain⟨e1,s1,r1,g1,g2,⟨d1,dd1,td1⟩,g3,g4,g5,g6⟩:=Mg (e:=e) hk h (by omega) h0 (show i<a by omega) ha (q1:=q1) (q2:=q2) (q4:=q4) (q5:=q5) (q6:=q6) (kd:=kd) (p9:=p9) (q3:=q3) (q7:=q7) hkd;obtain⟨e2,s2,r2,f1,f2,⟨d2,dd2,td2⟩,f3,f4,f5,f6⟩:=Io hk (ms:=ms) (ls:=ls) ha (q1:=q1) (q2:=q2) (q4:=q4) (q5:=q5) (q6:=q6) (kd:=kd) (p9:=p9) (q3:=q3) (q7:=q7) hkd n (i+1) s1 r1 e1 (by omega) (by omega) g1 (by omega);refine⟨e2,s2,r2,f1,by omega,⟨d1++d2,by rw[dd2,dd1,RC],td1.app td2⟩,⟨f3.1.trans g3.1,f3.2.1.trans g3.2.1,f3.2.2.trans g3.2.2⟩,λhn=>?_,λR fin kf hkf=>?_,λR fin kf hkf=>?_⟩
  ·obtain⟨x1,x2,x3⟩:=g5 hn;subst x1 x2 x3;exact f4 hn
  ·obtain⟨kf,rfl⟩:∃m,kf=m+1:=⟨kf-1,by omega⟩;rw[aC];exact(g4 R _ fin).trans (f5 R fin kf (by omega))
  ·obtain⟨kf,rfl⟩:∃m,kf=m+1:=⟨kf-1,by omega⟩;rw[aC];by_cases hn:s.now=1000000
   ·obtain⟨x1,x2,x3⟩:=g5 hn;subst x1 x2 x3;obtain⟨y1,y2,y3⟩:=f4 hn;subst y1 y2 y3;show bj k _ _ _ fin=_;unfold bj;simp only;rw[decide_eq_true (by omega),cond_true,bJ,if_pos hn]
   ·refine(g6 hn R _ fin).trans ?_;have:=f6 R fin kf (by omega);rw[g3.1,g3.2.1,g3.2.2]at this;exact this
def Qr (e:List Event) (r:Runtime):List Event× Int× Int× Int× List Task× Int× Int× Int× Int× List Model× List Bool× List Request:=(e,r.sched.now,r.sched.ag,r.sched.age,r.sched.tasks,r.sched.run,r.sched.left,r.sched.turns,r.sched.next,r.ak,r.ao,r.ae)
structure lS (x:Step):Prop where
 byte:∀y∈x.data,okB y
 data:x.data.length<=aT
 input:x.input.tot<=2000000
theorem Mh {r:Runtime} (h:rr r) (x:Step):rr ⟨r.sched,(vp r x).2.1,(vp r x).2.2,r.ae⟩/\(vp r x).1.length<=1:=by
 unfold vp;cases(inB x.a 0 3&&!r.ao.getD x.a.toNat false)
 ·exact⟨⟨h.s,h.ml,h.ll,h.mod,h.req⟩,by simp[dF]⟩
 cases(decide ((eI x.data).2=0)&&tX (eI x.data).1)
 ·exact⟨⟨h.s,h.ml,h.ll,h.mod,h.req⟩,by simp[dF]⟩
 refine⟨⟨h.s,by simp[h.ml],by simp[h.ll],λm hm=>?_,h.req⟩,by simp⟩
 rcases List.mem_or_eq_of_mem_set hm with hm|rfl
 ·exact h.mod m hm
 ·exact sA _
theorem Ip {s:aj} {ar:List Int} {due:Int} (h:(fN s ar due).2.2=0):(fN s ar due).2.1=s.next/\(fN s ar due).1.tasks=s.tasks++[⟨s.next,ar,0,due,s.now⟩]:=by
 unfold fN at h⊢;cases c1:(bw s&&iu ⟨s.next,ar,0,due,s.now⟩)
 ·rw[c1]at h;exact absurd (show(1:Int)=0 from h) (by decide)
 rw[c1]at h;cases c2:((s.tasks.length:Int)==12||s.next==1000000)
 ·rw[c2]at h;cases c3:zo ⟨s.now,s.ag,s.age,s.tasks++[⟨s.next,ar,0,due,s.now⟩],s.run,s.left,s.turns,s.next+1⟩
  ·rw[c3]at h;exact absurd (show(3:Int)=0 from h) (by decide)
  ·exact⟨rfl,rfl⟩
 ·rw[c2]at h;exact absurd (show(2:Int)=0 from h) (by decide)
theorem Fg {r:Runtime} (h:rr r) (x:Step):rr ⟨(ic r x).2.1,r.ak,r.ao,(ic r x).2.2⟩/\(ic r x).1.length<=1:=by
 have same:∀c,rr ⟨(dF x.kind c,r.sched,r.ae).2.1,r.ak,r.ao,(dF x.kind c,r.sched,r.ae).2.2⟩/\(dF x.kind c,r.sched,r.ae).1.length<=1:=λc=>⟨⟨h.s,h.ml,h.ll,h.mod,h.req⟩,by simp[dF]⟩;unfold ic;cases c0:J0 r x.a
 ·exact same _
 simp only[cond_true];have c1':=of_decide_eq_true (SW.1 c0).1;have hmo:=h.ml
 have hmt:(r.ak.getD x.a.toNat dr).tot<=8002000:=by
  rw[b8 (show x.a.toNat<r.ak.length by omega)];exact h.mod _ (Rq _)
 generalize r.ak.getD x.a.toNat dr=m at hmt;cases c2:(dE m x.input).2
 ·exact same _
 have hj:uf ⟨m,0,x.input,0⟩=true/\(dE m x.input).1=⟨m,0,x.input,0⟩:=by
  unfold dE at c2⊢;cases c:uf ⟨m,0,x.input,0⟩
  ·rw[c]at c2;exact nomatch c2
  ·exact⟨rfl,rfl⟩
 rw[hj.2];simp only[cond_true];cases inB x.b 0 1000000
 ·exact same _
 simp only[cond_true];have ho:=NL h.s (bC m) (r.sched.now+x.b);by_cases c3:(fN r.sched (bC m) (r.sched.now+x.b)).2.2=0
 ·obtain⟨h1,h2⟩:=Ip c3;rw[decide_eq_true c3];simp only[cond_true];refine⟨⟨ho,h.ml,h.ll,h.mod,?_⟩,by simp⟩;show Lk (r.ae++[_]) (fN r.sched (bC m) (r.sched.now+x.b)).1.tasks;rw[h2];exact h.req.app ⟨h1,hj.1,rfl,rfl,hmt⟩
 ·rw[decide_eq_false c3];exact same _
theorem Fh {r:Runtime} (h:rr r) (x:Step):rr (fY r x).2/\(fY r x).1.length<=13:=by
 unfold fY;cases J0 r x.a
 ·exact⟨h,by simp[dF]⟩
 have hu:=zG x.a r.ak r.ao r.ae [] r.sched r.ae (BA h) h;have hq:=h.Oe;refine⟨⟨hu.1.s,by simp[h.ml],by simp[h.ll],λm hm=>?_,hu.1.req⟩,?_⟩
 ·rcases List.mem_or_eq_of_mem_set hm with hm|rfl
  ·exact h.mod m hm
  ·exact RO _
 ·have:=hu.2;simp only[RK]at this;simp only[cond_true,Ro,Rm,RK];omega
theorem Mi {rs:List Request} {id:Int} (h:¬tZ rs id<0):∃q∈rs,q.id=id:=by
 unfold tZ at h
 cases hf:rs.findIdx? λq=>q.id==id with
 |none=>rw[hf]at h;exact absurd (show(-1:Int)<0 by decide) h
 |some i=>
  obtain⟨hi,hp,_⟩:=So.1 hf;exact⟨rs[i],Rq hi,by simpa using hp⟩
def xa (r:Runtime) (x:Step) (e:List Event) (r':Runtime):Prop:=
 (lR (pd r.ae) e (pd r'.ae)/\r'.sched.next=r.sched.next)\/
 ∃due,e=[⟨2,r.sched.next,due,zB⟩]/\r'.sched.next=r.sched.next+1/\r'.ae=r.ae++[⟨r.sched.next,x.a,⟨r.ak.getD x.a.toNat dr,0,x.input,0⟩,due⟩]/\r'.ak=r.ak/\0<=x.a/\x.a<4
theorem Mj {r:Runtime} (x:Step):lR (pd r.ae) (vp r x).1 (pd r.ae):=by
 have ref:∀c,lR (pd r.ae) (dF x.kind c) (pd r.ae):=λc=>.other (by simp) (by simp) (by simp) .nil;unfold vp;cases(inB x.a 0 3&&!r.ao.getD x.a.toNat false)
 ·exact ref _
 cases(decide ((eI x.data).2=0)&&tX (eI x.data).1)
 ·exact ref _
 ·exact .other (by simp) (by simp) (by simp) .nil
theorem G8 {r:Runtime} (h:rr r) (x:Step):xa r x (ic r x).1 ⟨(ic r x).2.1,r.ak,r.ao,(ic r x).2.2⟩:=by
 have ref:∀c,xa r x (dF x.kind c,r.sched,r.ae).1 ⟨(dF x.kind c,r.sched,r.ae).2.1,r.ak,r.ao,(dF x.kind c,r.sched,r.ae).2.2⟩:=λc=>.inl ⟨.other (by simp) (by simp) (by simp) .nil,rfl⟩;unfold ic;cases c0:J0 r x.a
 ·exact ref _
 simp only[cond_true];have c1':=of_decide_eq_true (SW.1 c0).1;cases c2:(dE (r.ak.getD x.a.toNat dr) x.input).2
 ·exact ref _
 have hj:(dE (r.ak.getD x.a.toNat dr) x.input).1=⟨r.ak.getD x.a.toNat dr,0,x.input,0⟩:=by
  unfold dE at c2⊢;cases c:uf ⟨r.ak.getD x.a.toNat dr,0,x.input,0⟩
  ·rw[c]at c2;exact nomatch c2
  ·rfl
 rw[hj];simp only[cond_true];cases inB x.b 0 1000000
 ·exact ref _
 simp only[cond_true];generalize hc:bC (r.ak.getD x.a.toNat dr)=cs;by_cases c3:(fN r.sched cs (r.sched.now+x.b)).2.2=0
 ·obtain⟨h1,h2⟩:=Ip c3;rw[decide_eq_true c3];simp only[cond_true];refine .inr ⟨r.sched.now+x.b,by rw[h1],?_,by rw[h1],rfl,c1'.1,by omega⟩
  rcases zz r.sched cs (r.sched.now+x.b)with⟨_,_,_,_,g⟩|⟨g,_⟩
  ·show(fN r.sched cs (r.sched.now+x.b)).1.next=_
   rw[g]
  ·exact(g c3).elim
 ·rw[decide_eq_false c3];exact ref _
theorem G9 {r:Runtime} (h:rr r) (x:Step):lR (pd r.ae) (fY r x).1 (pd (fY r x).2.ae):=by
 unfold fY;cases J0 r x.a
 ·exact .other (by simp) (by simp) (by simp) .nil
 obtain⟨d,h1,h2⟩:=zH x.a r.ae [] r.sched r.ae h.inc λi hi=>hi;simp only[cond_true];rw[h1,SD];exact h2.app (.other (by simp) (by simp) (by simp) .nil)
theorem Py {k:Nat} (hk:20000000<=k) {r:Runtime} (h:rr r) {x:Step} (hx:lS x):∃(e:List Event) (r':Runtime),rr r'/\e.length<=1000/\xa r x e r'/\tI k r x=some (Qr e r')/\iQ k r x=some (Qr e r'):=by
 have hM:=al;have hq:=h.Oe;have ht:=h.tot;unfold tI iQ;simp only[bJ];by_cases c0:x.kind=0
 ·simp only[if_pos c0];rw[Mb (by omega) hx.byte hx.data h.ll h.ml,Mc (by omega) hx.byte hx.data h.ll h.ml];exact⟨(vp r x).1,⟨r.sched,(vp r x).2.1,(vp r x).2.2,r.ae⟩,(Mh h x).1,by have:=(Mh h x).2;omega,.inl ⟨Mj x,rfl⟩,rfl,rfl⟩
 simp only[if_neg c0];by_cases c1:x.kind=1
 ·simp only[if_pos c1];obtain⟨i1,i2,i3,i4,i5,i6⟩:=G6 h hk (x:=x);rw[G5 h hk,i1];refine⟨(fY r x).1,(fY r x).2,(Fh h x).1,by have:=(Fh h x).2;omega,.inl ⟨G9 h x,i6⟩,rfl,?_⟩;simp only[aa,Qr,i2,i3,i4,i5,i6]
 simp only[if_neg c1];by_cases c2:x.kind=2
 ·simp only[if_pos c2];rw[G3 h hk hx.input,G4 h hk hx.input];exact⟨(ic r x).1,⟨(ic r x).2.1,r.ak,r.ao,(ic r x).2.2⟩,(Fg h x).1,by have:=(Fg h x).2;omega,G8 h x,rfl,rfl⟩
 simp only[if_neg c2];by_cases c3:x.kind=3
 ·simp only[if_pos c3];unfold hJ;rw[rq (by omega) (by omega),aa,vq (by omega) (by omega),aa];by_cases c:tZ r.ae x.a<0
  ·rw[decide_eq_true c];unfold bE dD;simp only[cond_true,aa,decide_true];exact⟨dF x.kind 7,r,h,by simp[dF],.inl ⟨.other (by simp) (by simp) (by simp) .nil,rfl⟩,rfl,rfl⟩
  ·rw[decide_eq_false c];obtain⟨q,hq1,hq2⟩:=Mi c;have hid:1<=x.a:=hq2▸BA h q hq1;simp only[cond_false];rw[Bz (by omega) (by omega) h.s hid,Ff (by omega) (by omega)];simp only[aa,decide_true,cond_true];exact⟨[Ae x.a],Qp r x.a,Ij h hid,by simp,.inl ⟨.ends (.inr rfl) (by show x.a∈pd r.ae;unfold pd;exact Tj.2 ⟨q,hq1,hq2⟩) (by show lR ((pd r.ae).filter λi=>!(i==x.a)) [] (pd (wY r.ae x.a));rw[wZ];exact .nil),rfl⟩,rfl,rfl⟩
 simp only[if_neg c3]
 have run:∀(st:Bool),(x.kind==5)=st->∃(e:List Event) (s':aj) (rs':List Request),rr ⟨s',r.ak,r.ao,rs'⟩/\e.length<=1000/\lR (pd r.ae) e (pd rs')/\(s'.ag=r.sched.ag/\s'.age=r.sched.age/\s'.next=r.sched.next)/\
   j9 k r x st=some (e,s'.now,s'.ag,s'.age,s'.tasks,s'.run,s'.left,s'.turns,s'.next,rs')/\fG k r x=some (e,s'.now,s'.tasks,s'.run,s'.left,s'.turns,rs'):=λst hst=>by
  unfold j9 fG bE dD;rw[cy,aa,fy,aa];cases c:inB x.a 0 200
  ·simp only[RG,cond_true,aa,decide_true];exact⟨dF x.kind 8,r.sched,r.ae,h,by simp[dF],.other (by simp) (by simp) (by simp) .nil,⟨rfl,rfl,rfl⟩,rfl,rfl⟩
  have c':=of_decide_eq_true c;simp only[Rn,cond_false,decide_true,cond_true];obtain⟨e,s',rs',g1,g2,⟨d,dd,td⟩,g3,_,g5,g6⟩:=Io hk (st:=st) (ms:=r.ak) (ls:=r.ao) (a:=x.a) (by omega) (q1:=x.kind) (q2:=x.b) (q4:=x.input.sh.h) (q5:=x.input.sh.w) (q6:=x.input.sh.c) (kd:=x.kind) (p9:=x.a) (q3:=x.data) (q7:=x.input.data) hst x.a.toNat 0 r.sched r.ae [] (by omega) (by omega) h (by simp;omega);refine⟨e,s',rs',g1,?_,by rw[dd];exact td,g3,g5 _ _ k (by omega),g6 _ _ k (by omega)⟩;simp only[RK]at g2;omega
 by_cases c4:x.kind=4
 ·simp only[if_pos c4];obtain⟨e,s',rs',g1,g2,td,g3,g4,g5⟩:=run false (by rw[c4];rfl);rw[g4,g5];refine⟨e,⟨s',r.ak,r.ao,rs'⟩,g1,g2,.inl ⟨td,g3.2.2⟩,rfl,?_⟩;simp only[aa,Qr,g3.1,g3.2.1,g3.2.2]
 simp only[if_neg c4];by_cases c5:x.kind=5
 ·simp only[if_pos c5];obtain⟨e,s',rs',g1,g2,td,g3,g4,g5⟩:=run true (by rw[c5];rfl);rw[g4,g5];refine⟨e,⟨s',r.ak,r.ao,rs'⟩,g1,g2,.inl ⟨td,g3.2.2⟩,rfl,?_⟩;simp only[aa,Qr,g3.1,g3.2.1,g3.2.2]
 simp only[if_neg c5];unfold bE dD;simp only[aa];exact⟨dF x.kind 8,r,h,by simp[dF],.inl ⟨.other (by simp) (by simp) (by simp) .nil,rfl⟩,rfl,rfl⟩
end
set_option maxRecDepth 100000
set_option maxHeartbeats 4000000
section
def rt0 (s:aj):Runtime:=⟨s,List.replicate 4 dr,List.replicate 4 false,[]⟩
def Qs:Runtime:=⟨⟨0,0,0,[],0,0,0,0⟩,[],[],[]⟩
theorem zI {k:Nat} {a b:Int} (hk:0<k):mD k a b=some (cond (bw (Bv a b)) (rt0 (Bv a b),true) (Qs,false)):=by
 unfold mD;rw[NJ hk,aa];cases bw (Bv a b)<;>rfl
theorem zJ {k:Nat} {a b:Int} (hk:0<k):mE k a b=some (cond (bw (Bv a b)) (rt0 (Bv a b),true) (Qs,false)):=by
 unfold mE;rw[NK hk,aa];cases bw (Bv a b)<;>rfl
theorem Qt {a b:Int} (h:bw (Bv a b)=true):rr (rt0 (Bv a b)):=⟨Od h,rfl,rfl,λm hm=>by rw[(Tv.1 hm).2];exact RO _,.nil⟩
theorem Ha {xs:List Step} (hx:okS Step.Ok xs) (ht:eE Step.tot xs<=1048576):∀x∈xs,lS x:=λx hm=>by
 have hM:=al;have h1:=hx.2 x hm;have h2:=eL Step.tot hm;have h3:x.tot=x.data.length+(x.input.tot+0):=rfl;exact⟨h1.2.2.2.1.2,by omega,by omega⟩
end
set_option maxRecDepth 100000
set_option maxHeartbeats 4000000
section
def mL (E:List Entry):Prop:=∀(i:Nat) (h:i<E.length),E[i].id=(i:Int)+1
theorem mL.set {E:List Entry} (h:mL E) {j:Nat} {y:Entry} (hy:y.id=(j:Int)+1):mL (E.set j y):=λi hi=>by
 rw[List.getElem_set];by_cases c:j=i
 ·subst c;rw[if_pos rfl];exact hy
 ·rw[if_neg c];exact h i (by simpa using hi)
theorem mL.app {E:List Entry} (h:mL E) {y:Entry} (hy:y.id=(E.length:Int)+1):mL (E++[y]):=λi hi=>by
 rw[List.getElem_append];by_cases c:i<E.length
 ·rw[dif_pos c];exact h i c
 ·rw[dif_neg c];simp only[Ro,Rm,RK]at hi
  have:i=E.length:=by omega
  subst this;simpa using hy
def NQ (now:Int) (ev:Event) (y:Entry):Entry:=⟨y.id,y.model,y.input,y.at_,y.due,cond (ev.kind==4) now ev.b,ev.kind==3⟩
section
variable {k:Nat} {p:List Step× Int× Int× List Event× Int× Int× Int× Int× Int× Int× Int× Int× Int× Int× Int× Int× Int× Int× Int× List Event× Int× Int× Int× Int× Int× Int× List Int× List Request× List Task× List Model× List Bool× List Request} {ev:Event} {now:Int}
 (h1:p.2.2.2.2.2.2.2.2.2.2.2.2.2.2.2.2.2.2.2.2.1=ev.kind) (h2:p.2.2.2.2.2.2.2.2.2.2.2.2.2.2.2.2.2.2.2.2.2.1=ev.a) (h3:p.2.2.2.2.2.2.2.2.2.2.2.2.2.2.2.2.2.2.2.2.2.2.1=ev.b) (h4:p.2.2.1=now)
include h1 h2 h3 h4
theorem Pz {R:Type} {E:List Entry} {fin:List Entry->Option R} {j:Nat} (hj:j<E.length) (hE:E.length<=100000) (next:Int× List Entry->Option R):
  fW k p ((j:Int),E) next fin=next (((j+1:Nat):Int),cond (E[j].id==ev.a) (E.set j (NQ now ev E[j])) E):=by
 have hM:=al;have hd0:decide ((j:Int)<(E.length:Int))=true:=decide_eq_true (by omega);have hd:decide (0<=(j:Int)/\(j:Int)<(E.length:Int))=true:=decide_eq_true (by omega);have hg:∀y:Entry,(E.set j y)[j]? =some y:=λy=>R3 hj;unfold fW;simp only[h1,h2,h3,h4,hd0,hd,Rg,RW,cond_true,ai hj,aa,List.set_set,hg,au hj (show E.length<=9223372036854775807 by omega)];cases c:(E[j].id==ev.a)
 ·rfl
 simp only[cond_true,NQ];cases(ev.kind==4)<;>rfl
theorem Dc {R:Type} {fin:List Entry->Option R}:∀(n j:Nat) (E:List Entry) (kf:Nat),j+n=E.length->n<kf->E.length<=100000->mL E->
  iter (λu14 n14=>fW k p u14 n14 fin) kf ((j:Int),E)=fin (cond (decide ((j:Int)<ev.a/\ev.a<=(E.length:Int))) (E.set (ev.a-1).toNat (NQ now ev (E.getD (ev.a-1).toNat ⟨0,dr,zB,0,0,0,false⟩))) E)
 |_,_,_,0,_,h,_,_=>by omega
 |0,j,E,kf+1,hj,_,_,_=>by
  rw[aC];show fW k p _ _ fin=_;unfold fW;simp only
  rw[decide_eq_false (show¬(j:Int)<(E.length:Int) by omega),cond_false,decide_eq_false (show¬((j:Int)<ev.a/\ev.a<=(E.length:Int)) by omega)];rfl
 |n+1,j,E,kf+1,hj,hk,hE,hP=>by
  have hjl:j<E.length:=by omega
  have hid:=hP j hjl;rw[aC];refine(Pz h1 h2 h3 h4 hjl hE _).trans ?_;by_cases c:E[j].id=ev.a
  ·rw[show(E[j].id==ev.a)=true from by simpa using c,cond_true]
   have e1:(ev.a-1).toNat=j:=by omega
   have hP2:mL (E.set j (NQ now ev E[j])):=hP.set (by show E[j].id=_;exact hid);refine(Dc n (j+1) _ kf (by simp;omega) (by omega) (by simpa using hE) hP2).trans ?_;rw[RW,decide_eq_false (by omega),decide_eq_true (by omega),e1,b8 hjl];rfl
  ·rw[show(E[j].id==ev.a)=false from by simpa using c,cond_false];refine(Dc n (j+1) E kf (by omega) (by omega) hE hP).trans ?_;by_cases d:((j+1:Nat):Int)<ev.a/\ev.a<=(E.length:Int)
   ·rw[decide_eq_true d,decide_eq_true (by omega)]
   ·rw[decide_eq_false d,decide_eq_false (by omega)]
end
end
set_option maxRecDepth 100000
set_option maxHeartbeats 4000000
section
def noEntry:Entry:=⟨0,dr,zB,0,0,0,false⟩
def fk (now:Int) (E:List Entry) (ev:Event):List Entry:=cond (ev.kind==3||ev.kind==4) (E.set (ev.a-1).toNat (NQ now ev (E.getD (ev.a-1).toNat noEntry))) E
def Live (E:List Entry) (ids:List Int):Prop:=∀i∈ids,1<=i/\i<=E.length/\(E.getD (i-1).toNat noEntry).done=false
theorem nQ (now:Int) (E:List Entry) (ev:Event):(fk now E ev).length=E.length:=by
 unfold fk;cases(ev.kind==3||ev.kind==4)<;>simp
theorem ub {now:Int} {E:List Entry} {ev:Event} (h:mL E):mL (fk now E ev):=by
 unfold fk;cases(ev.kind==3||ev.kind==4)
 ·exact h
 ·intro i hi
  have hi':i<E.length:=by simpa using hi
  simp only[cond_true];rw[List.getElem_set];by_cases c:(ev.a-1).toNat=i
  ·rw[if_pos c,c,b8 hi'];exact h i hi'
  ·rw[if_neg c];exact h i hi'
theorem sC {now:Int} {E:List Entry} {ev:Event} {ids:List Int} (h:Live E ids) (ha:1<=ev.a):Live (fk now E ev) (ids.filter λi=>!(i==ev.a)):=λi hi=>by
 obtain⟨h1,h2⟩:=R8.1 hi;obtain⟨g1,g2,g3⟩:=h i h1
 have hne:i≠ev.a:=by simpa using h2
 refine⟨g1,by rw[nQ];exact g2,?_⟩;unfold fk;cases(ev.kind==3||ev.kind==4)
 ·exact g3
 ·simp only[cond_true];rw[RL,SI (by omega),<-RL];exact g3
theorem Q0 {k:Nat} {p:List Step× Int× Int× List Event× Int× Int× Int× Int× Int× Int× Int× Int× Int× Int× Int× Int× Int× Int× List Request× List Task× List Model× List Bool× List Request} {now:Int} (h4:p.2.2.1=now) {R:Type} {fin:List Entry× List Event->Option R} {es:List Event} {ids ids':List Int} (ht:lR ids es ids'):∀(pre:List Event) (E:List Entry) (evs:List Event) (kf:Nat),p.2.2.2.1=pre++es->es.length<kf->E.length+10<k->E.length<=100000->(pre++es).length<=100000->evs.length+es.length<=1000000->mL E->Live E ids->
  iter (λu22 n22=>dv k p u22 n22 fin) kf ((pre.length:Int),E,evs)=fin (es.foldl (fk now) E,evs++es):=by
 have hM:=al
 induction ht with
 |nil=>
  intro pre E evs kf hL hk _ _ _ _ _ _;obtain⟨kf,rfl⟩:∃m,kf=m+1:=⟨kf-1,by simp at hk;omega⟩;rw[aC];show dv k p _ _ fin=_;unfold dv;simp only
  rw[hL,decide_eq_false (by simp),cond_false,RM];rfl
 |other k2 k3 k4 ht ih=>
  rename_i ids0 ids1 e es;intro pre E evs kf hL hk hE1 hE2 hl hv hP hLv;obtain⟨kf,rfl⟩:∃m,kf=m+1:=⟨kf-1,by simp at hk;omega⟩
  have hlen:(pre++e::es).length=pre.length+(es.length+1):=by simp
  simp only[Rm]at hk hv;rw[aC]
  have st:∀next,dv k p ((pre.length:Int),E,evs) next fin=next (((pre++[e]).length:Int),E,evs++[e]):=λnext=>by
   unfold dv;simp only;rw[hL,decide_eq_true (by omega),cond_true,aE,show(pre++e::es)[pre.length]? =some e from by simp,aa,cr (by omega),bJ,if_neg k2,bJ,if_neg k3,bJ,if_neg k4,aH (by omega) (by omega),Ro];rfl
  refine(st _).trans ((ih (pre++[e]) E (evs++[e]) kf (by rw[hL];simp) (by omega) hE1 hE2 (by simpa using hl) (by simp;omega) hP hLv).trans ?_);rw[Sb,show fk now E e=E from by unfold fk;rw[show(e.kind==3)=false from by simpa using k3,show(e.kind==4)=false from by simpa using k4];rfl]
  simp
 |ends kk hm ht ih=>
  rename_i ids0 ids1 e es;intro pre E evs kf hL hk hE1 hE2 hl hv hP hLv;obtain⟨kf,rfl⟩:∃m,kf=m+1:=⟨kf-1,by simp at hk;omega⟩
  have hlen:(pre++e::es).length=pre.length+(es.length+1):=by simp
  simp only[Rm]at hk hv;obtain⟨a1,a2,a3⟩:=hLv _ hm;rw[aC]
  have hap:fk now E e=E.set (e.a-1).toNat (NQ now e (E.getD (e.a-1).toNat noEntry)):=by
   unfold fk
   rcases kk with kk|kk<;>rw[kk]<;>rfl
  have st:∀next,dv k p ((pre.length:Int),E,evs) next fin=next (((pre++[e]).length:Int),fk now E e,evs++[e]):=λnext=>by
   rw[hap];unfold dv;simp only;rw[hL,decide_eq_true (by omega),cond_true,aE,show(pre++e::es)[pre.length]? =some e from by simp,aa,cr (by omega),bJ,if_neg (by rcases kk with kk|kk<;>rw[kk]<;>decide),bJ]
   rcases kk with kk|kk
   ·rw[if_pos kk];refine(Dc (ev:=e) (now:=now) (by rfl) (by rfl) (by rfl) h4 E.length 0 E k (by omega) (by omega) hE2 hP).trans ?_;rw[decide_eq_true (by omega),cond_true,aH (by omega) (by omega),Ro];rfl
   ·rw[if_neg (by rw[kk];decide),bJ,if_pos kk];refine(Dc (ev:=e) (now:=now) (by rfl) (by rfl) (by rfl) h4 E.length 0 E k (by omega) (by omega) hE2 hP).trans ?_;rw[decide_eq_true (by omega),cond_true,aH (by omega) (by omega),Ro];rfl
  refine(st _).trans ((ih (pre++[e]) (fk now E e) (evs++[e]) kf (by rw[hL];simp) (by omega) (by rw[nQ];exact hE1) (by rw[nQ];exact hE2) (by simpa using hl) (by simp;omega) (ub hP) (sC hLv a1)).trans ?_);rw[Sb];simp
theorem Q1 {k:Nat} {p:Int× List Step× Int× Int× List Event× Int× Int× Int× Int× Int× Int× Int× Int× Int× Int× Int× Int× Int× Int× Int× Int× Int× Int× List Int× Int× Int× Int× List Int× List Request× List Task× List Model× List Bool× List Request} {now:Int} (h4:p.1=now) {R:Type} {fin:List Event× List Entry->Option R} {es:List Event} {ids ids':List Int} (ht:lR ids es ids'):∀(pre:List Event) (E:List Entry) (evs:List Event) (kf:Nat),p.2.2.2.2.1=pre++es->p.2.2.2.2.2.1=((pre++es).length:Int)->es.length<kf->E.length<=100000->(pre++es).length<=100000->evs.length+es.length<=1000000->Live E ids->
  iter (λu12 n12=>eg k p u12 n12 fin) kf ((pre.length:Int),evs,E)=fin (evs++es,es.foldl (fk now) E):=by
 have hM:=al
 induction ht with
 |nil=>
  intro pre E evs kf hL hL2 hk _ _ _ _;obtain⟨kf,rfl⟩:∃m,kf=m+1:=⟨kf-1,by simp at hk;omega⟩;rw[aC];show eg k p _ _ fin=_;unfold eg;simp only
  rw[hL2,decide_eq_false (by simp),cond_false,RM];rfl
 |other k2 k3 k4 ht ih=>
  rename_i ids0 ids1 e es;intro pre E evs kf hL hL2 hk hE2 hl hv hLv;obtain⟨kf,rfl⟩:∃m,kf=m+1:=⟨kf-1,by simp at hk;omega⟩
  have hlen:(pre++e::es).length=pre.length+(es.length+1):=by simp
  simp only[Rm]at hk hv;rw[aC]
  have st:∀next,eg k p ((pre.length:Int),evs,E) next fin=next (((pre++[e]).length:Int),evs++[e],E):=λnext=>by
   unfold eg;simp only;rw[hL2,hL,decide_eq_true (by omega),cond_true,aE,show(pre++e::es)[pre.length]? =some e from by simp,aa,cr (by omega),bJ,if_neg k2,bJ,if_neg k3,bJ,if_neg k4,aH (by omega) (by omega),Ro];rfl
  refine(st _).trans ((ih (pre++[e]) E (evs++[e]) kf (by rw[hL];simp) (by rw[hL2];simp) (by omega) hE2 (by simpa using hl) (by simp;omega) hLv).trans ?_);rw[Sb,show fk now E e=E from by unfold fk;rw[show(e.kind==3)=false from by simpa using k3,show(e.kind==4)=false from by simpa using k4];rfl]
  simp
 |ends kk hm ht ih=>
  rename_i ids0 ids1 e es;intro pre E evs kf hL hL2 hk hE2 hl hv hLv;obtain⟨kf,rfl⟩:∃m,kf=m+1:=⟨kf-1,by simp at hk;omega⟩
  have hlen:(pre++e::es).length=pre.length+(es.length+1):=by simp
  simp only[Rm]at hk hv;obtain⟨a1,a2,a3⟩:=hLv _ hm;rw[aC]
  have hi:(e.a-1).toNat<E.length:=by omega
  have hap:fk now E e=E.set (e.a-1).toNat (NQ now e (E.getD (e.a-1).toNat noEntry)):=by
   unfold fk
   rcases kk with kk|kk<;>rw[kk]<;>rfl
  have st:∀next,eg k p ((pre.length:Int),evs,E) next fin=next (((pre++[e]).length:Int),evs++[e],fk now E e):=λnext=>by
   rw[hap];rw[b8 hi]at a3⊢;unfold eg;simp only;rw[hL2,hL,decide_eq_true (by omega),cond_true,aE,show(pre++e::es)[pre.length]? =some e from by simp,aa,cr (by omega),bJ,if_neg (by rcases kk with kk|kk<;>rw[kk]<;>decide),bJ,aH (n:=e.a-1) (by omega) (by omega),aH (n:=(pre.length:Int)+1) (by omega) (by omega),h4]
   rcases kk with kk|kk
   ·rw[if_pos kk,decide_eq_true (by omega),cond_true,ai hi,aa,RW,decide_eq_true (by omega),cond_true,R3 hi,aa,List.set_set,Ro];unfold NQ;rw[kk];rfl
   ·rw[if_neg (by rw[kk];decide),bJ,if_pos kk,decide_eq_true (by omega),cond_true,ai hi,aa,Ro];unfold NQ;rw[kk,a3];rfl
  refine(st _).trans ((ih (pre++[e]) (fk now E e) (evs++[e]) kf (by rw[hL];simp) (by rw[hL2];simp) (by omega) (by rw[nQ];exact hE2) (by simpa using hl) (by simp;omega) (sC hLv a1)).trans ?_);rw[Sb];simp
end
set_option maxRecDepth 100000
set_option maxHeartbeats 4000000
section
structure Hb (r:Runtime) (E:List Entry) (evs:List Event) (n:Nat):Prop where
 ok:rr r
 next:r.sched.next=(E.length:Int)+1
 Mk:mL E
 live:Live E (pd r.ae)
 Q2:E.length<=n
 Rd:evs.length<=1000*n
theorem lR.sub {ids ids':List Int} {es:List Event} (h:lR ids es ids'):∀i∈ids',i∈ids:=by
 induction h with
 |nil=>exactλi h=>h
 |other _ _ _ _ ih=>exact ih
 |ends _ _ _ ih=>exactλi hi=>(R8.1 (ih i hi)).1
theorem NR {now:Int} {ids ids':List Int} {es:List Event} (h:lR ids es ids'):∀{E:List Entry},mL E->Live E ids->mL (es.foldl (fk now) E)/\Live (es.foldl (fk now) E) ids'/\(es.foldl (fk now) E).length=E.length:=by
 induction h with
 |nil=>exactλhP hL=>⟨hP,hL,rfl⟩
 |other k2 k3 k4 _ ih=>
  rename_i e es _;intro E hP hL;rw[Sb,show fk now E e=E from by unfold fk;rw[show(e.kind==3)=false from by simpa using k3,show(e.kind==4)=false from by simpa using k4];rfl]
  exact ih hP hL
 |ends kk hm _ ih=>
  intro E hP hL;rw[Sb];obtain⟨g1,g2,g3⟩:=ih (ub (now:=now) hP) (sC (now:=now) hL (hL _ hm).1);exact⟨g1,g2,g3.trans (nQ _ _ _)⟩
theorem Ml {rs:List Request} {q:Request} (h:∀i∈pd rs,i<q.id):tZ (rs++[q]) q.id=(rs.length:Int):=qq (qo:=[]) λv hv=>by
 have:=h v.id (Tj.2 ⟨v,hv,rfl⟩);omega
theorem NS {E:List Entry} {ids:List Int} (h:Live E ids) (y:Entry):Live (E++[y]) ids:=λi hi=>by
 obtain⟨g1,g2,g3⟩:=h i hi;refine⟨g1,by simp;omega,?_⟩;rw[b8 (by omega)]at g3;rw[b8 (by simp;omega),List.getElem_append_left (by omega)];exact g3
theorem Iq {V R:Type} {g:V->(V->Option R)->Option R} {v w:V} {r:Option R} (h1:∀next,g v next=next w) (h2:∀next,g w next=r) {kf:Nat} (hk:2<=kf):iter g kf v=r:=by
 obtain⟨m,rfl⟩:∃m,kf=m+1+1:=⟨kf-2,by omega⟩;rw[aC,h1,aC,h2]
theorem Ir {α:Type} (x:α) (l:List α):idx (x::l) (0:Int)=some x:=rfl
theorem NT {k:Nat} (hk:20000000<=k) {r r':Runtime} {x:Step} {e:List Event} {E:List Entry} {evs:List Event} {n:Nat} (hx:lS x) (h:Hb r E evs n) (h':rr r') (he:e.length<=1000) (hn:n<=200) (ht:xa r x e r'):
  ∃E1:List Entry,Hb r' E1 (evs++e) (n+1)/\
   (∀{R:Type} {p:List Step× Int× Int× List Event× Int× Int× Int× Int× Int× Int× Int× Int× Int× Int× Int× Int× Int× Int× List Request× List Task× List Model× List Bool× List Request} {fin:List Entry× List Event->Option R},p.2.2.1=r.sched.now->p.2.2.2.1=e->(⟨(⟨p.2.2.2.2.2.2.2.2.2.2.2.1,p.2.2.2.2.2.2.2.2.2.2.2.2.1,p.2.2.2.2.2.2.2.2.2.2.2.2.2.1,p.2.2.2.2.2.2.2.2.2.2.2.2.2.2.2.2.2.2.2.1,p.2.2.2.2.2.2.2.2.2.2.2.2.2.2.1,p.2.2.2.2.2.2.2.2.2.2.2.2.2.2.2.1,p.2.2.2.2.2.2.2.2.2.2.2.2.2.2.2.2.1,p.2.2.2.2.2.2.2.2.2.2.2.2.2.2.2.2.2.1⟩:aj),p.2.2.2.2.2.2.2.2.2.2.2.2.2.2.2.2.2.2.2.2.1,p.2.2.2.2.2.2.2.2.2.2.2.2.2.2.2.2.2.2.2.2.2.1,p.2.2.2.2.2.2.2.2.2.2.2.2.2.2.2.2.2.2.2.2.2.2⟩:Runtime)=r'->iter (λu22 n22=>dv k p u22 n22 fin) k ((0:Int),E,evs)=fin (E1,evs++e))/\
   (∀{R:Type} {p:Int× List Step× Int× Int× List Event× Int× Int× Int× Int× Int× Int× Int× Int× Int× Int× Int× Int× Int× Int× Int× Int× Int× Int× List Int× Int× Int× Int× List Int× List Request× List Task× List Model× List Bool× List Request} {fin:List Event× List Entry->Option R},p.1=r.sched.now->p.2.2.2.2.1=e->p.2.2.2.2.2.1=(e.length:Int)->p.2.2.2.2.2.2.2.2.2.2.2.2.2.2.2.2.2.2.2.2.2.1=x.a->p.2.2.2.2.2.2.2.2.2.2.2.2.2.2.2.2.2.2.2.2.2.2.2.2.2.2.2.2.2.2.1=r'.ak->(⟨(⟨p.2.2.2.2.2.2.2.2.2.2.2.2.2.2.2.2.2.2.2.2.2.2.2.2.1,p.2.2.2.2.2.2.2.2.2.2.2.2.2.2.2.2.2.2.2.2.2.2.2.2.2.1,p.2.2.2.2.2.2.2.2.2.2.2.2.2.2.2.2.2.2.2.2.2.2.2.2.2.2.1⟩:Shape),p.2.2.2.2.2.2.2.2.2.2.2.2.2.2.2.2.2.2.2.2.2.2.2.2.2.2.2.1⟩:av)=x.input->iter (λu12 n12=>eg k p u12 n12 fin) k ((0:Int),evs,E)=fin (evs++e,E1)):=by
 have hM:=al;have hel:=h.Q2;have hvl:=h.Rd
 rcases ht with⟨ht,hnx⟩|⟨due,rfl,hnx,hrq,hms,xa0,xa1⟩
 ·obtain⟨g1,g2,g3⟩:=NR (now:=r.sched.now) ht h.Mk h.live;refine⟨e.foldl (fk r.sched.now) E,⟨h',by rw[hnx,h.next,g3],g1,g2,by omega,by rw[Ro];omega⟩,λ{R} {p} {fin} q1 q2 q3=>?_,λ{R} {p} {fin} q1 q2 q3 q4 q5 q6=>?_⟩
  ·exact Q0 q1 ht [] E evs k q2 (by omega) (by omega) (by omega) (by simpa using(show e.length<=100000 by omega)) (by omega) h.Mk h.live
  ·exact Q1 q1 ht [] E evs k q2 q3 (by omega) (by omega) (by simpa using(show e.length<=100000 by omega)) (by omega) h.live
 ·have hmo:=h.ok.ml
  have hi:x.a.toNat<r.ak.length:=by omega
  have hmt:=h.ok.mod _ (Rq hi);have hxi:=hx.input;have hxt:x.input.tot=x.input.data.length:=rfl;refine⟨E++[⟨r.sched.next,r.ak.getD x.a.toNat dr,x.input,r.sched.now,due,-1,false⟩],⟨h',by rw[hnx,h.next];simp,h.Mk.app (by show r.sched.next=_;exact h.next),λi hi=>?_,by simp;omega,by simp;omega⟩,λ{R} {p} {fin} q1 q2 q3=>?_,λ{R} {p} {fin} q1 q2 q3 q4 q5 q6=>?_⟩
  ·rw[hrq]at hi;unfold pd at hi;rw[Sm]at hi
   rcases SC.1 hi with hi|hi
   ·exact NS h.live _ i hi
   ·obtain rfl:i=r.sched.next:=by simpa using hi
    have hnext:=h.next;refine⟨by omega,by simp;omega,?_⟩;rw[show(r.sched.next-1).toNat=E.length from by omega,b8 (by simp),List.getElem_append_right (Rw _)];simp
  ·refine Iq (w:=((1:Int),E++[⟨r.sched.next,r.ak.getD x.a.toNat dr,x.input,r.sched.now,due,-1,false⟩],evs++[⟨2,r.sched.next,due,zB⟩])) (λnext=>?_) (λnext=>?_) (by omega)
   ·have hr:=congrArg Runtime.ae q3;simp only at hr;have hlt:∀i∈pd r.ae,i<r.sched.next:=λi hi=>(h.ok.lt i hi).2;have hq:=h.ok.Oe;have hfr:=Ml (q:=⟨r.sched.next,x.a,⟨r.ak.getD x.a.toNat dr,0,x.input,0⟩,due⟩) hlt;unfold dv;simp only;rw[q2,q3,hr,hrq,decide_eq_true (by simp),cond_true,Ir,aa,cr (by omega),bJ,if_pos rfl,rq (by rw[hrq];simp;omega) (by rw[hrq];simp;omega),aa,hrq];simp only;rw[hfr,decide_eq_true (by simp;omega),cond_true,Rg,Rh (Rw _),Nat.sub_self,S8,aa,b8 hi,qc (by show r.ak[x.a.toNat].tot<k;omega) (by show r.ak[x.a.toNat].tot<=aT;omega),aa,p7 (by show x.input.data.length<k;omega) (by show x.input.data.length<=aT;omega),aa,cr (by omega),q1];rfl
   ·unfold dv;simp only;rw[q2,decide_eq_false (by simp),cond_false]
  ·refine Iq (w:=((1:Int),evs++[⟨2,r.sched.next,due,zB⟩],E++[⟨r.sched.next,r.ak.getD x.a.toNat dr,x.input,r.sched.now,due,-1,false⟩])) (λnext=>?_) (λnext=>?_) (by omega)
   ·unfold eg;simp only;rw[q2,q3,q4,q5,q6,decide_eq_true (by simp),cond_true,Ir,aa,cr (by omega),bJ,if_pos rfl,hms,decide_eq_true (by omega),cond_true,ai hi,aa,b8 hi,nL (by omega) (by omega),aa,mG (by omega),aa,cr (by omega),q1];rfl
   ·unfold eg;simp only;rw[q3,decide_eq_false (by simp),cond_false]
end
set_option maxRecDepth 100000
set_option maxHeartbeats 4000000
section
theorem BB {k:Nat} (hk:20000000<=k) {steps:List Step} (hs:∀x∈steps,lS x) (hl:steps.length<=200) {a1 a2 a3 a4 a5 a6 a7 b1 b2 b3 b4 b5 b6 b7:Int}:∀(qs pre:List Step) (r:Runtime) (E:List Entry) (evs:List Event),steps=pre++qs->Hb r E evs pre.length->
    ∃ (r' : Runtime) (E' : List Entry) (evs' : List Event), Hb r' E' evs' steps.length /\
      (∀{R:Type} {fin:_->Option R} {kf:Nat},qs.length<kf->iter (λu24 n24=>hY k (steps,a1,a2,a3,a4,a5,a6,a7,[]) u24 n24 fin) kf ((pre.length:Int),r.sched.now,r.sched.ag,r.sched.age,r.sched.run,r.sched.left,r.sched.turns,r.sched.next,E,evs,r.sched.tasks,r.ak,r.ao,r.ae)=fin (r'.sched.now,r'.sched.ag,r'.sched.age,r'.sched.run,r'.sched.left,r'.sched.turns,r'.sched.next,E',evs',r'.sched.tasks,r'.ak,r'.ao,r'.ae))/\
      (∀{R:Type} {fin:_->Option R} {kf:Nat},qs.length<kf->iter (λu14 n14=>jq k (steps,(steps.length:Int),b1,b2,b3,b4,b5,b6,b7,[]) u14 n14 fin) kf ((pre.length:Int),r.sched.now,r.sched.ag,r.sched.age,r.sched.run,r.sched.left,r.sched.turns,r.sched.next,evs,E,r.sched.tasks,r.ak,r.ao,r.ae)=fin (r'.sched.now,r'.sched.ag,r'.sched.age,r'.sched.run,r'.sched.left,r'.sched.turns,r'.sched.next,evs',E',r'.sched.tasks,r'.ak,r'.ao,r'.ae))
  | [], pre, r, E, evs, hp, h => by
    have hlen:steps.length=pre.length:=by rw[hp];simp
    refine⟨r,E,evs,by rw[hlen];exact h,λ{R} {fin} {kf} hkf=>?_,λ{R} {fin} {kf} hkf=>?_⟩
    · obtain⟨kf,rfl⟩:∃m,kf=m+1:=⟨kf-1,by simp at hkf;omega⟩;rw[aC];show hY k _ _ _ fin=_;unfold hY;simp only;rw[decide_eq_false (by omega)];rfl
    · obtain⟨kf,rfl⟩:∃m,kf=m+1:=⟨kf-1,by simp at hkf;omega⟩;rw[aC];show jq k _ _ _ fin=_;unfold jq;simp only
      rw[decide_eq_false (by omega)];rfl
  | x :: qs, pre, r, E, evs, hp, h => by
    have hM:=al
    have hlen:steps.length=pre.length+(qs.length+1):=by rw[hp];simp
    have hat:idx steps (pre.length:Int)=some x:=by rw[aE,hp];simp
    have hx:=hs x (by rw[hp];simp);obtain⟨e,r',h',he,ht,e1,e2⟩:=Py hk h.ok hx
    have hw:IntKind.i64.wrap ((pre.length:Int)+1)=((pre++[x]).length:Int):=by rw[aH (by omega) (by omega),Ro];rfl
    obtain⟨E1,hst,hS,hI⟩:=NT hk hx h h' he (by omega) ht;obtain⟨r2,E2,evs2,g1,g2,g3⟩:=BB hk hs hl (a1:=a1) (a2:=a2) (a3:=a3) (a4:=a4) (a5:=a5) (a6:=a6) (a7:=a7) (b1:=b1) (b2:=b2) (b3:=b3) (b4:=b4) (b5:=b5) (b6:=b6) (b7:=b7) qs (pre++[x]) r' E1 (evs++e) (by rw[hp];simp) (by rw[Ro];exact hst);refine⟨r2,E2,evs2,g1,λ{R} {fin} {kf} hkf=>?_,λ{R} {fin} {kf} hkf=>?_⟩
    · obtain⟨kf,rfl⟩:∃m,kf=m+1:=⟨kf-1,by simp at hkf;omega⟩;rw[aC,<-g2 (fin:=fin) (kf:=kf) (by simp at hkf;omega)]
      have st:∀next,hY k (steps,a1,a2,a3,a4,a5,a6,a7,[]) ((pre.length:Int),r.sched.now,r.sched.ag,r.sched.age,r.sched.run,r.sched.left,r.sched.turns,r.sched.next,E,evs,r.sched.tasks,r.ak,r.ao,r.ae) next fin=next (((pre++[x]).length:Int),r'.sched.now,r'.sched.ag,r'.sched.age,r'.sched.run,r'.sched.left,r'.sched.turns,r'.sched.next,E1,evs++e,r'.sched.tasks,r'.ak,r'.ao,r'.ae):=λnext=>by
        unfold hY;simp only;rw[decide_eq_true (by omega),cond_true,hat,aa,show(⟨⟨r.sched.now,r.sched.ag,r.sched.age,r.sched.tasks,r.sched.run,r.sched.left,r.sched.turns,r.sched.next⟩,r.ak,r.ao,r.ae⟩:Runtime)=r from rfl,e1,aa,hw];exact hS rfl rfl rfl
      exact st _
    · obtain⟨kf,rfl⟩:∃m,kf=m+1:=⟨kf-1,by simp at hkf;omega⟩;rw[aC,<-g3 (fin:=fin) (kf:=kf) (by simp at hkf;omega)]
      have st:∀next,jq k (steps,(steps.length:Int),b1,b2,b3,b4,b5,b6,b7,[]) ((pre.length:Int),r.sched.now,r.sched.ag,r.sched.age,r.sched.run,r.sched.left,r.sched.turns,r.sched.next,evs,E,r.sched.tasks,r.ak,r.ao,r.ae) next fin=next (((pre++[x]).length:Int),r'.sched.now,r'.sched.ag,r'.sched.age,r'.sched.run,r'.sched.left,r'.sched.turns,r'.sched.next,evs++e,E1,r'.sched.tasks,r'.ak,r'.ao,r'.ae):=λnext=>by
        unfold jq;simp only;rw[decide_eq_true (by omega),cond_true,hat,aa,show(⟨⟨r.sched.now,r.sched.ag,r.sched.age,r.sched.tasks,r.sched.run,r.sched.left,r.sched.turns,r.sched.next⟩,r.ak,r.ao,r.ae⟩:Runtime)=r from rfl,e2,aa,hw];exact hI rfl rfl rfl rfl rfl rfl
      exact st _
theorem Qu {a b:Int} (h:bw (Bv a b)=true):Hb (rt0 (Bv a b)) [] [] 0:=⟨Qt h,rfl,λi hi=>absurd hi (by simp),(λi hi=>nomatch hi),Rw _,Rw _⟩
theorem JS {k:Nat} (hk:20000000<=k) {a b:Int} {xs:List Step} (hs:∀x∈xs,lS x):
  (oL k a b xs=some ([],[],(oL k a b xs).elim Qs (λv=>v.2.2.1),false)/\ve k a b xs=some (Qs,[],[],false)/\(oL k a b xs).isSome)\/
  ∃(r:Runtime) (E:List Entry) (evs:List Event),Hb r E evs xs.length/\xs.length<=200/\oL k a b xs=some (E,evs,r,true)/\ve k a b xs=some (r,evs,E,true):=by
 unfold oL ve;rw[zI (by omega),zJ (by omega),aa,aa];cases c:bw (Bv a b)
 ·exact .inl ⟨rfl,rfl,rfl⟩
 simp only[cond_true,Rn,cond_false];by_cases c2:(xs.length:Int)>200
 ·rw[decide_eq_true c2];exact .inl ⟨rfl,rfl,rfl⟩
 rw[decide_eq_false c2];simp only[cond_false];obtain⟨r,E,evs,g1,g2,g3⟩:=BB hk hs (by omega) (a1:=0) (a2:=0) (a3:=0) (a4:=0) (a5:=0) (a6:=0) (a7:=0) (b1:=0) (b2:=0) (b3:=0) (b4:=0) (b5:=0) (b6:=0) (b7:=0) xs [] (rt0 (Bv a b)) [] [] rfl (Qu c);exact .inr ⟨r,E,evs,g1,by omega,g2 (by omega),g3 (by omega)⟩
end
set_option maxRecDepth 100000
set_option maxHeartbeats 4000000
section
def waits (E:List Entry):List Int:=(E.filter λy=>y.done).map λy=>IntKind.i64.wrap (y.end_-y.at_)
end
set_option maxRecDepth 100000
set_option maxHeartbeats 4000000
section
def seg (lo hi a b:Int):Int:=if(if hi<b then hi else b)>(if lo>a then lo else a)then(if hi<b then hi else b)-(if lo>a then lo else a)else 0
theorem NU {lo hi a b:Int} (h:a<b):seg lo hi a b=(if a+1>lo/\a+1<=hi then 1 else 0)+seg lo hi (a+1) b:=by
 unfold seg
 (repeat' split)<;>omega
theorem Is (lo hi a:Int):seg lo hi a a=0:=by
 unfold seg
 (repeat' split)<;>omega
theorem Og (lo hi:Int) {a b:Int} (h:a<=b):0<=seg lo hi a b/\seg lo hi a b<=b-a:=by
 unfold seg
 (repeat' split)<;>omega
theorem Iu {R:Type} {k:Nat} {steps:List Step} {x:Step} {lo hi i:Int} (hx:idx steps i=some x) {fin:Int× Int->Option R}:∀(n:Nat) (c now j:Int) (kf:Nat),n<kf->j+n=takes x->0<=j->0<=c->c+n<=1000000->0<=now->now+n<=1000000->
  iter (λu5 n5=>cK k (steps,lo,hi,i) u5 n5 fin) kf (c,now,j)=fin (c+cond (x.kind==5) (seg lo hi now (now+n)) 0,now+n)
 |_,_,_,_,0,h,_,_,_,_,_,_=>by omega
 |0,c,now,j,kf+1,_,hj,_,_,_,_,_=>by
  rw[aC];show cK k _ _ _ fin=_;unfold cK;simp only;rw[hx,aa,tN,aa,decide_eq_false (by omega),cond_false]
  have e:now+((0:Nat):Int)=now:=by omega
  rw[e,Is]
  cases(x.kind==5)<;>simp
 |n+1,c,now,j,kf+1,hk,hj,h0,c0,c1,n0,n1=>by
  have hb:=CE x;rw[aC]
  have e:now+((n+1:Nat):Int)=now+1+(n:Int):=by omega
  have st:∀next,cK k (steps,lo,hi,i) (c,now,j) next fin=next (c+cond (x.kind==5) (if now+1>lo/\now+1<=hi then 1 else 0) 0,now+1,j+1):=λnext=>by
   unfold cK;simp only;rw[hx,aa,tN,aa,decide_eq_true (by omega),cond_true,aa,aH (n:=now+1) (by omega) (by omega),aH (n:=j+1) (by omega) (by omega),aH (n:=c+1) (by omega) (by omega)];cases(x.kind==5)
   ·simp
   ·by_cases d1:now+1>lo
    ·by_cases d2:now+1<=hi
     ·simp[d1,d2]
     ·simp[d1,d2]
    ·simp[d1]
  refine(st _).trans ?_
  have hc:0<=cond (x.kind==5) (if now+1>lo/\now+1<=hi then(1:Int)else 0) 0/\cond (x.kind==5) (if now+1>lo/\now+1<=hi then(1:Int)else 0) 0<=1:=by
   cases(x.kind==5)
   ·simp only[cond_false];omega
   ·simp only[cond_true];split<;>omega
  refine(Iu hx n _ (now+1) (j+1) kf (by omega) (by omega) (by omega) (by omega) (by omega) (by omega) (by omega)).trans ?_;rw[e,NU (show now<now+1+(n:Int) by omega)];cases(x.kind==5)
  ·simp
  ·simp only[cond_true];rw[Int.add_assoc]
def iT (lo hi:Int):Int->List Step->Int
 |_,[]=>0
 |now,x::l=>cond (x.kind==5) (seg lo hi now (now+takes x)) 0+iT lo hi (now+takes x) l
theorem vY {R:Type} {k:Nat} (hk:1000<k) {steps:List Step} (hl:steps.length<=1000) {lo hi:Int} {fin:Int->Option R}:∀(qs pre:List Step) (c now:Int) (kf:Nat),steps=pre++qs->qs.length<kf->0<=c->c<=200*pre.length->0<=now->now<=200*pre.length->
  iter (λu7 n7=>cL k (steps,lo,hi) u7 n7 fin) kf (c,now,(pre.length:Int))=fin (c+iT lo hi now qs)
 |_,_,_,_,0,_,h,_,_,_,_=>by omega
 |[],pre,c,now,kf+1,hp,_,_,_,_,_=>by
  have hlen:steps.length=pre.length:=by rw[hp];simp
  rw[aC];show cL k _ _ _ fin=_;unfold cL;simp only;rw[decide_eq_false (by omega),cond_false];unfold iT
  rw[Tl]
 |x::qs,pre,c,now,kf+1,hp,hkf,c0,c1,n0,n1=>by
  have hlen:steps.length=pre.length+(qs.length+1):=by rw[hp];simp
  simp only[Rm]at hkf;have hb:=CE x
  have hat:idx steps (pre.length:Int)=some x:=by rw[aE,hp];simp
  have hs:=Og lo hi (show now<=now+takes x by omega)
  have hcc:0<=cond (x.kind==5) (seg lo hi now (now+takes x)) 0/\cond (x.kind==5) (seg lo hi now (now+takes x)) 0<=takes x:=by
   cases(x.kind==5)
   ·simp only[cond_false];omega
   ·simp only[cond_true];omega
  rw[aC]
  have st:∀next,cL k (steps,lo,hi) (c,now,(pre.length:Int)) next fin=next (c+cond (x.kind==5) (seg lo hi now (now+takes x)) 0,now+takes x,((pre++[x]).length:Int)):=λnext=>by
   unfold cL;simp only;rw[decide_eq_true (by omega),cond_true];refine(Iu hat (takes x).toNat c now 0 k (by omega) (by omega) (by omega) c0 (by omega) n0 (by omega)).trans ?_;rw[show(((takes x).toNat:Nat):Int)=takes x from by omega,aH (by omega) (by omega),Ro];rfl
  refine(st _).trans ((vY hk hl qs (pre++[x]) _ (now+takes x) kf (by rw[hp];simp) (by omega) (by omega) (by rw[Ro];simp only[Rm,RK];omega) (by omega) (by rw[Ro];simp only[Rm,RK];omega)).trans ?_);rw[iT,Int.add_assoc]
theorem vZ {R:Type} {k:Nat} {steps:List Step} (hl:steps.length<=1000) {lo hi:Int} {fin:Int->Option R}:∀(qs pre:List Step) (c now:Int) (kf:Nat),steps=pre++qs->qs.length<kf->0<=c->c<=200*pre.length->0<=now->now<=200*pre.length->
  iter (λu4 n4=>cM k (lo,hi,steps,(steps.length:Int)) u4 n4 fin) kf (c,now,(pre.length:Int))=fin (c+iT lo hi now qs)
 |_,_,_,_,0,_,h,_,_,_,_=>by omega
 |[],pre,c,now,kf+1,hp,_,_,_,_,_=>by
  have hlen:steps.length=pre.length:=by rw[hp];simp
  rw[aC];show cM k _ _ _ fin=_;unfold cM;simp only;rw[decide_eq_false (by omega),cond_false];unfold iT
  rw[Tl]
 |x::qs,pre,c,now,kf+1,hp,hkf,c0,c1,n0,n1=>by
  have hlen:steps.length=pre.length+(qs.length+1):=by rw[hp];simp
  simp only[Rm]at hkf;have hb:=CE x
  have hat:idx steps (pre.length:Int)=some x:=by rw[aE,hp];simp
  have hs:=Og lo hi (show now<=now+takes x by omega)
  have hcc:0<=cond (x.kind==5) (seg lo hi now (now+takes x)) 0/\cond (x.kind==5) (seg lo hi now (now+takes x)) 0<=takes x:=by
   cases(x.kind==5)
   ·simp only[cond_false];omega
   ·simp only[cond_true];omega
  rw[aC]
  have st:∀next,cM k (lo,hi,steps,(steps.length:Int)) (c,now,(pre.length:Int)) next fin=next (c+cond (x.kind==5) (seg lo hi now (now+takes x)) 0,now+takes x,((pre++[x]).length:Int)):=λnext=>by
   unfold cM;simp only;rw[decide_eq_true (by omega),cond_true,hat,aa,wj,aa,aH (n:=(pre.length:Int)+1) (by omega) (by omega),Ro];cases ht:(inB x.kind 4 5&&inB x.a 0 200)
   ·have hz:takes x=0:=by unfold takes;rw[ht];rfl
    rw[hz,Tl,Is];cases(x.kind==5)<;>simp
   ·have hz:takes x=x.a:=by unfold takes;rw[ht];rfl
    rw[hz]at hb hs hcc⊢;rw[aH (n:=now+x.a) (by omega) (by omega)];simp only[Rn,cond_false];cases(x.kind==5)
    ·simp only[cond_false,Tl];rfl
    ·simp only[cond_true];unfold seg at hs⊢;by_cases d:(if hi<now+x.a then hi else now+x.a)>(if lo>now then lo else now)
     ·rw[if_pos d]at hs⊢;rw[decide_eq_true d,cond_true,aH (n:=(if hi<now+x.a then hi else now+x.a)-(if lo>now then lo else now)) (by omega) (by omega),aH (by omega) (by omega)];rfl
     ·rw[if_neg d,decide_eq_false d,cond_false,Tl];rfl
  refine(st _).trans ((vZ hl qs (pre++[x]) _ (now+takes x) kf (by rw[hp];simp) (by omega) (by omega) (by rw[Ro];simp only[Rm,RK];omega) (by omega) (by rw[Ro];simp only[Rm,RK];omega)).trans ?_);rw[iT,Int.add_assoc]
theorem v3 {k:Nat} {steps:List Step} (hk:steps.length+1000<k) (hl:steps.length<=1000) (lo hi:Int):fH k steps lo hi=some (iT lo hi 0 steps)/\fI k steps lo hi=some (iT lo hi 0 steps):=by
 unfold fH fI;have h1:=vY (k:=k) (by omega) hl (lo:=lo) (hi:=hi) (fin:=some) steps [] 0 0 k rfl (by omega) (by omega) (by simp) (by omega) (by simp);have h2:=vZ (k:=k) hl (lo:=lo) (hi:=hi) (fin:=some) steps [] 0 0 k rfl (by omega) (by omega) (by simp) (by omega) (by simp);rw[Int.zero_add]at h1 h2;exact⟨h1,h2⟩
end
set_option maxRecDepth 100000
set_option maxHeartbeats 4000000
section
def uc (ag:Int) (steps:List Step) (now:Int) (y:Entry):Bool:=(y.done||decide (y.end_<0))&&(decide (y.due<=now)&&decide (iT y.at_ y.due 0 steps<=ag))
theorem wx {k:Nat} {steps:List Step} (hk:steps.length+1000<k) (hl:steps.length<=1000) (y:Entry) (ag now:Int):kX k y ag steps now=some (uc ag steps now y):=by
 unfold kX uc;rw[(v3 hk hl y.at_ y.due).1];simp only[aa];cases y.done<;>cases decide (y.end_<0)<;>cases decide (y.due<=now)<;>rfl
theorem Dd {k:Nat} {a b:Int} {xs:List Step} (hk:20000000<=k) (hs:∀x∈xs,lS x) {r:Runtime} {E:List Entry} {evs:List Event} (hst:Hb r E evs xs.length) (hl:xs.length<=200) (h:ve k a b xs=some (r,evs,E,true)):
  nH k a b xs=some (E.filter (uc a xs r.sched.now),true):=by
 have hM:=al;have hE:=hst.Q2;unfold nH;rw[h,aa]
 have e:E.filter (uc a xs r.sched.now)=(E.filter (uc a xs r.sched.now)).map id:=by rw[List.map_id]
 rw[e];refine jv E (uc a xs r.sched.now) id (g:=λu6 n6=>fx k _ u6 n6 (λy5=>some (y5,true))) (fin:=λy=>some (y,true)) (λi ys hi next hy=>?_) (λys next=>?_) (by omega)
 ·have hd:decide (0<=(i:Int)/\(i:Int)<(E.length:Int))=true:=decide_eq_true (by omega);simp only[fx,hd,cond_true,Rg,ai hi,aa];rw[decide_eq_true (by omega),cond_true,(v3 (k:=k) (by omega) (by omega) E[i].at_ E[i].due).2,aa,cr (by omega),au hi (by omega)];unfold uc;by_cases c1:E[i].end_<0
  ·rw[decide_eq_false (show¬E[i].end_>=0 by omega),decide_eq_true c1];cases E[i].done<;>cases decide (E[i].due<=r.sched.now)<;>cases decide (iT E[i].at_ E[i].due 0 xs<=a)<;>rfl
  ·rw[decide_eq_true (show E[i].end_>=0 by omega),decide_eq_false c1];cases E[i].done<;>cases decide (E[i].due<=r.sched.now)<;>cases decide (iT E[i].at_ E[i].due 0 xs<=a)<;>rfl
 ·simp only[fx];rw[ab,if_neg (by omega)]
theorem zK {k:Nat} (hk:20000000<=k) {a b:Int} {xs:List Step} (hs:∀x∈xs,lS x):∃out:List Int,out.length<=200/\mF k a b xs=some out/\ka k a b xs=some out:=by
 have hM:=al;unfold mF ka
 rcases JS hk hs (a:=a) (b:=b)with⟨h1,h2,_⟩|⟨r,E,evs,hst,hl,h1,h2⟩
 ·refine⟨[],by simp,by rw[h1];rfl,?_⟩;unfold nH;rw[h2,aa];obtain⟨k,rfl⟩:∃m,k=m+1:=⟨k-1,by omega⟩;rw[aC];show(fx (k+1) _ _ _ _).bind _=_;simp only[fx,Qs];rw[decide_eq_false (by simp),cond_false,aa,aC];show dT (k+1) _ _ _ _=_;simp only[dT];rw[decide_eq_false (by simp),cond_false]
 ·have hE:=hst.Q2;have hf:=SP (uc a xs r.sched.now) E;refine⟨(E.filter (uc a xs r.sched.now)).map (·.id),by rw[Tt];omega,?_,?_⟩
  ·rw[h1,aa];simp only[Rn,cond_false];refine jv E (uc a xs r.sched.now) (·.id) (g:=λu6 n6=>fX k _ u6 n6 (λy5=>some y5)) (fin:=some) (λi ys hi next hy=>?_) (λys next=>?_) (by omega)
   ·have hd:decide (0<=(i:Int)/\(i:Int)<(E.length:Int))=true:=decide_eq_true (by omega);simp only[fX,hd,cond_true,Rg,ai hi,aa,wx (k:=k) (steps:=xs) (by omega) (by omega)];rw[decide_eq_true (by omega),cond_true,cr (by simp;omega),au hi (by omega)]
   ·simp only[fX];rw[ab,if_neg (by omega)]
  ·rw[Dd hk hs hst hl h2,aa];refine(qG (E.filter (uc a xs r.sched.now)) (·.id) (g:=λu4 n4=>dT k (((E.filter (uc a xs r.sched.now)).length:Int),E.filter (uc a xs r.sched.now)) u4 n4 (λy3=>some y3)) (fin:=some) (λi ys hi next hy=>?_) (λys next=>?_) (by omega))
   ·have hd:decide (0<=(i:Int)/\(i:Int)<((E.filter (uc a xs r.sched.now)).length:Int))=true:=decide_eq_true (by omega);simp only[dT,hd,cond_true,Rg,ai hi,aa];rw[decide_eq_true (by omega),cond_true,cr (by simp;omega),au hi (by omega)]
   ·simp only[dT];rw[ab,if_neg (by omega)]
theorem pc (a b:Int) (xs:List Step) (ha:okI a) (hb:okI b) (hx:okS Step.Ok xs):∃k,de k a b xs=some true:=by
 suffices h:∀kk,eE Step.tot xs+20000000<=kk->de kk a b xs=some true from⟨_,h _ (Rw _)⟩
 intro kk hkk;have hM:=al;have hlen:=bm Step.tot xs;unfold de;rw[GG (n:=1048576) hx (by omega) (by omega) (by omega),aa,ab];by_cases c:(1048576:Int)<(eE Step.tot xs:Int)
 ·simp only[if_pos c];rfl
 simp only[if_neg c];rw[if_neg (by omega)]
 have hk:eE Step.tot xs<kk:=by omega
 have hN:eE Step.tot xs<=aT:=by omega
 obtain⟨out,hol,q1,q2⟩:=zK (k:=kk) (by omega) (a:=a) (b:=b) (Ha hx (by omega));obtain⟨r1,y1,e1,a1,b1,l1,h1⟩:=wi (k:=kk) (xs:=xs) (m:=1) hk hN (by omega) (by unfold Dg;omega);obtain⟨r2,y2,e2,a2,b2,l2,h2⟩:=p8 (k:=kk) (xs:=out) (m:=1) (by omega) (by omega) (by omega) (by unfold Dg;omega);simp only[GH hk hN,aa,q1,q2,Bc (xs:=out) (ys:=out) (k:=kk) (by omega) (by omega),GI (ys:=xs) hk hN,e1,e2,h2,decide_true,cond_not,cond_true,ab,mg];rw[if_neg (by omega)];simp
 repeat rw[if_neg (by omega)]
end
end Go.Proofs.Ev
