/- Typed functions and what holds of them: part 6. -/
import Derived.Test.YtpiopmjbcadfbaaGreatEvL5
set_option linter.unusedVariables false
set_option linter.unusedSimpArgs false
set_option linter.unusedSectionVars false
namespace Go.Proofs.Ev
set_option maxRecDepth 100000
set_option maxHeartbeats 4000000
section
theorem H3 {k:Nat} (hk:20000000<=k) {st:Bool} {ms:List Model} {ls:List Bool} {a:Int} (ha:a<=200) {q1 q2 q4 q5 q6 kd p9:Int} {q3 q7:List Int} (hkd:(kd==5)=st):∀(n:Nat) (i:Int) (s:aj) (rs:List Request) (e:List Event),a=i+n->0<=i->ra ⟨s,ms,ls,rs⟩->e.length+n<=1000->
  ∃(e':List Event) (s':aj) (rs':List Request),ra ⟨s',ms,ls,rs'⟩/\e'.length<=e.length+n/\(∃d,e'=e++d/\lH (oX rs) d (oX rs'))/\(s'.ai=s.ai/\s'.age=s.age/\s'.next=s.next)/\
   (s.now=1000000->e'=e/\s'=s/\rs'=rs)/\
   (∀(R:Type) (fin:_->Option R) (kf:Nat),n<kf->iter (λu10 n10=>cZ k (st,q1,a,q2,q3,q4,q5,q6,q7,ms,ls) u10 n10 fin) kf (i,s.now,s.ai,s.age,s.run,s.left,s.turns,s.next,e,s.tasks,rs)=fin (e',s'.now,s'.ai,s'.age,s'.run,s'.left,s'.turns,s'.next,s'.tasks,rs'))/\
   (∀(R:Type) (fin:_->Option R) (kf:Nat),n<kf->iter (λu9 n9=>bj k (a,s.ai,s.age,s.next,kd,p9,q2,q3,q4,q5,q6,q7,ms,ls) u9 n9 fin) kf (i,s.now,s.run,s.left,s.turns,e,s.tasks,rs)=fin (e',s'.now,s'.run,s'.left,s'.turns,s'.tasks,rs'))
 |0,i,s,rs,e,hi,h0,h,he=>by
  refine⟨e,s,rs,h,Rb _,⟨[],by simp,.nil⟩,⟨rfl,rfl,rfl⟩,λ_=>⟨rfl,rfl,rfl⟩,λR fin kf hkf=>?_,λR fin kf hkf=>?_⟩
  ·obtain⟨kf,rfl⟩:∃m,kf=m+1:=⟨kf-1,by omega⟩;rw[aG];show cZ k _ _ _ fin=_;unfold cZ;simp only;rw[decide_eq_false (by omega)];rfl
  ·obtain⟨kf,rfl⟩:∃m,kf=m+1:=⟨kf-1,by omega⟩;rw[aG];show bj k _ _ _ fin=_;unfold bj;simp only
   rw[decide_eq_false (by omega)];rfl
 |n+1,i,s,rs,e,hi,h0,h,he=>by
  obtain⟨e1,s1,r1,g1,g2,⟨d1,dd1,td1⟩,g3,g4,g5,g6⟩:=LU (e:=e) hk h (by omega) h0 (show i<a by omega) ha (q1:=q1) (q2:=q2) (q4:=q4) (q5:=q5) (q6:=q6) (kd:=kd) (p9:=p9) (q3:=q3) (q7:=q7) hkd;obtain⟨e2,s2,r2,f1,f2,⟨d2,dd2,td2⟩,f3,f4,f5,f6⟩:=H3 hk (ms:=ms) (ls:=ls) ha (q1:=q1) (q2:=q2) (q4:=q4) (q5:=q5) (q6:=q6) (kd:=kd) (p9:=p9) (q3:=q3) (q7:=q7) hkd n (i+1) s1 r1 e1 (by omega) (by omega) g1 (by omega);refine⟨e2,s2,r2,f1,by omega,⟨d1++d2,by rw[dd2,dd1,Rh],td1.app td2⟩,⟨f3.1.trans g3.1,f3.2.1.trans g3.2.1,f3.2.2.trans g3.2.2⟩,λhn=>?_,λR fin kf hkf=>?_,λR fin kf hkf=>?_⟩
  ·obtain⟨x1,x2,x3⟩:=g5 hn;subst x1 x2 x3;exact f4 hn
  ·obtain⟨kf,rfl⟩:∃m,kf=m+1:=⟨kf-1,by omega⟩;rw[aG];exact(g4 R _ fin).trans (f5 R fin kf (by omega))
  ·obtain⟨kf,rfl⟩:∃m,kf=m+1:=⟨kf-1,by omega⟩;rw[aG];by_cases hn:s.now=1000000
   ·obtain⟨x1,x2,x3⟩:=g5 hn;subst x1 x2 x3;obtain⟨y1,y2,y3⟩:=f4 hn;subst y1 y2 y3;show bj k _ _ _ fin=_;unfold bj;simp only;rw[decide_eq_true (by omega),cond_true,bQ,if_pos hn]
   ·refine(g6 hn R _ fin).trans ?_;have:=f6 R fin kf (by omega);rw[g3.1,g3.2.1,g3.2.2]at this;exact this
def P7 (e:List Event) (r:Runtime):List Event× Int× Int× Int× List Task× Int× Int× Int× Int× List Model× List Bool× List Request:=(e,r.sched.now,r.sched.ai,r.sched.age,r.sched.tasks,r.sched.run,r.sched.left,r.sched.turns,r.sched.next,r.ak,r.ao,r.ae)
structure lI (x:Step):Prop where
 byte:∀y∈x.data,okB y
 data:x.data.length<=aT
 input:x.input.tot<=2000000
theorem LV {r:Runtime} (h:ra r) (x:Step):ra ⟨r.sched,(vd r x).2.1,(vd r x).2.2,r.ae⟩/\(vd r x).1.length<=1:=by
 unfold vd;cases(inB x.a 0 3&&!r.ao.getD x.a.toNat false)
 ·exact⟨⟨h.s,h.ml,h.ll,h.mod,h.req⟩,by simp[dB]⟩
 cases(decide ((eE x.data).2=0)&&tN (eE x.data).1)
 ·exact⟨⟨h.s,h.ml,h.ll,h.mod,h.req⟩,by simp[dB]⟩
 refine⟨⟨h.s,by simp[h.ml],by simp[h.ll],λm hm=>?_,h.req⟩,by simp⟩
 rcases List.mem_or_eq_of_mem_set hm with hm|rfl
 ·exact h.mod m hm
 ·exact sf _
theorem H4 {s:aj} {ar:List Int} {due:Int} (h:(fG s ar due).2.2=0):(fG s ar due).2.1=s.next/\(fG s ar due).1.tasks=s.tasks++[⟨s.next,ar,0,due,s.now⟩]:=by
 unfold fG at h⊢;cases c1:(bw s&&ie ⟨s.next,ar,0,due,s.now⟩)
 ·rw[c1]at h;exact absurd (show(1:Int)=0 from h) (by decide)
 rw[c1]at h;cases c2:((s.tasks.length:Int)==12||s.next==1000000)
 ·rw[c2]at h;cases c3:yX ⟨s.now,s.ai,s.age,s.tasks++[⟨s.next,ar,0,due,s.now⟩],s.run,s.left,s.turns,s.next+1⟩
  ·rw[c3]at h;exact absurd (show(3:Int)=0 from h) (by decide)
  ·exact⟨rfl,rfl⟩
 ·rw[c2]at h;exact absurd (show(2:Int)=0 from h) (by decide)
theorem EU {r:Runtime} (h:ra r) (x:Step):ra ⟨(gW r x).2.1,r.ak,r.ao,(gW r x).2.2⟩/\(gW r x).1.length<=1:=by
 have same:∀c,ra ⟨(dB x.kind c,r.sched,r.ae).2.1,r.ak,r.ao,(dB x.kind c,r.sched,r.ae).2.2⟩/\(dB x.kind c,r.sched,r.ae).1.length<=1:=λc=>⟨⟨h.s,h.ml,h.ll,h.mod,h.req⟩,by simp[dB]⟩;unfold gW;cases c0:JH r x.a
 ·exact same _
 simp only[cond_true];have c1':=of_decide_eq_true (Sx.1 c0).1;have hmo:=h.ml
 have hmt:(r.ak.getD x.a.toNat dm).tot<=8002000:=by
  rw[bZ (show x.a.toNat<r.ak.length by omega)];exact h.mod _ (Q3 _)
 generalize r.ak.getD x.a.toNat dm=m at hmt;cases c2:(dA m x.input).2
 ·exact same _
 have hj:tU ⟨m,0,x.input,0⟩=true/\(dA m x.input).1=⟨m,0,x.input,0⟩:=by
  unfold dA at c2⊢;cases c:tU ⟨m,0,x.input,0⟩
  ·rw[c]at c2;exact nomatch c2
  ·exact⟨rfl,rfl⟩
 rw[hj.2];simp only[cond_true];cases inB x.b 0 1000000
 ·exact same _
 simp only[cond_true];have ho:=Nr h.s (bC m) (r.sched.now+x.b);by_cases c3:(fG r.sched (bC m) (r.sched.now+x.b)).2.2=0
 ·obtain⟨h1,h2⟩:=H4 c3;rw[decide_eq_true c3];simp only[cond_true];refine⟨⟨ho,h.ml,h.ll,h.mod,?_⟩,by simp⟩;show Lk (r.ae++[_]) (fG r.sched (bC m) (r.sched.now+x.b)).1.tasks;rw[h2];exact h.req.app ⟨h1,hj.1,rfl,rfl,hmt⟩
 ·rw[decide_eq_false c3];exact same _
theorem EV {r:Runtime} (h:ra r) (x:Step):ra (fQ r x).2/\(fQ r x).1.length<=13:=by
 unfold fQ;cases JH r x.a
 ·exact⟨h,by simp[dB]⟩
 have hu:=zn x.a r.ak r.ao r.ae [] r.sched r.ae (Bh h) h;have hq:=h.NV;refine⟨⟨hu.1.s,by simp[h.ml],by simp[h.ll],λm hm=>?_,hu.1.req⟩,?_⟩
 ·rcases List.mem_or_eq_of_mem_set hm with hm|rfl
  ·exact h.mod m hm
  ·exact Rt _
 ·have:=hu.2;simp only[Rz]at this;simp only[cond_true,Q9,Q5,Rz];omega
theorem LW {rs:List Request} {id:Int} (h:¬tP rs id<0):∃q∈rs,q.id=id:=by
 unfold tP at h
 cases hf:rs.findIdx? λq=>q.id==id with
 |none=>rw[hf]at h;exact absurd (show(-1:Int)<0 by decide) h
 |some i=>
  obtain⟨hi,hp,_⟩:=R2.1 hf;exact⟨rs[i],Q3 hi,by simpa using hp⟩
def wJ (r:Runtime) (x:Step) (e:List Event) (r':Runtime):Prop:=
 (lH (oX r.ae) e (oX r'.ae)/\r'.sched.next=r.sched.next)\/
 ∃due,e=[⟨2,r.sched.next,due,zi⟩]/\r'.sched.next=r.sched.next+1/\r'.ae=r.ae++[⟨r.sched.next,x.a,⟨r.ak.getD x.a.toNat dm,0,x.input,0⟩,due⟩]/\r'.ak=r.ak/\0<=x.a/\x.a<4
theorem LY {r:Runtime} (x:Step):lH (oX r.ae) (vd r x).1 (oX r.ae):=by
 have ref:∀c,lH (oX r.ae) (dB x.kind c) (oX r.ae):=λc=>.other (by simp) (by simp) (by simp) .nil;unfold vd;cases(inB x.a 0 3&&!r.ao.getD x.a.toNat false)
 ·exact ref _
 cases(decide ((eE x.data).2=0)&&tN (eE x.data).1)
 ·exact ref _
 ·exact .other (by simp) (by simp) (by simp) .nil
theorem GP {r:Runtime} (h:ra r) (x:Step):wJ r x (gW r x).1 ⟨(gW r x).2.1,r.ak,r.ao,(gW r x).2.2⟩:=by
 have ref:∀c,wJ r x (dB x.kind c,r.sched,r.ae).1 ⟨(dB x.kind c,r.sched,r.ae).2.1,r.ak,r.ao,(dB x.kind c,r.sched,r.ae).2.2⟩:=λc=>.inl ⟨.other (by simp) (by simp) (by simp) .nil,rfl⟩;unfold gW;cases c0:JH r x.a
 ·exact ref _
 simp only[cond_true];have c1':=of_decide_eq_true (Sx.1 c0).1;cases c2:(dA (r.ak.getD x.a.toNat dm) x.input).2
 ·exact ref _
 have hj:(dA (r.ak.getD x.a.toNat dm) x.input).1=⟨r.ak.getD x.a.toNat dm,0,x.input,0⟩:=by
  unfold dA at c2⊢;cases c:tU ⟨r.ak.getD x.a.toNat dm,0,x.input,0⟩
  ·rw[c]at c2;exact nomatch c2
  ·rfl
 rw[hj];simp only[cond_true];cases inB x.b 0 1000000
 ·exact ref _
 simp only[cond_true];generalize hc:bC (r.ak.getD x.a.toNat dm)=cs;by_cases c3:(fG r.sched cs (r.sched.now+x.b)).2.2=0
 ·obtain⟨h1,h2⟩:=H4 c3;rw[decide_eq_true c3];simp only[cond_true];refine .inr ⟨r.sched.now+x.b,by rw[h1],?_,by rw[h1],rfl,c1'.1,by omega⟩
  rcases zf r.sched cs (r.sched.now+x.b)with⟨_,_,_,_,g⟩|⟨g,_⟩
  ·show(fG r.sched cs (r.sched.now+x.b)).1.next=_
   rw[g]
  ·exact(g c3).elim
 ·rw[decide_eq_false c3];exact ref _
theorem GQ {r:Runtime} (h:ra r) (x:Step):lH (oX r.ae) (fQ r x).1 (oX (fQ r x).2.ae):=by
 unfold fQ;cases JH r x.a
 ·exact .other (by simp) (by simp) (by simp) .nil
 obtain⟨d,h1,h2⟩:=zo x.a r.ae [] r.sched r.ae h.inc λi hi=>hi;simp only[cond_true];rw[h1,Sf];exact h2.app (.other (by simp) (by simp) (by simp) .nil)
theorem O8 {k:Nat} (hk:20000000<=k) {r:Runtime} (h:ra r) {x:Step} (hx:lI x):∃(e:List Event) (r':Runtime),ra r'/\e.length<=1000/\wJ r x e r'/\tx k r x=some (P7 e r')/\iI k r x=some (P7 e r'):=by
 have hM:=al;have hq:=h.NV;have ht:=h.tot;unfold tx iI;simp only[bQ];by_cases c0:x.kind=0
 ·simp only[if_pos c0];rw[LN (by omega) hx.byte hx.data h.ll h.ml,LO (by omega) hx.byte hx.data h.ll h.ml];exact⟨(vd r x).1,⟨r.sched,(vd r x).2.1,(vd r x).2.2,r.ae⟩,(LV h x).1,by have:=(LV h x).2;omega,.inl ⟨LY x,rfl⟩,rfl,rfl⟩
 simp only[if_neg c0];by_cases c1:x.kind=1
 ·simp only[if_pos c1];obtain⟨i1,i2,i3,i4,i5,i6⟩:=GN h hk (x:=x);rw[GM h hk,i1];refine⟨(fQ r x).1,(fQ r x).2,(EV h x).1,by have:=(EV h x).2;omega,.inl ⟨GQ h x,i6⟩,rfl,?_⟩;simp only[aa,P7,i2,i3,i4,i5,i6]
 simp only[if_neg c1];by_cases c2:x.kind=2
 ·simp only[if_pos c2];rw[GK h hk hx.input,GL h hk hx.input];exact⟨(gW r x).1,⟨(gW r x).2.1,r.ak,r.ao,(gW r x).2.2⟩,(EU h x).1,by have:=(EU h x).2;omega,GP h x,rfl,rfl⟩
 simp only[if_neg c2];by_cases c3:x.kind=3
 ·simp only[if_pos c3];unfold gS;rw[qZ (by omega) (by omega),aa,ve (by omega) (by omega),aa];by_cases c:tP r.ae x.a<0
  ·rw[decide_eq_true c];unfold bE dz;simp only[cond_true,aa,decide_true];exact⟨dB x.kind 7,r,h,by simp[dB],.inl ⟨.other (by simp) (by simp) (by simp) .nil,rfl⟩,rfl,rfl⟩
  ·rw[decide_eq_false c];obtain⟨q,hq1,hq2⟩:=LW c;have hid:1<=x.a:=hq2▸Bh h q hq1;simp only[cond_false];rw[Bg (by omega) (by omega) h.s hid,ET (by omega) (by omega)];simp only[aa,decide_true,cond_true];exact⟨[zN x.a],P5 r x.a,HW h hid,by simp,.inl ⟨.ends (.inr rfl) (by show x.a∈oX r.ae;unfold oX;exact SZ.2 ⟨q,hq1,hq2⟩) (by show lH ((oX r.ae).filter λi=>!(i==x.a)) [] (oX (wH r.ae x.a));rw[wI];exact .nil),rfl⟩,rfl,rfl⟩
 simp only[if_neg c3]
 have run:∀(st:Bool),(x.kind==5)=st->∃(e:List Event) (s':aj) (rs':List Request),ra ⟨s',r.ak,r.ao,rs'⟩/\e.length<=1000/\lH (oX r.ae) e (oX rs')/\(s'.ai=r.sched.ai/\s'.age=r.sched.age/\s'.next=r.sched.next)/\
   jX k r x st=some (e,s'.now,s'.ai,s'.age,s'.tasks,s'.run,s'.left,s'.turns,s'.next,rs')/\fA k r x=some (e,s'.now,s'.tasks,s'.run,s'.left,s'.turns,rs'):=λst hst=>by
  unfold jX fA bE dz;rw[cD,aa,fE,aa];cases c:inB x.a 0 200
  ·simp only[Rm,cond_true,aa,decide_true];exact⟨dB x.kind 8,r.sched,r.ae,h,by simp[dB],.other (by simp) (by simp) (by simp) .nil,⟨rfl,rfl,rfl⟩,rfl,rfl⟩
  have c':=of_decide_eq_true c;simp only[Q1,cond_false,decide_true,cond_true];obtain⟨e,s',rs',g1,g2,⟨d,dd,td⟩,g3,_,g5,g6⟩:=H3 hk (st:=st) (ms:=r.ak) (ls:=r.ao) (a:=x.a) (by omega) (q1:=x.kind) (q2:=x.b) (q4:=x.input.sh.h) (q5:=x.input.sh.w) (q6:=x.input.sh.c) (kd:=x.kind) (p9:=x.a) (q3:=x.data) (q7:=x.input.data) hst x.a.toNat 0 r.sched r.ae [] (by omega) (by omega) h (by simp;omega);refine⟨e,s',rs',g1,?_,by rw[dd];exact td,g3,g5 _ _ k (by omega),g6 _ _ k (by omega)⟩;simp only[Rz]at g2;omega
 by_cases c4:x.kind=4
 ·simp only[if_pos c4];obtain⟨e,s',rs',g1,g2,td,g3,g4,g5⟩:=run false (by rw[c4];rfl);rw[g4,g5];refine⟨e,⟨s',r.ak,r.ao,rs'⟩,g1,g2,.inl ⟨td,g3.2.2⟩,rfl,?_⟩;simp only[aa,P7,g3.1,g3.2.1,g3.2.2]
 simp only[if_neg c4];by_cases c5:x.kind=5
 ·simp only[if_pos c5];obtain⟨e,s',rs',g1,g2,td,g3,g4,g5⟩:=run true (by rw[c5];rfl);rw[g4,g5];refine⟨e,⟨s',r.ak,r.ao,rs'⟩,g1,g2,.inl ⟨td,g3.2.2⟩,rfl,?_⟩;simp only[aa,P7,g3.1,g3.2.1,g3.2.2]
 simp only[if_neg c5];unfold bE dz;simp only[aa];exact⟨dB x.kind 8,r,h,by simp[dB],.inl ⟨.other (by simp) (by simp) (by simp) .nil,rfl⟩,rfl,rfl⟩
end
set_option maxRecDepth 100000
set_option maxHeartbeats 4000000
section
def rt0 (s:aj):Runtime:=⟨s,List.replicate 4 dm,List.replicate 4 false,[]⟩
def Ql:Runtime:=⟨⟨0,0,0,[],0,0,0,0⟩,[],[],[]⟩
theorem zp {k:Nat} {a b:Int} (hk:0<k):mq k a b=some (cond (bw (Bd a b)) (rt0 (Bd a b),true) (Ql,false)):=by
 unfold mq;rw[Np hk,aa];cases bw (Bd a b)<;>rfl
theorem zq {k:Nat} {a b:Int} (hk:0<k):mr k a b=some (cond (bw (Bd a b)) (rt0 (Bd a b),true) (Ql,false)):=by
 unfold mr;rw[Nq hk,aa];cases bw (Bd a b)<;>rfl
theorem P8 {a b:Int} (h:bw (Bd a b)=true):ra (rt0 (Bd a b)):=⟨NU h,rfl,rfl,λm hm=>by rw[(S9.1 hm).2];exact Rt _,.nil⟩
theorem GR {xs:List Step} (hx:okS Step.Ok xs) (ht:eA Step.tot xs<=1048576):∀x∈xs,lI x:=λx hm=>by
 have hM:=al;have h1:=hx.2 x hm;have h2:=eH Step.tot hm;have h3:x.tot=x.data.length+(x.input.tot+0):=rfl;exact⟨h1.2.2.2.1.2,by omega,by omega⟩
end
set_option maxRecDepth 100000
set_option maxHeartbeats 4000000
section
def mA (E:List Entry):Prop:=∀(i:Nat) (h:i<E.length),E[i].id=(i:Int)+1
theorem mA.set {E:List Entry} (h:mA E) {j:Nat} {y:Entry} (hy:y.id=(j:Int)+1):mA (E.set j y):=λi hi=>by
 rw[List.getElem_set];by_cases c:j=i
 ·subst c;rw[if_pos rfl];exact hy
 ·rw[if_neg c];exact h i (by simpa using hi)
theorem mA.app {E:List Entry} (h:mA E) {y:Entry} (hy:y.id=(E.length:Int)+1):mA (E++[y]):=λi hi=>by
 rw[List.getElem_append];by_cases c:i<E.length
 ·rw[dif_pos c];exact h i c
 ·rw[dif_neg c];simp only[Q9,Q5,Rz]at hi
  have:i=E.length:=by omega
  subst this;simpa using hy
def Nv (now:Int) (ev:Event) (y:Entry):Entry:=⟨y.id,y.model,y.input,y.at_,y.due,cond (ev.kind==4) now ev.b,ev.kind==3⟩
section
variable {k:Nat} {p:List Step× Int× Int× List Event× Int× Int× Int× Int× Int× Int× Int× Int× Int× Int× Int× Int× Int× Int× Int× List Event× Int× Int× Int× Int× Int× Int× List Int× List Request× List Task× List Model× List Bool× List Request} {ev:Event} {now:Int}
 (h1:p.2.2.2.2.2.2.2.2.2.2.2.2.2.2.2.2.2.2.2.2.1=ev.kind) (h2:p.2.2.2.2.2.2.2.2.2.2.2.2.2.2.2.2.2.2.2.2.2.1=ev.a) (h3:p.2.2.2.2.2.2.2.2.2.2.2.2.2.2.2.2.2.2.2.2.2.2.1=ev.b) (h4:p.2.2.1=now)
include h1 h2 h3 h4
theorem O9 {R:Type} {E:List Entry} {fin:List Entry->Option R} {j:Nat} (hj:j<E.length) (hE:E.length<=100000) (next:Int× List Entry->Option R):
  fP k p ((j:Int),E) next fin=next (((j+1:Nat):Int),cond (E[j].id==ev.a) (E.set j (Nv now ev E[j])) E):=by
 have hM:=al;have hd0:decide ((j:Int)<(E.length:Int))=true:=decide_eq_true (by omega);have hd:decide (0<=(j:Int)/\(j:Int)<(E.length:Int))=true:=decide_eq_true (by omega);have hg:∀y:Entry,(E.set j y)[j]? =some y:=λy=>RG hj;unfold fP;simp only[h1,h2,h3,h4,hd0,hd,QW,RB,cond_true,ag hj,aa,List.set_set,hg,au hj (show E.length<=9223372036854775807 by omega)];cases c:(E[j].id==ev.a)
 ·rfl
 simp only[cond_true,Nv];cases(ev.kind==4)<;>rfl
theorem CS {R:Type} {fin:List Entry->Option R}:∀(n j:Nat) (E:List Entry) (kf:Nat),j+n=E.length->n<kf->E.length<=100000->mA E->
  iter (λu14 n14=>fP k p u14 n14 fin) kf ((j:Int),E)=fin (cond (decide ((j:Int)<ev.a/\ev.a<=(E.length:Int))) (E.set (ev.a-1).toNat (Nv now ev (E.getD (ev.a-1).toNat ⟨0,dm,zi,0,0,0,false⟩))) E)
 |_,_,_,0,_,h,_,_=>by omega
 |0,j,E,kf+1,hj,_,_,_=>by
  rw[aG];show fP k p _ _ fin=_;unfold fP;simp only
  rw[decide_eq_false (show¬(j:Int)<(E.length:Int) by omega),cond_false,decide_eq_false (show¬((j:Int)<ev.a/\ev.a<=(E.length:Int)) by omega)];rfl
 |n+1,j,E,kf+1,hj,hk,hE,hP=>by
  have hjl:j<E.length:=by omega
  have hid:=hP j hjl;rw[aG];refine(O9 h1 h2 h3 h4 hjl hE _).trans ?_;by_cases c:E[j].id=ev.a
  ·rw[show(E[j].id==ev.a)=true from by simpa using c,cond_true]
   have e1:(ev.a-1).toNat=j:=by omega
   have hP2:mA (E.set j (Nv now ev E[j])):=hP.set (by show E[j].id=_;exact hid);refine(CS n (j+1) _ kf (by simp;omega) (by omega) (by simpa using hE) hP2).trans ?_;rw[RB,decide_eq_false (by omega),decide_eq_true (by omega),e1,bZ hjl];rfl
  ·rw[show(E[j].id==ev.a)=false from by simpa using c,cond_false];refine(CS n (j+1) E kf (by omega) (by omega) hE hP).trans ?_;by_cases d:((j+1:Nat):Int)<ev.a/\ev.a<=(E.length:Int)
   ·rw[decide_eq_true d,decide_eq_true (by omega)]
   ·rw[decide_eq_false d,decide_eq_false (by omega)]
end
end
set_option maxRecDepth 100000
set_option maxHeartbeats 4000000
section
def noEntry:Entry:=⟨0,dm,zi,0,0,0,false⟩
def fg (now:Int) (E:List Entry) (ev:Event):List Entry:=cond (ev.kind==3||ev.kind==4) (E.set (ev.a-1).toNat (Nv now ev (E.getD (ev.a-1).toNat noEntry))) E
def Live (E:List Entry) (ids:List Int):Prop:=∀i∈ids,1<=i/\i<=E.length/\(E.getD (i-1).toNat noEntry).done=false
theorem nE (now:Int) (E:List Entry) (ev:Event):(fg now E ev).length=E.length:=by
 unfold fg;cases(ev.kind==3||ev.kind==4)<;>simp
theorem tR {now:Int} {E:List Entry} {ev:Event} (h:mA E):mA (fg now E ev):=by
 unfold fg;cases(ev.kind==3||ev.kind==4)
 ·exact h
 ·intro i hi
  have hi':i<E.length:=by simpa using hi
  simp only[cond_true];rw[List.getElem_set];by_cases c:(ev.a-1).toNat=i
  ·rw[if_pos c,c,bZ hi'];exact h i hi'
  ·rw[if_neg c];exact h i hi'
theorem si {now:Int} {E:List Entry} {ev:Event} {ids:List Int} (h:Live E ids) (ha:1<=ev.a):Live (fg now E ev) (ids.filter λi=>!(i==ev.a)):=λi hi=>by
 obtain⟨h1,h2⟩:=RL.1 hi;obtain⟨g1,g2,g3⟩:=h i h1
 have hne:i≠ev.a:=by simpa using h2
 refine⟨g1,by rw[nE];exact g2,?_⟩;unfold fg;cases(ev.kind==3||ev.kind==4)
 ·exact g3
 ·simp only[cond_true];rw[Rq,Sl (by omega),<-Rq];exact g3
theorem QG {k:Nat} {p:List Step× Int× Int× List Event× Int× Int× Int× Int× Int× Int× Int× Int× Int× Int× Int× Int× Int× Int× List Request× List Task× List Model× List Bool× List Request} {now:Int} (h4:p.2.2.1=now) {R:Type} {fin:List Entry× List Event->Option R} {es:List Event} {ids ids':List Int} (ht:lH ids es ids'):∀(pre:List Event) (E:List Entry) (evs:List Event) (kf:Nat),p.2.2.2.1=pre++es->es.length<kf->E.length+10<k->E.length<=100000->(pre++es).length<=100000->evs.length+es.length<=1000000->mA E->Live E ids->
  iter (λu22 n22=>dq k p u22 n22 fin) kf ((pre.length:Int),E,evs)=fin (es.foldl (fg now) E,evs++es):=by
 have hM:=al
 induction ht with
 |nil=>
  intro pre E evs kf hL hk _ _ _ _ _ _;obtain⟨kf,rfl⟩:∃m,kf=m+1:=⟨kf-1,by simp at hk;omega⟩;rw[aG];show dq k p _ _ fin=_;unfold dq;simp only
  rw[hL,decide_eq_false (by simp),cond_false,Rr];rfl
 |other k2 k3 k4 ht ih=>
  rename_i ids0 ids1 e es;intro pre E evs kf hL hk hE1 hE2 hl hv hP hLv;obtain⟨kf,rfl⟩:∃m,kf=m+1:=⟨kf-1,by simp at hk;omega⟩
  have hlen:(pre++e::es).length=pre.length+(es.length+1):=by simp
  simp only[Q5]at hk hv;rw[aG]
  have st:∀next,dq k p ((pre.length:Int),E,evs) next fin=next (((pre++[e]).length:Int),E,evs++[e]):=λnext=>by
   unfold dq;simp only;rw[hL,decide_eq_true (by omega),cond_true,aD,show(pre++e::es)[pre.length]? =some e from by simp,aa,cu (by omega),bQ,if_neg k2,bQ,if_neg k3,bQ,if_neg k4,aH (by omega) (by omega),Q9];rfl
  refine(st _).trans ((ih (pre++[e]) E (evs++[e]) kf (by rw[hL];simp) (by omega) hE1 hE2 (by simpa using hl) (by simp;omega) hP hLv).trans ?_);rw[RO,show fg now E e=E from by unfold fg;rw[show(e.kind==3)=false from by simpa using k3,show(e.kind==4)=false from by simpa using k4];rfl]
  simp
 |ends kk hm ht ih=>
  rename_i ids0 ids1 e es;intro pre E evs kf hL hk hE1 hE2 hl hv hP hLv;obtain⟨kf,rfl⟩:∃m,kf=m+1:=⟨kf-1,by simp at hk;omega⟩
  have hlen:(pre++e::es).length=pre.length+(es.length+1):=by simp
  simp only[Q5]at hk hv;obtain⟨a1,a2,a3⟩:=hLv _ hm;rw[aG]
  have hap:fg now E e=E.set (e.a-1).toNat (Nv now e (E.getD (e.a-1).toNat noEntry)):=by
   unfold fg
   rcases kk with kk|kk<;>rw[kk]<;>rfl
  have st:∀next,dq k p ((pre.length:Int),E,evs) next fin=next (((pre++[e]).length:Int),fg now E e,evs++[e]):=λnext=>by
   rw[hap];unfold dq;simp only;rw[hL,decide_eq_true (by omega),cond_true,aD,show(pre++e::es)[pre.length]? =some e from by simp,aa,cu (by omega),bQ,if_neg (by rcases kk with kk|kk<;>rw[kk]<;>decide),bQ]
   rcases kk with kk|kk
   ·rw[if_pos kk];refine(CS (ev:=e) (now:=now) (by rfl) (by rfl) (by rfl) h4 E.length 0 E k (by omega) (by omega) hE2 hP).trans ?_;rw[decide_eq_true (by omega),cond_true,aH (by omega) (by omega),Q9];rfl
   ·rw[if_neg (by rw[kk];decide),bQ,if_pos kk];refine(CS (ev:=e) (now:=now) (by rfl) (by rfl) (by rfl) h4 E.length 0 E k (by omega) (by omega) hE2 hP).trans ?_;rw[decide_eq_true (by omega),cond_true,aH (by omega) (by omega),Q9];rfl
  refine(st _).trans ((ih (pre++[e]) (fg now E e) (evs++[e]) kf (by rw[hL];simp) (by omega) (by rw[nE];exact hE1) (by rw[nE];exact hE2) (by simpa using hl) (by simp;omega) (tR hP) (si hLv a1)).trans ?_);rw[RO];simp
theorem QH {k:Nat} {p:Int× List Step× Int× Int× List Event× Int× Int× Int× Int× Int× Int× Int× Int× Int× Int× Int× Int× Int× Int× Int× Int× Int× Int× List Int× Int× Int× Int× List Int× List Request× List Task× List Model× List Bool× List Request} {now:Int} (h4:p.1=now) {R:Type} {fin:List Event× List Entry->Option R} {es:List Event} {ids ids':List Int} (ht:lH ids es ids'):∀(pre:List Event) (E:List Entry) (evs:List Event) (kf:Nat),p.2.2.2.2.1=pre++es->p.2.2.2.2.2.1=((pre++es).length:Int)->es.length<kf->E.length<=100000->(pre++es).length<=100000->evs.length+es.length<=1000000->Live E ids->
  iter (λu12 n12=>dW k p u12 n12 fin) kf ((pre.length:Int),evs,E)=fin (evs++es,es.foldl (fg now) E):=by
 have hM:=al
 induction ht with
 |nil=>
  intro pre E evs kf hL hL2 hk _ _ _ _;obtain⟨kf,rfl⟩:∃m,kf=m+1:=⟨kf-1,by simp at hk;omega⟩;rw[aG];show dW k p _ _ fin=_;unfold dW;simp only
  rw[hL2,decide_eq_false (by simp),cond_false,Rr];rfl
 |other k2 k3 k4 ht ih=>
  rename_i ids0 ids1 e es;intro pre E evs kf hL hL2 hk hE2 hl hv hLv;obtain⟨kf,rfl⟩:∃m,kf=m+1:=⟨kf-1,by simp at hk;omega⟩
  have hlen:(pre++e::es).length=pre.length+(es.length+1):=by simp
  simp only[Q5]at hk hv;rw[aG]
  have st:∀next,dW k p ((pre.length:Int),evs,E) next fin=next (((pre++[e]).length:Int),evs++[e],E):=λnext=>by
   unfold dW;simp only;rw[hL2,hL,decide_eq_true (by omega),cond_true,aD,show(pre++e::es)[pre.length]? =some e from by simp,aa,cu (by omega),bQ,if_neg k2,bQ,if_neg k3,bQ,if_neg k4,aH (by omega) (by omega),Q9];rfl
  refine(st _).trans ((ih (pre++[e]) E (evs++[e]) kf (by rw[hL];simp) (by rw[hL2];simp) (by omega) hE2 (by simpa using hl) (by simp;omega) hLv).trans ?_);rw[RO,show fg now E e=E from by unfold fg;rw[show(e.kind==3)=false from by simpa using k3,show(e.kind==4)=false from by simpa using k4];rfl]
  simp
 |ends kk hm ht ih=>
  rename_i ids0 ids1 e es;intro pre E evs kf hL hL2 hk hE2 hl hv hLv;obtain⟨kf,rfl⟩:∃m,kf=m+1:=⟨kf-1,by simp at hk;omega⟩
  have hlen:(pre++e::es).length=pre.length+(es.length+1):=by simp
  simp only[Q5]at hk hv;obtain⟨a1,a2,a3⟩:=hLv _ hm;rw[aG]
  have hi:(e.a-1).toNat<E.length:=by omega
  have hap:fg now E e=E.set (e.a-1).toNat (Nv now e (E.getD (e.a-1).toNat noEntry)):=by
   unfold fg
   rcases kk with kk|kk<;>rw[kk]<;>rfl
  have st:∀next,dW k p ((pre.length:Int),evs,E) next fin=next (((pre++[e]).length:Int),evs++[e],fg now E e):=λnext=>by
   rw[hap];rw[bZ hi]at a3⊢;unfold dW;simp only;rw[hL2,hL,decide_eq_true (by omega),cond_true,aD,show(pre++e::es)[pre.length]? =some e from by simp,aa,cu (by omega),bQ,if_neg (by rcases kk with kk|kk<;>rw[kk]<;>decide),bQ,aH (n:=e.a-1) (by omega) (by omega),aH (n:=(pre.length:Int)+1) (by omega) (by omega),h4]
   rcases kk with kk|kk
   ·rw[if_pos kk,decide_eq_true (by omega),cond_true,ag hi,aa,RB,decide_eq_true (by omega),cond_true,RG hi,aa,List.set_set,Q9];unfold Nv;rw[kk];rfl
   ·rw[if_neg (by rw[kk];decide),bQ,if_pos kk,decide_eq_true (by omega),cond_true,ag hi,aa,Q9];unfold Nv;rw[kk,a3];rfl
  refine(st _).trans ((ih (pre++[e]) (fg now E e) (evs++[e]) kf (by rw[hL];simp) (by rw[hL2];simp) (by omega) (by rw[nE];exact hE2) (by simpa using hl) (by simp;omega) (si hLv a1)).trans ?_);rw[RO];simp
end
set_option maxRecDepth 100000
set_option maxHeartbeats 4000000
section
structure Jy (r:Runtime) (E:List Entry) (evs:List Event) (n:Nat):Prop where
 ok:ra r
 next:r.sched.next=(E.length:Int)+1
 LZ:mA E
 live:Live E (oX r.ae)
 QP:E.length<=n
 QT:evs.length<=1000*n
theorem lH.sub {ids ids':List Int} {es:List Event} (h:lH ids es ids'):∀i∈ids',i∈ids:=by
 induction h with
 |nil=>exactλi h=>h
 |other _ _ _ _ ih=>exact ih
 |ends _ _ _ ih=>exactλi hi=>(RL.1 (ih i hi)).1
theorem Nw {now:Int} {ids ids':List Int} {es:List Event} (h:lH ids es ids'):∀{E:List Entry},mA E->Live E ids->mA (es.foldl (fg now) E)/\Live (es.foldl (fg now) E) ids'/\(es.foldl (fg now) E).length=E.length:=by
 induction h with
 |nil=>exactλhP hL=>⟨hP,hL,rfl⟩
 |other k2 k3 k4 _ ih=>
  rename_i e es _;intro E hP hL;rw[RO,show fg now E e=E from by unfold fg;rw[show(e.kind==3)=false from by simpa using k3,show(e.kind==4)=false from by simpa using k4];rfl]
  exact ih hP hL
 |ends kk hm _ ih=>
  intro E hP hL;rw[RO];obtain⟨g1,g2,g3⟩:=ih (tR (now:=now) hP) (si (now:=now) hL (hL _ hm).1);exact⟨g1,g2,g3.trans (nE _ _ _)⟩
theorem L0 {rs:List Request} {q:Request} (h:∀i∈oX rs,i<q.id):tP (rs++[q]) q.id=(rs.length:Int):=qe (qo:=[]) λv hv=>by
 have:=h v.id (SZ.2 ⟨v,hv,rfl⟩);omega
theorem Nx {E:List Entry} {ids:List Int} (h:Live E ids) (y:Entry):Live (E++[y]) ids:=λi hi=>by
 obtain⟨g1,g2,g3⟩:=h i hi;refine⟨g1,by simp;omega,?_⟩;rw[bZ (by omega)]at g3;rw[bZ (by simp;omega),List.getElem_append_left (by omega)];exact g3
theorem H5 {V R:Type} {g:V->(V->Option R)->Option R} {v w:V} {r:Option R} (h1:∀next,g v next=next w) (h2:∀next,g w next=r) {kf:Nat} (hk:2<=kf):iter g kf v=r:=by
 obtain⟨m,rfl⟩:∃m,kf=m+1+1:=⟨kf-2,by omega⟩;rw[aG,h1,aG,h2]
theorem H6 {α:Type} (x:α) (l:List α):idx (x::l) (0:Int)=some x:=rfl
theorem Ny {k:Nat} (hk:20000000<=k) {r r':Runtime} {x:Step} {e:List Event} {E:List Entry} {evs:List Event} {n:Nat} (hx:lI x) (h:Jy r E evs n) (h':ra r') (he:e.length<=1000) (hn:n<=200) (ht:wJ r x e r'):
  ∃E1:List Entry,Jy r' E1 (evs++e) (n+1)/\
   (∀{R:Type} {p:List Step× Int× Int× List Event× Int× Int× Int× Int× Int× Int× Int× Int× Int× Int× Int× Int× Int× Int× List Request× List Task× List Model× List Bool× List Request} {fin:List Entry× List Event->Option R},p.2.2.1=r.sched.now->p.2.2.2.1=e->(⟨(⟨p.2.2.2.2.2.2.2.2.2.2.2.1,p.2.2.2.2.2.2.2.2.2.2.2.2.1,p.2.2.2.2.2.2.2.2.2.2.2.2.2.1,p.2.2.2.2.2.2.2.2.2.2.2.2.2.2.2.2.2.2.2.1,p.2.2.2.2.2.2.2.2.2.2.2.2.2.2.1,p.2.2.2.2.2.2.2.2.2.2.2.2.2.2.2.1,p.2.2.2.2.2.2.2.2.2.2.2.2.2.2.2.2.1,p.2.2.2.2.2.2.2.2.2.2.2.2.2.2.2.2.2.1⟩:aj),p.2.2.2.2.2.2.2.2.2.2.2.2.2.2.2.2.2.2.2.2.1,p.2.2.2.2.2.2.2.2.2.2.2.2.2.2.2.2.2.2.2.2.2.1,p.2.2.2.2.2.2.2.2.2.2.2.2.2.2.2.2.2.2.2.2.2.2⟩:Runtime)=r'->iter (λu22 n22=>dq k p u22 n22 fin) k ((0:Int),E,evs)=fin (E1,evs++e))/\
   (∀{R:Type} {p:Int× List Step× Int× Int× List Event× Int× Int× Int× Int× Int× Int× Int× Int× Int× Int× Int× Int× Int× Int× Int× Int× Int× Int× List Int× Int× Int× Int× List Int× List Request× List Task× List Model× List Bool× List Request} {fin:List Event× List Entry->Option R},p.1=r.sched.now->p.2.2.2.2.1=e->p.2.2.2.2.2.1=(e.length:Int)->p.2.2.2.2.2.2.2.2.2.2.2.2.2.2.2.2.2.2.2.2.2.1=x.a->p.2.2.2.2.2.2.2.2.2.2.2.2.2.2.2.2.2.2.2.2.2.2.2.2.2.2.2.2.2.2.1=r'.ak->(⟨(⟨p.2.2.2.2.2.2.2.2.2.2.2.2.2.2.2.2.2.2.2.2.2.2.2.2.1,p.2.2.2.2.2.2.2.2.2.2.2.2.2.2.2.2.2.2.2.2.2.2.2.2.2.1,p.2.2.2.2.2.2.2.2.2.2.2.2.2.2.2.2.2.2.2.2.2.2.2.2.2.2.1⟩:Shape),p.2.2.2.2.2.2.2.2.2.2.2.2.2.2.2.2.2.2.2.2.2.2.2.2.2.2.2.1⟩:av)=x.input->iter (λu12 n12=>dW k p u12 n12 fin) k ((0:Int),evs,E)=fin (evs++e,E1)):=by
 have hM:=al;have hel:=h.QP;have hvl:=h.QT
 rcases ht with⟨ht,hnx⟩|⟨due,rfl,hnx,hrq,hms,xa0,xa1⟩
 ·obtain⟨g1,g2,g3⟩:=Nw (now:=r.sched.now) ht h.LZ h.live;refine⟨e.foldl (fg r.sched.now) E,⟨h',by rw[hnx,h.next,g3],g1,g2,by omega,by rw[Q9];omega⟩,λ{R} {p} {fin} q1 q2 q3=>?_,λ{R} {p} {fin} q1 q2 q3 q4 q5 q6=>?_⟩
  ·exact QG q1 ht [] E evs k q2 (by omega) (by omega) (by omega) (by simpa using(show e.length<=100000 by omega)) (by omega) h.LZ h.live
  ·exact QH q1 ht [] E evs k q2 q3 (by omega) (by omega) (by simpa using(show e.length<=100000 by omega)) (by omega) h.live
 ·have hmo:=h.ok.ml
  have hi:x.a.toNat<r.ak.length:=by omega
  have hmt:=h.ok.mod _ (Q3 hi);have hxi:=hx.input;have hxt:x.input.tot=x.input.data.length:=rfl;refine⟨E++[⟨r.sched.next,r.ak.getD x.a.toNat dm,x.input,r.sched.now,due,-1,false⟩],⟨h',by rw[hnx,h.next];simp,h.LZ.app (by show r.sched.next=_;exact h.next),λi hi=>?_,by simp;omega,by simp;omega⟩,λ{R} {p} {fin} q1 q2 q3=>?_,λ{R} {p} {fin} q1 q2 q3 q4 q5 q6=>?_⟩
  ·rw[hrq]at hi;unfold oX at hi;rw[RY]at hi
   rcases Se.1 hi with hi|hi
   ·exact Nx h.live _ i hi
   ·obtain rfl:i=r.sched.next:=by simpa using hi
    have hnext:=h.next;refine⟨by omega,by simp;omega,?_⟩;rw[show(r.sched.next-1).toNat=E.length from by omega,bZ (by simp),List.getElem_append_right (Rb _)];simp
  ·refine H5 (w:=((1:Int),E++[⟨r.sched.next,r.ak.getD x.a.toNat dm,x.input,r.sched.now,due,-1,false⟩],evs++[⟨2,r.sched.next,due,zi⟩])) (λnext=>?_) (λnext=>?_) (by omega)
   ·have hr:=congrArg Runtime.ae q3;simp only at hr;have hlt:∀i∈oX r.ae,i<r.sched.next:=λi hi=>(h.ok.lt i hi).2;have hq:=h.ok.NV;have hfr:=L0 (q:=⟨r.sched.next,x.a,⟨r.ak.getD x.a.toNat dm,0,x.input,0⟩,due⟩) hlt;unfold dq;simp only;rw[q2,q3,hr,hrq,decide_eq_true (by simp),cond_true,H6,aa,cu (by omega),bQ,if_pos rfl,qZ (by rw[hrq];simp;omega) (by rw[hrq];simp;omega),aa,hrq];simp only;rw[hfr,decide_eq_true (by simp;omega),cond_true,QW,QX (Rb _),Nat.sub_self,SL,aa,bZ hi,pV (by show r.ak[x.a.toNat].tot<k;omega) (by show r.ak[x.a.toNat].tot<=aT;omega),aa,pR (by show x.input.data.length<k;omega) (by show x.input.data.length<=aT;omega),aa,cu (by omega),q1];rfl
   ·unfold dq;simp only;rw[q2,decide_eq_false (by simp),cond_false]
  ·refine H5 (w:=((1:Int),evs++[⟨2,r.sched.next,due,zi⟩],E++[⟨r.sched.next,r.ak.getD x.a.toNat dm,x.input,r.sched.now,due,-1,false⟩])) (λnext=>?_) (λnext=>?_) (by omega)
   ·unfold dW;simp only;rw[q2,q3,q4,q5,q6,decide_eq_true (by simp),cond_true,H6,aa,cu (by omega),bQ,if_pos rfl,hms,decide_eq_true (by omega),cond_true,ag hi,aa,bZ hi,nz (by omega) (by omega),aa,mu (by omega),aa,cu (by omega),q1];rfl
   ·unfold dW;simp only;rw[q3,decide_eq_false (by simp),cond_false]
end
set_option maxRecDepth 100000
set_option maxHeartbeats 4000000
section
theorem Bi {k:Nat} (hk:20000000<=k) {steps:List Step} (hs:∀x∈steps,lI x) (hl:steps.length<=200) {a1 a2 a3 a4 a5 a6 a7 b1 b2 b3 b4 b5 b6 b7:Int}:∀(qs pre:List Step) (r:Runtime) (E:List Entry) (evs:List Event),steps=pre++qs->Jy r E evs pre.length->
    ∃ (r' : Runtime) (E' : List Entry) (evs' : List Event), Jy r' E' evs' steps.length /\
      (∀{R:Type} {fin:_->Option R} {kf:Nat},qs.length<kf->iter (λu24 n24=>gT k (steps,a1,a2,a3,a4,a5,a6,a7,[]) u24 n24 fin) kf ((pre.length:Int),r.sched.now,r.sched.ai,r.sched.age,r.sched.run,r.sched.left,r.sched.turns,r.sched.next,E,evs,r.sched.tasks,r.ak,r.ao,r.ae)=fin (r'.sched.now,r'.sched.ai,r'.sched.age,r'.sched.run,r'.sched.left,r'.sched.turns,r'.sched.next,E',evs',r'.sched.tasks,r'.ak,r'.ao,r'.ae))/\
      (∀{R:Type} {fin:_->Option R} {kf:Nat},qs.length<kf->iter (λu14 n14=>jg k (steps,(steps.length:Int),b1,b2,b3,b4,b5,b6,b7,[]) u14 n14 fin) kf ((pre.length:Int),r.sched.now,r.sched.ai,r.sched.age,r.sched.run,r.sched.left,r.sched.turns,r.sched.next,evs,E,r.sched.tasks,r.ak,r.ao,r.ae)=fin (r'.sched.now,r'.sched.ai,r'.sched.age,r'.sched.run,r'.sched.left,r'.sched.turns,r'.sched.next,evs',E',r'.sched.tasks,r'.ak,r'.ao,r'.ae))
  | [], pre, r, E, evs, hp, h => by
    have hlen:steps.length=pre.length:=by rw[hp];simp
    refine⟨r,E,evs,by rw[hlen];exact h,λ{R} {fin} {kf} hkf=>?_,λ{R} {fin} {kf} hkf=>?_⟩
    · obtain⟨kf,rfl⟩:∃m,kf=m+1:=⟨kf-1,by simp at hkf;omega⟩;rw[aG];show gT k _ _ _ fin=_;unfold gT;simp only;rw[decide_eq_false (by omega)];rfl
    · obtain⟨kf,rfl⟩:∃m,kf=m+1:=⟨kf-1,by simp at hkf;omega⟩;rw[aG];show jg k _ _ _ fin=_;unfold jg;simp only
      rw[decide_eq_false (by omega)];rfl
  | x :: qs, pre, r, E, evs, hp, h => by
    have hM:=al
    have hlen:steps.length=pre.length+(qs.length+1):=by rw[hp];simp
    have hat:idx steps (pre.length:Int)=some x:=by rw[aD,hp];simp
    have hx:=hs x (by rw[hp];simp);obtain⟨e,r',h',he,ht,e1,e2⟩:=O8 hk h.ok hx
    have hw:IntKind.i64.wrap ((pre.length:Int)+1)=((pre++[x]).length:Int):=by rw[aH (by omega) (by omega),Q9];rfl
    obtain⟨E1,hst,hS,hI⟩:=Ny hk hx h h' he (by omega) ht;obtain⟨r2,E2,evs2,g1,g2,g3⟩:=Bi hk hs hl (a1:=a1) (a2:=a2) (a3:=a3) (a4:=a4) (a5:=a5) (a6:=a6) (a7:=a7) (b1:=b1) (b2:=b2) (b3:=b3) (b4:=b4) (b5:=b5) (b6:=b6) (b7:=b7) qs (pre++[x]) r' E1 (evs++e) (by rw[hp];simp) (by rw[Q9];exact hst);refine⟨r2,E2,evs2,g1,λ{R} {fin} {kf} hkf=>?_,λ{R} {fin} {kf} hkf=>?_⟩
    · obtain⟨kf,rfl⟩:∃m,kf=m+1:=⟨kf-1,by simp at hkf;omega⟩;rw[aG,<-g2 (fin:=fin) (kf:=kf) (by simp at hkf;omega)]
      have st:∀next,gT k (steps,a1,a2,a3,a4,a5,a6,a7,[]) ((pre.length:Int),r.sched.now,r.sched.ai,r.sched.age,r.sched.run,r.sched.left,r.sched.turns,r.sched.next,E,evs,r.sched.tasks,r.ak,r.ao,r.ae) next fin=next (((pre++[x]).length:Int),r'.sched.now,r'.sched.ai,r'.sched.age,r'.sched.run,r'.sched.left,r'.sched.turns,r'.sched.next,E1,evs++e,r'.sched.tasks,r'.ak,r'.ao,r'.ae):=λnext=>by
        unfold gT;simp only;rw[decide_eq_true (by omega),cond_true,hat,aa,show(⟨⟨r.sched.now,r.sched.ai,r.sched.age,r.sched.tasks,r.sched.run,r.sched.left,r.sched.turns,r.sched.next⟩,r.ak,r.ao,r.ae⟩:Runtime)=r from rfl,e1,aa,hw];exact hS rfl rfl rfl
      exact st _
    · obtain⟨kf,rfl⟩:∃m,kf=m+1:=⟨kf-1,by simp at hkf;omega⟩;rw[aG,<-g3 (fin:=fin) (kf:=kf) (by simp at hkf;omega)]
      have st:∀next,jg k (steps,(steps.length:Int),b1,b2,b3,b4,b5,b6,b7,[]) ((pre.length:Int),r.sched.now,r.sched.ai,r.sched.age,r.sched.run,r.sched.left,r.sched.turns,r.sched.next,evs,E,r.sched.tasks,r.ak,r.ao,r.ae) next fin=next (((pre++[x]).length:Int),r'.sched.now,r'.sched.ai,r'.sched.age,r'.sched.run,r'.sched.left,r'.sched.turns,r'.sched.next,evs++e,E1,r'.sched.tasks,r'.ak,r'.ao,r'.ae):=λnext=>by
        unfold jg;simp only;rw[decide_eq_true (by omega),cond_true,hat,aa,show(⟨⟨r.sched.now,r.sched.ai,r.sched.age,r.sched.tasks,r.sched.run,r.sched.left,r.sched.turns,r.sched.next⟩,r.ak,r.ao,r.ae⟩:Runtime)=r from rfl,e2,aa,hw];exact hI rfl rfl rfl rfl rfl rfl
      exact st _
theorem P9 {a b:Int} (h:bw (Bd a b)=true):Jy (rt0 (Bd a b)) [] [] 0:=⟨P8 h,rfl,λi hi=>absurd hi (by simp),(λi hi=>nomatch hi),Rb _,Rb _⟩
theorem Jz {k:Nat} (hk:20000000<=k) {a b:Int} {xs:List Step} (hs:∀x∈xs,lI x):
  (oz k a b xs=some ([],[],(oz k a b xs).elim Ql (λv=>v.2.2.1),false)/\xR k a b xs=some (Ql,[],[],false)/\(oz k a b xs).isSome)\/
  ∃(r:Runtime) (E:List Entry) (evs:List Event),Jy r E evs xs.length/\xs.length<=200/\oz k a b xs=some (E,evs,r,true)/\xR k a b xs=some (r,evs,E,true):=by
 unfold oz xR;rw[zp (by omega),zq (by omega),aa,aa];cases c:bw (Bd a b)
 ·exact .inl ⟨rfl,rfl,rfl⟩
 simp only[cond_true,Q1,cond_false];by_cases c2:(xs.length:Int)>200
 ·rw[decide_eq_true c2];exact .inl ⟨rfl,rfl,rfl⟩
 rw[decide_eq_false c2];simp only[cond_false];obtain⟨r,E,evs,g1,g2,g3⟩:=Bi hk hs (by omega) (a1:=0) (a2:=0) (a3:=0) (a4:=0) (a5:=0) (a6:=0) (a7:=0) (b1:=0) (b2:=0) (b3:=0) (b4:=0) (b5:=0) (b6:=0) (b7:=0) xs [] (rt0 (Bd a b)) [] [] rfl (P9 c);exact .inr ⟨r,E,evs,g1,by omega,g2 (by omega),g3 (by omega)⟩
end
set_option maxRecDepth 100000
set_option maxHeartbeats 4000000
section
theorem EW {k:Nat} (hk:20000000<=k) {a b:Int} {xs:List Step} (hs:∀x∈xs,lI x):∃E:List Entry,E.length<=200/\oA k a b xs=some E/\oB k a b xs=some E:=by
 unfold oA oB
 rcases Jz hk hs (a:=a) (b:=b)with⟨h1,h2,_⟩|⟨r,E,evs,hst,hl,h1,h2⟩
 ·rw[h1,h2];exact⟨[],by simp,rfl,rfl⟩
 ·rw[h1,h2];have:=hst.QP;exact⟨E,by omega,rfl,rfl⟩
def waits (E:List Entry):List Int:=(E.filter λy=>y.done).map λy=>IntKind.i64.wrap (y.end_-y.at_)
theorem L3 (E:List Entry):(waits E).length<=E.length:=by unfold waits;rw[S7];exact Sr _ _
theorem EX {k:Nat} (hk:20000000<=k) {a b:Int} {xs:List Step} (hs:∀x∈xs,lI x):∃out:List Int,out.length<=200/\tA k a b xs=some out/\pP k a b xs=some out:=by
 have hM:=al;obtain⟨E,hl,h1,h2⟩:=EW hk hs (a:=a) (b:=b);refine⟨waits E,R5 (L3 E) hl,?_,?_⟩
 ·unfold tA;rw[h1,aa]
  exact jk E (λy=>y.done) (λy=>IntKind.i64.wrap (y.end_-y.at_)) (g:=λu6 n6=>jY k E u6 n6 (λy5=>some y5)) (fin:=some) (λi ys hi next hy=>by
   have hd:decide (0<=(i:Int)/\(i:Int)<(E.length:Int))=true:=decide_eq_true (by omega);simp only[jY,hd,cond_true,QW,ag hi,aa]
   rw[decide_eq_true (by omega),cond_true,cu (by simp;omega),au hi (by omega)]) (λys next=>by
   simp only[jY];rw[ab,if_neg (by omega)]) (by omega)
 ·unfold pP;rw[h2,aa]
  exact jk E (λy=>y.done) (λy=>IntKind.i64.wrap (y.end_-y.at_)) (g:=λu4 n4=>jZ k ((E.length:Int),E) u4 n4 (λy3=>some y3)) (fin:=some) (λi ys hi next hy=>by
   have hd:decide (0<=(i:Int)/\(i:Int)<(E.length:Int))=true:=decide_eq_true (by omega);simp only[jZ,hd,cond_true,QW,ag hi,aa]
   rw[decide_eq_true (by omega),cond_true,cu (by simp;omega),au hi (by omega)]) (λys next=>by
   simp only[jZ];rw[ab,if_neg (by omega)]) (by omega)
theorem sj (a b:Int) (xs:List Step) (ha:okI a) (hb:okI b) (hx:okS Step.Ok xs):∃k,dX k a b xs=some true:=by
 suffices h:∀kk,eA Step.tot xs+20000000<=kk->dX kk a b xs=some true from⟨_,h _ (Rb _)⟩
 intro kk hkk;have hM:=al;have hlen:=bm Step.tot xs;unfold dX;rw[Gm (n:=1048576) hx (by omega) (by omega) (by omega),aa,ab];by_cases c:(1048576:Int)<(eA Step.tot xs:Int)
 ·simp only[if_pos c];rfl
 simp only[if_neg c];rw[if_neg (by omega)]
 have hk:eA Step.tot xs<kk:=by omega
 have hN:eA Step.tot xs<=aT:=by omega
 obtain⟨out,hol,q1,q2⟩:=EX (k:=kk) (by omega) (a:=a) (b:=b) (GR hx (by omega));obtain⟨r1,y1,e1,a1,b1,l1,h1⟩:=vT (k:=kk) (xs:=xs) (m:=1) hk hN (by omega) (by unfold CV;omega);obtain⟨r2,y2,e2,a2,b2,l2,h2⟩:=pS (k:=kk) (xs:=out) (m:=1) (by omega) (by omega) (by omega) (by unfold CV;omega);simp only[Gn hk hN,aa,q1,q2,AJ (xs:=out) (ys:=out) (k:=kk) (by omega) (by omega),Gp (ys:=xs) hk hN,e1,e2,h2,decide_true,cond_not,cond_true,ab,l4];rw[if_neg (by omega)];simp
 repeat rw[if_neg (by omega)]
end
end Go.Proofs.Ev
