/- Typed functions and what holds of them: part 6. -/
import Derived.Test.YtpiopmjbcadfbaaGreatEvL5
set_option linter.unusedVariables false
set_option linter.unusedSimpArgs false
set_option linter.unusedSectionVars false
namespace Go.Proofs.Ev
open IntKind(i64 u8 u64)
set_option maxRecDepth 100000
set_option maxHeartbeats 4000000
section
theorem KC {k:Nat} (hk:20000000<=k) {st:Bool} {ms:List Model} {ls:List Bool} {a:Int} (ha:a<=200) {q1 q2 q4 q5 q6 kd p9:Int} {q3 q7:List Int} (hkd:(kd==5)=st):∀(n:Nat) (i:Int) (s:ak) (rs:List Request) (e:List Event),a=i+n->0<=i->qR ⟨s,ms,ls,rs⟩->e.length+n<=1000->
  ∃(e':List Event) (s':ak) (rs':List Request),qR ⟨s',ms,ls,rs'⟩/\e'.length<=e.length+n/\(∃d,e'=e++d/\lM (qS rs) d (qS rs')/\Tr st n s d s')/\(s'.ai=s.ai/\s'.age=s.age/\s'.next=s.next)/\
   (s.now=1000000->e'=e/\s'=s/\rs'=rs)/\
   (∀(R:Type) (fin:_->Option R) (kf:Nat),n<kf->iter (λu10 n10=>dr k (st,q1,a,q2,q3,q4,q5,q6,q7,ms,ls) u10 n10 fin) kf (i,s.now,s.ai,s.age,s.run,s.left,s.turns,s.next,e,s.tasks,rs)=fin (e',s'.now,s'.ai,s'.age,s'.run,s'.left,s'.turns,s'.next,s'.tasks,rs'))/\
   (∀(R:Type) (fin:_->Option R) (kf:Nat),n<kf->iter (λu9 n9=>bq k (a,s.ai,s.age,s.next,kd,p9,q2,q3,q4,q5,q6,q7,ms,ls) u9 n9 fin) kf (i,s.now,s.run,s.left,s.turns,e,s.tasks,rs)=fin (e',s'.now,s'.run,s'.left,s'.turns,s'.tasks,rs'))
 |0,i,s,rs,e,hi,h0,h,he=>by
  refine⟨e,s,rs,h,Wc _,⟨[],by simp,.nil,.nil⟩,⟨rfl,rfl,rfl⟩,λ_=>⟨rfl,rfl,rfl⟩,λR fin kf hkf=>?_,λR fin kf hkf=>?_⟩
  ·obtain⟨kf,rfl⟩:∃m,kf=m+1:=⟨kf-1,by omega⟩;rw[aI];show dr k _ _ _ fin=_;unfold dr;simp only;rw[decide_eq_false (by omega)];rfl
  ·obtain⟨kf,rfl⟩:∃m,kf=m+1:=⟨kf-1,by omega⟩;rw[aI];show bq k _ _ _ fin=_;unfold bq;simp only
   rw[decide_eq_false (by omega)];rfl
 |n+1,i,s,rs,e,hi,h0,h,he=>by
  obtain⟨e1,s1,r1,g1,g2,⟨d1,dd1,td1,w1,w2⟩,g3,g4,g5,g6⟩:=OQ (e:=e) hk h (by omega) h0 (show i<a by omega) ha (q1:=q1) (q2:=q2) (q4:=q4) (q5:=q5) (q6:=q6) (kd:=kd) (p9:=p9) (q3:=q3) (q7:=q7) hkd;obtain⟨e2,s2,r2,f1,f2,⟨d2,dd2,td2,tr2⟩,f3,f4,f5,f6⟩:=KC hk (ms:=ms) (ls:=ls) ha (q1:=q1) (q2:=q2) (q4:=q4) (q5:=q5) (q6:=q6) (kd:=kd) (p9:=p9) (q3:=q3) (q7:=q7) hkd n (i+1) s1 r1 e1 (by omega) (by omega) g1 (by omega);refine⟨e2,s2,r2,f1,by omega,⟨d1++d2,by rw[dd2,dd1,Wd],td1.app td2,.tick w1 w2 tr2⟩,⟨f3.1.trans g3.1,f3.2.1.trans g3.2.1,f3.2.2.trans g3.2.2⟩,λhn=>?_,λR fin kf hkf=>?_,λR fin kf hkf=>?_⟩
  ·obtain⟨x1,x2,x3⟩:=g5 hn;subst x1 x2 x3;exact f4 hn
  ·obtain⟨kf,rfl⟩:∃m,kf=m+1:=⟨kf-1,by omega⟩;rw[aI];exact(g4 R _ fin).trans (f5 R fin kf (by omega))
  ·obtain⟨kf,rfl⟩:∃m,kf=m+1:=⟨kf-1,by omega⟩;rw[aI];by_cases hn:s.now=1000000
   ·obtain⟨x1,x2,x3⟩:=g5 hn;subst x1 x2 x3;obtain⟨y1,y2,y3⟩:=f4 hn;subst y1 y2 y3;show bq k _ _ _ fin=_;unfold bq;simp only;rw[decide_eq_true (by omega),cond_true,bM,if_pos hn]
   ·refine(g6 hn R _ fin).trans ?_;have:=f6 R fin kf (by omega);rw[g3.1,g3.2.1,g3.2.2]at this;exact this
def SC (e:List Event) (r:Runtime):List Event× Int× Int× Int× List Task× Int× Int× Int× Int× List Model× List Bool× List Request:=(e,r.sched.now,r.sched.ai,r.sched.age,r.sched.tasks,r.sched.run,r.sched.left,r.sched.turns,r.sched.next,r.ao,r.au,r.ae)
structure cy (x:Step):Prop where
 byte:∀y∈x.data,okB y
 data:x.data.length<=aU
 input:x.input.tot<=2000000
theorem OR {r:Runtime} (h:qR r) (x:Step):qR ⟨r.sched,(tH r x).2.1,(tH r x).2.2,r.ae⟩/\(tH r x).1.length<=1:=by
 unfold tH;cases(inB x.a 0 3&&!r.au.getD x.a.toNat false)
 ·exact⟨⟨h.s,h.ml,h.ll,h.mod,h.req⟩,by simp[dO]⟩
 cases(decide ((eI x.data).2=0)&&tU (eI x.data).1)
 ·exact⟨⟨h.s,h.ml,h.ll,h.mod,h.req⟩,by simp[dO]⟩
 refine⟨⟨h.s,by simp[h.ml],by simp[h.ll],λm hm=>?_,h.req⟩,by simp⟩
 rcases Xo hm with hm|rfl
 ·exact h.mod m hm
 ·exact uO _
theorem Fx {s:ak} {ay:List Int} {due:Int} (h:(fo s ay due).2.2=0):(fo s ay due).2.1=s.next/\(fo s ay due).1.tasks=s.tasks++[⟨s.next,ay,0,due,s.now⟩]:=by
 unfold fo at h⊢;cases c1:(bf s&&jf ⟨s.next,ay,0,due,s.now⟩)
 ·rw[c1]at h;exact absurd (show(1:Int)=0 from h) (by decide)
 rw[c1]at h;cases c2:((s.tasks.length:Int)==12||s.next==1000000)
 ·rw[c2]at h;cases c3:BF ⟨s.now,s.ai,s.age,s.tasks++[⟨s.next,ay,0,due,s.now⟩],s.run,s.left,s.turns,s.next+1⟩
  ·rw[c3]at h;exact absurd (show(3:Int)=0 from h) (by decide)
  ·exact⟨rfl,rfl⟩
 ·rw[c2]at h;exact absurd (show(2:Int)=0 from h) (by decide)
theorem Ht {r:Runtime} (h:qR r) (x:Step):qR ⟨(fl r x).2.1,r.ao,r.au,(fl r x).2.2⟩/\(fl r x).1.length<=1:=by
 have same:∀c,qR ⟨(dO x.kind c,r.sched,r.ae).2.1,r.ao,r.au,(dO x.kind c,r.sched,r.ae).2.2⟩/\(dO x.kind c,r.sched,r.ae).1.length<=1:=λc=>⟨⟨h.s,h.ml,h.ll,h.mod,h.req⟩,by simp[dO]⟩;unfold fl;cases c0:Kw r x.a
 ·exact same _
 simp only[cond_true];have c1':=of_decide_eq_true (WE.1 c0).1;have hmo:=h.ml
 have hmt:(r.ao.getD x.a.toNat dt).tot<=8002000:=by
  rw[bT (show x.a.toNat<r.ao.length by omega)];exact h.mod _ (VV _)
 generalize r.ao.getD x.a.toNat dt=m at hmt;cases c2:(dH m x.input).2
 ·exact same _
 have hj:wF ⟨m,0,x.input,0⟩=true/\(dH m x.input).1=⟨m,0,x.input,0⟩:=by
  unfold dH at c2⊢;cases c:wF ⟨m,0,x.input,0⟩
  ·rw[c]at c2;exact nomatch c2
  ·exact⟨rfl,rfl⟩
 rw[hj.2];simp only[cond_true];cases inB x.b 0 1000000
 ·exact same _
 simp only[cond_true];have ho:=Kv h.s (bB m) (r.sched.now+x.b);by_cases c3:(fo r.sched (bB m) (r.sched.now+x.b)).2.2=0
 ·obtain⟨h1,h2⟩:=Fx c3;rw[decide_eq_true c3];simp only[cond_true];refine⟨⟨ho,h.ml,h.ll,h.mod,?_⟩,by simp⟩;show Lk (r.ae++[_]) (fo r.sched (bB m) (r.sched.now+x.b)).1.tasks;rw[h2];exact h.req.app ⟨h1,hj.1,rfl,rfl,hmt⟩
 ·rw[decide_eq_false c3];exact same _
theorem Hu {r:Runtime} (h:qR r) (x:Step):qR (fm r x).2/\(fm r x).1.length<=13:=by
 unfold fm;cases Kw r x.a
 ·exact⟨h,by simp[dO]⟩
 have hu:=BS x.a r.ao r.au r.ae [] r.sched r.ae (DL h) h;have hq:=h.Re;refine⟨⟨hu.1.s,by simp[h.ml],by simp[h.ll],λm hm=>?_,hu.1.req⟩,?_⟩
 ·rcases Xo hm with hm|rfl
  ·exact h.mod m hm
  ·exact Wy _
 ·have:=hu.2;simp only[V5]at this;simp only[cond_true,VR,VS,V5];omega
theorem OS {rs:List Request} {id:Int} (h:¬wx rs id<0):∃q∈rs,q.id=id:=by
 unfold wx at h
 cases hf:rs.findIdx? λq=>q.id==id with
 |none=>rw[hf]at h;exact absurd (show(-1:Int)<0 by decide) h
 |some i=>
  obtain⟨hi,hp,_⟩:=W1.1 hf;exact⟨rs[i],VV hi,by simpa using hp⟩
def lW (s:ak) (e:List Event):ak:=e.foldl (λs v=>cond (v.kind==4) (qQ s v.a) s) s
def wz (r:Runtime) (x:Step) (e:List Event) (s':ak):Prop:=
 ((inB x.kind 4 5&&inB x.a 0 200)=true/\Tr (x.kind==5) x.a.toNat r.sched e s')\/
 ((inB x.kind 4 5&&inB x.a 0 200)=false/\((s'=lW r.sched e/\∀v∈e,v.kind≠3)\/∃cs due,e=[⟨2,r.sched.next,due,uP⟩]/\fo r.sched cs due=(s',r.sched.next,0)))
theorem gx (s:ak) (kd c:Int):s=lW s (dO kd c)/\∀v∈dO kd c,v.kind≠3:=⟨rfl,λv hv=>by rw[WD.1 hv];exact(show¬(5:Int)=3 by decide)⟩
theorem QA (r:Runtime) (x:Step):r.sched=lW r.sched (tH r x).1/\∀v∈(tH r x).1,v.kind≠3:=by
 unfold tH;cases(inB x.a 0 3&&!r.au.getD x.a.toNat false)
 ·exact gx _ _ _
 cases(decide ((eI x.data).2=0)&&tU (eI x.data).1)
 ·exact gx _ _ _
 ·exact⟨rfl,λv hv=>by rw[WD.1 hv];exact(show¬(0:Int)=3 by decide)⟩
theorem Fy (a:Int) (s0:ak):∀(qs:List Request) (e:List Event) (s:ak) (rs:List Request),s=lW s0 e->(∀v∈e,v.kind≠3)->(xK a qs e s rs).2.1=lW s0 (xK a qs e s rs).1/\∀v∈(xK a qs e s rs).1,v.kind≠3
 |[],e,s,rs,h1,h2=>⟨h1,h2⟩
 |q::qs,e,s,rs,h1,h2=>by
  unfold xK;cases q.model==a
  ·exact Fy a s0 qs e s rs h1 h2
  ·refine Fy a s0 qs _ _ _ (by unfold lW at h1⊢;rw[WM,<-h1];rfl) λv hv=>?_
   rcases Wh.1 hv with hv|hv
   ·exact h2 v hv
   ·rw[WD.1 hv];exact(show¬(4:Int)=3 by decide)
theorem Mb (r:Runtime) (x:Step):(fm r x).2.sched=lW r.sched (fm r x).1/\∀v∈(fm r x).1,v.kind≠3:=by
 unfold fm;cases Kw r x.a
 ·exact gx _ _ _
 obtain⟨h1,h2⟩:=Fy x.a r.sched r.ae [] r.sched r.ae rfl λv hv=>absurd hv (by simp);refine⟨?_,λv hv=>?_⟩
 ·unfold lW at h1⊢;simp only[cond_true];rw[WM,<-h1];rfl
 ·rcases Wh.1 hv with hv|hv
  ·exact h2 v hv
  ·rw[WD.1 hv];exact(show¬(1:Int)=3 by decide)
theorem Mc (r:Runtime) (x:Step):((fl r x).2.1=lW r.sched (fl r x).1/\∀v∈(fl r x).1,v.kind≠3)\/∃cs due,(fl r x).1=[⟨2,r.sched.next,due,uP⟩]/\fo r.sched cs due=((fl r x).2.1,r.sched.next,0):=by
 unfold fl;cases Kw r x.a
 ·exact .inl (gx _ _ _)
 simp only[cond_true];cases(dH (r.ao.getD x.a.toNat dt) x.input).2
 ·exact .inl (gx _ _ _)
 simp only[cond_true];cases inB x.b 0 1000000
 ·exact .inl (gx _ _ _)
 simp only[cond_true];generalize bB (dH (r.ao.getD x.a.toNat dt) x.input).1.model=cs;by_cases c3:(fo r.sched cs (r.sched.now+x.b)).2.2=0
 ·obtain⟨h1,_⟩:=Fx c3;rw[decide_eq_true c3];refine .inr ⟨cs,r.sched.now+x.b,by rw[cond_true,h1],?_⟩;rw[cond_true,<-h1,<-c3]
 ·rw[decide_eq_false c3];exact .inl (gx _ _ _)
def wA (r:Runtime) (x:Step) (e:List Event) (r':Runtime):Prop:=
 (lM (qS r.ae) e (qS r'.ae)/\r'.sched.next=r.sched.next)\/
 ∃due,e=[⟨2,r.sched.next,due,uP⟩]/\r'.sched.next=r.sched.next+1/\r'.ae=r.ae++[⟨r.sched.next,x.a,⟨r.ao.getD x.a.toNat dt,0,x.input,0⟩,due⟩]/\r'.ao=r.ao/\0<=x.a/\x.a<4
theorem OT {r:Runtime} (x:Step):lM (qS r.ae) (tH r x).1 (qS r.ae):=by
 have ref:∀c,lM (qS r.ae) (dO x.kind c) (qS r.ae):=λc=>.other (by simp) (by simp) (by simp) .nil;unfold tH;cases(inB x.a 0 3&&!r.au.getD x.a.toNat false)
 ·exact ref _
 cases(decide ((eI x.data).2=0)&&tU (eI x.data).1)
 ·exact ref _
 ·exact .other (by simp) (by simp) (by simp) .nil
theorem Jr {r:Runtime} (h:qR r) (x:Step):wA r x (fl r x).1 ⟨(fl r x).2.1,r.ao,r.au,(fl r x).2.2⟩:=by
 have ref:∀c,wA r x (dO x.kind c,r.sched,r.ae).1 ⟨(dO x.kind c,r.sched,r.ae).2.1,r.ao,r.au,(dO x.kind c,r.sched,r.ae).2.2⟩:=λc=>.inl ⟨.other (by simp) (by simp) (by simp) .nil,rfl⟩;unfold fl;cases c0:Kw r x.a
 ·exact ref _
 simp only[cond_true];have c1':=of_decide_eq_true (WE.1 c0).1;cases c2:(dH (r.ao.getD x.a.toNat dt) x.input).2
 ·exact ref _
 have hj:(dH (r.ao.getD x.a.toNat dt) x.input).1=⟨r.ao.getD x.a.toNat dt,0,x.input,0⟩:=by
  unfold dH at c2⊢;cases c:wF ⟨r.ao.getD x.a.toNat dt,0,x.input,0⟩
  ·rw[c]at c2;exact nomatch c2
  ·rfl
 rw[hj];simp only[cond_true];cases inB x.b 0 1000000
 ·exact ref _
 simp only[cond_true];generalize hc:bB (r.ao.getD x.a.toNat dt)=cs;by_cases c3:(fo r.sched cs (r.sched.now+x.b)).2.2=0
 ·obtain⟨h1,h2⟩:=Fx c3;rw[decide_eq_true c3];simp only[cond_true];refine .inr ⟨r.sched.now+x.b,by rw[h1],?_,by rw[h1],rfl,c1'.1,by omega⟩
  rcases qE r.sched cs (r.sched.now+x.b)with⟨_,_,_,_,g⟩|⟨g,_⟩
  ·show(fo r.sched cs (r.sched.now+x.b)).1.next=_
   rw[g]
  ·exact(g c3).elim
 ·rw[decide_eq_false c3];exact ref _
theorem Js {r:Runtime} (h:qR r) (x:Step):lM (qS r.ae) (fm r x).1 (qS (fm r x).2.ae):=by
 unfold fm;cases Kw r x.a
 ·exact .other (by simp) (by simp) (by simp) .nil
 obtain⟨d,h1,h2⟩:=BT x.a r.ae [] r.sched r.ae h.inc λi hi=>hi;simp only[cond_true];rw[h1,Xe];exact h2.app (.other (by simp) (by simp) (by simp) .nil)
theorem Rg {k:Nat} (hk:20000000<=k) {r:Runtime} (h:qR r) {x:Step} (hx:cy x):∃(e:List Event) (r':Runtime),qR r'/\e.length<=1000/\wA r x e r'/\fK k r x=some (SC e r')/\gJ k r x=some (SC e r')/\wz r x e r'.sched:=by
 have hM:=al;have hq:=h.Re;have ht:=h.tot;unfold fK gJ;simp only[bM];by_cases c0:x.kind=0
 ·simp only[if_pos c0];rw[OJ (by omega) hx.byte hx.data h.ll h.ml,OK (by omega) hx.byte hx.data h.ll h.ml];exact⟨(tH r x).1,⟨r.sched,(tH r x).2.1,(tH r x).2.2,r.ae⟩,(OR h x).1,by have:=(OR h x).2;omega,.inl ⟨OT x,rfl⟩,rfl,rfl,.inr ⟨by rw[c0];rfl,.inl (QA r x)⟩⟩
 simp only[if_neg c0];by_cases c1:x.kind=1
 ·simp only[if_pos c1];obtain⟨i1,i2,i3,i4,i5,i6⟩:=Jp h hk (x:=x);rw[Jo h hk,i1];refine⟨(fm r x).1,(fm r x).2,(Hu h x).1,by have:=(Hu h x).2;omega,.inl ⟨Js h x,i6⟩,rfl,?_,.inr ⟨by rw[c1];rfl,.inl (Mb r x)⟩⟩;simp only[aa,SC,i2,i3,i4,i5,i6]
 simp only[if_neg c1];by_cases c2:x.kind=2
 ·simp only[if_pos c2];rw[Jm h hk hx.input,Jn h hk hx.input];exact⟨(fl r x).1,⟨(fl r x).2.1,r.ao,r.au,(fl r x).2.2⟩,(Ht h x).1,by have:=(Ht h x).2;omega,Jr h x,rfl,rfl,.inr ⟨by rw[c2];rfl,Mc r x⟩⟩
 simp only[if_neg c2];by_cases c3:x.kind=3
 ·simp only[if_pos c3];unfold ja;rw[tv (by omega) (by omega),aa,xJ (by omega) (by omega),aa];by_cases c:wx r.ae x.a<0
  ·rw[decide_eq_true c];unfold bH eg;simp only[cond_true,aa,decide_true];exact⟨dO x.kind 7,r,h,by simp[dO],.inl ⟨.other (by simp) (by simp) (by simp) .nil,rfl⟩,rfl,rfl,.inr ⟨by rw[c3];rfl,.inl (gx _ _ _)⟩⟩
  ·rw[decide_eq_false c];obtain⟨q,hq1,hq2⟩:=OS c;have hid:1<=x.a:=hq2▸DL h q hq1;simp only[cond_false];rw[DK (by omega) (by omega) h.s hid,Hs (by omega) (by omega)];simp only[aa,decide_true,cond_true];exact⟨[Cy x.a],TQ r x.a,Ky h hid,by simp,.inl ⟨.ends (.inr rfl) (by show x.a∈qS r.ae;unfold qS;exact XG.2 ⟨q,hq1,hq2⟩) (λh=>absurd h (show¬(4:Int)=3 by decide)) (by show lM ((qS r.ae).filter λi=>!(i==x.a)) [] (qS (zK r.ae x.a));rw[zL];exact .nil),rfl⟩,rfl,rfl,.inr ⟨by rw[c3];rfl,.inl ⟨rfl,λv hv=>by rw[WD.1 hv];exact(show¬(4:Int)=3 by decide)⟩⟩⟩
 simp only[if_neg c3]
 have run:∀(st:Bool),(x.kind==5)=st->∃(e:List Event) (s':ak) (rs':List Request),qR ⟨s',r.ao,r.au,rs'⟩/\e.length<=1000/\(lM (qS r.ae) e (qS rs')/\((inB x.a 0 200=true/\Tr st x.a.toNat r.sched e s')\/(inB x.a 0 200=false/\s'=lW r.sched e/\∀v∈e,v.kind≠3)))/\(s'.ai=r.sched.ai/\s'.age=r.sched.age/\s'.next=r.sched.next)/\
   lD k r x st=some (e,s'.now,s'.ai,s'.age,s'.tasks,s'.run,s'.left,s'.turns,s'.next,rs')/\gg k r x=some (e,s'.now,s'.tasks,s'.run,s'.left,s'.turns,rs'):=λst hst=>by
  unfold lD gg bH eg;rw[cp,aa,fV,aa];cases c:inB x.a 0 200
  ·simp only[Wj,cond_true,aa,decide_true];exact⟨dO x.kind 8,r.sched,r.ae,h,by simp[dO],⟨.other (by simp) (by simp) (by simp) .nil,.inr ⟨by first|rfl|trivial,gx _ _ _⟩⟩,⟨rfl,rfl,rfl⟩,rfl,rfl⟩
  have c':=of_decide_eq_true c;simp only[VT,cond_false,decide_true,cond_true];obtain⟨e,s',rs',g1,g2,⟨d,dd,td,tr⟩,g3,_,g5,g6⟩:=KC hk (st:=st) (ms:=r.ao) (ls:=r.au) (a:=x.a) (by omega) (q1:=x.kind) (q2:=x.b) (q4:=x.input.sh.h) (q5:=x.input.sh.w) (q6:=x.input.sh.c) (kd:=x.kind) (p9:=x.a) (q3:=x.data) (q7:=x.input.data) hst x.a.toNat 0 r.sched r.ae [] (by omega) (by omega) h (by simp;omega);refine⟨e,s',rs',g1,?_,⟨by rw[dd];exact td,.inl ⟨by first|rfl|trivial,by rw[dd];exact tr⟩⟩,g3,g5 _ _ k (by omega),g6 _ _ k (by omega)⟩;simp only[V5]at g2;omega
 by_cases c4:x.kind=4
 ·simp only[if_pos c4];obtain⟨e,s',rs',g1,g2,⟨td,tt⟩,g3,g4,g5⟩:=run false (by rw[c4];rfl);rw[g4,g5]
  refine⟨e,⟨s',r.ao,r.au,rs'⟩,g1,g2,.inl ⟨td,g3.2.2⟩,rfl,?_,by
   rcases tt with⟨t1,t2⟩|⟨t1,t2⟩
   ·exact .inl ⟨by rw[c4,t1];rfl,by rw[c4];exact t2⟩
   ·exact .inr ⟨by rw[c4,t1];rfl,.inl t2⟩⟩
  simp only[aa,SC,g3.1,g3.2.1,g3.2.2]
 simp only[if_neg c4];by_cases c5:x.kind=5
 ·simp only[if_pos c5];obtain⟨e,s',rs',g1,g2,⟨td,tt⟩,g3,g4,g5⟩:=run true (by rw[c5];rfl);rw[g4,g5]
  refine⟨e,⟨s',r.ao,r.au,rs'⟩,g1,g2,.inl ⟨td,g3.2.2⟩,rfl,?_,by
   rcases tt with⟨t1,t2⟩|⟨t1,t2⟩
   ·exact .inl ⟨by rw[c5,t1];rfl,by rw[c5];exact t2⟩
   ·exact .inr ⟨by rw[c5,t1];rfl,.inl t2⟩⟩
  simp only[aa,SC,g3.1,g3.2.1,g3.2.2]
 simp only[if_neg c5];unfold bH eg;simp only[aa];exact⟨dO x.kind 8,r,h,by simp[dO],.inl ⟨.other (by simp) (by simp) (by simp) .nil,rfl⟩,rfl,rfl,.inr ⟨by rw[show inB x.kind 4 5=false from decide_eq_false (by omega)];rfl,.inl (gx _ _ _)⟩⟩
theorem OU {k:Nat} (hk:20000000<=k) {r:Runtime} (h:qR r) {x:Step} (hx:cy x):∃(e:List Event) (r':Runtime),qR r'/\e.length<=1000/\wA r x e r'/\fK k r x=some (SC e r')/\gJ k r x=some (SC e r'):=by
 obtain⟨e,r',a,b,c,d,f,_⟩:=Rg hk h hx;exact⟨e,r',a,b,c,d,f⟩
end
set_option maxRecDepth 100000
set_option maxHeartbeats 4000000
section
def rt0 (s:ak):Runtime:=⟨s,List.replicate 4 dt,List.replicate 4 false,[]⟩
def Rh:Runtime:=⟨⟨0,0,0,[],0,0,0,0⟩,[],[],[]⟩
theorem nu {k:Nat} {a b:Int} (hk:0<k):jl k a b=some (cond (bf (uN a b)) (rt0 (uN a b),true) (Rh,false)):=by
 unfold jl;rw[Qx hk,aa];cases bf (uN a b)<;>rfl
theorem BU {k:Nat} {a b:Int} (hk:0<k):oq k a b=some (cond (bf (uN a b)) (rt0 (uN a b),true) (Rh,false)):=by
 unfold oq;rw[Qy hk,aa];cases bf (uN a b)<;>rfl
theorem KE {a b:Int} (h:bf (uN a b)=true):qR (rt0 (uN a b)):=⟨Rc h,rfl,rfl,λm hm=>by rw[(XN.1 hm).2];exact Wy _,.nil⟩
end
set_option maxRecDepth 100000
set_option maxHeartbeats 4000000
section
def ka (E:List Entry):Prop:=∀(i:Nat) (h:i<E.length),E[i].id=(i:Int)+1
theorem ka.set {E:List Entry} (h:ka E) {j:Nat} {y:Entry} (hy:y.id=(j:Int)+1):ka (E.set j y):=λi hi=>by
 rw[XX];by_cases c:j=i
 ·subst c;rw[if_pos rfl];exact hy
 ·rw[if_neg c];exact h i (by simpa using hi)
theorem ka.app {E:List Entry} (h:ka E) {y:Entry} (hy:y.id=(E.length:Int)+1):ka (E++[y]):=λi hi=>by
 rw[List.getElem_append];by_cases c:i<E.length
 ·rw[dif_pos c];exact h i c
 ·rw[dif_neg c];simp only[VR,VS,V5]at hi
  have:i=E.length:=by omega
  subst this;simpa using hy
def FG (now:Int) (ev:Event) (y:Entry):Entry:=⟨y.id,y.model,y.input,y.at_,y.due,cond (ev.kind==4) now ev.b,ev.kind==3⟩
section
variable {k:Nat} {p:List Step× Int× Int× List Event× Int× Int× Int× Int× Int× Int× Int× Int× Int× Int× Int× Int× Int× Int× Int× List Event× Int× Int× Int× Int× Int× Int× List Int× List Request× List Task× List Model× List Bool× List Request} {ev:Event} {now:Int}
 (h1:p.2.2.2.2.2.2.2.2.2.2.2.2.2.2.2.2.2.2.2.2.1=ev.kind) (h2:p.2.2.2.2.2.2.2.2.2.2.2.2.2.2.2.2.2.2.2.2.2.1=ev.a) (h3:p.2.2.2.2.2.2.2.2.2.2.2.2.2.2.2.2.2.2.2.2.2.2.1=ev.b) (h4:p.2.2.1=now)
include h1 h2 h3 h4
theorem SD {R:Type} {E:List Entry} {fin:List Entry->Option R} {j:Nat} (hj:j<E.length) (hE:E.length<=100000) (next:Int× List Entry->Option R):
  gK k p ((j:Int),E) next fin=next (((j+1:Nat):Int),cond (E[j].id==ev.a) (E.set j (FG now ev E[j])) E):=by
 have hM:=al;have hd0:decide ((j:Int)<(E.length:Int))=true:=decide_eq_true (by omega);have hd:decide (0<=(j:Int)/\(j:Int)<(E.length:Int))=true:=decide_eq_true (by omega);have hg:∀y:Entry,(E.set j y)[j]? =some y:=λy=>WQ hj;unfold gK;simp only[h1,h2,h3,h4,hd0,hd,VQ,Wx,cond_true,aj hj,aa,List.set_set,hg,aq hj (show E.length<=9223372036854775807 by omega)];cases c:(E[j].id==ev.a)
 ·rfl
 simp only[cond_true,FG];cases(ev.kind==4)<;>rfl
theorem Fz {R:Type} {fin:List Entry->Option R}:∀(n j:Nat) (E:List Entry) (kf:Nat),j+n=E.length->n<kf->E.length<=100000->ka E->
  iter (λu14 n14=>gK k p u14 n14 fin) kf ((j:Int),E)=fin (cond (decide ((j:Int)<ev.a/\ev.a<=(E.length:Int))) (E.set (ev.a-1).toNat (FG now ev (E.getD (ev.a-1).toNat ⟨0,dt,uP,0,0,0,false⟩))) E)
 |_,_,_,0,_,h,_,_=>by omega
 |0,j,E,kf+1,hj,_,_,_=>by
  rw[aI];show gK k p _ _ fin=_;unfold gK;simp only
  rw[decide_eq_false (show¬(j:Int)<(E.length:Int) by omega),cond_false,decide_eq_false (show¬((j:Int)<ev.a/\ev.a<=(E.length:Int)) by omega)];rfl
 |n+1,j,E,kf+1,hj,hk,hE,hP=>by
  have hjl:j<E.length:=by omega
  have hid:=hP j hjl;rw[aI];refine(SD h1 h2 h3 h4 hjl hE _).trans ?_;by_cases c:E[j].id=ev.a
  ·rw[show(E[j].id==ev.a)=true from by simpa using c,cond_true]
   have e1:(ev.a-1).toNat=j:=by omega
   have hP2:ka (E.set j (FG now ev E[j])):=hP.set (by show E[j].id=_;exact hid);refine(Fz n (j+1) _ kf (by simp;omega) (by omega) (by simpa using hE) hP2).trans ?_;rw[Wx,decide_eq_false (by omega),decide_eq_true (by omega),e1,bT hjl];rfl
  ·rw[show(E[j].id==ev.a)=false from by simpa using c,cond_false];refine(Fz n (j+1) E kf (by omega) (by omega) hE hP).trans ?_;by_cases d:((j+1:Nat):Int)<ev.a/\ev.a<=(E.length:Int)
   ·rw[decide_eq_true d,decide_eq_true (by omega)]
   ·rw[decide_eq_false d,decide_eq_false (by omega)]
end
end
set_option maxRecDepth 100000
set_option maxHeartbeats 4000000
section
def noEntry:Entry:=⟨0,dt,uP,0,0,0,false⟩
def du (now:Int) (E:List Entry) (ev:Event):List Entry:=cond (ev.kind==3||ev.kind==4) (E.set (ev.a-1).toNat (FG now ev (E.getD (ev.a-1).toNat noEntry))) E
def Live (E:List Entry) (ids:List Int):Prop:=∀i∈ids,1<=i/\i<=E.length/\(E.getD (i-1).toNat noEntry).done=false
theorem pH (now:Int) (E:List Entry) (ev:Event):(du now E ev).length=E.length:=by
 unfold du;cases(ev.kind==3||ev.kind==4)<;>simp
theorem mD {now:Int} {E:List Entry} {ev:Event} (h:ka E):ka (du now E ev):=by
 unfold du;cases(ev.kind==3||ev.kind==4)
 ·exact h
 ·intro i hi
  have hi':i<E.length:=by simpa using hi
  simp only[cond_true];rw[XX];by_cases c:(ev.a-1).toNat=i
  ·rw[if_pos c,c,bT hi'];exact h i hi'
  ·rw[if_neg c];exact h i hi'
theorem qH {now:Int} {E:List Entry} {ev:Event} {ids:List Int} (h:Live E ids) (ha:1<=ev.a):Live (du now E ev) (ids.filter λi=>!(i==ev.a)):=λi hi=>by
 obtain⟨h1,h2⟩:=Wz.1 hi;obtain⟨g1,g2,g3⟩:=h i h1
 have hne:i≠ev.a:=by simpa using h2
 refine⟨g1,by rw[pH];exact g2,?_⟩;unfold du;cases(ev.kind==3||ev.kind==4)
 ·exact g3
 ·simp only[cond_true];rw[Wp,Xh (by omega),<-Wp];exact g3
theorem UU {k:Nat} {p:List Step× Int× Int× List Event× Int× Int× Int× Int× Int× Int× Int× Int× Int× Int× Int× Int× Int× Int× List Request× List Task× List Model× List Bool× List Request} {now:Int} (h4:p.2.2.1=now) {R:Type} {fin:List Entry× List Event->Option R} {es:List Event} {ids ids':List Int} (ht:lM ids es ids'):∀(pre:List Event) (E:List Entry) (evs:List Event) (kf:Nat),p.2.2.2.1=pre++es->es.length<kf->E.length+10<k->E.length<=100000->(pre++es).length<=100000->evs.length+es.length<=1000000->ka E->Live E ids->
  iter (λu22 n22=>dR k p u22 n22 fin) kf ((pre.length:Int),E,evs)=fin (es.foldl (du now) E,evs++es):=by
 have hM:=al
 induction ht with
 |nil=>
  intro pre E evs kf hL hk _ _ _ _ _ _;obtain⟨kf,rfl⟩:∃m,kf=m+1:=⟨kf-1,by simp at hk;omega⟩;rw[aI];show dR k p _ _ fin=_;unfold dR;simp only
  rw[hL,decide_eq_false (by simp),cond_false,Ww];rfl
 |other k2 k3 k4 ht ih=>
  rename_i ids0 ids1 e es;intro pre E evs kf hL hk hE1 hE2 hl hv hP hLv;obtain⟨kf,rfl⟩:∃m,kf=m+1:=⟨kf-1,by simp at hk;omega⟩
  have hlen:(pre++e::es).length=pre.length+(es.length+1):=by simp
  simp only[VS]at hk hv;rw[aI]
  have st:∀next,dR k p ((pre.length:Int),E,evs) next fin=next (((pre++[e]).length:Int),E,evs++[e]):=λnext=>by
   unfold dR;simp only;rw[hL,decide_eq_true (by omega),cond_true,aL,show(pre++e::es)[pre.length]? =some e from by simp,aa,bJ (by omega),bM,if_neg k2,bM,if_neg k3,bM,if_neg k4,aE (by omega) (by omega),VR];rfl
  refine(st _).trans ((ih (pre++[e]) E (evs++[e]) kf (by rw[hL];simp) (by omega) hE1 hE2 (by simpa using hl) (by simp;omega) hP hLv).trans ?_);rw[Wr,show du now E e=E from by unfold du;rw[show(e.kind==3)=false from by simpa using k3,show(e.kind==4)=false from by simpa using k4];rfl]
  simp
 |ends kk hm ko ht ih=>
  rename_i ids0 ids1 e es;intro pre E evs kf hL hk hE1 hE2 hl hv hP hLv;obtain⟨kf,rfl⟩:∃m,kf=m+1:=⟨kf-1,by simp at hk;omega⟩
  have hlen:(pre++e::es).length=pre.length+(es.length+1):=by simp
  simp only[VS]at hk hv;obtain⟨a1,a2,a3⟩:=hLv _ hm;rw[aI]
  have hap:du now E e=E.set (e.a-1).toNat (FG now e (E.getD (e.a-1).toNat noEntry)):=by
   unfold du
   rcases kk with kk|kk<;>rw[kk]<;>rfl
  have st:∀next,dR k p ((pre.length:Int),E,evs) next fin=next (((pre++[e]).length:Int),du now E e,evs++[e]):=λnext=>by
   rw[hap];unfold dR;simp only;rw[hL,decide_eq_true (by omega),cond_true,aL,show(pre++e::es)[pre.length]? =some e from by simp,aa,bJ (by omega),bM,if_neg (by rcases kk with kk|kk<;>rw[kk]<;>decide),bM]
   rcases kk with kk|kk
   ·rw[if_pos kk];refine(Fz (ev:=e) (now:=now) (by rfl) (by rfl) (by rfl) h4 E.length 0 E k (by omega) (by omega) hE2 hP).trans ?_;rw[decide_eq_true (by omega),cond_true,aE (by omega) (by omega),VR];rfl
   ·rw[if_neg (by rw[kk];decide),bM,if_pos kk];refine(Fz (ev:=e) (now:=now) (by rfl) (by rfl) (by rfl) h4 E.length 0 E k (by omega) (by omega) hE2 hP).trans ?_;rw[decide_eq_true (by omega),cond_true,aE (by omega) (by omega),VR];rfl
  refine(st _).trans ((ih (pre++[e]) (du now E e) (evs++[e]) kf (by rw[hL];simp) (by omega) (by rw[pH];exact hE1) (by rw[pH];exact hE2) (by simpa using hl) (by simp;omega) (mD hP) (qH hLv a1)).trans ?_);rw[Wr];simp
theorem UW {k:Nat} {p:Int× List Step× Int× Int× List Event× Int× Int× Int× Int× Int× Int× Int× Int× Int× Int× Int× Int× Int× Int× Int× Int× Int× Int× List Int× Int× Int× Int× List Int× List Request× List Task× List Model× List Bool× List Request} {now:Int} (h4:p.1=now) {R:Type} {fin:List Event× List Entry->Option R} {es:List Event} {ids ids':List Int} (ht:lM ids es ids'):∀(pre:List Event) (E:List Entry) (evs:List Event) (kf:Nat),p.2.2.2.2.1=pre++es->p.2.2.2.2.2.1=((pre++es).length:Int)->es.length<kf->E.length<=100000->(pre++es).length<=100000->evs.length+es.length<=1000000->Live E ids->
  iter (λu12 n12=>eP k p u12 n12 fin) kf ((pre.length:Int),evs,E)=fin (evs++es,es.foldl (du now) E):=by
 have hM:=al
 induction ht with
 |nil=>
  intro pre E evs kf hL hL2 hk _ _ _ _;obtain⟨kf,rfl⟩:∃m,kf=m+1:=⟨kf-1,by simp at hk;omega⟩;rw[aI];show eP k p _ _ fin=_;unfold eP;simp only
  rw[hL2,decide_eq_false (by simp),cond_false,Ww];rfl
 |other k2 k3 k4 ht ih=>
  rename_i ids0 ids1 e es;intro pre E evs kf hL hL2 hk hE2 hl hv hLv;obtain⟨kf,rfl⟩:∃m,kf=m+1:=⟨kf-1,by simp at hk;omega⟩
  have hlen:(pre++e::es).length=pre.length+(es.length+1):=by simp
  simp only[VS]at hk hv;rw[aI]
  have st:∀next,eP k p ((pre.length:Int),evs,E) next fin=next (((pre++[e]).length:Int),evs++[e],E):=λnext=>by
   unfold eP;simp only;rw[hL2,hL,decide_eq_true (by omega),cond_true,aL,show(pre++e::es)[pre.length]? =some e from by simp,aa,bJ (by omega),bM,if_neg k2,bM,if_neg k3,bM,if_neg k4,aE (by omega) (by omega),VR];rfl
  refine(st _).trans ((ih (pre++[e]) E (evs++[e]) kf (by rw[hL];simp) (by rw[hL2];simp) (by omega) hE2 (by simpa using hl) (by simp;omega) hLv).trans ?_);rw[Wr,show du now E e=E from by unfold du;rw[show(e.kind==3)=false from by simpa using k3,show(e.kind==4)=false from by simpa using k4];rfl]
  simp
 |ends kk hm ko ht ih=>
  rename_i ids0 ids1 e es;intro pre E evs kf hL hL2 hk hE2 hl hv hLv;obtain⟨kf,rfl⟩:∃m,kf=m+1:=⟨kf-1,by simp at hk;omega⟩
  have hlen:(pre++e::es).length=pre.length+(es.length+1):=by simp
  simp only[VS]at hk hv;obtain⟨a1,a2,a3⟩:=hLv _ hm;rw[aI]
  have hi:(e.a-1).toNat<E.length:=by omega
  have hap:du now E e=E.set (e.a-1).toNat (FG now e (E.getD (e.a-1).toNat noEntry)):=by
   unfold du
   rcases kk with kk|kk<;>rw[kk]<;>rfl
  have st:∀next,eP k p ((pre.length:Int),evs,E) next fin=next (((pre++[e]).length:Int),evs++[e],du now E e):=λnext=>by
   rw[hap];rw[bT hi]at a3⊢;unfold eP;simp only;rw[hL2,hL,decide_eq_true (by omega),cond_true,aL,show(pre++e::es)[pre.length]? =some e from by simp,aa,bJ (by omega),bM,if_neg (by rcases kk with kk|kk<;>rw[kk]<;>decide),bM,aE (n:=e.a-1) (by omega) (by omega),aE (n:=(pre.length:Int)+1) (by omega) (by omega),h4]
   rcases kk with kk|kk
   ·rw[if_pos kk,decide_eq_true (by omega),cond_true,aj hi,aa,Wx,decide_eq_true (by omega),cond_true,WQ hi,aa,List.set_set,VR];unfold FG;rw[kk];rfl
   ·rw[if_neg (by rw[kk];decide),bM,if_pos kk,decide_eq_true (by omega),cond_true,aj hi,aa,VR];unfold FG;rw[kk,a3];rfl
  refine(st _).trans ((ih (pre++[e]) (du now E e) (evs++[e]) kf (by rw[hL];simp) (by rw[hL2];simp) (by omega) (by rw[pH];exact hE2) (by simpa using hl) (by simp;omega) (qH hLv a1)).trans ?_);rw[Wr];simp
end
set_option maxRecDepth 100000
set_option maxHeartbeats 4000000
section
structure xO (r:Runtime) (E:List Entry) (evs:List Event) (n:Nat):Prop where
 ok:qR r
 next:r.sched.next=(E.length:Int)+1
 nv:ka E
 live:Live E (qS r.ae)
 SE:E.length<=n
 VI:evs.length<=1000*n
 ended:∀e∈evs,e.kind=3->1<=e.a/\e.a<=E.length/\e.out.okB=true
 small:∀y∈E,y.model.tot<=8002000/\y.input.tot<=2000000
theorem lM.told {ids ids':List Int} {es:List Event} (h:lM ids es ids'):∀e∈es,e.kind=3->e.a∈ids/\e.out.okB=true:=by
 induction h with
 |nil=>exactλe he=>absurd he (by simp)
 |other k2 k3 k4 _ ih=>
  intro e he hk
  rcases V0.1 he with rfl|he
  ·exact absurd hk k3
  ·exact ih e he hk
 |ends kk hm ho _ ih=>
  intro e he hk
  rcases V0.1 he with rfl|he
  ·exact⟨hm,ho hk⟩
  ·obtain⟨g1,g2⟩:=ih e he hk;exact⟨(Wz.1 g1).1,g2⟩
theorem Hv {P:Model->aF->Prop} {now:Int} {E:List Entry} {ev:Event} (h:∀y∈E,P y.model y.input):∀y∈du now E ev,P y.model y.input:=by
 unfold du;cases(ev.kind==3||ev.kind==4)
 ·exact h
 ·intro y hy
  rcases Xo hy with hy|rfl
  ·exact h y hy
  ·by_cases c:(ev.a-1).toNat<E.length
   ·rw[bT c];exact h E[(ev.a-1).toNat] (VV c)
   ·rw[cond_true,List.set_eq_of_length_le (by omega)]at hy;exact h _ hy
theorem tV {P:Model->aF->Prop} {now:Int}:∀{es:List Event} {E:List Entry},(∀y∈E,P y.model y.input)->∀y∈es.foldl (du now) E,P y.model y.input
 |[],_,h=>h
 |e::es,E,h=>tV (es:=es) (Hv h)
theorem QB {now:Int} {ids ids':List Int} {es:List Event} (h:lM ids es ids'):∀{E:List Entry},ka E->Live E ids->ka (es.foldl (du now) E)/\Live (es.foldl (du now) E) ids'/\(es.foldl (du now) E).length=E.length:=by
 induction h with
 |nil=>exactλhP hL=>⟨hP,hL,rfl⟩
 |other k2 k3 k4 _ ih=>
  rename_i e es _;intro E hP hL;rw[Wr,show du now E e=E from by unfold du;rw[show(e.kind==3)=false from by simpa using k3,show(e.kind==4)=false from by simpa using k4];rfl]
  exact ih hP hL
 |ends kk hm _ _ ih=>
  intro E hP hL;rw[Wr];obtain⟨g1,g2,g3⟩:=ih (mD (now:=now) hP) (qH (now:=now) hL (hL _ hm).1);exact⟨g1,g2,g3.trans (pH _ _ _)⟩
theorem OV {rs:List Request} {q:Request} (h:∀i∈qS rs,i<q.id):wx (rs++[q]) q.id=(rs.length:Int):=sj (qo:=[]) λv hv=>by
 have:=h v.id (XG.2 ⟨v,hv,rfl⟩);omega
theorem QC {E:List Entry} {ids:List Int} (h:Live E ids) (y:Entry):Live (E++[y]) ids:=λi hi=>by
 obtain⟨g1,g2,g3⟩:=h i hi;refine⟨g1,by simp;omega,?_⟩;rw[bT (by omega)]at g3;rw[bT (by simp;omega),List.getElem_append_left (by omega)];exact g3
theorem KF {V R:Type} {g:V->(V->Option R)->Option R} {v w:V} {r:Option R} (h1:∀next,g v next=next w) (h2:∀next,g w next=r) {kf:Nat} (hk:2<=kf):iter g kf v=r:=by
 obtain⟨m,rfl⟩:∃m,kf=m+1+1:=⟨kf-2,by omega⟩;rw[aI,h1,aI,h2]
theorem KG {α:Type} (x:α) (l:List α):idx (x::l) (0:Int)=some x:=rfl
def Made (r:Runtime) (x:Step) (e:List Event) (E E1:List Entry) (r':Runtime):Prop:=
 (lM (qS r.ae) e (qS r'.ae)/\E1=e.foldl (du r.sched.now) E)\/
 ∃due,e=[⟨2,r.sched.next,due,uP⟩]/\r'.sched.next=r.sched.next+1/\E1=E++[⟨r.sched.next,r.ao.getD x.a.toNat dt,x.input,r.sched.now,due,-1,false⟩]
theorem QD {k:Nat} (hk:20000000<=k) {r r':Runtime} {x:Step} {e:List Event} {E:List Entry} {evs:List Event} {n:Nat} (hx:cy x) (h:xO r E evs n) (h':qR r') (he:e.length<=1000) (hn:n<=200) (ht:wA r x e r'):
  ∃E1:List Entry,Made r x e E E1 r'/\xO r' E1 (evs++e) (n+1)/\
   (∀{R:Type} {p:List Step× Int× Int× List Event× Int× Int× Int× Int× Int× Int× Int× Int× Int× Int× Int× Int× Int× Int× List Request× List Task× List Model× List Bool× List Request} {fin:List Entry× List Event->Option R},p.2.2.1=r.sched.now->p.2.2.2.1=e->(⟨(⟨p.2.2.2.2.2.2.2.2.2.2.2.1,p.2.2.2.2.2.2.2.2.2.2.2.2.1,p.2.2.2.2.2.2.2.2.2.2.2.2.2.1,p.2.2.2.2.2.2.2.2.2.2.2.2.2.2.2.2.2.2.2.1,p.2.2.2.2.2.2.2.2.2.2.2.2.2.2.1,p.2.2.2.2.2.2.2.2.2.2.2.2.2.2.2.1,p.2.2.2.2.2.2.2.2.2.2.2.2.2.2.2.2.1,p.2.2.2.2.2.2.2.2.2.2.2.2.2.2.2.2.2.1⟩:ak),p.2.2.2.2.2.2.2.2.2.2.2.2.2.2.2.2.2.2.2.2.1,p.2.2.2.2.2.2.2.2.2.2.2.2.2.2.2.2.2.2.2.2.2.1,p.2.2.2.2.2.2.2.2.2.2.2.2.2.2.2.2.2.2.2.2.2.2⟩:Runtime)=r'->iter (λu22 n22=>dR k p u22 n22 fin) k ((0:Int),E,evs)=fin (E1,evs++e))/\
   (∀{R:Type} {p:Int× List Step× Int× Int× List Event× Int× Int× Int× Int× Int× Int× Int× Int× Int× Int× Int× Int× Int× Int× Int× Int× Int× Int× List Int× Int× Int× Int× List Int× List Request× List Task× List Model× List Bool× List Request} {fin:List Event× List Entry->Option R},p.1=r.sched.now->p.2.2.2.2.1=e->p.2.2.2.2.2.1=(e.length:Int)->p.2.2.2.2.2.2.2.2.2.2.2.2.2.2.2.2.2.2.2.2.2.1=x.a->p.2.2.2.2.2.2.2.2.2.2.2.2.2.2.2.2.2.2.2.2.2.2.2.2.2.2.2.2.2.2.1=r'.ao->(⟨(⟨p.2.2.2.2.2.2.2.2.2.2.2.2.2.2.2.2.2.2.2.2.2.2.2.2.1,p.2.2.2.2.2.2.2.2.2.2.2.2.2.2.2.2.2.2.2.2.2.2.2.2.2.1,p.2.2.2.2.2.2.2.2.2.2.2.2.2.2.2.2.2.2.2.2.2.2.2.2.2.2.1⟩:Shape),p.2.2.2.2.2.2.2.2.2.2.2.2.2.2.2.2.2.2.2.2.2.2.2.2.2.2.2.1⟩:aF)=x.input->iter (λu12 n12=>eP k p u12 n12 fin) k ((0:Int),evs,E)=fin (evs++e,E1)):=by
 have hM:=al;have hel:=h.SE;have hvl:=h.VI
 rcases ht with⟨ht,hnx⟩|⟨due,rfl,hnx,hrq,hms,xa0,xa1⟩
 ·obtain⟨g1,g2,g3⟩:=QB (now:=r.sched.now) ht h.nv h.live;refine⟨e.foldl (du r.sched.now) E,.inl ⟨ht,rfl⟩,⟨h',by rw[hnx,h.next,g3],g1,g2,by omega,by rw[VR];omega,λv hv hk=>?_,tV (P:=λm t=>m.tot<=8002000/\t.tot<=2000000) h.small⟩,λ{R} {p} {fin} q1 q2 q3=>?_,λ{R} {p} {fin} q1 q2 q3 q4 q5 q6=>?_⟩
  ·rw[g3]
   rcases Wh.1 hv with hv|hv
   ·exact h.ended v hv hk
   ·obtain⟨c1,c2⟩:=ht.told v hv hk;obtain⟨d1,d2,_⟩:=h.live _ c1;exact⟨d1,d2,c2⟩
  ·exact UU q1 ht [] E evs k q2 (by omega) (by omega) (by omega) (by simpa using(show e.length<=100000 by omega)) (by omega) h.nv h.live
  ·exact UW q1 ht [] E evs k q2 q3 (by omega) (by omega) (by simpa using(show e.length<=100000 by omega)) (by omega) h.live
 ·have hmo:=h.ok.ml
  have hi:x.a.toNat<r.ao.length:=by omega
  have hmt:=h.ok.mod _ (VV hi);have hxi:=hx.input;have hxt:x.input.tot=x.input.data.length:=rfl;refine⟨E++[⟨r.sched.next,r.ao.getD x.a.toNat dt,x.input,r.sched.now,due,-1,false⟩],.inr ⟨due,rfl,hnx,rfl⟩,⟨h',by rw[hnx,h.next];simp,h.nv.app (by show r.sched.next=_;exact h.next),λi hi=>?_,by simp;omega,by simp;omega,λv hv hk=>?_,λy hy=>?_⟩,λ{R} {p} {fin} q1 q2 q3=>?_,λ{R} {p} {fin} q1 q2 q3 q4 q5 q6=>?_⟩
  ·rw[hrq]at hi;unfold qS at hi;rw[WL]at hi
   rcases Wh.1 hi with hi|hi
   ·exact QC h.live _ i hi
   ·obtain rfl:i=r.sched.next:=by simpa using hi
    have VJ:=h.next;refine⟨by omega,by simp;omega,?_⟩;rw[show(r.sched.next-1).toNat=E.length from by omega,bT (by simp),List.getElem_append_right (Wc _)];simp
  ·rcases Wh.1 hv with hv|hv
   ·obtain⟨d1,d2,d3⟩:=h.ended v hv hk;exact⟨d1,by simp;omega,d3⟩
   ·obtain rfl:v=⟨2,r.sched.next,due,uP⟩:=by simpa using hv
    exact absurd hk (show¬(2:Int)=3 by decide)
  ·rcases Wh.1 hy with hy|hy
   ·exact h.small y hy
   ·obtain rfl:y=_:=WD.1 hy;exact⟨by rw[bT hi];exact hmt,by show x.input.tot<=_;omega⟩
  ·refine KF (w:=((1:Int),E++[⟨r.sched.next,r.ao.getD x.a.toNat dt,x.input,r.sched.now,due,-1,false⟩],evs++[⟨2,r.sched.next,due,uP⟩])) (λnext=>?_) (λnext=>?_) (by omega)
   ·have hr:=congrArg Runtime.ae q3;simp only at hr;have hlt:∀i∈qS r.ae,i<r.sched.next:=λi hi=>(h.ok.lt i hi).2;have hq:=h.ok.Re;have hfr:=OV (q:=⟨r.sched.next,x.a,⟨r.ao.getD x.a.toNat dt,0,x.input,0⟩,due⟩) hlt;unfold dR;simp only;rw[q2,q3,hr,hrq,decide_eq_true (by simp),cond_true,KG,aa,bJ (by omega),bM,if_pos rfl,tv (by rw[hrq];simp;omega) (by rw[hrq];simp;omega),aa,hrq];simp only;rw[hfr,decide_eq_true (by simp;omega),cond_true,VQ,VU (Wc _),Nat.sub_self,XK,aa,bT hi,rV (by show r.ao[x.a.toNat].tot<k;omega) (by show r.ao[x.a.toNat].tot<=aU;omega),aa,rR (by show x.input.data.length<k;omega) (by show x.input.data.length<=aU;omega),aa,bJ (by omega),q1];rfl
   ·unfold dR;simp only;rw[q2,decide_eq_false (by simp),cond_false]
  ·refine KF (w:=((1:Int),evs++[⟨2,r.sched.next,due,uP⟩],E++[⟨r.sched.next,r.ao.getD x.a.toNat dt,x.input,r.sched.now,due,-1,false⟩])) (λnext=>?_) (λnext=>?_) (by omega)
   ·unfold eP;simp only;rw[q2,q3,q4,q5,q6,decide_eq_true (by simp),cond_true,KG,aa,bJ (by omega),bM,if_pos rfl,hms,decide_eq_true (by omega),cond_true,aj hi,aa,bT hi,pD (by omega) (by omega),aa,ou (by omega),aa,bJ (by omega),q1];rfl
   ·unfold eP;simp only;rw[q3,decide_eq_false (by simp),cond_false]
end
set_option maxRecDepth 100000
set_option maxHeartbeats 4000000
section
theorem DM {k:Nat} (hk:20000000<=k) {steps:List Step} (hs:∀x∈steps,cy x) (hl:steps.length<=200) {a1 a2 a3 a4 a5 a6 a7 b1 b2 b3 b4 b5 b6 b7:Int} {Q:List Step->Runtime->List Entry->Prop}
    (hQ:∀(pre:List Step) (x:Step) (r r':Runtime) (E E1:List Entry) (evs e:List Event),xO r E evs pre.length->pre.length<200->Q pre r E->wz r x e r'.sched->Made r x e E E1 r'->Q (pre++[x]) r' E1):∀(qs pre:List Step) (r:Runtime) (E:List Entry) (evs:List Event),steps=pre++qs->xO r E evs pre.length->Q pre r E->
    ∃ (r' : Runtime) (E' : List Entry) (evs' : List Event), xO r' E' evs' steps.length /\ Q steps r' E' /\
      (∀{R:Type} {fin:_->Option R} {kf:Nat},qs.length<kf->iter (λu24 n24=>jb k (steps,a1,a2,a3,a4,a5,a6,a7,[]) u24 n24 fin) kf ((pre.length:Int),r.sched.now,r.sched.ai,r.sched.age,r.sched.run,r.sched.left,r.sched.turns,r.sched.next,E,evs,r.sched.tasks,r.ao,r.au,r.ae)=fin (r'.sched.now,r'.sched.ai,r'.sched.age,r'.sched.run,r'.sched.left,r'.sched.turns,r'.sched.next,E',evs',r'.sched.tasks,r'.ao,r'.au,r'.ae))/\
      (∀{R:Type} {fin:_->Option R} {kf:Nat},qs.length<kf->iter (λu14 n14=>kD k (steps,(steps.length:Int),b1,b2,b3,b4,b5,b6,b7,[]) u14 n14 fin) kf ((pre.length:Int),r.sched.now,r.sched.ai,r.sched.age,r.sched.run,r.sched.left,r.sched.turns,r.sched.next,evs,E,r.sched.tasks,r.ao,r.au,r.ae)=fin (r'.sched.now,r'.sched.ai,r'.sched.age,r'.sched.run,r'.sched.left,r'.sched.turns,r'.sched.next,evs',E',r'.sched.tasks,r'.ao,r'.au,r'.ae))
  | [], pre, r, E, evs, hp, h, hq => by
    have hlen:steps.length=pre.length:=by rw[hp];simp
    refine⟨r,E,evs,by rw[hlen];exact h,by rw[hp,Ww];exact hq,λ{R} {fin} {kf} hkf=>?_,λ{R} {fin} {kf} hkf=>?_⟩
    · obtain⟨kf,rfl⟩:∃m,kf=m+1:=⟨kf-1,by simp at hkf;omega⟩;rw[aI];show jb k _ _ _ fin=_;unfold jb;simp only;rw[decide_eq_false (by omega)];rfl
    · obtain⟨kf,rfl⟩:∃m,kf=m+1:=⟨kf-1,by simp at hkf;omega⟩;rw[aI];show kD k _ _ _ fin=_;unfold kD;simp only
      rw[decide_eq_false (by omega)];rfl
  | x :: qs, pre, r, E, evs, hp, h, hq => by
    have hM:=al
    have hlen:steps.length=pre.length+(qs.length+1):=by rw[hp];simp
    have hat:idx steps (pre.length:Int)=some x:=by rw[aL,hp];simp
    have hx:=hs x (by rw[hp];simp);obtain⟨e,r',h',he,ht,e1,e2,hsc⟩:=Rg hk h.ok hx
    have hw:i64.wrap ((pre.length:Int)+1)=((pre++[x]).length:Int):=by rw[aE (by omega) (by omega),VR];rfl
    obtain⟨E1,hmd,hst,hS,hI⟩:=QD hk hx h h' he (by omega) ht;obtain⟨r2,E2,evs2,g1,gQ,g2,g3⟩:=DM hk hs hl (a1:=a1) (a2:=a2) (a3:=a3) (a4:=a4) (a5:=a5) (a6:=a6) (a7:=a7) (b1:=b1) (b2:=b2) (b3:=b3) (b4:=b4) (b5:=b5) (b6:=b6) (b7:=b7) hQ qs (pre++[x]) r' E1 (evs++e) (by rw[hp];simp) (by rw[VR];exact hst) (hQ pre x r r' E E1 evs e h (by omega) hq hsc hmd);refine⟨r2,E2,evs2,g1,gQ,λ{R} {fin} {kf} hkf=>?_,λ{R} {fin} {kf} hkf=>?_⟩
    · obtain⟨kf,rfl⟩:∃m,kf=m+1:=⟨kf-1,by simp at hkf;omega⟩;rw[aI,<-g2 (fin:=fin) (kf:=kf) (by simp at hkf;omega)]
      have st:∀next,jb k (steps,a1,a2,a3,a4,a5,a6,a7,[]) ((pre.length:Int),r.sched.now,r.sched.ai,r.sched.age,r.sched.run,r.sched.left,r.sched.turns,r.sched.next,E,evs,r.sched.tasks,r.ao,r.au,r.ae) next fin=next (((pre++[x]).length:Int),r'.sched.now,r'.sched.ai,r'.sched.age,r'.sched.run,r'.sched.left,r'.sched.turns,r'.sched.next,E1,evs++e,r'.sched.tasks,r'.ao,r'.au,r'.ae):=λnext=>by
        unfold jb;simp only;rw[decide_eq_true (by omega),cond_true,hat,aa,show(⟨⟨r.sched.now,r.sched.ai,r.sched.age,r.sched.tasks,r.sched.run,r.sched.left,r.sched.turns,r.sched.next⟩,r.ao,r.au,r.ae⟩:Runtime)=r from rfl,e1,aa,hw];exact hS rfl rfl rfl
      exact st _
    · obtain⟨kf,rfl⟩:∃m,kf=m+1:=⟨kf-1,by simp at hkf;omega⟩;rw[aI,<-g3 (fin:=fin) (kf:=kf) (by simp at hkf;omega)]
      have st:∀next,kD k (steps,(steps.length:Int),b1,b2,b3,b4,b5,b6,b7,[]) ((pre.length:Int),r.sched.now,r.sched.ai,r.sched.age,r.sched.run,r.sched.left,r.sched.turns,r.sched.next,evs,E,r.sched.tasks,r.ao,r.au,r.ae) next fin=next (((pre++[x]).length:Int),r'.sched.now,r'.sched.ai,r'.sched.age,r'.sched.run,r'.sched.left,r'.sched.turns,r'.sched.next,evs++e,E1,r'.sched.tasks,r'.ao,r'.au,r'.ae):=λnext=>by
        unfold kD;simp only;rw[decide_eq_true (by omega),cond_true,hat,aa,show(⟨⟨r.sched.now,r.sched.ai,r.sched.age,r.sched.tasks,r.sched.run,r.sched.left,r.sched.turns,r.sched.next⟩,r.ao,r.au,r.ae⟩:Runtime)=r from rfl,e2,aa,hw];exact hI rfl rfl rfl rfl rfl rfl
      exact st _
theorem TR {a b:Int} (h:bf (uN a b)=true):xO (rt0 (uN a b)) [] [] 0:=⟨KE h,rfl,λi hi=>absurd hi (by simp),(λi hi=>nomatch hi),Wc _,Wc _,λe h=>(by cases h),λy h=>(by cases h)⟩
theorem BV {k:Nat} (hk:20000000<=k) {a b:Int} {xs:List Step} (hs:∀x∈xs,cy x) {Q:List Step->Runtime->List Entry->Prop}
  (hQ:∀(pre:List Step) (x:Step) (r r':Runtime) (E E1:List Entry) (evs e:List Event),xO r E evs pre.length->pre.length<200->Q pre r E->wz r x e r'.sched->Made r x e E E1 r'->Q (pre++[x]) r' E1) (h0:bf (uN a b)=true->Q [] (rt0 (uN a b)) []):
  (iL k a b xs=some ([],[],(iL k a b xs).elim Rh (λv=>v.2.2.1),false)/\nq k a b xs=some (Rh,[],[],false)/\(iL k a b xs).isSome/\(bf (uN a b)&&decide (xs.length<=200))=false)\/
  ∃(r:Runtime) (E:List Entry) (evs:List Event),xO r E evs xs.length/\xs.length<=200/\(Q xs r E/\bf (uN a b)=true)/\iL k a b xs=some (E,evs,r,true)/\nq k a b xs=some (r,evs,E,true):=by
 unfold iL nq;rw[nu (by omega),BU (by omega),aa,aa];cases c:bf (uN a b)
 ·exact .inl ⟨rfl,rfl,rfl,rfl⟩
 simp only[cond_true,VT,cond_false];by_cases c2:(xs.length:Int)>200
 ·rw[decide_eq_true c2];exact .inl ⟨rfl,rfl,rfl,by rw[decide_eq_false (by omega)];rfl⟩
 rw[decide_eq_false c2];simp only[cond_false];obtain⟨r,E,evs,g1,gQ,g2,g3⟩:=DM hk hs (by omega) (a1:=0) (a2:=0) (a3:=0) (a4:=0) (a5:=0) (a6:=0) (a7:=0) (b1:=0) (b2:=0) (b3:=0) (b4:=0) (b5:=0) (b6:=0) (b7:=0) hQ xs [] (rt0 (uN a b)) [] [] rfl (TR c) (h0 c);exact .inr ⟨r,E,evs,g1,by omega,⟨gQ,by first|rfl|trivial⟩,g2 (by omega),g3 (by omega)⟩
theorem DN {k:Nat} (hk:20000000<=k) {a b:Int} {xs:List Step} (hs:∀x∈xs,cy x):
  (iL k a b xs=some ([],[],(iL k a b xs).elim Rh (λv=>v.2.2.1),false)/\nq k a b xs=some (Rh,[],[],false)/\(iL k a b xs).isSome)\/
  ∃(r:Runtime) (E:List Entry) (evs:List Event),xO r E evs xs.length/\xs.length<=200/\iL k a b xs=some (E,evs,r,true)/\nq k a b xs=some (r,evs,E,true):=by
 rcases BV hk hs (a:=a) (b:=b) (Q:=λ_ _ _=>True) (λ_ _ _ _ _ _ _ _ _ _ _ _ _=>trivial) λ_=>trivial with⟨h1,h2,h3,_⟩|⟨r,E,evs,h1,h2,_,h3⟩
 ·exact .inl ⟨h1,h2,h3⟩
 ·exact .inr ⟨r,E,evs,h1,h2,h3⟩
end
set_option maxRecDepth 100000
set_option maxHeartbeats 4000000
section
theorem yO {k:Nat} (hk:20000000<=k) {a b:Int} {xs:List Step} (hs:∀x∈xs,cy x):∃E:List Entry,E.length<=200/\kC k a b xs=some E/\fU k a b xs=some E:=by
 unfold kC fU
 rcases DN hk hs (a:=a) (b:=b)with⟨h1,h2,_⟩|⟨r,E,evs,hst,hl,h1,h2⟩
 ·rw[h1,h2];exact⟨[],by simp,rfl,rfl⟩
 ·rw[h1,h2];have:=hst.SE;exact⟨E,by omega,rfl,rfl⟩
def waits (E:List Entry):List Int:=(E.filter λy=>y.done).map λy=>i64.wrap (y.end_-y.at_)
theorem Hw (E:List Entry):(waits E).length<=E.length:=by unfold waits;rw[Xz];exact WJ _ _
theorem Hx {k:Nat} (hk:20000000<=k) {a b:Int} {xs:List Step} (hs:∀x∈xs,cy x):∃out:List Int,out.length<=200/\vU k a b xs=some out/\vV k a b xs=some out/\∃E,fU k a b xs=some E/\out.length<=E.length:=by
 have hM:=al;obtain⟨E,hl,h1,h2⟩:=yO hk hs (a:=a) (b:=b);refine⟨waits E,W8 (Hw E) hl,?_,?_,E,h2,Hw E⟩
 ·unfold vU;rw[h1,aa]
  exact fk E (λy=>y.done) (λy=>i64.wrap (y.end_-y.at_)) (g:=λu6 n6=>lE k E u6 n6 (λy5=>some y5)) (fin:=some) (λi ys hi next hy=>by
   have hd:decide (0<=(i:Int)/\(i:Int)<(E.length:Int))=true:=decide_eq_true (by omega);simp only[lE,hd,cond_true,VQ,aj hi,aa]
   rw[decide_eq_true (by omega),cond_true,bJ (by simp;omega),aq hi (by omega)]) (λys next=>by
   simp only[lE];rw[ab,if_neg (by omega)]) (by omega)
 ·unfold vV;rw[h2,aa]
  exact fk E (λy=>y.done) (λy=>i64.wrap (y.end_-y.at_)) (g:=λu4 n4=>lF k ((E.length:Int),E) u4 n4 (λy3=>some y3)) (fin:=some) (λi ys hi next hy=>by
   have hd:decide (0<=(i:Int)/\(i:Int)<(E.length:Int))=true:=decide_eq_true (by omega);simp only[lF,hd,cond_true,VQ,aj hi,aa]
   rw[decide_eq_true (by omega),cond_true,bJ (by simp;omega),aq hi (by omega)]) (λys next=>by
   simp only[lF];rw[ab,if_neg (by omega)]) (by omega)
end
set_option maxRecDepth 100000
set_option maxHeartbeats 4000000
section
def seg (lo hi a b:Int):Int:=if(if hi<b then hi else b)>(if lo>a then lo else a)then(if hi<b then hi else b)-(if lo>a then lo else a)else 0
theorem KH {lo hi a b:Int} (h:a<b):seg lo hi a b=(if a+1>lo/\a+1<=hi then 1 else 0)+seg lo hi (a+1) b:=by
 unfold seg
 (repeat' split)<;>omega
theorem zM (lo hi a:Int):seg lo hi a a=0:=by
 unfold seg
 (repeat' split)<;>omega
theorem Ri (lo hi:Int) {a b:Int} (h:a<=b):0<=seg lo hi a b/\seg lo hi a b<=b-a:=by
 unfold seg
 (repeat' split)<;>omega
theorem KI {R:Type} {k:Nat} {steps:List Step} {x:Step} {lo hi i:Int} (hx:idx steps i=some x) {fin:Int× Int->Option R}:∀(n:Nat) (c now j:Int) (kf:Nat),n<kf->j+n=takes x->0<=j->0<=c->c+n<=1000000->0<=now->now+n<=1000000->
  iter (λu5 n5=>c9 k (steps,lo,hi,i) u5 n5 fin) kf (c,now,j)=fin (c+cond (x.kind==5) (seg lo hi now (now+n)) 0,now+n)
 |_,_,_,_,0,h,_,_,_,_,_,_=>by omega
 |0,c,now,j,kf+1,_,hj,_,_,_,_,_=>by
  rw[aI];show c9 k _ _ _ fin=_;unfold c9;simp only;rw[hx,aa,vZ,aa,decide_eq_false (by omega),cond_false]
  have e:now+((0:Nat):Int)=now:=by omega
  rw[e,zM]
  cases(x.kind==5)<;>simp
 |n+1,c,now,j,kf+1,hk,hj,h0,c0,c1,n0,n1=>by
  have hb:=vY x;rw[aI]
  have e:now+((n+1:Nat):Int)=now+1+(n:Int):=by omega
  have st:∀next,c9 k (steps,lo,hi,i) (c,now,j) next fin=next (c+cond (x.kind==5) (if now+1>lo/\now+1<=hi then 1 else 0) 0,now+1,j+1):=λnext=>by
   unfold c9;simp only;rw[hx,aa,vZ,aa,decide_eq_true (by omega),cond_true,aa,aE (n:=now+1) (by omega) (by omega),aE (n:=j+1) (by omega) (by omega),aE (n:=c+1) (by omega) (by omega)];cases(x.kind==5)
   ·simp
   ·by_cases d1:now+1>lo
    ·by_cases d2:now+1<=hi
     ·simp[d1,d2]
     ·simp[d1,d2]
    ·simp[d1]
  refine(st _).trans ?_
  have hc:0<=cond (x.kind==5) (if now+1>lo/\now+1<=hi then(1:Int)else 0) 0/\cond (x.kind==5) (if now+1>lo/\now+1<=hi then(1:Int)else 0) 0<=1:=by
   cases(x.kind==5)
   ·simp only[cond_false];omega
   ·simp only[cond_true];split<;>omega
  refine(KI hx n _ (now+1) (j+1) kf (by omega) (by omega) (by omega) (by omega) (by omega) (by omega) (by omega)).trans ?_;rw[e,KH (show now<now+1+(n:Int) by omega)];cases(x.kind==5)
  ·simp
  ·simp only[cond_true];rw[X2]
def dC (lo hi:Int):Int->List Step->Int
 |_,[]=>0
 |now,x::l=>cond (x.kind==5) (seg lo hi now (now+takes x)) 0+dC lo hi (now+takes x) l
theorem yP {R:Type} {k:Nat} (hk:1000<k) {steps:List Step} (hl:steps.length<=1000) {lo hi:Int} {fin:Int->Option R}:∀(qs pre:List Step) (c now:Int) (kf:Nat),steps=pre++qs->qs.length<kf->0<=c->c<=200*pre.length->0<=now->now<=200*pre.length->
  iter (λu7 n7=>da k (steps,lo,hi) u7 n7 fin) kf (c,now,(pre.length:Int))=fin (c+dC lo hi now qs)
 |_,_,_,_,0,_,h,_,_,_,_=>by omega
 |[],pre,c,now,kf+1,hp,_,_,_,_,_=>by
  have hlen:steps.length=pre.length:=by rw[hp];simp
  rw[aI];show da k _ _ _ fin=_;unfold da;simp only;rw[decide_eq_false (by omega),cond_false];unfold dC
  rw[XI]
 |x::qs,pre,c,now,kf+1,hp,hkf,c0,c1,n0,n1=>by
  have hlen:steps.length=pre.length+(qs.length+1):=by rw[hp];simp
  simp only[VS]at hkf;have hb:=vY x
  have hat:idx steps (pre.length:Int)=some x:=by rw[aL,hp];simp
  have hs:=Ri lo hi (show now<=now+takes x by omega)
  have hcc:0<=cond (x.kind==5) (seg lo hi now (now+takes x)) 0/\cond (x.kind==5) (seg lo hi now (now+takes x)) 0<=takes x:=by
   cases(x.kind==5)
   ·simp only[cond_false];omega
   ·simp only[cond_true];omega
  rw[aI]
  have st:∀next,da k (steps,lo,hi) (c,now,(pre.length:Int)) next fin=next (c+cond (x.kind==5) (seg lo hi now (now+takes x)) 0,now+takes x,((pre++[x]).length:Int)):=λnext=>by
   unfold da;simp only;rw[decide_eq_true (by omega),cond_true];refine(KI hat (takes x).toNat c now 0 k (by omega) (by omega) (by omega) c0 (by omega) n0 (by omega)).trans ?_;rw[show(((takes x).toNat:Nat):Int)=takes x from by omega,aE (by omega) (by omega),VR];rfl
  refine(st _).trans ((yP hk hl qs (pre++[x]) _ (now+takes x) kf (by rw[hp];simp) (by omega) (by omega) (by rw[VR];simp only[VS,V5];omega) (by omega) (by rw[VR];simp only[VS,V5];omega)).trans ?_);rw[dC,X2]
theorem yQ {R:Type} {k:Nat} {steps:List Step} (hl:steps.length<=1000) {lo hi:Int} {fin:Int->Option R}:∀(qs pre:List Step) (c now:Int) (kf:Nat),steps=pre++qs->qs.length<kf->0<=c->c<=200*pre.length->0<=now->now<=200*pre.length->
  iter (λu4 n4=>db k (lo,hi,steps,(steps.length:Int)) u4 n4 fin) kf (c,now,(pre.length:Int))=fin (c+dC lo hi now qs)
 |_,_,_,_,0,_,h,_,_,_,_=>by omega
 |[],pre,c,now,kf+1,hp,_,_,_,_,_=>by
  have hlen:steps.length=pre.length:=by rw[hp];simp
  rw[aI];show db k _ _ _ fin=_;unfold db;simp only;rw[decide_eq_false (by omega),cond_false];unfold dC
  rw[XI]
 |x::qs,pre,c,now,kf+1,hp,hkf,c0,c1,n0,n1=>by
  have hlen:steps.length=pre.length+(qs.length+1):=by rw[hp];simp
  simp only[VS]at hkf;have hb:=vY x
  have hat:idx steps (pre.length:Int)=some x:=by rw[aL,hp];simp
  have hs:=Ri lo hi (show now<=now+takes x by omega)
  have hcc:0<=cond (x.kind==5) (seg lo hi now (now+takes x)) 0/\cond (x.kind==5) (seg lo hi now (now+takes x)) 0<=takes x:=by
   cases(x.kind==5)
   ·simp only[cond_false];omega
   ·simp only[cond_true];omega
  rw[aI]
  have st:∀next,db k (lo,hi,steps,(steps.length:Int)) (c,now,(pre.length:Int)) next fin=next (c+cond (x.kind==5) (seg lo hi now (now+takes x)) 0,now+takes x,((pre++[x]).length:Int)):=λnext=>by
   unfold db;simp only;rw[decide_eq_true (by omega),cond_true,hat,aa,zb,aa,aE (n:=(pre.length:Int)+1) (by omega) (by omega),VR];cases ht:(inB x.kind 4 5&&inB x.a 0 200)
   ·have hz:takes x=0:=by unfold takes;rw[ht];rfl
    rw[hz,XI,zM];cases(x.kind==5)<;>simp
   ·have hz:takes x=x.a:=by unfold takes;rw[ht];rfl
    rw[hz]at hb hs hcc⊢;rw[aE (n:=now+x.a) (by omega) (by omega)];simp only[VT,cond_false];cases(x.kind==5)
    ·simp only[cond_false,XI];rfl
    ·simp only[cond_true];unfold seg at hs⊢;by_cases d:(if hi<now+x.a then hi else now+x.a)>(if lo>now then lo else now)
     ·rw[if_pos d]at hs⊢;rw[decide_eq_true d,cond_true,aE (n:=(if hi<now+x.a then hi else now+x.a)-(if lo>now then lo else now)) (by omega) (by omega),aE (by omega) (by omega)];rfl
     ·rw[if_neg d,decide_eq_false d,cond_false,XI];rfl
  refine(st _).trans ((yQ hl qs (pre++[x]) _ (now+takes x) kf (by rw[hp];simp) (by omega) (by omega) (by rw[VR];simp only[VS,V5];omega) (by omega) (by rw[VR];simp only[VS,V5];omega)).trans ?_);rw[dC,X2]
theorem yR {k:Nat} {steps:List Step} (hk:steps.length+1000<k) (hl:steps.length<=1000) (lo hi:Int):gi k steps lo hi=some (dC lo hi 0 steps)/\gj k steps lo hi=some (dC lo hi 0 steps):=by
 unfold gi gj;have h1:=yP (k:=k) (by omega) hl (lo:=lo) (hi:=hi) (fin:=some) steps [] 0 0 k rfl (by omega) (by omega) (by simp) (by omega) (by simp);have h2:=yQ (k:=k) hl (lo:=lo) (hi:=hi) (fin:=some) steps [] 0 0 k rfl (by omega) (by omega) (by simp) (by omega) (by simp);rw[Int.zero_add]at h1 h2;exact⟨h1,h2⟩
end
set_option maxRecDepth 100000
set_option maxHeartbeats 4000000
section
def jv (ai:Int) (steps:List Step) (now:Int) (y:Entry):Bool:=(y.done||decide (y.end_<0))&&(decide (y.due<=now)&&decide (dC y.at_ y.due 0 steps<=ai))
theorem zk {k:Nat} {steps:List Step} (hk:steps.length+1000<k) (hl:steps.length<=1000) (y:Entry) (ai now:Int):mv k y ai steps now=some (jv ai steps now y):=by
 unfold mv jv;rw[(yR hk hl y.at_ y.due).1];simp only[aa];cases y.done<;>cases decide (y.end_<0)<;>cases decide (y.due<=now)<;>rfl
theorem qI {k:Nat} {a b:Int} {xs:List Step} (hk:20000000<=k) (hs:∀x∈xs,cy x) {r:Runtime} {E:List Entry} {evs:List Event} (hst:xO r E evs xs.length) (hl:xs.length<=200) (h:nq k a b xs=some (r,evs,E,true)):
  kE k a b xs=some (E.filter (jv a xs r.sched.now),true):=by
 have hM:=al;have hE:=hst.SE;unfold kE;rw[h,aa]
 have e:E.filter (jv a xs r.sched.now)=(E.filter (jv a xs r.sched.now)).map id:=by rw[List.map_id]
 rw[e];refine fk E (jv a xs r.sched.now) id (g:=λu6 n6=>ek k _ u6 n6 (λy5=>some (y5,true))) (fin:=λy=>some (y,true)) (λi ys hi next hy=>?_) (λys next=>?_) (by omega)
 ·have hd:decide (0<=(i:Int)/\(i:Int)<(E.length:Int))=true:=decide_eq_true (by omega);simp only[ek,hd,cond_true,VQ,aj hi,aa];rw[decide_eq_true (by omega),cond_true,(yR (k:=k) (by omega) (by omega) E[i].at_ E[i].due).2,aa,bJ (by omega),aq hi (by omega)];unfold jv;by_cases c1:E[i].end_<0
  ·rw[decide_eq_false (show¬E[i].end_>=0 by omega),decide_eq_true c1];cases E[i].done<;>cases decide (E[i].due<=r.sched.now)<;>cases decide (dC E[i].at_ E[i].due 0 xs<=a)<;>rfl
  ·rw[decide_eq_true (show E[i].end_>=0 by omega),decide_eq_false c1];cases E[i].done<;>cases decide (E[i].due<=r.sched.now)<;>cases decide (dC E[i].at_ E[i].due 0 xs<=a)<;>rfl
 ·simp only[ek];rw[ab,if_neg (by omega)]
theorem BW {k:Nat} (hk:20000000<=k) {a b:Int} {xs:List Step} (hs:∀x∈xs,cy x):∃out:List Int,out.length<=200/\ot k a b xs=some out/\jm k a b xs=some out:=by
 have hM:=al;unfold ot jm
 rcases DN hk hs (a:=a) (b:=b)with⟨h1,h2,_⟩|⟨r,E,evs,hst,hl,h1,h2⟩
 ·refine⟨[],by simp,by rw[h1];rfl,?_⟩;unfold kE;rw[h2,aa];obtain⟨k,rfl⟩:∃m,k=m+1:=⟨k-1,by omega⟩;rw[aI];show(ek (k+1) _ _ _ _).bind _=_;simp only[ek,Rh];rw[decide_eq_false (by simp),cond_false,aa,aI];show cX (k+1) _ _ _ _=_;simp only[cX];rw[decide_eq_false (by simp),cond_false]
 ·have hE:=hst.SE;have hf:=WJ (jv a xs r.sched.now) E;refine⟨(E.filter (jv a xs r.sched.now)).map (·.id),by rw[Xz];omega,?_,?_⟩
  ·rw[h1,aa];simp only[VT,cond_false];refine fk E (jv a xs r.sched.now) (·.id) (g:=λu6 n6=>gL k _ u6 n6 (λy5=>some y5)) (fin:=some) (λi ys hi next hy=>?_) (λys next=>?_) (by omega)
   ·have hd:decide (0<=(i:Int)/\(i:Int)<(E.length:Int))=true:=decide_eq_true (by omega);simp only[gL,hd,cond_true,VQ,aj hi,aa,zk (k:=k) (steps:=xs) (by omega) (by omega)];rw[decide_eq_true (by omega),cond_true,bJ (by simp;omega),aq hi (by omega)]
   ·simp only[gL];rw[ab,if_neg (by omega)]
  ·rw[qI hk hs hst hl h2,aa];refine(qb (E.filter (jv a xs r.sched.now)) (·.id) (g:=λu4 n4=>cX k (((E.filter (jv a xs r.sched.now)).length:Int),E.filter (jv a xs r.sched.now)) u4 n4 (λy3=>some y3)) (fin:=some) (λi ys hi next hy=>?_) (λys next=>?_) (by omega))
   ·have hd:decide (0<=(i:Int)/\(i:Int)<((E.filter (jv a xs r.sched.now)).length:Int))=true:=decide_eq_true (by omega);simp only[cX,hd,cond_true,VQ,aj hi,aa];rw[decide_eq_true (by omega),cond_true,bJ (by simp;omega),aq hi (by omega)]
   ·simp only[cX];rw[ab,if_neg (by omega)]
end
set_option maxRecDepth 100000
section
theorem OW (key:Task->Int):∀(xs:List Task) (x:Task),key (xs.foldl (λm t=>cond (decide (key t<key m)) t m) x)<=key x/\∀u∈xs,key (xs.foldl (λm t=>cond (decide (key t<key m)) t m) x)<=key u
 |[],x=>⟨XB _,λu hu=>nomatch hu⟩
 |y::xs,x=>by
  rw[Wr];have:=OW key xs (cond (decide (key y<key x)) y x);by_cases h:key y<key x
  ·rw[decide_eq_true h,cond_true]at this⊢;refine⟨by omega,λu hu=>?_⟩
   rcases V0.1 hu with rfl|hu
   ·exact this.1
   ·exact this.2 u hu
  ·rw[decide_eq_false h,cond_false]at this⊢;refine⟨this.1,λu hu=>?_⟩
   rcases V0.1 hu with rfl|hu
   ·omega
   ·exact this.2 u hu
theorem QE {key:Task->Int} {xs:List Task} {t:Task} (h:zf key xs=some t):∀u∈xs,key t<=key u:=by
 cases xs with
 |nil=>exact nomatch h
 |cons x xs=>
  simp only[zf,It]at h;have:=OW key xs x;rw[h]at this;intro u hu
  rcases V0.1 hu with rfl|hu
  ·exact this.1
  ·exact this.2 u hu
theorem Md {s:ak} (h:SOk s) (hl:∀t∈s.tasks,s.now<t.due) {t:Task} (ht:t∈s.tasks) (hp:ju s=t.id):∀u∈s.tasks,t.due<=u.due:=by
 have nl:∀u∈s.tasks,eK s u=false:=λu hu=>decide_eq_false (by have:=hl u hu;omega)
 have e1:s.tasks.filter (eK s)=[]:=List.filter_eq_nil_iff.2 λu hu=>by rw[nl u hu];simp
 have e2:s.tasks.filter (λt=>!eK s t)=s.tasks:=W4.2 λu hu=>by rw[nl u hu];rfl
 have f1:zj s=none:=by unfold zj;rw[e1];rfl
 have f2:oB s=zf Task.due s.tasks:=by unfold oB;rw[e2]
 cases hm:zf Task.due s.tasks with
 |none=>rw[xI hm]at ht;exact nomatch ht
 |some m=>
  have:ju s=m.id:=by unfold ju;rw[f1,f2,hm];rfl
  have hmt:=Rd h (nt hm) ht (this.symm.trans hp);subst hmt;exact QE hm
theorem tw {s:ak} (h:SOk s) (hr:s.run=0) (d:Int):block s d=0:=by
 unfold block
 have:(s.tasks.findIdx? λt=>t.id==s.run)=none:=by
  rw[Xb];intro u hu;have:=(bI (h.task u hu).1).1;rw[hr];simp;omega
 rw[this];rfl
theorem wB {s:ak} (h:SOk s) {t:Task} (ht:t∈s.tasks) (hr:s.run=t.id) (d:Int):block s d=if t.due>d then s.left else 0:=by
 unfold block;obtain⟨i,hi,rfl⟩:=V8.1 ht;rw[hr,BC (wq h) hi,VX,aj hi,VX,ab]
theorem OX {s:ak} {t:Task} {L tr:Int} (h:SOk s) (hn:s.now≠1000000) (hl:∀t∈s.tasks,s.now<t.due) (T:UR s t L tr) (hr:s.run=t.id\/(s.run=0/\ju s=t.id)) (hL:s.run=t.id->L=s.left):
  ∀v∈s.tasks,ig (cK s false).1 v.due+block (cK s false).1 v.due+1<=ig s v.due+block s v.due:=by
 intro v hv;have W:=worked h hn T;have hd:=W.sum (λx=>decide (x<=v.due));have hd:ig (cK s false).1 v.due=ig s v.due-cond (decide (t.due<=v.due)) 1 0:=hd;have ht0:=(bI (h.task t T.mem).1).1;have hlo:=T.lo
 have hb':block (cK s false).1 v.due<=if t.due>v.due then L-1 else 0:=by
  rcases W.told with⟨_,_,g3,g4⟩|⟨_,g2,g3⟩
  ·rw[wB W.ok (by rw[g4];exact T.mem) g3];obtain⟨pre,post,e,h1,h2,_⟩:=Fu h.ids T.mem;have hg:=xH (L:=L) (tr:=tr) e (λu hu=>by have:=h1 u hu;omega) (λu hu=>by have:=h2 u hu;omega);rw[T.eq,hg]at g3⊢;by_cases c1:L-1>0
   ·simp only[if_pos c1];exact XB _
   ·rw[if_neg c1]at g3;by_cases c2:t.at_+1<t.ay.length
    ·rw[if_pos c2]at g3;simp only at g3;omega
    ·rw[if_neg c2]at g3;simp only at g3;omega
  ·rw[tw W.ok g2];split<;>omega
 rcases hr with hr|⟨hr,hp⟩
 ·have hb:=wB h T.mem hr v.due;have:=hL hr;rw[ab]at hd;by_cases c:t.due<=v.due
  ·rw[if_pos c]at hd;rw[if_neg (by omega)]at hb hb';omega
  ·rw[if_neg c]at hd;rw[if_pos (by omega)]at hb hb';omega
 ·have hb:=tw h hr v.due;have c:=Md h hl T.mem hp v hv;rw[ab,if_pos c]at hd;rw[if_neg (by omega)]at hb';omega
theorem Me {s:ak} (h:SOk s) {t:Task} (ht:t∈s.tasks):1<=ig s t.due:=by
 have hb:=qF h;obtain⟨i,hi,rfl⟩:=V8.1 ht;have hp:=L6 hb (VV hi)
 have e:s.tasks=s.tasks.take i++s.tasks[i]::s.tasks.drop (i+1):=by rw[<-iw hi,W6]
 have h1:=uL (f:=λu:Task=>cond (decide (u.due<=s.tasks[i].due)) (cS s u) 0) (B:=6000) (s.tasks.take i) (λu hu=>mN hb _ u (XH hu));have h2:=uL (f:=λu:Task=>cond (decide (u.due<=s.tasks[i].due)) (cS s u) 0) (B:=6000) (s.tasks.drop (i+1)) (λu hu=>mN hb _ u (XV hu))
 have UX:ig s s.tasks[i].due=((s.tasks.take i).map λu:Task=>cond (decide (u.due<=s.tasks[i].due)) (cS s u) 0).sum+(cS s s.tasks[i]+((s.tasks.drop (i+1)).map λu:Task=>cond (decide (u.due<=s.tasks[i].due)) (cS s u) 0).sum):=by
  have:ig s s.tasks[i].due=((s.tasks.take i++s.tasks[i]::s.tasks.drop (i+1)).map λu:Task=>cond (decide (u.due<=s.tasks[i].due)) (cS s u) 0).sum:=by rw[<-e];rfl
  rw[this,WL,Xn,Wm,W3,decide_eq_true (XB _),cond_true]
 omega
def sk (s:ak) (st:Int):Prop:=∀t∈s.tasks,ig s t.due+block s t.due+st<=t.due-s.now
theorem tx {s:ak} (h:SOk s) {st:Int} (hs:0<=st) (hr:sk s st):∀t∈s.tasks,s.now<t.due:=λt ht=>by
 have h1:=Me h ht;have h2:=Fl (qF h) t.due;have:=hr t ht;omega
end
set_option maxRecDepth 100000
set_option maxHeartbeats 4000000
section
def BX (y:Entry):Prop:=y.done=false/\y.end_<0
structure Kept (s:ak) (E:List Entry) (f:Int->Int->Int):Prop where
 ok:SOk s
 ge:∀a b,0<=f a b
 nv:ka E
 task:∀t∈s.tasks,∃y∈E,y.id=t.id/\y.due=t.due/\BX y/\y.at_<=s.now
 live:∀y∈E,BX y->∃t∈s.tasks,t.id=y.id
 kept:∀y∈E,y.done=true->y.end_<=y.due\/s.ai<f y.at_ y.due
 room:(∃c,0<=c/\c<=s.ai/\sk s (s.ai-c)/\∀y∈E,BX y->c<=f y.at_ y.due)\/∀y∈E,BX y->s.ai<f y.at_ y.due
theorem xP {E:List Entry} (h:ka E) {y z:Entry} (hy:y∈E) (hz:z∈E) (e:y.id=z.id):y=z:=by
 obtain⟨i,hi,rfl⟩:=V8.1 hy;obtain⟨j,hj,rfl⟩:=V8.1 hz;have h1:=h i hi;have h2:=h j hj
 have:i=j:=by omega
 subst this;rfl
theorem Hy {E:List Entry} (h:ka E) {y:Entry} (hy:y∈E):1<=y.id/\(y.id-1).toNat<E.length/\E.getD (y.id-1).toNat noEntry=y:=by
 obtain⟨i,hi,rfl⟩:=V8.1 hy;have h1:=h i hi
 have:(E[i].id-1).toNat=i:=by omega
 refine⟨by omega,by omega,?_⟩;rw[this,bT hi]
theorem Hz {E:List Entry} (hP:ka E) {y0:Entry} (hy:y0∈E) {n:Int} {v:Event} (hv:v.kind=3\/v.kind=4) (ha:v.a=y0.id):∀y,y∈du n E v↔(y∈E/\y.id≠y0.id)\/y=FG n v y0:=by
 obtain⟨p1,p2,p3⟩:=Hy hP hy;intro y;unfold du;rw[show(v.kind==3||v.kind==4)=true from by rcases hv with e|e<;>rw[e]<;>rfl,cond_true,ha,p3];constructor
 ·intro h;obtain⟨i,hi,rfl⟩:=V8.1 h;rw[XX]
  have hi':i<E.length:=by simpa using hi
  have h1:=hP i hi';by_cases c:(y0.id-1).toNat=i
  ·rw[if_pos c];exact .inr rfl
  ·rw[if_neg c];exact .inl ⟨VV hi',by omega⟩
 ·rintro (⟨h,hne⟩|rfl)
  ·obtain⟨i,hi,rfl⟩:=V8.1 h;have h1:=hP i hi;refine V8.2 ⟨i,by simpa using hi,?_⟩;rw[XX,if_neg (by omega)]
  ·exact V8.2 ⟨(y0.id-1).toNat,by simpa using p2,by rw[XX,if_pos rfl]⟩
theorem QF {n:Int} {v:Event} {y:Entry} (hn:0<=n) (hv:v.kind=3\/v.kind=4):¬BX (FG n v y):=by
 rintro ⟨h1,h2⟩
 unfold FG at h1 h2
 rcases hv with e|e
 ·simp[e]at h1
 ·simp[e]at h2;omega
theorem OY {s:ak} {st:Int} (h:SOk s) (hn:s.now≠1000000) (h0:0<=st) (hr:sk s st):sk (cK s false).1 st/\(cK s false).1.now=s.now+1/\(cK s false).1.ai=s.ai:=by
 have hl:=tx h h0 hr
 rcases wu h hn with⟨t1,t2,t3,t4⟩|⟨t,L,tr,T,hrn⟩
 ·rw[t4];refine⟨λu hu=>?_,rfl,rfl⟩;have hu:u∈s.tasks:=hu;rw[t1]at hu;exact absurd hu (by simp)
 ·have W:=worked h hn T
  have hL:s.run=t.id->L=s.left:=λe=>by
   have r1:=T.rem t T.mem;unfold cS at r1;rw[e]at r1;simp only[beq_self_eq_true,cond_true]at r1;omega
  have hs:=OX h hn hl T hrn hL;refine⟨λu hu=>?_,W.now,W.ai⟩;obtain⟨v,hv,_,e⟩:=W.from_ u hu;have h1:=hs v hv;have h2:=hr v hv;rw[W.now,<-e];omega
theorem DP {s:ak} (h:SOk s) (st:Bool) (hn:s.now≠1000000):(cK s st).1.ai=s.ai/\(cK s st).1.now=s.now+1:=by
 cases st
 ·rcases wu h hn with⟨t1,t2,t3,t4⟩|⟨t,L,tr,T,hrn⟩
  ·rw[t4];exact⟨rfl,rfl⟩
  ·have W:=worked h hn T;exact⟨W.ai,W.now⟩
 ·rw[oC h hn];exact⟨rfl,rfl⟩
def more (st:Bool) (n:Int) (f:Int->Int->Int):Int->Int->Int:=λa b=>f a b+cond st (if n+1>a/\n+1<=b then 1 else 0) 0
theorem BZ (st:Bool) (n:Int) (f:Int->Int->Int) (a b:Int):f a b<=more st n f a b:=by
 unfold more;cases st
 ·simp
 ·simp only[cond_true];split<;>omega
theorem OZ {s:ak} {E:List Entry} {f:Int->Int->Int} (h:Kept s E f) (st:Bool) (hn:s.now≠1000000) {n0:Int} {d:List Event}
  (hd:d=[]/\(cK s st).2.2=false\/∃t,d=[⟨3,(cK s st).2.1,(cK s st).1.now,t⟩]/\(cK s st).2.2=true):Kept (cK s st).1 (d.foldl (du n0) E) (more st s.now f):=by
 have hT:=Rf h.ok st;have hok:=OI h.ok st;obtain⟨hsl,Fv⟩:=DP h.ok st hn;have hge:∀a b,0<=more st s.now f a b:=λa b=>Int.le_trans (h.ge a b) (BZ _ _ _ _ _);have hsb:=h.ok.ai
 have room:∀E':List Entry,(∀y∈E',BX y->y∈E)->(∃c,0<=c/\c<=(cK s st).1.ai/\sk (cK s st).1 ((cK s st).1.ai-c)/\∀y∈E',BX y->c<=more st s.now f y.at_ y.due)\/∀y∈E',BX y->(cK s st).1.ai<more st s.now f y.at_ y.due:=λE' hE=>by
  rcases h.room with⟨c,c0,c1,hr,hc⟩|hb
  ·cases st
   ·obtain⟨r1,r2,r3⟩:=OY h.ok hn (show 0<=s.ai-c by omega) hr;refine .inl ⟨c,c0,by omega,by rw[r3];exact r1,λy hy hl=>Int.le_trans (hc y (hE y hy hl) hl) (BZ _ _ _ _ _)⟩
   ·have up:∀y∈E',BX y->more true s.now f y.at_ y.due=f y.at_ y.due+1:=λy hy hl=>by
     obtain⟨t,ht,e⟩:=h.live y (hE y hy hl) hl;obtain⟨z,hz,e1,e2,e3,e4⟩:=h.task t ht;obtain rfl:=xP h.nv hz (hE y hy hl) (e1.trans e);have:=tx h.ok (show 0<=s.ai-c by omega) hr t ht;unfold more;rw[cond_true,if_pos (by omega)]
    by_cases c2:c<s.ai
    ·refine .inl ⟨c+1,by omega,by omega,?_,λy hy hl=>by rw[up y hy hl];have:=hc y (hE y hy hl) hl;omega⟩;rw[oC h.ok hn];intro t ht;have:=hr t ht;have e1:ig ⟨s.now+1,s.ai,s.age,s.tasks,s.run,s.left,s.turns,s.next⟩ t.due=ig s t.due:=rfl;have e2:block ⟨s.now+1,s.ai,s.age,s.tasks,s.run,s.left,s.turns,s.next⟩ t.due=block s t.due:=rfl;show ig ⟨s.now+1,s.ai,s.age,s.tasks,s.run,s.left,s.turns,s.next⟩ t.due+block ⟨s.now+1,s.ai,s.age,s.tasks,s.run,s.left,s.turns,s.next⟩ t.due+_<=_;rw[e1,e2];simp only;omega
    ·exact .inr λy hy hl=>by rw[up y hy hl];have:=hc y (hE y hy hl) hl;omega
  ·exact .inr λy hy hl=>by have:=hb y (hE y hy hl) hl;have:=BZ st s.now f y.at_ y.due;omega
 have kept0:∀y∈E,y.done=true->y.end_<=y.due\/(cK s st).1.ai<more st s.now f y.at_ y.due:=λy hy hd=>by
  rcases h.kept y hy hd with g|g
  ·exact .inl g
  ·exact .inr (by have:=BZ st s.now f y.at_ y.due;omega)
 rcases hd with⟨rfl,hg⟩|⟨out,rfl,hg⟩
 ·
  have hti:(∀u∈(cK s st).1.tasks,∃v∈s.tasks,v.id=u.id/\v.due=u.due)/\∀v∈s.tasks,∃u∈(cK s st).1.tasks,u.id=v.id:=by
   generalize cK s st=T at hT hg
   cases hT with
   |rest hu=>rename_i u;exact⟨λw hw=>⟨w,by rw[<-hu];exact hw,rfl,rfl⟩,λw hw=>⟨w,by show w∈u.tasks;rw[hu];exact hw,rfl⟩⟩
   |next e1 n1 p1 c1 hu=>
    rename_i u pre post t;refine⟨λw hw=>?_,λw hw=>?_⟩
    ·have hw:w∈u.tasks:=hw;rw[hu]at hw;rw[e1]
     rcases Wh.1 hw with hw|hw
     ·exact⟨w,WU _ hw,rfl,rfl⟩
     ·rcases V0.1 hw with rfl|hw
      ·exact⟨t,WA _ V6,rfl,rfl⟩
      ·exact⟨w,WA _ (VY _ hw),rfl,rfl⟩
    ·rw[e1]at hw;show∃x∈u.tasks,x.id=w.id;rw[hu]
     rcases Wh.1 hw with hw|hw
     ·exact⟨w,WU _ hw,rfl⟩
     ·rcases V0.1 hw with rfl|hw
      ·exact⟨qW w,WA _ V6,rfl⟩
      ·exact⟨w,WA _ (VY _ hw),rfl⟩
   |done=>exact nomatch hg
  refine⟨hok,hge,h.nv,λt ht=>?_,λy hy hl=>?_,kept0,room E λy hy _=>hy⟩
  ·obtain⟨v,hv,e1,e2⟩:=hti.1 t ht;obtain⟨y,hy,g1,g2,g3,g4⟩:=h.task v hv;exact⟨y,hy,g1.trans e1,g2.trans e2,g3,by omega⟩
  ·obtain⟨t,ht,e⟩:=h.live y hy hl;obtain⟨u,hu,e2⟩:=hti.2 t ht;exact⟨u,hu,e2.trans e⟩
 ·
  have hti:∃pre post t,s.tasks=pre++t::post/\(∀v∈pre,v.id≠t.id)/\(∀v∈post,v.id≠t.id)/\(cK s st).1.tasks=pre++post/\(cK s st).2.1=t.id:=by
   generalize cK s st=T at hT hg
   cases hT with
   |rest hu=>exact nomatch hg
   |next e1 n1 p1 c1 hu=>exact nomatch hg
   |done e1 n1 n2 p1 c1 hu hr=>rename_i u pre post t;exact⟨pre,post,t,e1,n1,n2,hu,rfl⟩
  obtain⟨pre,post,t,e1,n1,n2,hu,hid⟩:=hti
  have ht:t∈s.tasks:=by rw[e1];exact WA _ V6
  obtain⟨y0,hy0,g1,g2,g3,g4⟩:=h.task t ht;have hn0:=h.ok.now;rw[hid];have FE:=Hz h.nv hy0 (n:=n0) (v:=⟨3,t.id,(cK s st).1.now,out⟩) (.inl rfl) g1.symm;have TS:(FG n0 ⟨3,t.id,(cK s st).1.now,out⟩ y0).done=true:=rfl;simp only[Wr,List.foldl_nil];refine⟨hok,hge,mD h.nv,λu hu'=>?_,λy hy hl=>?_,λy hy hd=>?_,room _ λy hy hl=>?_⟩
  ·rw[hu]at hu'
   have hu2:u∈s.tasks/\u.id≠t.id:=by
    rw[e1]
    rcases Wh.1 hu' with hw|hw
    ·exact⟨WU _ hw,n1 u hw⟩
    ·exact⟨WA _ (VY _ hw),n2 u hw⟩
   obtain⟨y,hy,k1,k2,k3,k4⟩:=h.task u hu2.1;exact⟨y,(FE y).2 (.inl ⟨hy,by rw[k1,g1];exact hu2.2⟩),k1,k2,k3,by omega⟩
  ·rcases(FE y).1 hy with⟨hy,hne⟩|rfl
   ·obtain⟨v,hv,e⟩:=h.live y hy hl;refine⟨v,?_,e⟩;rw[hu];rw[e1]at hv
    rcases Wh.1 hv with hw|hw
    ·exact WU _ hw
    ·rcases V0.1 hw with rfl|hw
     ·exact absurd (e.symm.trans g1.symm) hne
     ·exact WA _ hw
   ·exact absurd hl.1 (by rw[TS];decide)
  ·rcases(FE y).1 hy with⟨hy,hne⟩|rfl
   ·exact kept0 y hy hd
   ·have ed:(FG n0 ⟨3,t.id,(cK s st).1.now,out⟩ y0).due=y0.due:=rfl;have ea:(FG n0 ⟨3,t.id,(cK s st).1.now,out⟩ y0).at_=y0.at_:=rfl;have ee:(FG n0 ⟨3,t.id,(cK s st).1.now,out⟩ y0).end_=(cK s st).1.now:=rfl;rw[ed,ea,ee]
    rcases h.room with⟨c,c0,c1,hr,hc⟩|hb
    ·have:=tx h.ok (show 0<=s.ai-c by omega) hr t ht;exact .inl (by omega)
    ·exact .inr (by have:=hb y0 hy0 g3;have:=BZ st s.now f y0.at_ y0.due;omega)
  ·rcases(FE y).1 hy with⟨hy,hne⟩|rfl
   ·exact hy
   ·exact absurd hl.1 (by rw[TS];decide)
end
set_option maxRecDepth 100000
set_option maxHeartbeats 4000000
section
def QG (y:Entry):Bool:=y.done&&decide (y.end_<=y.due)
end
set_option maxRecDepth 100000
set_option maxHeartbeats 4000000
section
theorem wC {α:Type} {f g:α->Int} {p:α->Bool}:∀{xs:List α},(∀x∈xs,0<=f x)->(∀x∈xs,p x=true->g x=f x)->((xs.filter p).map g).sum<=(xs.map f).sum
 |[],_,_=>by simp
 |x::xs,h,hg=>by
  have ih:=wC (xs:=xs) (p:=p) (λy hy=>h y (VY _ hy)) λy hy=>hg y (VY _ hy);have h0:=h x V6;rw[Wm,W3];cases hp:p x
  ·rw[List.filter_cons_of_neg (by rw[hp];decide)];omega
  ·rw[List.filter_cons_of_pos hp,Wm,W3,hg x V6 hp];omega
theorem FA {ts:List Task} {id:Int} {t:Task}:t∈HI ts id↔t∈ts/\t.id≠id:=by
 unfold HI;rw[Wz];constructor
 ·rintro ⟨h1,h2⟩;exact⟨h1,by simpa using h2⟩
 ·rintro ⟨h1,h2⟩;exact⟨h1,by simpa using h2⟩
theorem QH {s:ak} (h:SOk s) {id:Int} (hid:1<=id) {st:Int} (hr:sk s st):sk (qQ s id) st:=by
 have hok:SOk (qQ s id):=by rw[<-pG h hid];exact BN h id
 have hb:=qF h;intro t ht;obtain⟨ht1,ht2⟩:=FA.1 (show t∈HI s.tasks id from ht);have h0:=hr t ht1
 have VK:∀v∈s.tasks,v.id≠id->cS (qQ s id) v=cS s v:=λv hv hne=>by
  have hv1:=(bI (h.task v hv).1).1;unfold cS qQ;simp only;by_cases c:s.run=id
  ·rw[show(s.run==id)=true from by simpa using c,cond_true,cond_true,show((0:Int)==v.id)=false from by simp;omega,show(s.run==v.id)=false from by simp;omega];rfl
  ·rw[show(s.run==id)=false from by simpa using c];rfl
 have hd:ig (qQ s id) t.due<=ig s t.due:=by
  refine wC (xs:=s.tasks) (f:=λu:Task=>cond (decide (u.due<=t.due)) (cS s u) 0) (λu hu=>(mN hb _ u hu).1) λu hu hp=>?_;rw[VK u hu (by simpa using hp)]
 have hbl:block (qQ s id) t.due<=block s t.due:=by
  have hlo:=(Fl hb t.due).1;by_cases c:s.run=id
  ·rw[tw hok (by show cond (s.run==id) 0 s.run=0;rw[show(s.run==id)=true from by simpa using c];rfl)];exact hlo
  ·rcases h.run with⟨r0,_⟩|⟨w,hw,e,_⟩
   ·rw[tw hok (by show cond (s.run==id) 0 s.run=0;rw[show(s.run==id)=false from by simpa using c];exact r0)];exact hlo
   ·rw[wB h hw e.symm,wB hok (t:=w) (FA.2 ⟨hw,by rw[e];exact c⟩) (by show cond (s.run==id) 0 s.run=w.id;rw[show(s.run==id)=false from by simpa using c];exact e.symm)];show(if w.due>t.due then cond (s.run==id) 0 s.left else 0)<=_;rw[show(s.run==id)=false from by simpa using c];exact XB _
 have e:(qQ s id).now=s.now:=rfl;rw[e];omega
theorem QI {s:ak} {E:List Entry} {f:Int->Int->Int} (h:Kept s E f) {v:Event} (hv:v.kind=4) {y0:Entry} (hy0:y0∈E) (hid:y0.id=v.a):Kept (qQ s v.a) (du s.now E v) f:=by
 obtain⟨p1,_,_⟩:=Hy h.nv hy0
 have hid1:1<=v.a:=by omega
 have hok:SOk (qQ s v.a):=by rw[<-pG h.ok hid1];exact BN h.ok v.a
 have FE:=Hz h.nv hy0 (n:=s.now) (v:=v) (.inr hv) hid.symm;have UY:=QF (y:=y0) h.ok.now.1 (.inr hv) (v:=v)
 have sub:∀y∈du s.now E v,BX y->y∈E/\y.id≠v.a:=λy hy hl=>by
  rcases(FE y).1 hy with⟨hy,hne⟩|rfl
  ·exact⟨hy,by rw[<-hid];exact hne⟩
  ·exact absurd hl UY
 refine⟨hok,h.ge,mD h.nv,λt ht=>?_,λy hy hl=>?_,λy hy hd=>?_,?_⟩
 ·obtain⟨ht1,ht2⟩:=FA.1 (show t∈HI s.tasks v.a from ht);obtain⟨y,hy,k1,k2,k3,k4⟩:=h.task t ht1;exact⟨y,(FE y).2 (.inl ⟨hy,by rw[k1,hid];exact ht2⟩),k1,k2,k3,k4⟩
 ·obtain⟨g1,g2⟩:=sub y hy hl;obtain⟨t,ht,e⟩:=h.live y g1 hl;exact⟨t,FA.2 ⟨ht,by rw[e];exact g2⟩,e⟩
 ·rcases(FE y).1 hy with⟨hy,_⟩|rfl
  ·exact h.kept y hy hd
  ·have:(FG s.now v y0).done=false:=by unfold FG;simp[hv]
   rw[this]at hd;exact nomatch hd
 ·rcases h.room with⟨c,c0,c1,hr,hc⟩|hb
  ·exact .inl ⟨c,c0,c1,QH h.ok hid1 hr,λy hy hl=>hc y (sub y hy hl).1 hl⟩
  ·exact .inr λy hy hl=>hb y (sub y hy hl).1 hl
theorem O0 {ids ids':List Int} {es:List Event} (h:lM ids es ids'):∀{s:ak} {E:List Entry} {f:Int->Int->Int},(∀v∈es,v.kind≠3)->Live E ids->Kept s E f->Kept (lW s es) (es.foldl (du s.now) E) f:=by
 induction h with
 |nil=>exactλ_ _ h=>h
 |other k2 k3 k4 _ ih=>
  rename_i e es _;intro s E f hn hL hK;unfold lW;rw[Wr,Wr,show du s.now E e=E from by unfold du;rw[show(e.kind==3)=false from by simpa using k3,show(e.kind==4)=false from by simpa using k4];rfl,show(e.kind==4)=false from by simpa using k4]
  exact ih (λv hv=>hn v (VY _ hv)) hL hK
 |ends kk hm _ _ ih=>
  rename_i e es _ _;intro s E f hn hL hK
  have k4:e.kind=4:=by
   rcases kk with k|k
   ·exact absurd k (hn e V6)
   ·exact k
  obtain⟨a1,a2,a3⟩:=hL _ hm
  have hi:(e.a-1).toNat<E.length:=by omega
  have hp:=hK.nv _ hi;have:=QI hK k4 (VV hi) (by omega);unfold lW;rw[Wr,Wr,show(e.kind==4)=true from by simpa using k4,cond_true];exact ih (s:=qQ s e.a) (λv hv=>hn v (VY _ hv)) (qH (now:=s.now) hL a1) this
theorem Mf {s s':ak} {E:List Entry} {f:Int->Int->Int} (h:Kept s E f) {cs:List Int} {due:Int} (ha:fo s cs due=(s',s.next,0)) (hE:s.next=(E.length:Int)+1) {m:Model} {i:aF}:Kept s' (E++[⟨s.next,m,i,s.now,due,-1,false⟩]) f:=by
  have hok:=Kv h.ok cs due
  rcases qE s cs due with⟨_,_,_,hf,hs⟩|⟨g,_⟩
  · rw [ha] at hf hs hok;simp only at hf hs hok
    have hsl:s'.ai=s.ai:=by rw[hs]
    have hnw:s'.now=s.now:=by rw[hs]
    have hts:s'.tasks=s.tasks++[⟨s.next,cs,0,due,s.now⟩]:=by rw[hs]
    have Ig:sk s' s'.ai:=λt ht=>by
      have:=Wo.1 (WE.1 hf).2 t ht;exact of_decide_eq_true (WE.1 this).2
    refine⟨hok,h.ge,h.nv.app hE,λt ht=>?_,λy hy hl=>?_,λy hy hd=>?_,.inl ⟨0,XB _,hok.ai.1,by rw[Int.sub_zero];exact Ig,λy hy hl=>h.ge _ _⟩⟩
    · rw[hts]at ht
      rcases Wh.1 ht with ht|ht
      · obtain⟨y,hy,k1,k2,k3,k4⟩:=h.task t ht;exact⟨y,WU _ hy,k1,k2,k3,by omega⟩
      · rw[WD.1 ht];exact⟨_,WA _ V6,rfl,rfl,⟨rfl,by show(-1:Int)<0;decide⟩,by rw[hnw];exact XB _⟩
    · rcases Wh.1 hy with hy|hy
      · obtain⟨t,ht,e⟩:=h.live y hy hl;exact⟨t,by rw[hts];exact WU _ ht,e⟩
      · rw[WD.1 hy];exact⟨_,by rw[hts];exact WA _ V6,rfl⟩
    · rcases Wh.1 hy with hy|hy
      · rw[hsl];exact h.kept y hy hd
      · rw[WD.1 hy]at hd;exact nomatch hd
  · rw[ha]at g;exact absurd rfl g
def Jt (st:Bool) (n:Nat) (now:Int) (f:Int->Int->Int):Int->Int->Int:=λa b=>f a b+cond st (seg a b now (now+n)) 0
theorem Mg {st:Bool} {n:Nat} {s u:ak} {es:List Event} (h:Tr st n s es u):∀{E:List Entry} {f:Int->Int->Int} {n0:Int},Kept s E f->s.now+n<1000000->Kept u (es.foldl (du n0) E) (Jt st n s.now f)/\u.now=s.now+n/\u.ai=s.ai/\∀v∈es,v.kind=3:=by
 induction h with
 |nil=>
  rename_i s;intro E f n0 hK hn;refine⟨?_,by simp,rfl,λv hv=>absurd hv (by simp)⟩
  have:Jt st 0 s.now f=f:=by
   funext a b
   unfold Jt;rw[show s.now+((0:Nat):Int)=s.now by omega,zM];cases st<;>simp
  rw[this];exact hK
 |tick hs hd _ ih=>
  rename_i n s s' u d e _;intro E f n0 hK hn;subst hs;obtain⟨hsl,Fv⟩:=DP hK.ok st (by omega);have h1:=OZ hK st (by omega) (n0:=n0) hd;obtain⟨h2,h3,h5,h4⟩:=ih h1 (n0:=n0) (by rw[Fv];omega);rw[WM]
  have:Jt st (n+1) s.now f=Jt st n (cK s st).1.now (more st s.now f):=by
   funext a b
   unfold Jt more;rw[Fv];cases st
   ·simp
   ·simp only[cond_true];rw[show s.now+((n+1:Nat):Int)=s.now+1+(n:Int) by omega,KH (show s.now<s.now+1+(n:Int) by omega)];exact(X2 _ _ _).symm
  rw[this];refine⟨h2,by rw[h3,Fv];omega,h5.trans hsl,λv hv=>?_⟩
  rcases Wh.1 hv with hv|hv
  ·rcases hd with⟨rfl,_⟩|⟨t,rfl,_⟩
   ·exact absurd hv (by simp)
   ·rw[WD.1 hv]
  ·exact h4 v hv
theorem B4 (lo hi:Int):∀(xs ys:List Step) (now:Int),dC lo hi now (xs++ys)=dC lo hi now xs+dC lo hi (now+(xs.map takes).sum) ys
 |[],ys,now=>by simp[dC]
 |x::xs,ys,now=>by
  rw[W7,dC,dC,B4 lo hi xs ys,Wm,W3,X2,X2]
theorem HA:∀xs:List Step,0<=(xs.map takes).sum/\(xs.map takes).sum<=200*xs.length
 |[]=>by simp
 |x::xs=>by
  have:=HA xs;have:=vY x;rw[Wm,W3,VS];omega
def KeptAt (sl:Int) (pre:List Step) (r:Runtime) (E:List Entry):Prop:=Kept r.sched E (λa b=>dC a b 0 pre)/\r.sched.now=(pre.map takes).sum/\r.sched.ai=sl
theorem O1 {sl:Int} (pre:List Step) (x:Step) (r r':Runtime) (E E1:List Entry) (evs e:List Event) (hst:xO r E evs pre.length) (hl:pre.length<200) (hK:KeptAt sl pre r E) (hs:wz r x e r'.sched) (hm:Made r x e E E1 r'):KeptAt sl (pre++[x]) r' E1:=by
 obtain⟨hK,Fv,hsl⟩:=hK;have hb:=HA pre;have hx:=vY x
 have UX:((pre++[x]).map takes).sum=(pre.map takes).sum+takes x:=by rw[WL,Xn];simp
 have hf:(λa b=>dC a b 0 (pre++[x]))=λa b=>dC a b 0 pre+cond (x.kind==5) (seg a b r.sched.now (r.sched.now+takes x)) 0:=by
  funext a b
  rw[B4,Fv,Int.zero_add];simp[dC]
 have no2:∀{ids ids':List Int} {es:List Event},lM ids es ids'->∀v∈es,v.kind≠2:=λh=>by
  induction h with
  |nil=>exactλv hv=>absurd hv (by simp)
  |other k2 _ _ _ ih=>
   intro v hv
   rcases V0.1 hv with rfl|hv
   ·exact k2
   ·exact ih v hv
  |ends kk _ _ _ ih=>
   intro v hv
   rcases V0.1 hv with rfl|hv
   ·omega
   ·exact ih v hv
 rcases hs with⟨ht,tr⟩|⟨ht,hs⟩
 ·have hz:takes x=x.a:=by unfold takes;rw[ht];rfl
  have hn:((x.a.toNat:Nat):Int)=takes x:=by omega
  obtain⟨k1,k2,k4,k3⟩:=Mg tr hK (n0:=r.sched.now) (by omega)
  rcases hm with⟨hT,rfl⟩|⟨due,rfl,_,_⟩
  ·refine⟨?_,by rw[k2,Fv,UX];omega,k4.trans hsl⟩;rw[hf];unfold Jt at k1;rw[hn]at k1;exact k1
  ·exact absurd (k3 _ V6) (show¬(2:Int)=3 by decide)
 ·have hz:takes x=0:=by unfold takes;rw[ht];rfl
  have hf0:(λa b=>dC a b 0 (pre++[x]))=λa b=>dC a b 0 pre:=by
   rw[hf];funext a b;rw[hz,XI,zM];cases(x.kind==5)<;>simp
  unfold KeptAt;rw[hf0,UX,hz,XI]
  rcases hs with⟨hs,h3⟩|⟨cs,due,he,ha⟩
  ·rcases hm with⟨hT,rfl⟩|⟨due,rfl,hnx,rfl⟩
   ·have:=O0 hT h3 hst.live hK;rw[<-hs]at this
    have go:∀(es:List Event) (s:ak),(lW s es).now=s.now/\(lW s es).ai=s.ai:=λes=>by
     induction es with
     |nil=>exactλs=>⟨rfl,rfl⟩
     |cons v es ih=>
      intro s;unfold lW at ih⊢;rw[Wr];obtain⟨i1,i2⟩:=ih (cond (v.kind==4) (qQ s v.a) s);rw[i1,i2];cases(v.kind==4)<;>exact⟨rfl,rfl⟩
    exact⟨this,by rw[hs,<-Fv];exact(go _ _).1,by rw[hs,<-hsl];exact(go _ _).2⟩
   ·have:r'.sched=r.sched:=hs;rw[this]at hnx;omega
  ·rcases hm with⟨hT,_⟩|⟨due',he',hnx,rfl⟩
   ·rw[he]at hT;exact absurd rfl (no2 hT _ V6)
   ·obtain rfl:due'=due:=by
     rw[he]at he';have:=List.head_eq_of_cons_eq he';exact(congrArg Event.b this).symm
    refine⟨Mf hK ha hst.next,?_,?_⟩<;>
    ·rcases qE r.sched cs due' with⟨_,_,_,_,hs⟩|⟨g,_⟩
     ·rw[ha]at hs;simp only at hs
      rw[hs];first|exact Fv|exact hsl
     ·rw[ha]at g;exact absurd rfl g
theorem Mh {a b:Int} (h:bf (uN a b)=true):KeptAt a [] (rt0 (uN a b)) []:=by
 refine⟨⟨(KE h).s,λa b=>?_,λi hi=>absurd hi (by simp),λt ht=>absurd ht (by simp[rt0,uN]),λy hy=>absurd hy (by simp),λy hy=>absurd hy (by simp),.inr λy hy=>absurd hy (by simp)⟩,rfl,rfl⟩;simp[dC]
theorem KJ {pre:List Step} {r:Runtime} {E:List Entry} {a:Int} (h:KeptAt a pre r E):∀y∈E,jv a pre r.sched.now y=true->QG y=true:=λy hy hp=>by
 obtain⟨hK,Fv,hs⟩:=h;unfold jv at hp;simp only[VP,XA,decide_eq_true_eq]at hp;obtain⟨p1,p2,p3⟩:=hp;unfold QG;cases hd:y.done
 ·rw[hd]at p1;have hl:BX y:=⟨hd,by rcases p1 with p|p;exact nomatch p;exact p⟩;obtain⟨t,ht,e⟩:=hK.live y hy hl;obtain⟨z,hz,e1,e2,_,_⟩:=hK.task t ht;obtain rfl:=xP hK.nv hz hy (e1.trans e)
  rcases hK.room with⟨c,c0,c1,hr,_⟩|hb
  ·have:=tx hK.ok (show 0<=r.sched.ai-c by omega) hr t ht;omega
  ·have:=hb z hy hl;omega
 ·rcases hK.kept y hy hd with g|g
  ·rw[decide_eq_true g];rfl
  ·omega
end
section
end
section
theorem Mi {m:Model}:eH m=true↔m.inp.okB=true/\inB (m.aC.length:Int) 1 6=true/\(cq m.inp m.aC).isSome=true:=by
 unfold eH dT;cases m.inp.okB<;>cases inB (m.aC.length:Int) 1 6<;>cases cq m.inp m.aC<;>simp
end
set_option maxRecDepth 100000
section
theorem ar.Ve {R α:Type} {B:(α->Option R)->Option R} {K:α->Option R} {Q:R->Prop} (P:α->Prop) (hK:∀x,P x->ar (K x) Q) (hB:∀j:α->Option R,(∀x,P x->ar (j x) Q)->ar (B j) Q):ar (Go.Proofs.Ev.bej B K) Q:=hB K hK
theorem ar.VL {R α β γ:Type} {B:(α->β->γ->Option R)->Option R} {K:α->β->γ->Option R} {Q:R->Prop} (P:α->β->γ->Prop) (hK:∀x y z,P x y z->ar (K x y z) Q) (hB:∀j:α->β->γ->Option R,(∀x y z,P x y z->ar (j x y z) Q)->ar (B j) Q):ar (Go.Proofs.Ev.bej B K) Q:=hB K hK
theorem ar.VM {R α β γ δ:Type} {B:(α->β->γ->δ->Option R)->Option R} {K:α->β->γ->δ->Option R} {Q:R->Prop} (P:α->β->γ->δ->Prop) (hK:∀x y z u,P x y z u->ar (K x y z u) Q) (hB:∀j:α->β->γ->δ->Option R,(∀x y z u,P x y z u->ar (j x y z u) Q)->ar (B j) Q):ar (Go.Proofs.Ev.bej B K) Q:=hB K hK
theorem ar.of {α β:Type} {a:α} {f:α->Option β} {Q:β->Prop} (h:ar (f a) Q):ar ((Option.some a).bind f) Q:=h
theorem Shape.B5 {s:Shape}:s.okB=true↔(1<=s.h/\s.h<=8)/\(1<=s.w/\s.w<=8)/\(1<=s.c/\s.c<=8):=by
 unfold Shape.okB;simp only[VP,cd]
theorem Shape.B6 (s:Shape):0<=s.size/\s.size<=512:=by
 unfold Shape.size;cases h:s.okB
 ·simp
 ·obtain⟨⟨a1,a2⟩,⟨b1,b2⟩,c1,c2⟩:=Shape.B5.1 h;simp only[cond_true];have h1:0<=s.h*s.w:=WY (by omega) (by omega);have h2:s.h*s.w<=8*8:=Xu a2 b2 (by omega) (by omega);refine⟨WY h1 (by omega),?_⟩;have h3:s.h*s.w*s.c<=64*8:=Xu (by omega) c2 (by omega) (by omega);omega
theorem Shape.size_pos {s:Shape} (h:s.okB=true):1<=s.size:=by
 unfold Shape.size;rw[h];obtain⟨⟨a1,a2⟩,⟨b1,b2⟩,c1,c2⟩:=Shape.B5.1 h;simp only[cond_true];have h1:0<s.h*s.w:=Int.mul_pos (by omega) (by omega);have h2:0<s.h*s.w*s.c:=Int.mul_pos h1 (by omega);omega
section
variable {b:List Int} {k:Nat}
theorem sn (hb:b.length<=1048576) {i h m:Int} (hc:Cur b i) (h0:1<=m) (h1:m<=8):ar (gl k b i h m) λr=>r.1.okB=true/\Cur b r.2.1:=by
 unfold gl;refine(aK hb hc).bind λr1 ⟨⟨p1,p2,_⟩,hc1⟩=>(aK hb hc1).bind λr2 ⟨⟨q1,q2,_⟩,hc2⟩=>(aK hb hc2).bind λr3 ⟨⟨u1,u2,_⟩,hc3⟩=>ar.must rfl (ar.some ⟨?_,hc3⟩);have p2:=p2 (by omega);have q2:=q2 (by omega);have u2:=u2 (by omega);refine Shape.B5.2 ?_;simp only;rw[aE (n:=1+r1.1) (by omega) (by omega),aE (n:=1+r2.1) (by omega) (by omega),aE (n:=1+r3.1) (by omega) (by omega)];omega
theorem tW (hb:b.length<=1048576) {i h:Int} (hc:Cur b i):ar (gN k b i h) λr=>(-128<=r.1/\r.1<=127)/\Cur b r.2.1:=by
 unfold gN;refine(aK hb hc).bind λr1 ⟨⟨p1,p2,_⟩,hc1⟩=>(aK hb hc1).bind λr2 ⟨⟨q1,q2,_⟩,hc2⟩=>(eS hb hc2 (by simp)).bind λr3 ⟨h3,hc3⟩=>ar.must rfl (ar.some ⟨?_,hc3⟩);have p2:=p2 (by omega);have q2:=q2 (by omega);rw[aE (n:=r1.1-128) (by omega) (by omega),aE (n:=r2.1-128) (by omega) (by omega)]at h3;simp only[V0,XM,or_false]at h3;omega
theorem iO (hb:b.length<=1048576) (hk:1000<k) {i h:Int} {s:Shape} (hc:Cur b i):ar (dB k b i h s) λr=>(r.1.sh=s/\(r.1.data.length:Int)=s.size)/\Cur b r.2.1:=by
 have hM:=al;have hs:=s.B6;unfold dB;refine ar.iter (Inv:=λv:Int× Int× Int× List Int=>Cur b v.2.1/\0<=v.1/\v.1<=s.size/\(v.2.2.2.length:Int)=v.1) (m:=λv=>(s.size-v.1).toNat) (λv next hv hn=>?_) k _ ⟨hc,by simp;omega⟩ (by simp only;omega);obtain⟨v1,v2,v3,v4⟩:=hv;unfold iq;rw[jd];refine ar.of (ar.cond (λh1=>?_) λh1=>ar.must rfl (ar.some ⟨⟨rfl,?_⟩,v1⟩))
 ·have h1:v.1<s.size:=of_decide_eq_true h1;refine(tW hb v1).bind λr2 ⟨_,hc2⟩=>ar.ble (by simp;omega) (hn _ ⟨hc2,?_⟩ ?_)
  ·simp only[VR,VS,V5];rw[aE (n:=v.1+1) (by omega) (by omega)];omega
  ·simp only;rw[aE (n:=v.1+1) (by omega) (by omega)];omega
 ·have h1:¬v.1<s.size:=of_decide_eq_false h1;simp only;omega
theorem qT (hb:b.length<=1048576) (hk:1000<k) {i h:Int} (hc:Cur b i):ar (gn k b i h) λr=>r.1.data.length<=513/\Cur b r.2.1:=by
 have hM:=al;unfold gn;refine(sn hb hc (by omega) (by omega)).bind λr1 ⟨ok1,hc1⟩=>(iO hb hk hc1).bind λr2 ⟨⟨e2,l2⟩,hc2⟩=>(gw hb hc2).bind λr3 hc3=>?_;have hs:=r1.1.B6;have hp:=Shape.size_pos ok1;refine ar.cond (λ_=>(aK hb hc3).bind λr4 ⟨_,hc4⟩=>?_) λ_=>ar.must rfl (ar.some ⟨by simp only;omega,hc3⟩);refine ar.cond (λ_=>?_) λ_=>ar.cond (λ_=>?_) λ_=>ar.cond (λ_=>?_) λ_=>ar.cond (λ_=>?_) λ_=>?_
 ·exact(eS hb hc4 (by simp)).bind λr5 ⟨_,hc5⟩=>ar.must rfl (ar.some ⟨by simp only;omega,hc5⟩)
 ·exact ar.ble (by simp;omega) (ar.must rfl (ar.some ⟨by simp;omega,hc4⟩))
 ·refine(aK hb hc4).bind λr6 ⟨⟨a1,a2,_⟩,hc6⟩=>(eS hb hc6 (by simp)).bind λr7 ⟨_,hc7⟩=>ar.must ⟨a1,a2 (by omega)⟩ (ar.must rfl (ar.some ⟨by simp;omega,hc7⟩))
 ·exact(iO hb hk hc4).bind λr8 ⟨⟨e8,l8⟩,hc8⟩=>ar.must rfl (ar.some ⟨by have:=(⟨8,8,8⟩:Shape).B6;simp only;omega,hc8⟩)
 ·exact ar.must rfl (ar.some ⟨by simp only;omega,hc4⟩)
end
end
set_option maxRecDepth 100000
section
section
variable {b:List Int} {k:Nat}
theorem HB (hb:b.length<=1048576) (hk:2000<k) {R:Type} {Q:R->Prop} {fin:(Int× Int× List Int)->Option R} {p:Int× List Int× Int× Int× Int× Int× Int× Int× Int× Int× Int× Int× Int× Int× Int× Int} (hp:p.2.1=b) (h0:0<=p.1) (h1:p.1<=1600) {c h:Int} (hc:Cur b c)
  (hf:∀c' h' ws,Cur b c'->(ws.length:Int)<=1600->ar (fin (c',h',ws)) Q):ar (iter (λu n=>cI k p u n fin) k ((0:Int),c,h,([]:List Int))) Q:=by
 have hM:=al;refine ar.iter (Inv:=λv:Int× Int× Int× List Int=>Cur b v.2.1/\0<=v.1/\v.1<=p.1/\(v.2.2.2.length:Int)=v.1) (m:=λv=>(p.1-v.1).toNat) (λv next hv hn=>?_) k _ ⟨hc,by simp;omega⟩ (by simp only;omega);obtain⟨v1,v2,v3,v4⟩:=hv;unfold cI;rw[hp];refine ar.cond (λq=>?_) λq=>hf _ _ _ v1 (by omega);have q:v.1<p.1:=of_decide_eq_true q;refine(tW hb v1).bind λr2 ⟨_,hc2⟩=>ar.ble (by simp;omega) (hn _ ⟨hc2,?_⟩ ?_)
 ·simp only[VR,VS,V5];rw[aE (n:=v.1+1) (by omega) (by omega)];omega
 ·simp only;rw[aE (n:=v.1+1) (by omega) (by omega)];omega
theorem O2 (hb:b.length<=1048576) (hk:2000<k) {R:Type} {Q:R->Prop} {fin:(Int× Int× List Int)->Option R} {p:List Int× Int× Int× Int× Int× Int× Int× Int× Int× Int× Int× Int× Int× Int× Int× List Int} (hp:p.1=b) (h0:0<=p.2.2.2.2.2.2.2.2.2.1) (h1:p.2.2.2.2.2.2.2.2.2.1<=3) {c h:Int} (hc:Cur b c)
  (hf:∀c' h' ws,Cur b c'->(ws.length:Int)<=3->ar (fin (c',h',ws)) Q):ar (iter (λu n=>cJ k p u n fin) k ((0:Int),c,h,([]:List Int))) Q:=by
 have hM:=al;refine ar.iter (Inv:=λv:Int× Int× Int× List Int=>Cur b v.2.1/\0<=v.1/\v.1<=p.2.2.2.2.2.2.2.2.2.1/\(v.2.2.2.length:Int)=v.1) (m:=λv=>(p.2.2.2.2.2.2.2.2.2.1-v.1).toNat) (λv next hv hn=>?_) k _ ⟨hc,by simp;omega⟩ (by simp only;omega);obtain⟨v1,v2,v3,v4⟩:=hv;unfold cJ;rw[hp];refine ar.cond (λq=>?_) λq=>hf _ _ _ v1 (by omega);have q:v.1<p.2.2.2.2.2.2.2.2.2.1:=of_decide_eq_true q;refine(aK hb v1).bind λr2 ⟨_,hc2⟩=>ar.ble (by simp;omega) (hn _ ⟨hc2,?_⟩ ?_)
 ·simp only[VR,VS,V5];rw[aE (n:=v.1+1) (by omega) (by omega)];omega
 ·simp only;rw[aE (n:=v.1+1) (by omega) (by omega)];omega
def FB (b:List Int) (r:av× Int× Int):Prop:=r.1.tot<=1610/\Cur b r.2.1
theorem lN (hb:b.length<=1048576) {R:Type} {Q:R->Prop} {s:Shape} (hs:s.okB=true) {K c h:Int} (hc:Cur b c) {Z:Int->Int->Int->Int->Option R}
  (hZ:∀c h sz st,Cur b c->0<=sz->sz<=3->ar (Z c h sz st) Q):ar ((bA k K (1:Int) (3:Int)).bind λr96=>bej (λ(j105:Int->Int->Int->Int->Option R)=>cond (r96) (bej (λ(j97:Int->Option R)=>cond (decide (s.h<(3:Int))) ((j97 s.h)) ((j97 (3:Int)))) (λ(j97_0:Int)=>cond (decide (s.w<j97_0)) ((ag k b c h s.w).bind λr101=>(ag k b r101.2.1 r101.2.2 (2:Int)).bind λr102=>(j105 r102.2.1 r102.2.2 (i64.wrap ((1:Int)+r101.1)) (i64.wrap ((1:Int)+r102.1)))) ((ag k b c h j97_0).bind λr103=>(ag k b r103.2.1 r103.2.2 (2:Int)).bind λr104=>(j105 r104.2.1 r104.2.2 (i64.wrap ((1:Int)+r103.1)) (i64.wrap ((1:Int)+r104.1)))))) ((j105 c h (0:Int) (0:Int)))) Z) Q:=by
 obtain⟨⟨a1,a2⟩,⟨b1,b2⟩,c1,c2⟩:=Shape.B5.1 hs;rw[cp];refine ar.of (ar.VM (λc _ sz _=>Cur b c/\0<=sz/\sz<=3) (λc h sz st ⟨q1,q2,q3⟩=>hZ c h sz st q1 q2 q3) λj hj=>ar.cond (λ_=>?_) λ_=>hj _ _ _ _ ⟨hc,by omega,by omega⟩);refine ar.Ve (λx=>1<=x/\x<=3) (λx ⟨x1,x2⟩=>?_) λj' hj'=>ar.cond (λq=>hj' _ ⟨a1,?_⟩) λ_=>hj' _ ⟨by omega,by omega⟩
 ·refine ar.cond (λq=>?_) λq=>?_
  ·have q:s.w<x:=of_decide_eq_true q;refine(aK hb hc).bind λr1 ⟨⟨p1,p2,_⟩,hc1⟩=>(aK hb hc1).bind λr2 ⟨_,hc2⟩=>hj _ _ _ _ ⟨hc2,?_⟩;have p2:=p2 (by omega);rw[aE (n:=1+r1.1) (by omega) (by omega)];omega
  ·refine(aK hb hc).bind λr1 ⟨⟨p1,p2,_⟩,hc1⟩=>(aK hb hc1).bind λr2 ⟨_,hc2⟩=>hj _ _ _ _ ⟨hc2,?_⟩;have p2:=p2 (by omega);rw[aE (n:=1+r1.1) (by omega) (by omega)];omega
 ·have q:s.h<3:=of_decide_eq_true q;omega
theorem tz (hb:b.length<=1048576) (hk:2000<k) {s:Shape} (hs:s.okB=true) {K c h sz st:Int} (hc:Cur b c) (z0:0<=sz) (z1:sz<=3):ar (cond (decide (K<=(1:Int))) ((ag k b c h (3:Int)).bind λr106=>(ag k b r106.2.1 r106.2.2 (16777216:Int)).bind λr107=>(ag k b r107.2.1 r107.2.2 (10:Int)).bind λr108=>(ag k b r108.2.1 r108.2.2 (9:Int)).bind λr109=>(cu k s).bind λr110=>bej (λ(j111:Int->Option (av× Int× Int))=>cond (K==(1:Int)) ((j111 (i64.wrap ((i64.wrap ((i64.wrap ((i64.wrap ((1:Int)+r106.1))*sz))*sz))*s.c)))) ((j111 (i64.wrap ((i64.wrap ((1:Int)+r106.1))*r110))))) (λ(j111_0:Int)=>iter (λu117 n117=>cI k (j111_0,b,(0:Int),(0:Int),(0:Int),(0:Int),(0:Int),(0:Int),(0:Int),K,i64.wrap ((1:Int)+r106.1),sz,st,i64.wrap ((1073741824:Int)+(i64.wrap (r107.1*(60:Int)))),r108.1,i64.wrap (r109.1-(4:Int))) u117 n117 (λy113=>iter (λu116 n116=>cJ k (b,(0:Int),(0:Int),(0:Int),(0:Int),(0:Int),(0:Int),(0:Int),K,i64.wrap ((1:Int)+r106.1),sz,st,i64.wrap ((1073741824:Int)+(i64.wrap (r107.1*(60:Int)))),r108.1,i64.wrap (r109.1-(4:Int)),y113.2.2) u116 n116 (λy115=>bej (λ(j119:Int->Int->Int->Option (av× Int× Int))=>cond (K==(4:Int)) ((ag k b y115.1 y115.2.1 (20:Int)).bind λr118=>(j119 (i64.wrap (r118.1-(10:Int))) r118.2.1 r118.2.2)) ((j119 (i64.wrap (r109.1-(4:Int))) y115.1 y115.2.1))) (λ(j119_13:Int) (j119_15:Int) (j119_16:Int)=>cond (decide (b=b)) (some ((⟨K,(i64.wrap ((1:Int)+r106.1)),sz,st,(i64.wrap ((1073741824:Int)+(i64.wrap (r107.1*(60:Int))))),r108.1,j119_13,y113.2.2,y115.2.2⟩:av),j119_15,j119_16)) none))) k ((0:Int),y113.1,y113.2.1,([]:List Int)))) k ((0:Int),r109.2.1,r109.2.2,([]:List Int)))) (cond (K==(4:Int)) ((ag k b c h (20:Int)).bind λr120=>cond (decide (b=b)) (some ((⟨K,(0:Int),sz,st,(0:Int),(0:Int),(i64.wrap (r120.1-(10:Int))),([]:List Int),([]:List Int)⟩:av),r120.2.1,r120.2.2)) none) (cond (decide (b=b)) (some ((⟨K,(0:Int),sz,st,(0:Int),(0:Int),(0:Int),([]:List Int),([]:List Int)⟩:av),c,h)) none))) (FB b):=by
 obtain⟨⟨a1,a2⟩,⟨b1,b2⟩,c1,c2⟩:=Shape.B5.1 hs;refine ar.cond (λ_=>?_) λ_=>ar.cond (λ_=>?_) λ_=>?_
 ·refine(aK hb hc).bind λr1 ⟨⟨p1,p2,_⟩,hc1⟩=>(aK hb hc1).bind λr2 ⟨⟨q1,q2,_⟩,hc2⟩=>(aK hb hc2).bind λr3 ⟨_,hc3⟩=>(aK hb hc3).bind λr4 ⟨_,hc4⟩=>?_;have p2:=p2 (by omega);have q2:=q2 (by omega);rw[jd];have hz:=s.B6;have m1:0<=(1+r1.1)*sz:=WY (by omega) z0;have m2:(1+r1.1)*sz<=3*3:=Xu (by omega) z1 z0 (by omega);have m3:0<=(1+r1.1)*sz*sz:=WY m1 z0;have m4:(1+r1.1)*sz*sz<=9*3:=Xu m2 z1 z0 (by omega);have m5:0<=(1+r1.1)*sz*sz*s.c:=WY m3 (by omega);have m6:(1+r1.1)*sz*sz*s.c<=27*8:=Xu m4 c2 (by omega) (by omega);have n1:0<=(1+r1.1)*s.size:=WY (by omega) hz.1;have n2:(1+r1.1)*s.size<=3*512:=Xu (by omega) hz.2 hz.1 (by omega);have w1:=aE (n:=1+r1.1) (by omega) (by omega);refine ar.of (ar.Ve (λn=>0<=n/\n<=1600) (λn ⟨n0,n1⟩=>?_) λj hj=>ar.cond (λ_=>hj _ ?_) λ_=>hj _ ?_)
  ·refine HB hb hk rfl n0 n1 hc4 λc' h' ws hc' hw=>O2 hb hk rfl ?_ ?_ hc' λc2 h2 bs hc2 hbs=>?_
   ·simp only;rw[w1];omega
   ·simp only;rw[w1];omega
   ·refine ar.VL (λ_ c _=>Cur b c) (λz c h hc=>ar.must rfl (ar.some ⟨?_,hc⟩)) λj hj=>ar.cond (λ_=>(aK hb hc2).bind λr5 ⟨_,hc5⟩=>hj _ _ _ hc5) λ_=>hj _ _ _ hc2;simp only[av.tot];omega
  ·rw[w1,aE (n:=(1+r1.1)*sz) (by omega) (by omega),aE (n:=(1+r1.1)*sz*sz) (by omega) (by omega),aE (n:=(1+r1.1)*sz*sz*s.c) (by omega) (by omega)];omega
  ·rw[w1,aE (n:=(1+r1.1)*s.size) (by omega) (by omega)];omega
 ·exact(aK hb hc).bind λr1 ⟨_,hc1⟩=>ar.must rfl (ar.some ⟨by simp[av.tot],hc1⟩)
 ·exact ar.must rfl (ar.some ⟨by simp[av.tot],hc⟩)
theorem B7 (hb:b.length<=1048576) (hk:2000<k) {s:Shape} (hs:s.okB=true) {c h:Int} (hc:Cur b c):ar (iM k b c h s) (FB b):=by
 unfold iM;refine(eS hb hc (by simp)).bind λr1 ⟨_,hc1⟩=>?_
 have small:∀{K sz st c h},Cur b c->ar ((ag k b c h (20:Int)).bind λr13=>cond (decide (b=b)) (some ((⟨K,(0:Int),sz,st,(0:Int),(0:Int),(i64.wrap (r13.1-(10:Int))),([]:List Int),([]:List Int)⟩:av),r13.2.1,r13.2.2)) none) (FB b):=λhc=>
  (aK hb hc).bind λr1 ⟨_,hc1⟩=>ar.must rfl (ar.some ⟨by simp[av.tot],hc1⟩)
 have any:∀{B:(Int->Option (av× Int× Int))->Option (av× Int× Int)} {Z:Int->Option (av× Int× Int)},(∀K,ar (Z K) (FB b))->(∀j:Int->Option (av× Int× Int),(∀x,ar (j x) (FB b))->ar (B j) (FB b))->ar (bej B Z) (FB b):=λh1 h2=>h2 _ h1
 have sized:∀{f:Int->Option (av× Int× Int)},(∀n,ar (f n) (FB b))->ar ((cu k s).bind f) (FB b):=λh=>by rw[jd];exact h _
 refine ar.cond (λ_=>sized λn=>ar.cond (λ_=>?_) λ_=>ar.cond (λ_=>?_) λ_=>?_) λ_=>ar.cond (λ_=>?_) λ_=>?_
 ·exact lN hb hs hc1 λc h sz st h1 _ _=>small h1
 ·exact sized λn=>any (λK=>lN hb hs hc1 λc h sz st h1 h2 h3=>tz hb hk hs h1 h2 h3) λj hj=>ar.cond (λ_=>hj _) λ_=>hj _
 ·exact lN hb hs hc1 λc h sz st h1 h2 h3=>tz hb hk hs h1 h2 h3
 ·exact sized λn=>any (λK=>lN hb hs hc1 λc h sz st h1 h2 h3=>tz hb hk hs h1 h2 h3) λj hj=>ar.cond (λ_=>hj _) λ_=>hj _
 ·exact lN hb hs hc1 λc h sz st h1 h2 h3=>tz hb hk hs h1 h2 h3
end
end
set_option maxRecDepth 100000
section
theorem Mj {s:Shape} {l:av} (h:fN s l=true):(shapeOf s l).okB=true:=by
 have hs:s.okB=true:=by
  unfold fN at h;rw[VP]at h;exact h.1
 have hz:=s.B6
 have ht:(⟨s,List.replicate s.size.toNat 0⟩:aF).okB=true:=by
  unfold aF.okB qN;rw[hs,VZ,VP];refine⟨decide_eq_true (by simp;omega),?_⟩;rw[Wo];intro x hx;rw[XN]at hx;rw[hx.2];rfl
 obtain⟨h1,h2,_⟩:=DD ht h;have h2:(Om ⟨s,List.replicate s.size.toNat 0⟩ l).1.sh=shapeOf s l:=h2;rw[<-h2];unfold aF.okB at h1;rw[VP]at h1;exact h1.1
section
variable {b:List Int} {k:Nat}
theorem Cz (hb:b.length<=1048576) (hk:10000<k) {s:Shape} (hs:s.okB=true) {c h n:Int} (hc:Cur b c) (hn:n<=5):ar (jV k b c h s n) λr=>(r.1.inp=s/\r.1.tot<=8055/\r.1.aC.length<=5)/\Cur b r.2.1:=by
 have hM:=al;unfold jV;refine ar.iter (Inv:=λv:Int× Int× Int× Int× Int× Int× List av=>Cur b v.2.1/\0<=v.1/\v.1<=5/\(⟨v.2.2.2.1,v.2.2.2.2.1,v.2.2.2.2.2.1⟩:Shape).okB=true/\((jj av.tot v.2.2.2.2.2.2:Nat):Int)<=1611*v.1/\(v.2.2.2.2.2.2.length:Int)<=v.1) (m:=λv=>(6-v.1).toNat) (λv next hv hx=>?_) k _ ⟨hc,by simp,by simp,hs,by simp[jj],by simp⟩ (by simp only;omega);obtain⟨v1,v2,v3,v4,v5,v6⟩:=hv;unfold jU;have done:∀c' h':Int,Cur b c'->ar (cond (decide (b=b)) (some ((⟨s,v.2.2.2.2.2.2⟩:Model),c',h')) none) λr=>(r.1.inp=s/\r.1.tot<=8055/\r.1.aC.length<=5)/\Cur b r.2.1:=λc' h' hc'=>ar.must rfl (ar.some ⟨⟨rfl,by simp only[Model.tot];omega,by simp only;omega⟩,hc'⟩);refine ar.cond (λq=>?_) λ_=>done _ _ v1;have q:v.1<n:=of_decide_eq_true q;refine(B7 hb (by omega) v4 v1).bind λr1 ⟨t1,hc1⟩=>?_;rw[my (by omega) (by omega)];unfold jY;cases hl:fN (⟨v.2.2.2.1,v.2.2.2.2.1,v.2.2.2.2.2.1⟩:Shape) r1.1
 ·exact done _ _ hc1
 ·refine ar.ble (by omega) (hx _ ⟨hc1,?_,?_,Mj hl,?_,?_⟩ ?_)
  ·simp only;rw[aE (n:=v.1+1) (by omega) (by omega)];omega
  ·simp only;rw[aE (n:=v.1+1) (by omega) (by omega)];omega
  ·simp only;rw[aE (n:=v.1+1) (by omega) (by omega),qc,vB];simp only[jj,V5,Xt,List.sum_nil]at v5⊢;omega
  ·simp only[VR,VS,V5];rw[aE (n:=v.1+1) (by omega) (by omega)];omega
  ·simp only;rw[aE (n:=v.1+1) (by omega) (by omega)];omega
end
end
end Go.Proofs.Ev
