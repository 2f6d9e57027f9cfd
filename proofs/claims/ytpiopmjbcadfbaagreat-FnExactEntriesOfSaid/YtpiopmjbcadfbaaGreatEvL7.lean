/- Typed functions and what holds of them: part 7. -/
import Derived.Test.YtpiopmjbcadfbaaGreatEvL6
set_option linter.unusedVariables false
set_option linter.unusedSimpArgs false
set_option linter.unusedSectionVars false
namespace Go.Proofs.Ev
set_option maxRecDepth 100000
set_option maxHeartbeats 4000000
section
theorem Iu {k:Nat} (hk:20000000<=k) {st:Bool} {ms:List Model} {ls:List Bool} {a:Int} (ha:a<=200) {q1 q2 q4 q5 q6 kd p9:Int} {q3 q7:List Int} (hkd:(kd==5)=st):∀(n:Nat) (i:Int) (s:ak) (rs:List Request) (e:List Event),a=i+n->0<=i->rj ⟨s,ms,ls,rs⟩->e.length+n<=1000->
  ∃(e':List Event) (s':ak) (rs':List Request),rj ⟨s',ms,ls,rs'⟩/\e'.length<=e.length+n/\(∃d,e'=e++d/\kh (oZ rs) d (oZ rs')/\Tr st n s d s')/\(s'.ai=s.ai/\s'.age=s.age/\s'.next=s.next)/\
   (s.now=1000000->e'=e/\s'=s/\rs'=rs)/\
   (∀(R:Type) (fin:_->Option R) (kf:Nat),n<kf->iter (λu10 n10=>cW k (st,q1,a,q2,q3,q4,q5,q6,q7,ms,ls) u10 n10 fin) kf (i,s.now,s.ai,s.age,s.run,s.left,s.turns,s.next,e,s.tasks,rs)=fin (e',s'.now,s'.ai,s'.age,s'.run,s'.left,s'.turns,s'.next,s'.tasks,rs'))/\
   (∀(R:Type) (fin:_->Option R) (kf:Nat),n<kf->iter (λu9 n9=>bg k (a,s.ai,s.age,s.next,kd,p9,q2,q3,q4,q5,q6,q7,ms,ls) u9 n9 fin) kf (i,s.now,s.run,s.left,s.turns,e,s.tasks,rs)=fin (e',s'.now,s'.run,s'.left,s'.turns,s'.tasks,rs'))
 |0,i,s,rs,e,hi,h0,h,he=>by
  refine⟨e,s,rs,h,RJ _,⟨[],by simp,.nil,.nil⟩,⟨rfl,rfl,rfl⟩,λ_=>⟨rfl,rfl,rfl⟩,λR fin kf hkf=>?_,λR fin kf hkf=>?_⟩
  ·obtain⟨kf,rfl⟩:∃m,kf=m+1:=⟨kf-1,by omega⟩;rw[aF];show cW k _ _ _ fin=_;unfold cW;simp only;rw[decide_eq_false (by omega)];rfl
  ·obtain⟨kf,rfl⟩:∃m,kf=m+1:=⟨kf-1,by omega⟩;rw[aF];show bg k _ _ _ fin=_;unfold bg;simp only
   rw[decide_eq_false (by omega)];rfl
 |n+1,i,s,rs,e,hi,h0,h,he=>by
  obtain⟨e1,s1,r1,g1,g2,⟨d1,dd1,td1,w1,w2⟩,g3,g4,g5,g6⟩:=Mm (e:=e) hk h (by omega) h0 (show i<a by omega) ha (q1:=q1) (q2:=q2) (q4:=q4) (q5:=q5) (q6:=q6) (kd:=kd) (p9:=p9) (q3:=q3) (q7:=q7) hkd;obtain⟨e2,s2,r2,f1,f2,⟨d2,dd2,td2,tr2⟩,f3,f4,f5,f6⟩:=Iu hk (ms:=ms) (ls:=ls) ha (q1:=q1) (q2:=q2) (q4:=q4) (q5:=q5) (q6:=q6) (kd:=kd) (p9:=p9) (q3:=q3) (q7:=q7) hkd n (i+1) s1 r1 e1 (by omega) (by omega) g1 (by omega);refine⟨e2,s2,r2,f1,by omega,⟨d1++d2,by rw[dd2,dd1,RM],td1.app td2,.tick w1 w2 tr2⟩,⟨f3.1.trans g3.1,f3.2.1.trans g3.2.1,f3.2.2.trans g3.2.2⟩,λhn=>?_,λR fin kf hkf=>?_,λR fin kf hkf=>?_⟩
  ·obtain⟨x1,x2,x3⟩:=g5 hn;subst x1 x2 x3;exact f4 hn
  ·obtain⟨kf,rfl⟩:∃m,kf=m+1:=⟨kf-1,by omega⟩;rw[aF];exact(g4 R _ fin).trans (f5 R fin kf (by omega))
  ·obtain⟨kf,rfl⟩:∃m,kf=m+1:=⟨kf-1,by omega⟩;rw[aF];by_cases hn:s.now=1000000
   ·obtain⟨x1,x2,x3⟩:=g5 hn;subst x1 x2 x3;obtain⟨y1,y2,y3⟩:=f4 hn;subst y1 y2 y3;show bg k _ _ _ fin=_;unfold bg;simp only;rw[decide_eq_true (by omega),cond_true,bH,if_pos hn]
   ·refine(g6 hn R _ fin).trans ?_;have:=f6 R fin kf (by omega);rw[g3.1,g3.2.1,g3.2.2]at this;exact this
def Qx (e:List Event) (r:Runtime):List Event× Int× Int× Int× List Task× Int× Int× Int× Int× List Model× List Bool× List Request:=(e,r.sched.now,r.sched.ai,r.sched.age,r.sched.tasks,r.sched.run,r.sched.left,r.sched.turns,r.sched.next,r.ar,r.ax,r.ae)
structure lM (x:Step):Prop where
 byte:∀y∈x.data,okB y
 data:x.data.length<=aN
 input:x.input.tot<=2000000
theorem Mn {r:Runtime} (h:rj r) (x:Step):rj ⟨r.sched,(rq r x).2.1,(rq r x).2.2,r.ae⟩/\(rq r x).1.length<=1:=by
 unfold rq;cases(inB x.a 0 3&&!r.ax.getD x.a.toNat false)
 ·exact⟨⟨h.s,h.ml,h.ll,h.mod,h.req⟩,by simp[dn]⟩
 cases(decide ((dP x.data).2=0)&&rG (dP x.data).1)
 ·exact⟨⟨h.s,h.ml,h.ll,h.mod,h.req⟩,by simp[dn]⟩
 refine⟨⟨h.s,by simp[h.ml],by simp[h.ll],λm hm=>?_,h.req⟩,by simp⟩
 rcases List.mem_or_eq_of_mem_set hm with hm|rfl
 ·exact h.mod m hm
 ·exact sy _
theorem C8 {s:ak} {av:List Int} {due:Int} (h:(eZ s av due).2.2=0):(eZ s av due).2.1=s.next/\(eZ s av due).1.tasks=s.tasks++[⟨s.next,av,0,due,s.now⟩]:=by
 unfold eZ at h⊢;cases c1:(bc s&&ie ⟨s.next,av,0,due,s.now⟩)
 ·rw[c1]at h;exact absurd (show(1:Int)=0 from h) (by decide)
 rw[c1]at h;cases c2:((s.tasks.length:Int)==12||s.next==1000000)
 ·rw[c2]at h;cases c3:zq ⟨s.now,s.ai,s.age,s.tasks++[⟨s.next,av,0,due,s.now⟩],s.run,s.left,s.turns,s.next+1⟩
  ·rw[c3]at h;exact absurd (show(3:Int)=0 from h) (by decide)
  ·exact⟨rfl,rfl⟩
 ·rw[c2]at h;exact absurd (show(2:Int)=0 from h) (by decide)
theorem Fh {r:Runtime} (h:rj r) (x:Step):rj ⟨(eD r x).2.1,r.ar,r.ax,(eD r x).2.2⟩/\(eD r x).1.length<=1:=by
 have same:∀c,rj ⟨(dn x.kind c,r.sched,r.ae).2.1,r.ar,r.ax,(dn x.kind c,r.sched,r.ae).2.2⟩/\(dn x.kind c,r.sched,r.ae).1.length<=1:=λc=>⟨⟨h.s,h.ml,h.ll,h.mod,h.req⟩,by simp[dn]⟩;unfold eD;cases c0:Im r x.a
 ·exact same _
 simp only[cond_true];have c1':=of_decide_eq_true (Sn.1 c0).1;have hmo:=h.ml
 have hmt:(r.ar.getD x.a.toNat cX).tot<=8002000:=by
  rw[bJ (show x.a.toNat<r.ar.length by omega)];exact h.mod _ (Rx _)
 generalize r.ar.getD x.a.toNat cX=m at hmt;cases c2:(de m x.input).2
 ·exact same _
 have hj:uf ⟨m,0,x.input,0⟩=true/\(de m x.input).1=⟨m,0,x.input,0⟩:=by
  unfold de at c2⊢;cases c:uf ⟨m,0,x.input,0⟩
  ·rw[c]at c2;exact nomatch c2
  ·exact⟨rfl,rfl⟩
 rw[hj.2];simp only[cond_true];cases inB x.b 0 1000000
 ·exact same _
 simp only[cond_true];have ho:=NU h.s (bo m) (r.sched.now+x.b);by_cases c3:(eZ r.sched (bo m) (r.sched.now+x.b)).2.2=0
 ·obtain⟨h1,h2⟩:=C8 c3;rw[decide_eq_true c3];simp only[cond_true];refine⟨⟨ho,h.ml,h.ll,h.mod,?_⟩,by simp⟩;show Lk (r.ae++[_]) (eZ r.sched (bo m) (r.sched.now+x.b)).1.tasks;rw[h2];exact h.req.app ⟨h1,hj.1,rfl,rfl,hmt⟩
 ·rw[decide_eq_false c3];exact same _
theorem Fi {r:Runtime} (h:rj r) (x:Step):rj (eE r x).2/\(eE r x).1.length<=13:=by
 unfold eE;cases Im r x.a
 ·exact⟨h,by simp[dn]⟩
 have hu:=zG x.a r.ar r.ax r.ae [] r.sched r.ae (Bw h) h;have hq:=h.Oq;refine⟨⟨hu.1.s,by simp[h.ml],by simp[h.ll],λm hm=>?_,hu.1.req⟩,?_⟩
 ·rcases List.mem_or_eq_of_mem_set hm with hm|rfl
  ·exact h.mod m hm
  ·exact R9 _
 ·have:=hu.2;simp only[R6]at this;simp only[cond_true,RD,RA,R6];omega
theorem Mo {rs:List Request} {id:Int} (h:¬ua rs id<0):∃q∈rs,q.id=id:=by
 unfold ua at h
 cases hf:rs.findIdx? λq=>q.id==id with
 |none=>rw[hf]at h;exact absurd (show(-1:Int)<0 by decide) h
 |some i=>
  obtain⟨hi,hp,_⟩:=SD.1 hf;exact⟨rs[i],Rx hi,by simpa using hp⟩
def rH (s:ak) (e:List Event):ak:=e.foldl (λs v=>cond (v.kind==4) (vw s v.a) s) s
def zI (r:Runtime) (x:Step) (e:List Event) (s':ak):Prop:=
 ((inB x.kind 4 5&&inB x.a 0 200)=true/\Tr (x.kind==5) x.a.toNat r.sched e s')\/
 ((inB x.kind 4 5&&inB x.a 0 200)=false/\((s'=rH r.sched e/\∀v∈e,v.kind≠3)\/∃cs due,e=[⟨2,r.sched.next,due,sA⟩]/\eZ r.sched cs due=(s',r.sched.next,0)))
theorem fw (s:ak) (kd c:Int):s=rH s (dn kd c)/\∀v∈dn kd c,v.kind≠3:=⟨rfl,λv hv=>by rw[SS.1 hv];exact(show¬(5:Int)=3 by decide)⟩
theorem NX (r:Runtime) (x:Step):r.sched=rH r.sched (rq r x).1/\∀v∈(rq r x).1,v.kind≠3:=by
 unfold rq;cases(inB x.a 0 3&&!r.ax.getD x.a.toNat false)
 ·exact fw _ _ _
 cases(decide ((dP x.data).2=0)&&rG (dP x.data).1)
 ·exact fw _ _ _
 ·exact⟨rfl,λv hv=>by rw[SS.1 hv];exact(show¬(0:Int)=3 by decide)⟩
theorem C9 (a:Int) (s0:ak):∀(qs:List Request) (e:List Event) (s:ak) (rs:List Request),s=rH s0 e->(∀v∈e,v.kind≠3)->(vy a qs e s rs).2.1=rH s0 (vy a qs e s rs).1/\∀v∈(vy a qs e s rs).1,v.kind≠3
 |[],e,s,rs,h1,h2=>⟨h1,h2⟩
 |q::qs,e,s,rs,h1,h2=>by
  unfold vy;cases q.model==a
  ·exact C9 a s0 qs e s rs h1 h2
  ·refine C9 a s0 qs _ _ _ (by unfold rH at h1⊢;rw[So,<-h1];rfl) λv hv=>?_
   rcases Sf.1 hv with hv|hv
   ·exact h2 v hv
   ·rw[SS.1 hv];exact(show¬(4:Int)=3 by decide)
theorem JX (r:Runtime) (x:Step):(eE r x).2.sched=rH r.sched (eE r x).1/\∀v∈(eE r x).1,v.kind≠3:=by
 unfold eE;cases Im r x.a
 ·exact fw _ _ _
 obtain⟨h1,h2⟩:=C9 x.a r.sched r.ae [] r.sched r.ae rfl λv hv=>absurd hv (by simp);refine⟨?_,λv hv=>?_⟩
 ·unfold rH at h1⊢;simp only[cond_true];rw[So,<-h1];rfl
 ·rcases Sf.1 hv with hv|hv
  ·exact h2 v hv
  ·rw[SS.1 hv];exact(show¬(1:Int)=3 by decide)
theorem JY (r:Runtime) (x:Step):((eD r x).2.1=rH r.sched (eD r x).1/\∀v∈(eD r x).1,v.kind≠3)\/∃cs due,(eD r x).1=[⟨2,r.sched.next,due,sA⟩]/\eZ r.sched cs due=((eD r x).2.1,r.sched.next,0):=by
 unfold eD;cases Im r x.a
 ·exact .inl (fw _ _ _)
 simp only[cond_true];cases(de (r.ar.getD x.a.toNat cX) x.input).2
 ·exact .inl (fw _ _ _)
 simp only[cond_true];cases inB x.b 0 1000000
 ·exact .inl (fw _ _ _)
 simp only[cond_true];generalize bo (de (r.ar.getD x.a.toNat cX) x.input).1.model=cs;by_cases c3:(eZ r.sched cs (r.sched.now+x.b)).2.2=0
 ·obtain⟨h1,_⟩:=C8 c3;rw[decide_eq_true c3];refine .inr ⟨cs,r.sched.now+x.b,by rw[cond_true,h1],?_⟩;rw[cond_true,<-h1,<-c3]
 ·rw[decide_eq_false c3];exact .inl (fw _ _ _)
def xa (r:Runtime) (x:Step) (e:List Event) (r':Runtime):Prop:=
 (kh (oZ r.ae) e (oZ r'.ae)/\r'.sched.next=r.sched.next)\/
 ∃due,e=[⟨2,r.sched.next,due,sA⟩]/\r'.sched.next=r.sched.next+1/\r'.ae=r.ae++[⟨r.sched.next,x.a,⟨r.ar.getD x.a.toNat cX,0,x.input,0⟩,due⟩]/\r'.ar=r.ar/\0<=x.a/\x.a<4
theorem Mp {r:Runtime} (x:Step):kh (oZ r.ae) (rq r x).1 (oZ r.ae):=by
 have ref:∀c,kh (oZ r.ae) (dn x.kind c) (oZ r.ae):=λc=>.other (by simp) (by simp) (by simp) .nil;unfold rq;cases(inB x.a 0 3&&!r.ax.getD x.a.toNat false)
 ·exact ref _
 cases(decide ((dP x.data).2=0)&&rG (dP x.data).1)
 ·exact ref _
 ·exact .other (by simp) (by simp) (by simp) .nil
theorem Hb {r:Runtime} (h:rj r) (x:Step):xa r x (eD r x).1 ⟨(eD r x).2.1,r.ar,r.ax,(eD r x).2.2⟩:=by
 have ref:∀c,xa r x (dn x.kind c,r.sched,r.ae).1 ⟨(dn x.kind c,r.sched,r.ae).2.1,r.ar,r.ax,(dn x.kind c,r.sched,r.ae).2.2⟩:=λc=>.inl ⟨.other (by simp) (by simp) (by simp) .nil,rfl⟩;unfold eD;cases c0:Im r x.a
 ·exact ref _
 simp only[cond_true];have c1':=of_decide_eq_true (Sn.1 c0).1;cases c2:(de (r.ar.getD x.a.toNat cX) x.input).2
 ·exact ref _
 have hj:(de (r.ar.getD x.a.toNat cX) x.input).1=⟨r.ar.getD x.a.toNat cX,0,x.input,0⟩:=by
  unfold de at c2⊢;cases c:uf ⟨r.ar.getD x.a.toNat cX,0,x.input,0⟩
  ·rw[c]at c2;exact nomatch c2
  ·rfl
 rw[hj];simp only[cond_true];cases inB x.b 0 1000000
 ·exact ref _
 simp only[cond_true];generalize hc:bo (r.ar.getD x.a.toNat cX)=cs;by_cases c3:(eZ r.sched cs (r.sched.now+x.b)).2.2=0
 ·obtain⟨h1,h2⟩:=C8 c3;rw[decide_eq_true c3];simp only[cond_true];refine .inr ⟨r.sched.now+x.b,by rw[h1],?_,by rw[h1],rfl,c1'.1,by omega⟩
  rcases zB r.sched cs (r.sched.now+x.b)with⟨_,_,_,_,g⟩|⟨g,_⟩
  ·show(eZ r.sched cs (r.sched.now+x.b)).1.next=_
   rw[g]
  ·exact(g c3).elim
 ·rw[decide_eq_false c3];exact ref _
theorem Hc {r:Runtime} (h:rj r) (x:Step):kh (oZ r.ae) (eE r x).1 (oZ (eE r x).2.ae):=by
 unfold eE;cases Im r x.a
 ·exact .other (by simp) (by simp) (by simp) .nil
 obtain⟨d,h1,h2⟩:=zH x.a r.ae [] r.sched r.ae h.inc λi hi=>hi;simp only[cond_true];rw[h1,SQ];exact h2.app (.other (by simp) (by simp) (by simp) .nil)
theorem Qy {k:Nat} (hk:20000000<=k) {r:Runtime} (h:rj r) {x:Step} (hx:lM x):∃(e:List Event) (r':Runtime),rj r'/\e.length<=1000/\xa r x e r'/\tK k r x=some (Qx e r')/\iK k r x=some (Qx e r')/\zI r x e r'.sched:=by
 have hM:=aq;have hq:=h.Oq;have ht:=h.tot;unfold tK iK;simp only[bH];by_cases c0:x.kind=0
 ·simp only[if_pos c0];rw[Mg (by omega) hx.byte hx.data h.ll h.ml,Mh (by omega) hx.byte hx.data h.ll h.ml];exact⟨(rq r x).1,⟨r.sched,(rq r x).2.1,(rq r x).2.2,r.ae⟩,(Mn h x).1,by have:=(Mn h x).2;omega,.inl ⟨Mp x,rfl⟩,rfl,rfl,.inr ⟨by rw[c0];rfl,.inl (NX r x)⟩⟩
 simp only[if_neg c0];by_cases c1:x.kind=1
 ·simp only[if_pos c1];obtain⟨i1,i2,i3,i4,i5,i6⟩:=G9 h hk (x:=x);rw[G8 h hk,i1];refine⟨(eE r x).1,(eE r x).2,(Fi h x).1,by have:=(Fi h x).2;omega,.inl ⟨Hc h x,i6⟩,rfl,?_,.inr ⟨by rw[c1];rfl,.inl (JX r x)⟩⟩;simp only[aa,Qx,i2,i3,i4,i5,i6]
 simp only[if_neg c1];by_cases c2:x.kind=2
 ·simp only[if_pos c2];rw[G6 h hk hx.input,G7 h hk hx.input];exact⟨(eD r x).1,⟨(eD r x).2.1,r.ar,r.ax,(eD r x).2.2⟩,(Fh h x).1,by have:=(Fh h x).2;omega,Hb h x,rfl,rfl,.inr ⟨by rw[c2];rfl,JY r x⟩⟩
 simp only[if_neg c2];by_cases c3:x.kind=3
 ·simp only[if_pos c3];unfold gU;rw[ri (by omega) (by omega),aa,vu (by omega) (by omega),aa];by_cases c:ua r.ae x.a<0
  ·rw[decide_eq_true c];unfold bu dD;simp only[cond_true,aa,decide_true];exact⟨dn x.kind 7,r,h,by simp[dn],.inl ⟨.other (by simp) (by simp) (by simp) .nil,rfl⟩,rfl,rfl,.inr ⟨by rw[c3];rfl,.inl (fw _ _ _)⟩⟩
  ·rw[decide_eq_false c];obtain⟨q,hq1,hq2⟩:=Mo c;have hid:1<=x.a:=hq2▸Bw h q hq1;simp only[cond_false];rw[Bv (by omega) (by omega) h.s hid,Fg (by omega) (by omega)];simp only[aa,decide_true,cond_true];exact⟨[Ae x.a],Qv r x.a,Ip h hid,by simp,.inl ⟨.ends (.inr rfl) (by show x.a∈oZ r.ae;unfold oZ;exact Tw.2 ⟨q,hq1,hq2⟩) (λh=>absurd h (show¬(4:Int)=3 by decide)) (by show kh ((oZ r.ae).filter λi=>!(i==x.a)) [] (oZ (wY r.ae x.a));rw[wZ];exact .nil),rfl⟩,rfl,rfl,.inr ⟨by rw[c3];rfl,.inl ⟨rfl,λv hv=>by rw[SS.1 hv];exact(show¬(4:Int)=3 by decide)⟩⟩⟩
 simp only[if_neg c3]
 have run:∀(st:Bool),(x.kind==5)=st->∃(e:List Event) (s':ak) (rs':List Request),rj ⟨s',r.ar,r.ax,rs'⟩/\e.length<=1000/\(kh (oZ r.ae) e (oZ rs')/\((inB x.a 0 200=true/\Tr st x.a.toNat r.sched e s')\/(inB x.a 0 200=false/\s'=rH r.sched e/\∀v∈e,v.kind≠3)))/\(s'.ai=r.sched.ai/\s'.age=r.sched.age/\s'.next=r.sched.next)/\
   j5 k r x st=some (e,s'.now,s'.ai,s'.age,s'.tasks,s'.run,s'.left,s'.turns,s'.next,rs')/\fq k r x=some (e,s'.now,s'.tasks,s'.run,s'.left,s'.turns,rs'):=λst hst=>by
  unfold j5 fq bu dD;rw[cy,aa,fy,aa];cases c:inB x.a 0 200
  ·simp only[RP,cond_true,aa,decide_true];exact⟨dn x.kind 8,r.sched,r.ae,h,by simp[dn],⟨.other (by simp) (by simp) (by simp) .nil,.inr ⟨by first|rfl|trivial,fw _ _ _⟩⟩,⟨rfl,rfl,rfl⟩,rfl,rfl⟩
  have c':=of_decide_eq_true c;simp only[Rw,cond_false,decide_true,cond_true];obtain⟨e,s',rs',g1,g2,⟨d,dd,td,tr⟩,g3,_,g5,g6⟩:=Iu hk (st:=st) (ms:=r.ar) (ls:=r.ax) (a:=x.a) (by omega) (q1:=x.kind) (q2:=x.b) (q4:=x.input.sh.h) (q5:=x.input.sh.w) (q6:=x.input.sh.c) (kd:=x.kind) (p9:=x.a) (q3:=x.data) (q7:=x.input.data) hst x.a.toNat 0 r.sched r.ae [] (by omega) (by omega) h (by simp;omega);refine⟨e,s',rs',g1,?_,⟨by rw[dd];exact td,.inl ⟨by first|rfl|trivial,by rw[dd];exact tr⟩⟩,g3,g5 _ _ k (by omega),g6 _ _ k (by omega)⟩;simp only[R6]at g2;omega
 by_cases c4:x.kind=4
 ·simp only[if_pos c4];obtain⟨e,s',rs',g1,g2,⟨td,tt⟩,g3,g4,g5⟩:=run false (by rw[c4];rfl);rw[g4,g5]
  refine⟨e,⟨s',r.ar,r.ax,rs'⟩,g1,g2,.inl ⟨td,g3.2.2⟩,rfl,?_,by
   rcases tt with⟨t1,t2⟩|⟨t1,t2⟩
   ·exact .inl ⟨by rw[c4,t1];rfl,by rw[c4];exact t2⟩
   ·exact .inr ⟨by rw[c4,t1];rfl,.inl t2⟩⟩
  simp only[aa,Qx,g3.1,g3.2.1,g3.2.2]
 simp only[if_neg c4];by_cases c5:x.kind=5
 ·simp only[if_pos c5];obtain⟨e,s',rs',g1,g2,⟨td,tt⟩,g3,g4,g5⟩:=run true (by rw[c5];rfl);rw[g4,g5]
  refine⟨e,⟨s',r.ar,r.ax,rs'⟩,g1,g2,.inl ⟨td,g3.2.2⟩,rfl,?_,by
   rcases tt with⟨t1,t2⟩|⟨t1,t2⟩
   ·exact .inl ⟨by rw[c5,t1];rfl,by rw[c5];exact t2⟩
   ·exact .inr ⟨by rw[c5,t1];rfl,.inl t2⟩⟩
  simp only[aa,Qx,g3.1,g3.2.1,g3.2.2]
 simp only[if_neg c5];unfold bu dD;simp only[aa];exact⟨dn x.kind 8,r,h,by simp[dn],.inl ⟨.other (by simp) (by simp) (by simp) .nil,rfl⟩,rfl,rfl,.inr ⟨by rw[show inB x.kind 4 5=false from decide_eq_false (by omega)];rfl,.inl (fw _ _ _)⟩⟩
end
set_option maxRecDepth 100000
set_option maxHeartbeats 4000000
section
def rt0 (s:ak):Runtime:=⟨s,List.replicate 4 cX,List.replicate 4 false,[]⟩
def PM:Runtime:=⟨⟨0,0,0,[],0,0,0,0⟩,[],[],[]⟩
theorem zJ {k:Nat} {a b:Int} (hk:0<k):mx k a b=some (cond (bc (wV a b)) (rt0 (wV a b),true) (PM,false)):=by
 unfold mx;rw[NS hk,aa];cases bc (wV a b)<;>rfl
theorem zK {k:Nat} {a b:Int} (hk:0<k):my k a b=some (cond (bc (wV a b)) (rt0 (wV a b),true) (PM,false)):=by
 unfold my;rw[NT hk,aa];cases bc (wV a b)<;>rfl
theorem Qz {a b:Int} (h:bc (wV a b)=true):rj (rt0 (wV a b)):=⟨Oo h,rfl,rfl,λm hm=>by rw[(TH.1 hm).2];exact R9 _,.nil⟩
theorem Hd {xs:List Step} (hx:okS Step.Ok xs) (ht:dj Step.tot xs<=1048576):∀x∈xs,lM x:=λx hm=>by
 have hM:=aq;have h1:=hx.2 x hm;have h2:=da Step.tot hm;have h3:x.tot=x.data.length+(x.input.tot+0):=rfl;exact⟨h1.2.2.2.1.2,by omega,by omega⟩
end
set_option maxRecDepth 100000
set_option maxHeartbeats 4000000
section
def mF (E:List Entry):Prop:=∀(i:Nat) (h:i<E.length),E[i].id=(i:Int)+1
theorem mF.set {E:List Entry} (h:mF E) {j:Nat} {y:Entry} (hy:y.id=(j:Int)+1):mF (E.set j y):=λi hi=>by
 rw[List.getElem_set];by_cases c:j=i
 ·subst c;rw[if_pos rfl];exact hy
 ·rw[if_neg c];exact h i (by simpa using hi)
theorem mF.app {E:List Entry} (h:mF E) {y:Entry} (hy:y.id=(E.length:Int)+1):mF (E++[y]):=λi hi=>by
 rw[List.getElem_append];by_cases c:i<E.length
 ·rw[dif_pos c];exact h i c
 ·rw[dif_neg c];simp only[RD,RA,R6]at hi
  have:i=E.length:=by omega
  subst this;simpa using hy
def NY (now:Int) (ev:Event) (y:Entry):Entry:=⟨y.id,y.model,y.input,y.at_,y.due,cond (ev.kind==4) now ev.b,ev.kind==3⟩
section
variable {k:Nat} {p:List Step× Int× Int× List Event× Int× Int× Int× Int× Int× Int× Int× Int× Int× Int× Int× Int× Int× Int× Int× List Event× Int× Int× Int× Int× Int× Int× List Int× List Request× List Task× List Model× List Bool× List Request} {ev:Event} {now:Int}
 (h1:p.2.2.2.2.2.2.2.2.2.2.2.2.2.2.2.2.2.2.2.2.1=ev.kind) (h2:p.2.2.2.2.2.2.2.2.2.2.2.2.2.2.2.2.2.2.2.2.2.1=ev.a) (h3:p.2.2.2.2.2.2.2.2.2.2.2.2.2.2.2.2.2.2.2.2.2.2.1=ev.b) (h4:p.2.2.1=now)
include h1 h2 h3 h4
theorem PE {R:Type} {E:List Entry} {fin:List Entry->Option R} {j:Nat} (hj:j<E.length) (hE:E.length<=100000) (next:Int× List Entry->Option R):
  fL k p ((j:Int),E) next fin=next (((j+1:Nat):Int),cond (E[j].id==ev.a) (E.set j (NY now ev E[j])) E):=by
 have hM:=aq;have hd0:decide ((j:Int)<(E.length:Int))=true:=decide_eq_true (by omega);have hd:decide (0<=(j:Int)/\(j:Int)<(E.length:Int))=true:=decide_eq_true (by omega);have hg:∀y:Entry,(E.set j y)[j]? =some y:=λy=>R7 hj;unfold fL;simp only[h1,h2,h3,h4,hd0,hd,Rr,RW,cond_true,ag hj,aa,List.set_set,hg,ay hj (show E.length<=9223372036854775807 by omega)];cases c:(E[j].id==ev.a)
 ·rfl
 simp only[cond_true,NY];cases(ev.kind==4)<;>rfl
theorem Da {R:Type} {fin:List Entry->Option R}:∀(n j:Nat) (E:List Entry) (kf:Nat),j+n=E.length->n<kf->E.length<=100000->mF E->
  iter (λu14 n14=>fL k p u14 n14 fin) kf ((j:Int),E)=fin (cond (decide ((j:Int)<ev.a/\ev.a<=(E.length:Int))) (E.set (ev.a-1).toNat (NY now ev (E.getD (ev.a-1).toNat ⟨0,cX,sA,0,0,0,false⟩))) E)
 |_,_,_,0,_,h,_,_=>by omega
 |0,j,E,kf+1,hj,_,_,_=>by
  rw[aF];show fL k p _ _ fin=_;unfold fL;simp only
  rw[decide_eq_false (show¬(j:Int)<(E.length:Int) by omega),cond_false,decide_eq_false (show¬((j:Int)<ev.a/\ev.a<=(E.length:Int)) by omega)];rfl
 |n+1,j,E,kf+1,hj,hk,hE,hP=>by
  have hjl:j<E.length:=by omega
  have hid:=hP j hjl;rw[aF];refine(PE h1 h2 h3 h4 hjl hE _).trans ?_;by_cases c:E[j].id=ev.a
  ·rw[show(E[j].id==ev.a)=true from by simpa using c,cond_true]
   have e1:(ev.a-1).toNat=j:=by omega
   have hP2:mF (E.set j (NY now ev E[j])):=hP.set (by show E[j].id=_;exact hid);refine(Da n (j+1) _ kf (by simp;omega) (by omega) (by simpa using hE) hP2).trans ?_;rw[RW,decide_eq_false (by omega),decide_eq_true (by omega),e1,bJ hjl];rfl
  ·rw[show(E[j].id==ev.a)=false from by simpa using c,cond_false];refine(Da n (j+1) E kf (by omega) (by omega) hE hP).trans ?_;by_cases d:((j+1:Nat):Int)<ev.a/\ev.a<=(E.length:Int)
   ·rw[decide_eq_true d,decide_eq_true (by omega)]
   ·rw[decide_eq_false d,decide_eq_false (by omega)]
end
end
set_option maxRecDepth 100000
set_option maxHeartbeats 4000000
section
def noEntry:Entry:=⟨0,cX,sA,0,0,0,false⟩
def dT (now:Int) (E:List Entry) (ev:Event):List Entry:=cond (ev.kind==3||ev.kind==4) (E.set (ev.a-1).toNat (NY now ev (E.getD (ev.a-1).toNat noEntry))) E
def Live (E:List Entry) (ids:List Int):Prop:=∀i∈ids,1<=i/\i<=E.length/\(E.getD (i-1).toNat noEntry).done=false
theorem nJ (now:Int) (E:List Entry) (ev:Event):(dT now E ev).length=E.length:=by
 unfold dT;cases(ev.kind==3||ev.kind==4)<;>simp
theorem uc {now:Int} {E:List Entry} {ev:Event} (h:mF E):mF (dT now E ev):=by
 unfold dT;cases(ev.kind==3||ev.kind==4)
 ·exact h
 ·intro i hi
  have hi':i<E.length:=by simpa using hi
  simp only[cond_true];rw[List.getElem_set];by_cases c:(ev.a-1).toNat=i
  ·rw[if_pos c,c,bJ hi'];exact h i hi'
  ·rw[if_neg c];exact h i hi'
theorem sC {now:Int} {E:List Entry} {ev:Event} {ids:List Int} (h:Live E ids) (ha:1<=ev.a):Live (dT now E ev) (ids.filter λi=>!(i==ev.a)):=λi hi=>by
 obtain⟨h1,h2⟩:=Sg.1 hi;obtain⟨g1,g2,g3⟩:=h i h1
 have hne:i≠ev.a:=by simpa using h2
 refine⟨g1,by rw[nJ];exact g2,?_⟩;unfold dT;cases(ev.kind==3||ev.kind==4)
 ·exact g3
 ·simp only[cond_true];rw[RU,SX (by omega),<-RU];exact g3
theorem Ra {k:Nat} {p:List Step× Int× Int× List Event× Int× Int× Int× Int× Int× Int× Int× Int× Int× Int× Int× Int× Int× Int× List Request× List Task× List Model× List Bool× List Request} {now:Int} (h4:p.2.2.1=now) {R:Type} {fin:List Entry× List Event->Option R} {es:List Event} {ids ids':List Int} (ht:kh ids es ids'):∀(pre:List Event) (E:List Entry) (evs:List Event) (kf:Nat),p.2.2.2.1=pre++es->es.length<kf->E.length+10<k->E.length<=100000->(pre++es).length<=100000->evs.length+es.length<=1000000->mF E->Live E ids->
  iter (λu22 n22=>dt k p u22 n22 fin) kf ((pre.length:Int),E,evs)=fin (es.foldl (dT now) E,evs++es):=by
 have hM:=aq
 induction ht with
 |nil=>
  intro pre E evs kf hL hk _ _ _ _ _ _;obtain⟨kf,rfl⟩:∃m,kf=m+1:=⟨kf-1,by simp at hk;omega⟩;rw[aF];show dt k p _ _ fin=_;unfold dt;simp only
  rw[hL,decide_eq_false (by simp),cond_false,RV];rfl
 |other k2 k3 k4 ht ih=>
  rename_i ids0 ids1 e es;intro pre E evs kf hL hk hE1 hE2 hl hv hP hLv;obtain⟨kf,rfl⟩:∃m,kf=m+1:=⟨kf-1,by simp at hk;omega⟩
  have hlen:(pre++e::es).length=pre.length+(es.length+1):=by simp
  simp only[RA]at hk hv;rw[aF]
  have st:∀next,dt k p ((pre.length:Int),E,evs) next fin=next (((pre++[e]).length:Int),E,evs++[e]):=λnext=>by
   unfold dt;simp only;rw[hL,decide_eq_true (by omega),cond_true,aC,show(pre++e::es)[pre.length]? =some e from by simp,aa,cw (by omega),bH,if_neg k2,bH,if_neg k3,bH,if_neg k4,aG (by omega) (by omega),RD];rfl
  refine(st _).trans ((ih (pre++[e]) E (evs++[e]) kf (by rw[hL];simp) (by omega) hE1 hE2 (by simpa using hl) (by simp;omega) hP hLv).trans ?_);rw[Sq,show dT now E e=E from by unfold dT;rw[show(e.kind==3)=false from by simpa using k3,show(e.kind==4)=false from by simpa using k4];rfl]
  simp
 |ends kk hm ko ht ih=>
  rename_i ids0 ids1 e es;intro pre E evs kf hL hk hE1 hE2 hl hv hP hLv;obtain⟨kf,rfl⟩:∃m,kf=m+1:=⟨kf-1,by simp at hk;omega⟩
  have hlen:(pre++e::es).length=pre.length+(es.length+1):=by simp
  simp only[RA]at hk hv;obtain⟨a1,a2,a3⟩:=hLv _ hm;rw[aF]
  have hap:dT now E e=E.set (e.a-1).toNat (NY now e (E.getD (e.a-1).toNat noEntry)):=by
   unfold dT
   rcases kk with kk|kk<;>rw[kk]<;>rfl
  have st:∀next,dt k p ((pre.length:Int),E,evs) next fin=next (((pre++[e]).length:Int),dT now E e,evs++[e]):=λnext=>by
   rw[hap];unfold dt;simp only;rw[hL,decide_eq_true (by omega),cond_true,aC,show(pre++e::es)[pre.length]? =some e from by simp,aa,cw (by omega),bH,if_neg (by rcases kk with kk|kk<;>rw[kk]<;>decide),bH]
   rcases kk with kk|kk
   ·rw[if_pos kk];refine(Da (ev:=e) (now:=now) (by rfl) (by rfl) (by rfl) h4 E.length 0 E k (by omega) (by omega) hE2 hP).trans ?_;rw[decide_eq_true (by omega),cond_true,aG (by omega) (by omega),RD];rfl
   ·rw[if_neg (by rw[kk];decide),bH,if_pos kk];refine(Da (ev:=e) (now:=now) (by rfl) (by rfl) (by rfl) h4 E.length 0 E k (by omega) (by omega) hE2 hP).trans ?_;rw[decide_eq_true (by omega),cond_true,aG (by omega) (by omega),RD];rfl
  refine(st _).trans ((ih (pre++[e]) (dT now E e) (evs++[e]) kf (by rw[hL];simp) (by omega) (by rw[nJ];exact hE1) (by rw[nJ];exact hE2) (by simpa using hl) (by simp;omega) (uc hP) (sC hLv a1)).trans ?_);rw[Sq];simp
theorem Rb {k:Nat} {p:Int× List Step× Int× Int× List Event× Int× Int× Int× Int× Int× Int× Int× Int× Int× Int× Int× Int× Int× Int× Int× Int× Int× Int× List Int× Int× Int× Int× List Int× List Request× List Task× List Model× List Bool× List Request} {now:Int} (h4:p.1=now) {R:Type} {fin:List Event× List Entry->Option R} {es:List Event} {ids ids':List Int} (ht:kh ids es ids'):∀(pre:List Event) (E:List Entry) (evs:List Event) (kf:Nat),p.2.2.2.2.1=pre++es->p.2.2.2.2.2.1=((pre++es).length:Int)->es.length<kf->E.length<=100000->(pre++es).length<=100000->evs.length+es.length<=1000000->Live E ids->
  iter (λu12 n12=>dX k p u12 n12 fin) kf ((pre.length:Int),evs,E)=fin (evs++es,es.foldl (dT now) E):=by
 have hM:=aq
 induction ht with
 |nil=>
  intro pre E evs kf hL hL2 hk _ _ _ _;obtain⟨kf,rfl⟩:∃m,kf=m+1:=⟨kf-1,by simp at hk;omega⟩;rw[aF];show dX k p _ _ fin=_;unfold dX;simp only
  rw[hL2,decide_eq_false (by simp),cond_false,RV];rfl
 |other k2 k3 k4 ht ih=>
  rename_i ids0 ids1 e es;intro pre E evs kf hL hL2 hk hE2 hl hv hLv;obtain⟨kf,rfl⟩:∃m,kf=m+1:=⟨kf-1,by simp at hk;omega⟩
  have hlen:(pre++e::es).length=pre.length+(es.length+1):=by simp
  simp only[RA]at hk hv;rw[aF]
  have st:∀next,dX k p ((pre.length:Int),evs,E) next fin=next (((pre++[e]).length:Int),evs++[e],E):=λnext=>by
   unfold dX;simp only;rw[hL2,hL,decide_eq_true (by omega),cond_true,aC,show(pre++e::es)[pre.length]? =some e from by simp,aa,cw (by omega),bH,if_neg k2,bH,if_neg k3,bH,if_neg k4,aG (by omega) (by omega),RD];rfl
  refine(st _).trans ((ih (pre++[e]) E (evs++[e]) kf (by rw[hL];simp) (by rw[hL2];simp) (by omega) hE2 (by simpa using hl) (by simp;omega) hLv).trans ?_);rw[Sq,show dT now E e=E from by unfold dT;rw[show(e.kind==3)=false from by simpa using k3,show(e.kind==4)=false from by simpa using k4];rfl]
  simp
 |ends kk hm ko ht ih=>
  rename_i ids0 ids1 e es;intro pre E evs kf hL hL2 hk hE2 hl hv hLv;obtain⟨kf,rfl⟩:∃m,kf=m+1:=⟨kf-1,by simp at hk;omega⟩
  have hlen:(pre++e::es).length=pre.length+(es.length+1):=by simp
  simp only[RA]at hk hv;obtain⟨a1,a2,a3⟩:=hLv _ hm;rw[aF]
  have hi:(e.a-1).toNat<E.length:=by omega
  have hap:dT now E e=E.set (e.a-1).toNat (NY now e (E.getD (e.a-1).toNat noEntry)):=by
   unfold dT
   rcases kk with kk|kk<;>rw[kk]<;>rfl
  have st:∀next,dX k p ((pre.length:Int),evs,E) next fin=next (((pre++[e]).length:Int),evs++[e],dT now E e):=λnext=>by
   rw[hap];rw[bJ hi]at a3⊢;unfold dX;simp only;rw[hL2,hL,decide_eq_true (by omega),cond_true,aC,show(pre++e::es)[pre.length]? =some e from by simp,aa,cw (by omega),bH,if_neg (by rcases kk with kk|kk<;>rw[kk]<;>decide),bH,aG (n:=e.a-1) (by omega) (by omega),aG (n:=(pre.length:Int)+1) (by omega) (by omega),h4]
   rcases kk with kk|kk
   ·rw[if_pos kk,decide_eq_true (by omega),cond_true,ag hi,aa,RW,decide_eq_true (by omega),cond_true,R7 hi,aa,List.set_set,RD];unfold NY;rw[kk];rfl
   ·rw[if_neg (by rw[kk];decide),bH,if_pos kk,decide_eq_true (by omega),cond_true,ag hi,aa,RD];unfold NY;rw[kk,a3];rfl
  refine(st _).trans ((ih (pre++[e]) (dT now E e) (evs++[e]) kf (by rw[hL];simp) (by rw[hL2];simp) (by omega) (by rw[nJ];exact hE2) (by simpa using hl) (by simp;omega) (sC hLv a1)).trans ?_);rw[Sq];simp
end
set_option maxRecDepth 100000
set_option maxHeartbeats 4000000
section
structure Db (r:Runtime) (E:List Entry) (evs:List Event) (n:Nat):Prop where
 ok:rj r
 next:r.sched.next=(E.length:Int)+1
 Mq:mF E
 live:Live E (oZ r.ae)
 Ri:E.length<=n
 Ro:evs.length<=1000*n
 ended:∀e∈evs,e.kind=3->1<=e.a/\e.a<=E.length/\e.out.okB=true
 small:∀y∈E,y.model.tot<=8002000/\y.input.tot<=2000000
theorem kh.sub {ids ids':List Int} {es:List Event} (h:kh ids es ids'):∀i∈ids',i∈ids:=by
 induction h with
 |nil=>exactλi h=>h
 |other _ _ _ _ ih=>exact ih
 |ends _ _ _ _ ih=>exactλi hi=>(Sg.1 (ih i hi)).1
theorem kh.told {ids ids':List Int} {es:List Event} (h:kh ids es ids'):∀e∈es,e.kind=3->e.a∈ids/\e.out.okB=true:=by
 induction h with
 |nil=>exactλe he=>absurd he (by simp)
 |other k2 k3 k4 _ ih=>
  intro e he hk
  rcases RN.1 he with rfl|he
  ·exact absurd hk k3
  ·exact ih e he hk
 |ends kk hm ho _ ih=>
  intro e he hk
  rcases RN.1 he with rfl|he
  ·exact⟨hm,ho hk⟩
  ·obtain⟨g1,g2⟩:=ih e he hk;exact⟨(Sg.1 g1).1,g2⟩
theorem Fj {P:Model->al->Prop} {now:Int} {E:List Entry} {ev:Event} (h:∀y∈E,P y.model y.input):∀y∈dT now E ev,P y.model y.input:=by
 unfold dT;cases(ev.kind==3||ev.kind==4)
 ·exact h
 ·intro y hy
  rcases List.mem_or_eq_of_mem_set hy with hy|rfl
  ·exact h y hy
  ·by_cases c:(ev.a-1).toNat<E.length
   ·rw[bJ c];exact h E[(ev.a-1).toNat] (Rx c)
   ·rw[cond_true,List.set_eq_of_length_le (by omega)]at hy;exact h _ hy
theorem rI {P:Model->al->Prop} {now:Int}:∀{es:List Event} {E:List Entry},(∀y∈E,P y.model y.input)->∀y∈es.foldl (dT now) E,P y.model y.input
 |[],_,h=>h
 |e::es,E,h=>rI (es:=es) (Fj h)
theorem NZ {now:Int} {ids ids':List Int} {es:List Event} (h:kh ids es ids'):∀{E:List Entry},mF E->Live E ids->mF (es.foldl (dT now) E)/\Live (es.foldl (dT now) E) ids'/\(es.foldl (dT now) E).length=E.length:=by
 induction h with
 |nil=>exactλhP hL=>⟨hP,hL,rfl⟩
 |other k2 k3 k4 _ ih=>
  rename_i e es _;intro E hP hL;rw[Sq,show dT now E e=E from by unfold dT;rw[show(e.kind==3)=false from by simpa using k3,show(e.kind==4)=false from by simpa using k4];rfl]
  exact ih hP hL
 |ends kk hm _ _ ih=>
  intro E hP hL;rw[Sq];obtain⟨g1,g2,g3⟩:=ih (uc (now:=now) hP) (sC (now:=now) hL (hL _ hm).1);exact⟨g1,g2,g3.trans (nJ _ _ _)⟩
theorem Mr {rs:List Request} {q:Request} (h:∀i∈oZ rs,i<q.id):ua (rs++[q]) q.id=(rs.length:Int):=qh (qo:=[]) λv hv=>by
 have:=h v.id (Tw.2 ⟨v,hv,rfl⟩);omega
theorem N0 {E:List Entry} {ids:List Int} (h:Live E ids) (y:Entry):Live (E++[y]) ids:=λi hi=>by
 obtain⟨g1,g2,g3⟩:=h i hi;refine⟨g1,by simp;omega,?_⟩;rw[bJ (by omega)]at g3;rw[bJ (by simp;omega),List.getElem_append_left (by omega)];exact g3
theorem Iv {V R:Type} {g:V->(V->Option R)->Option R} {v w:V} {r:Option R} (h1:∀next,g v next=next w) (h2:∀next,g w next=r) {kf:Nat} (hk:2<=kf):iter g kf v=r:=by
 obtain⟨m,rfl⟩:∃m,kf=m+1+1:=⟨kf-2,by omega⟩;rw[aF,h1,aF,h2]
theorem Iw {α:Type} (x:α) (l:List α):idx (x::l) (0:Int)=some x:=rfl
def Made (r:Runtime) (x:Step) (e:List Event) (E E1:List Entry) (r':Runtime):Prop:=
 (kh (oZ r.ae) e (oZ r'.ae)/\E1=e.foldl (dT r.sched.now) E)\/
 ∃due,e=[⟨2,r.sched.next,due,sA⟩]/\r'.sched.next=r.sched.next+1/\E1=E++[⟨r.sched.next,r.ar.getD x.a.toNat cX,x.input,r.sched.now,due,-1,false⟩]
theorem N1 {k:Nat} (hk:20000000<=k) {r r':Runtime} {x:Step} {e:List Event} {E:List Entry} {evs:List Event} {n:Nat} (hx:lM x) (h:Db r E evs n) (h':rj r') (he:e.length<=1000) (hn:n<=200) (ht:xa r x e r'):
  ∃E1:List Entry,Made r x e E E1 r'/\Db r' E1 (evs++e) (n+1)/\
   (∀{R:Type} {p:List Step× Int× Int× List Event× Int× Int× Int× Int× Int× Int× Int× Int× Int× Int× Int× Int× Int× Int× List Request× List Task× List Model× List Bool× List Request} {fin:List Entry× List Event->Option R},p.2.2.1=r.sched.now->p.2.2.2.1=e->(⟨(⟨p.2.2.2.2.2.2.2.2.2.2.2.1,p.2.2.2.2.2.2.2.2.2.2.2.2.1,p.2.2.2.2.2.2.2.2.2.2.2.2.2.1,p.2.2.2.2.2.2.2.2.2.2.2.2.2.2.2.2.2.2.2.1,p.2.2.2.2.2.2.2.2.2.2.2.2.2.2.1,p.2.2.2.2.2.2.2.2.2.2.2.2.2.2.2.1,p.2.2.2.2.2.2.2.2.2.2.2.2.2.2.2.2.1,p.2.2.2.2.2.2.2.2.2.2.2.2.2.2.2.2.2.1⟩:ak),p.2.2.2.2.2.2.2.2.2.2.2.2.2.2.2.2.2.2.2.2.1,p.2.2.2.2.2.2.2.2.2.2.2.2.2.2.2.2.2.2.2.2.2.1,p.2.2.2.2.2.2.2.2.2.2.2.2.2.2.2.2.2.2.2.2.2.2⟩:Runtime)=r'->iter (λu22 n22=>dt k p u22 n22 fin) k ((0:Int),E,evs)=fin (E1,evs++e))/\
   (∀{R:Type} {p:Int× List Step× Int× Int× List Event× Int× Int× Int× Int× Int× Int× Int× Int× Int× Int× Int× Int× Int× Int× Int× Int× Int× Int× List Int× Int× Int× Int× List Int× List Request× List Task× List Model× List Bool× List Request} {fin:List Event× List Entry->Option R},p.1=r.sched.now->p.2.2.2.2.1=e->p.2.2.2.2.2.1=(e.length:Int)->p.2.2.2.2.2.2.2.2.2.2.2.2.2.2.2.2.2.2.2.2.2.1=x.a->p.2.2.2.2.2.2.2.2.2.2.2.2.2.2.2.2.2.2.2.2.2.2.2.2.2.2.2.2.2.2.1=r'.ar->(⟨(⟨p.2.2.2.2.2.2.2.2.2.2.2.2.2.2.2.2.2.2.2.2.2.2.2.2.1,p.2.2.2.2.2.2.2.2.2.2.2.2.2.2.2.2.2.2.2.2.2.2.2.2.2.1,p.2.2.2.2.2.2.2.2.2.2.2.2.2.2.2.2.2.2.2.2.2.2.2.2.2.2.1⟩:Shape),p.2.2.2.2.2.2.2.2.2.2.2.2.2.2.2.2.2.2.2.2.2.2.2.2.2.2.2.1⟩:al)=x.input->iter (λu12 n12=>dX k p u12 n12 fin) k ((0:Int),evs,E)=fin (evs++e,E1)):=by
 have hM:=aq;have hel:=h.Ri;have hvl:=h.Ro
 rcases ht with⟨ht,hnx⟩|⟨due,rfl,hnx,hrq,hms,xa0,xa1⟩
 ·obtain⟨g1,g2,g3⟩:=NZ (now:=r.sched.now) ht h.Mq h.live;refine⟨e.foldl (dT r.sched.now) E,.inl ⟨ht,rfl⟩,⟨h',by rw[hnx,h.next,g3],g1,g2,by omega,by rw[RD];omega,λv hv hk=>?_,rI (P:=λm t=>m.tot<=8002000/\t.tot<=2000000) h.small⟩,λ{R} {p} {fin} q1 q2 q3=>?_,λ{R} {p} {fin} q1 q2 q3 q4 q5 q6=>?_⟩
  ·rw[g3]
   rcases Sf.1 hv with hv|hv
   ·exact h.ended v hv hk
   ·obtain⟨c1,c2⟩:=ht.told v hv hk;obtain⟨d1,d2,_⟩:=h.live _ c1;exact⟨d1,d2,c2⟩
  ·exact Ra q1 ht [] E evs k q2 (by omega) (by omega) (by omega) (by simpa using(show e.length<=100000 by omega)) (by omega) h.Mq h.live
  ·exact Rb q1 ht [] E evs k q2 q3 (by omega) (by omega) (by simpa using(show e.length<=100000 by omega)) (by omega) h.live
 ·have hmo:=h.ok.ml
  have hi:x.a.toNat<r.ar.length:=by omega
  have hmt:=h.ok.mod _ (Rx hi);have hxi:=hx.input;have hxt:x.input.tot=x.input.data.length:=rfl;refine⟨E++[⟨r.sched.next,r.ar.getD x.a.toNat cX,x.input,r.sched.now,due,-1,false⟩],.inr ⟨due,rfl,hnx,rfl⟩,⟨h',by rw[hnx,h.next];simp,h.Mq.app (by show r.sched.next=_;exact h.next),λi hi=>?_,by simp;omega,by simp;omega,λv hv hk=>?_,λy hy=>?_⟩,λ{R} {p} {fin} q1 q2 q3=>?_,λ{R} {p} {fin} q1 q2 q3 q4 q5 q6=>?_⟩
  ·rw[hrq]at hi;unfold oZ at hi;rw[SB]at hi
   rcases Sf.1 hi with hi|hi
   ·exact N0 h.live _ i hi
   ·obtain rfl:i=r.sched.next:=by simpa using hi
    have hnext:=h.next;refine⟨by omega,by simp;omega,?_⟩;rw[show(r.sched.next-1).toNat=E.length from by omega,bJ (by simp),List.getElem_append_right (RJ _)];simp
  ·rcases Sf.1 hv with hv|hv
   ·obtain⟨d1,d2,d3⟩:=h.ended v hv hk;exact⟨d1,by simp;omega,d3⟩
   ·obtain rfl:v=⟨2,r.sched.next,due,sA⟩:=by simpa using hv
    exact absurd hk (show¬(2:Int)=3 by decide)
  ·rcases Sf.1 hy with hy|hy
   ·exact h.small y hy
   ·obtain rfl:y=_:=SS.1 hy;exact⟨by rw[bJ hi];exact hmt,by show x.input.tot<=_;omega⟩
  ·refine Iv (w:=((1:Int),E++[⟨r.sched.next,r.ar.getD x.a.toNat cX,x.input,r.sched.now,due,-1,false⟩],evs++[⟨2,r.sched.next,due,sA⟩])) (λnext=>?_) (λnext=>?_) (by omega)
   ·have hr:=congrArg Runtime.ae q3;simp only at hr;have hlt:∀i∈oZ r.ae,i<r.sched.next:=λi hi=>(h.ok.lt i hi).2;have hq:=h.ok.Oq;have hfr:=Mr (q:=⟨r.sched.next,x.a,⟨r.ar.getD x.a.toNat cX,0,x.input,0⟩,due⟩) hlt;unfold dt;simp only;rw[q2,q3,hr,hrq,decide_eq_true (by simp),cond_true,Iw,aa,cw (by omega),bH,if_pos rfl,ri (by rw[hrq];simp;omega) (by rw[hrq];simp;omega),aa,hrq];simp only;rw[hfr,decide_eq_true (by simp;omega),cond_true,Rr,Rs (RJ _),Nat.sub_self,Tj,aa,bJ hi,pY (by show r.ar[x.a.toNat].tot<k;omega) (by show r.ar[x.a.toNat].tot<=aN;omega),aa,pV (by show x.input.data.length<k;omega) (by show x.input.data.length<=aN;omega),aa,cw (by omega),q1];rfl
   ·unfold dt;simp only;rw[q2,decide_eq_false (by simp),cond_false]
  ·refine Iv (w:=((1:Int),evs++[⟨2,r.sched.next,due,sA⟩],E++[⟨r.sched.next,r.ar.getD x.a.toNat cX,x.input,r.sched.now,due,-1,false⟩])) (λnext=>?_) (λnext=>?_) (by omega)
   ·unfold dX;simp only;rw[q2,q3,q4,q5,q6,decide_eq_true (by simp),cond_true,Iw,aa,cw (by omega),bH,if_pos rfl,hms,decide_eq_true (by omega),cond_true,ag hi,aa,bJ hi,nE (by omega) (by omega),aa,mA (by omega),aa,cw (by omega),q1];rfl
   ·unfold dX;simp only;rw[q3,decide_eq_false (by simp),cond_false]
end
set_option maxRecDepth 100000
set_option maxHeartbeats 4000000
section
theorem Bx {k:Nat} (hk:20000000<=k) {steps:List Step} (hs:∀x∈steps,lM x) (hl:steps.length<=200) {a1 a2 a3 a4 a5 a6 a7 b1 b2 b3 b4 b5 b6 b7:Int} {Q:List Step->Runtime->List Entry->Prop}
    (hQ:∀(pre:List Step) (x:Step) (r r':Runtime) (E E1:List Entry) (evs e:List Event),Db r E evs pre.length->pre.length<200->Q pre r E->zI r x e r'.sched->Made r x e E E1 r'->Q (pre++[x]) r' E1):∀(qs pre:List Step) (r:Runtime) (E:List Entry) (evs:List Event),steps=pre++qs->Db r E evs pre.length->Q pre r E->
    ∃ (r' : Runtime) (E' : List Entry) (evs' : List Event), Db r' E' evs' steps.length /\ Q steps r' E' /\
      (∀{R:Type} {fin:_->Option R} {kf:Nat},qs.length<kf->iter (λu24 n24=>gV k (steps,a1,a2,a3,a4,a5,a6,a7,[]) u24 n24 fin) kf ((pre.length:Int),r.sched.now,r.sched.ai,r.sched.age,r.sched.run,r.sched.left,r.sched.turns,r.sched.next,E,evs,r.sched.tasks,r.ar,r.ax,r.ae)=fin (r'.sched.now,r'.sched.ai,r'.sched.age,r'.sched.run,r'.sched.left,r'.sched.turns,r'.sched.next,E',evs',r'.sched.tasks,r'.ar,r'.ax,r'.ae))/\
      (∀{R:Type} {fin:_->Option R} {kf:Nat},qs.length<kf->iter (λu14 n14=>jk k (steps,(steps.length:Int),b1,b2,b3,b4,b5,b6,b7,[]) u14 n14 fin) kf ((pre.length:Int),r.sched.now,r.sched.ai,r.sched.age,r.sched.run,r.sched.left,r.sched.turns,r.sched.next,evs,E,r.sched.tasks,r.ar,r.ax,r.ae)=fin (r'.sched.now,r'.sched.ai,r'.sched.age,r'.sched.run,r'.sched.left,r'.sched.turns,r'.sched.next,evs',E',r'.sched.tasks,r'.ar,r'.ax,r'.ae))
  | [], pre, r, E, evs, hp, h, hq => by
    have hlen:steps.length=pre.length:=by rw[hp];simp
    refine⟨r,E,evs,by rw[hlen];exact h,by rw[hp,RV];exact hq,λ{R} {fin} {kf} hkf=>?_,λ{R} {fin} {kf} hkf=>?_⟩
    · obtain⟨kf,rfl⟩:∃m,kf=m+1:=⟨kf-1,by simp at hkf;omega⟩;rw[aF];show gV k _ _ _ fin=_;unfold gV;simp only;rw[decide_eq_false (by omega)];rfl
    · obtain⟨kf,rfl⟩:∃m,kf=m+1:=⟨kf-1,by simp at hkf;omega⟩;rw[aF];show jk k _ _ _ fin=_;unfold jk;simp only
      rw[decide_eq_false (by omega)];rfl
  | x :: qs, pre, r, E, evs, hp, h, hq => by
    have hM:=aq
    have hlen:steps.length=pre.length+(qs.length+1):=by rw[hp];simp
    have hat:idx steps (pre.length:Int)=some x:=by rw[aC,hp];simp
    have hx:=hs x (by rw[hp];simp);obtain⟨e,r',h',he,ht,e1,e2,hsc⟩:=Qy hk h.ok hx
    have hw:IntKind.i64.wrap ((pre.length:Int)+1)=((pre++[x]).length:Int):=by rw[aG (by omega) (by omega),RD];rfl
    obtain⟨E1,hmd,hst,hS,hI⟩:=N1 hk hx h h' he (by omega) ht;obtain⟨r2,E2,evs2,g1,gQ,g2,g3⟩:=Bx hk hs hl (a1:=a1) (a2:=a2) (a3:=a3) (a4:=a4) (a5:=a5) (a6:=a6) (a7:=a7) (b1:=b1) (b2:=b2) (b3:=b3) (b4:=b4) (b5:=b5) (b6:=b6) (b7:=b7) hQ qs (pre++[x]) r' E1 (evs++e) (by rw[hp];simp) (by rw[RD];exact hst) (hQ pre x r r' E E1 evs e h (by omega) hq hsc hmd);refine⟨r2,E2,evs2,g1,gQ,λ{R} {fin} {kf} hkf=>?_,λ{R} {fin} {kf} hkf=>?_⟩
    · obtain⟨kf,rfl⟩:∃m,kf=m+1:=⟨kf-1,by simp at hkf;omega⟩;rw[aF,<-g2 (fin:=fin) (kf:=kf) (by simp at hkf;omega)]
      have st:∀next,gV k (steps,a1,a2,a3,a4,a5,a6,a7,[]) ((pre.length:Int),r.sched.now,r.sched.ai,r.sched.age,r.sched.run,r.sched.left,r.sched.turns,r.sched.next,E,evs,r.sched.tasks,r.ar,r.ax,r.ae) next fin=next (((pre++[x]).length:Int),r'.sched.now,r'.sched.ai,r'.sched.age,r'.sched.run,r'.sched.left,r'.sched.turns,r'.sched.next,E1,evs++e,r'.sched.tasks,r'.ar,r'.ax,r'.ae):=λnext=>by
        unfold gV;simp only;rw[decide_eq_true (by omega),cond_true,hat,aa,show(⟨⟨r.sched.now,r.sched.ai,r.sched.age,r.sched.tasks,r.sched.run,r.sched.left,r.sched.turns,r.sched.next⟩,r.ar,r.ax,r.ae⟩:Runtime)=r from rfl,e1,aa,hw];exact hS rfl rfl rfl
      exact st _
    · obtain⟨kf,rfl⟩:∃m,kf=m+1:=⟨kf-1,by simp at hkf;omega⟩;rw[aF,<-g3 (fin:=fin) (kf:=kf) (by simp at hkf;omega)]
      have st:∀next,jk k (steps,(steps.length:Int),b1,b2,b3,b4,b5,b6,b7,[]) ((pre.length:Int),r.sched.now,r.sched.ai,r.sched.age,r.sched.run,r.sched.left,r.sched.turns,r.sched.next,evs,E,r.sched.tasks,r.ar,r.ax,r.ae) next fin=next (((pre++[x]).length:Int),r'.sched.now,r'.sched.ai,r'.sched.age,r'.sched.run,r'.sched.left,r'.sched.turns,r'.sched.next,evs++e,E1,r'.sched.tasks,r'.ar,r'.ax,r'.ae):=λnext=>by
        unfold jk;simp only;rw[decide_eq_true (by omega),cond_true,hat,aa,show(⟨⟨r.sched.now,r.sched.ai,r.sched.age,r.sched.tasks,r.sched.run,r.sched.left,r.sched.turns,r.sched.next⟩,r.ar,r.ax,r.ae⟩:Runtime)=r from rfl,e2,aa,hw];exact hI rfl rfl rfl rfl rfl rfl
      exact st _
theorem QA {a b:Int} (h:bc (wV a b)=true):Db (rt0 (wV a b)) [] [] 0:=⟨Qz h,rfl,λi hi=>absurd hi (by simp),(λi hi=>nomatch hi),RJ _,RJ _,λe h=>(by cases h),λy h=>(by cases h)⟩
theorem He {k:Nat} (hk:20000000<=k) {a b:Int} {xs:List Step} (hs:∀x∈xs,lM x) {Q:List Step->Runtime->List Entry->Prop}
  (hQ:∀(pre:List Step) (x:Step) (r r':Runtime) (E E1:List Entry) (evs e:List Event),Db r E evs pre.length->pre.length<200->Q pre r E->zI r x e r'.sched->Made r x e E E1 r'->Q (pre++[x]) r' E1) (h0:bc (wV a b)=true->Q [] (rt0 (wV a b)) []):
  (iL k a b xs=some ([],[],(iL k a b xs).elim PM (λv=>v.2.2.1),false)/\sg k a b xs=some (PM,[],[],false)/\(iL k a b xs).isSome/\(bc (wV a b)&&decide (xs.length<=200))=false)\/
  ∃(r:Runtime) (E:List Entry) (evs:List Event),Db r E evs xs.length/\xs.length<=200/\(Q xs r E/\bc (wV a b)=true)/\iL k a b xs=some (E,evs,r,true)/\sg k a b xs=some (r,evs,E,true):=by
 unfold iL sg;rw[zJ (by omega),zK (by omega),aa,aa];cases c:bc (wV a b)
 ·exact .inl ⟨rfl,rfl,rfl,rfl⟩
 simp only[cond_true,Rw,cond_false];by_cases c2:(xs.length:Int)>200
 ·rw[decide_eq_true c2];exact .inl ⟨rfl,rfl,rfl,by rw[decide_eq_false (by omega)];rfl⟩
 rw[decide_eq_false c2];simp only[cond_false];obtain⟨r,E,evs,g1,gQ,g2,g3⟩:=Bx hk hs (by omega) (a1:=0) (a2:=0) (a3:=0) (a4:=0) (a5:=0) (a6:=0) (a7:=0) (b1:=0) (b2:=0) (b3:=0) (b4:=0) (b5:=0) (b6:=0) (b7:=0) hQ xs [] (rt0 (wV a b)) [] [] rfl (QA c) (h0 c);exact .inr ⟨r,E,evs,g1,by omega,⟨gQ,by first|rfl|trivial⟩,g2 (by omega),g3 (by omega)⟩
theorem JZ {k:Nat} (hk:20000000<=k) {a b:Int} {xs:List Step} (hs:∀x∈xs,lM x):
  (iL k a b xs=some ([],[],(iL k a b xs).elim PM (λv=>v.2.2.1),false)/\sg k a b xs=some (PM,[],[],false)/\(iL k a b xs).isSome)\/
  ∃(r:Runtime) (E:List Entry) (evs:List Event),Db r E evs xs.length/\xs.length<=200/\iL k a b xs=some (E,evs,r,true)/\sg k a b xs=some (r,evs,E,true):=by
 rcases He hk hs (a:=a) (b:=b) (Q:=λ_ _ _=>True) (λ_ _ _ _ _ _ _ _ _ _ _ _ _=>trivial) λ_=>trivial with⟨h1,h2,h3,_⟩|⟨r,E,evs,h1,h2,_,h3⟩
 ·exact .inl ⟨h1,h2,h3⟩
 ·exact .inr ⟨r,E,evs,h1,h2,h3⟩
end
set_option maxRecDepth 100000
set_option maxHeartbeats 4000000
section
def waits (E:List Entry):List Int:=(E.filter λy=>y.done).map λy=>IntKind.i64.wrap (y.end_-y.at_)
end
section
theorem Hf {k:Nat} {x y:Entry} (hk:x.tot<k) (hN:x.tot<=aN):tM k x y=some (decide (x=y)):=by
 unfold Entry.tot at hk hN;refine(Er (Mx (GJ (by omega) (by omega)) (Mx (vS (by omega) (by omega)) (Er (Er (Er (Rn (Ba)))))))).trans ?_
 congr 1
 rw[decide_eq_decide];cases x;cases y;simp only[Entry.mk.injEq,and_true]
theorem Fk {k:Nat} {xs ys:List Entry} (hk:dj Entry.tot xs<k) (hN:dj Entry.tot xs<=aN):nA k xs ys=some (decide (xs=ys)):=by
 have hl:xs.length<=dj Entry.tot xs:=aS _ _;have h2:=aq
 exact Gw (f:=λx y=>tM k x y) (g:=λu next=>iM k (xs,ys) u next (λy=>some true) (λy=>some y)) (by omega) (λx hm y=>Hf (by have:=da Entry.tot hm;omega) (by have:=da Entry.tot hm;omega))
  (λi hi hi' next=>by simp only[iM];rw[ab,if_pos (by omega),aC,aC,ag hi,ag hi',aa,aa]) (λnext=>by simp only[iM];rw[ab,if_neg (by omega)]) (by omega)
theorem vC {k:Nat} {xs:List Entry} {m:Int} (hk:dj Entry.tot xs<k) (hN:dj Entry.tot xs<=aN) (h0:0<=m) (hB:m+16*dj Entry.tot xs<=sE):
    ∃r ys,lK k xs m=some (r,ys)/\m<=r/\r<=m+16*dj Entry.tot xs/\ys.length=xs.length/\mz k ys m=some r:=by
  have ht:dj Entry.tot xs=dj Entry.tot xs:=rfl;have hN2:=aq;have hlen:=aS Entry.tot xs;unfold sE at hB
  obtain⟨r,out,a1,a2,a3,a4,a5⟩:=ni (t:=Entry.tot) (N:=xs.length) (g:=λu next=>er k () u next (λy=>some (y.1,y.2))) (fin:=λy=>some (y.1,y.2)) (hd:=λys u next=>fM k ys u next (λy=>some y) (λy=>some y))
    (λm ys next hl=>by simp only[er,ab];rw[if_neg (by omega)]) (λys m next hl=>by simp only[fM,ab];rw[if_neg (by omega)]) xs [] m k (by simp) (by omega) h0 (by unfold sE;omega)
    (λx hm m h0 hB=>by
      have hmt:=da Entry.tot hm;rw[ht]at hmt;unfold sE at hB
      have hxk:x.tot<k:=by omega
      have hxN:x.tot<=aN:=by omega
      clear hmt hm;unfold Entry.tot Model.tot al.tot at hxk hxN hB⊢;obtain⟨r0,y0,e0,a0,b0,l0,h0⟩:=vi (k:=k) (xs:=x.model.ao) (m:=m+1+1+1+1) (by omega) (by omega) (by omega) (by unfold sE;omega);obtain⟨r1,y1,e1,a1,b1,l1,h1⟩:=iN (k:=k) (xs:=x.input.data) (m:=r0+1+1+1) (by omega) (by omega) (by omega) (by unfold sE;omega);refine⟨r1+1+1+1+1,(⟨m,(⟨(⟨m+1,m+1+1,m+1+1+1⟩:Shape),y0⟩:Model),(⟨(⟨r0,r0+1,r0+1+1⟩:Shape),y1⟩:al),r1,r1+1,r1+1+1,((r1+1+1+1).tmod 3==0)⟩:Entry),by omega,by omega,λi ys next hl hi hx=>?_,λi ys next hl hi hy=>?_⟩
      · simp(disch:=first|omega|(simp only[RW];omega))only[er,ab,if_pos,Rr,aG,RW,R7,List.set_set,hx,aa,e0,e1]
      · simp(disch:=omega)only[fM,ab,if_pos,if_neg,aC,hy,aa,jv,aG,if_true,h0,h1,beq_self_eq_true,Rw,cond_false])
  rw[ht]at a4;exact⟨r,out,a2,a3,a4,a1,a5 k (by omega)⟩
end
set_option maxRecDepth 100000
set_option maxHeartbeats 4000000
section
theorem Dc {k:Nat} (hk:20000000<=k) {a b:Int} {xs:List Step} (hs:∀x∈xs,lM x):∃E:List Entry,dj Entry.tot E<=2000500200/\oF k a b xs=some E/\lJ k a b xs=some E:=by
 unfold oF lJ
 rcases JZ hk hs (a:=a) (b:=b)with⟨h1,h2,_⟩|⟨r,E,evs,hst,hl,h1,h2⟩
 ·rw[h1,h2];exact⟨[],by simp[dj],rfl,rfl⟩
 ·rw[h1,h2];have he:=hst.Ri
  have:=C7 (t:=Entry.tot) (B:=10002000) (xs:=E) λy hy=>by
   obtain⟨s1,s2⟩:=hst.small y hy;show y.model.tot+(y.input.tot+0)<=_;omega
  have hm:=RG 10002001 (show E.length<=200 by omega);exact⟨E,by omega,rfl,rfl⟩
theorem qi (a b:Int) (xs:List Step) (ha:okI a) (hb:okI b) (hx:okS Step.Ok xs):∃k,dp k a b xs=some true:=by
 suffices h:∀kk,dj Step.tot xs+3000000000<=kk->dp kk a b xs=some true from⟨_,h _ (RJ _)⟩
 intro kk hkk;have hM:=aq;have hlen:=aS Step.tot xs;unfold dp;rw[GK (n:=1048576) hx (by omega) (by omega) (by omega),aa,ab];by_cases c:(1048576:Int)<(dj Step.tot xs:Int)
 ·simp only[if_pos c];rfl
 simp only[if_neg c];rw[if_neg (by omega)]
 have hk:dj Step.tot xs<kk:=by omega
 have hN:dj Step.tot xs<=aN:=by omega
 obtain⟨out,hol,q1,q2⟩:=Dc (k:=kk) (by omega) (a:=a) (b:=b) (Hd hx (by omega));obtain⟨r1,y1,e1,a1,b1,l1,h1⟩:=wo (k:=kk) (xs:=xs) (m:=1) hk hN (by omega) (by unfold sE;omega);obtain⟨r2,y2,e2,a2,b2,l2,h2⟩:=vC (k:=kk) (xs:=out) (m:=1) (by omega) (by omega) (by omega) (by unfold sE;omega);simp only[GL hk hN,aa,q1,q2,Fk (xs:=out) (ys:=out) (k:=kk) (by omega) (by omega),GM (ys:=xs) hk hN,e1,e2,h2,decide_true,cond_not,cond_true,ab,jv];rw[if_neg (by omega)];simp
 repeat rw[if_neg (by omega)]
end
end Go.Proofs.Ev
