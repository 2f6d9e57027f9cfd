/- The evaluator over the model's code, and that it is sound: part 7. -/
import Derived.Test.YtkjdnpefjebmlaaGreatDoorEvK6
import Derived.KernelRfl
import Derived.Below
set_option linter.unusedVariables false
set_option linter.unusedSimpArgs false
set_option linter.unusedSectionVars false
namespace Go.Proofs.Ev
section
variable [Tok] [Glo]
def D0:SV->Bool
 |.r _ (.int _ _)=>true
 |.r _ (.bool _)=>true
 |.r _ (.str _)=>true
 |_=>false
def Hl:List SV->Bool
 |[]=>true
 |v::l=>cond (D0 v) (Hl l) false
theorem D1:∀{l:List SV},Hl l=true->∀v∈l,D0 v=true
 |[],_,v,hv=>nomatch hv
 |x::l,h,v,hv=>by
  simp only[Hl]at h;cases hx:D0 x<;>simp only[hx,cond_true,cond_false]at h
  ·exact nomatch h
  ·rcases X3.1 hv with rfl|hv
   ·exact hx
   ·exact D1 h v hv
theorem Hm {w w':World} {H H':aM} {pl pl':Pl} {v:SV} {u:Value} (h:D0 v=true) (hv:ar w H pl v u):ar w' H' pl' v u:=by
 cases hv with
 |r d x _ hx=>cases hx with
  |int=>exact .r _ _ _ (.int _ _)
  |bool=>exact .r _ _ _ (.bool _)
  |str=>exact .r _ _ _ (.str _)
  |tok=>first|exact .r _ _ _ (.tok _)|exact nomatch h
  |nr=>exact nomatch h
  |sl=>exact nomatch h
 |_=>exact nomatch h
def Pk (o:Orc):Orc:=λρ nid vs h K=>match vs with
 |.inn i x c::rest=>cond (Hl rest) (match look h i with
  |some (.arr none t xs)=>(xs[x]?).bind λe=>match(t.cells e)[c]? with
   |some (.sl t' ys)=>o ρ nid (.own i::rest) [(i,.arr none t' ys)] λq=>
    cond (D0 q.v&&(isNil q.news&&isNil q.gone)) (match q.upd with
     |[(_,.arr none t2 zs)]=>if he:t2=t' then(t.fa ((t.cells e).take c++[.sl t' (he▸zs)]++(t.cells e).drop (c+1))).bind λy=>K {v:=q.v,upd:=[(i,.arr none t (xs.set x y))],mH:=[i]}else none
     |_=>none) none
   |_=>none
  |_=>none) none
 |_=>o ρ nid vs h K
section
variable {w w':World} {H H':aM} {pl:Pl}
theorem Rp {i x c cap b o:Nat} {t t':Ty} {xs:List t.El} {e y:t.El} {ys zs:List t'.El} {vs:Nat->Nat->Value} {fs:Nat->Nat->Cell->Prop} {T2:Kil} {pl2 pl2':Pl}
  (hr:cY H pl w) (hli:look H i=some (.arr none t xs)) (hx:xs[x]? =some e) (hc:(t.cells e)[c]? =some (.sl t' ys)) (hy:t.cells y=(t.cells e).take c++[.sl t' zs]++(t.cells e).drop (c+1))
  (hh:pl.hdr i=.slice (some ⟨b,o,none⟩) xs.length cap) (h2:xs.length<=cap) (h4:∀j,j<cap*t.sz->(∃v,w.at? (b,o+j)=some v)/\whole (w.eK (b,o+j)) o (cap*t.sz)=true)
  (h5:∀i j r,aB t xs i j r->w.at? (b,o+(i*t.sz+j))=some (vs i j)) (h6:∀i j r,aB t xs i j r->fV w r (vs i j) (fs i j))
  (h7:∀i j r p,aB t xs i j r->fs i j p->¬reg b o (cap*t.sz) p) (h8:∀i j r i' j' r' p,aB t xs i j r->aB t xs i' j' r'->fs i j p->fs i' j' p->i=i'/\j=j')
  (h9:∀p,pl.fp i p↔reg b o (cap*t.sz) p\/∃i j r,aB t xs i j r/\fs i j p)
  (hb2:pl2.base=pl.base) (hf2:pl2.fp i=fs x c) (hd2:pl2.hdr i=vs x c) (hg2:mem i T2.1=false) (hst:c7 [(i,.arr none t' ys)] [(i,.arr none t' zs)] T2 pl2 pl2' w w')
  (ht:o5 H H' ([],[i]) i (.arr none t (xs.set x y))):∃pl',c7 H H' ([],[i]) pl pl' w w':=by
 have hxl:x<xs.length:=(Of.1 hx).1
 have hcl:c<t.sz:=by rw[<-Ty.cw t e];exact(Of.1 hc).1
 have hcell:aB t xs x c (.sl t' ys):=⟨e,hx,hc⟩
 have hl1:∀{t':Ty} {ys:List t'.El} {j B},look [(i,Blk.arr none t' ys)] j=some B->j=i/\B=.arr none t' ys:=λ{t' ys j B} h=>by
  rw[aC]at h;by_cases e:i=j
  ·rw[if_pos e]at h;cases h;exact⟨e.symm,rfl⟩
  ·rw[if_neg e]at h;exact nomatch h
 have zv:∀p u,w.at? p=some u->¬fs x c p->¬pl2'.fp i p/\w'.at? p=some u/\w'.eK p=w.eK p:=λp u hp hn=>by
  obtain⟨g1,g2⟩:=hst.fr p u hp λj B hB hf=>by
   obtain⟨rfl,_⟩:=hl1 hB;rw[hf2]at hf;exact hn hf
  exact⟨g1 i _ (by rw[aC,if_pos rfl]),g2⟩
 have C3:∀p,fs x c p->pl.fp i p:=λp hp=>(h9 p).2 (.inr ⟨_,_,_,hcell,hp⟩)
 have QC:∀j,mem j [i]=true->j=i:=λj hj=>by
  simp only[mem]at hj;cases hb:Nat.beq i j<;>simp only[hb,cond_true,cond_false]at hj
  ·exact nomatch hj
  ·exact(On hb).symm
 have hmi:mem i [i]=true:=by simp[mem]
 have IV:∀p,pl2'.fp i p->∃u,w'.at? p=some u:=λp hp=>hst.hr.gy i _ p (by rw[aC,if_pos rfl]) hp
 refine⟨_,kL (hdr:=pl.hdr i) (fp:=λp=>(pl.fp i p/\¬fs x c p)\/pl2'.fp i p) hst.gr hr ht (λj hj=>nomatch hj) (λj hj=>.inr (QC j hj)) (.inr ⟨_,hli,hmi,⟨rfl,by simp⟩,rfl⟩)
  (λp u hp hno=>(zv p u hp λhf=>hno i _ hmi hli (C3 p hf)).2) (λp hp=>?_) (λp hp=>?_) λhk=>?_⟩
 ·have:=hst.hr.nb p hp;rw[hst.bs,hb2]at this;exact this
 ·rcases hp with hp|hp
  ·exact .inr ⟨i,_,hmi,hli,hp.1⟩
  ·cases hq:w.at? p with
   |none=>exact .inl rfl
   |some u=>
    by_cases hf:fs x c p
    ·exact .inr ⟨i,_,hmi,hli,C3 p hf⟩
    ·exact((zv p u hq hf).1 hp).elim
 ·have tJ:∀{i' j r},aB t (xs.set x y) i' j r->(i'=x/\j=c/\r=.sl t' zs)\/(¬(i'=x/\j=c)/\aB t xs i' j r):=λ{i' j r} h=>by
   obtain⟨z,hz,hzj⟩:=h;by_cases e1:i'=x
   ·subst e1;rw[YR hxl]at hz;cases hz;rw[hy]at hzj
    have hto:((t.cells e).take c).length=c:=by rw[X9,Ty.cw];omega
    by_cases c1:j<c
    ·rw[XP,XQ (by omega),Yh,if_pos c1]at hzj;exact .inr ⟨λh=>by omega,e,hx,hzj⟩
    ·by_cases c2:j=c
     ·subst c2;rw[XP,XL (by omega),hto,Nat.sub_self]at hzj;cases hzj;exact .inl ⟨rfl,rfl,rfl⟩
     ·rw[XP,XL (by omega),hto,XL (by simp;omega),XU]at hzj;simp only[List.length_singleton]at hzj;rw[show c+1+(j-c-1)=j from by omega]at hzj;exact .inr ⟨λh=>c2 h.2,e,hx,hzj⟩
   ·rw[Za (λe=>e1 e.symm)]at hz;exact .inr ⟨λh=>e1 h.1,z,hz,hzj⟩
  have ub:∀{i' j r},aB t xs i' j r->∃r',aB t (xs.set x y) i' j r':=λ{i' j r} h=>by
   obtain⟨a1,a2⟩:=aO h;exact dU (by simpa using a1) a2
  have hreg0:∀p,reg b o (cap*t.sz) p->¬fs x c p:=λp hp hf=>h7 _ _ _ p hcell hf hp
  have hsl:fV w' (.sl t' zs) (vs x c) (pl2'.fp i):=by
   have h1:=hst.hr.blk i _ (by rw[aC,if_pos rfl]:look [(i,Blk.arr none t' zs)] i=some (.arr none t' zs));obtain⟨_,_,_,h3⟩:=hst.kp.k1 i _ (by rw[aC,if_pos rfl]) hg2;rw[<-hd2,<-h3];obtain⟨R⟩:=h1;exact R.VM
  have e1:(pl.set i (pl.hdr i) λp=>(pl.fp i p/\¬fs x c p)\/pl2'.fp i p).hdr i=pl.hdr i:=by simp[Pl.set]
  have e2:(pl.set i (pl.hdr i) λp=>(pl.fp i p/\¬fs x c p)\/pl2'.fp i p).fp i=λp=>(pl.fp i p/\¬fs x c p)\/pl2'.fp i p:=by simp[Pl.set]
  show Nonempty (Row w' (fV w') t (xs.set x y) ((pl.set i (pl.hdr i) λp=>(pl.fp i p/\¬fs x c p)\/pl2'.fp i p).hdr i) ((pl.set i (pl.hdr i) λp=>(pl.fp i p/\¬fs x c p)\/pl2'.fp i p).fp i));rw[e1,e2];refine⟨⟨some ⟨b,o,none⟩,cap,b,o,vs,λi' j=>if i'=x/\j=c then pl2'.fp i else fs i' j,by rw[hh,YB],by rw[YB];exact h2,.inr rfl,λj hj=>?_,λi' j r h=>?_,λi' j r h=>?_,λi' j r p h hf=>?_,λi' j r i'' j' r' p h h' hf hf'=>?_,λp=>?_⟩⟩
  ·obtain⟨⟨v,hv⟩,hi⟩:=h4 j hj;obtain⟨_,g1,g2⟩:=zv _ v hv (hreg0 _ ⟨rfl,by simp,by simp;omega⟩);exact⟨⟨v,g1⟩,by rw[g2];exact hi⟩
  ·obtain⟨a1,a2⟩:=aO h;rw[YB]at a1;obtain⟨r0,hr0⟩:=dU a1 a2;exact(zv _ _ (h5 _ _ _ hr0) (hreg0 _ ⟨rfl,by simp,by have:=rh a1 a2 h2;simp;omega⟩)).2.1
  ·rcases tJ h with⟨rfl,rfl,rfl⟩|⟨hne,h⟩
   ·rw[if_pos ⟨rfl,rfl⟩];exact hsl
   ·rw[if_neg hne];refine(h6 _ _ _ h).frame λp u hp hu=>(zv p u hu λhf=>hne ?_).2;exact h8 _ _ _ _ _ _ p h hcell hp hf
  ·rcases tJ h with⟨rfl,rfl,rfl⟩|⟨hne,h⟩
   ·rw[if_pos ⟨rfl,rfl⟩]at hf;intro hre;obtain⟨p1,p2⟩:=p;obtain⟨q1,q2,q3⟩:=hre;simp only at q1 q2 q3;subst q1;obtain⟨⟨v,hv⟩,_⟩:=h4 (p2-o) (by omega);rw[show o+(p2-o)=p2 from by omega]at hv;exact(zv _ v hv (hreg0 _ ⟨rfl,q2,q3⟩)).1 hf
   ·rw[if_neg hne]at hf;exact h7 _ _ _ p h hf
  ·have cross:∀{i' j r},¬(i'=x/\j=c)->aB t xs i' j r->fs i' j p->pl2'.fp i p->False:=λ{i' j r} hne h hf hf'=>by
    obtain⟨u,hu⟩:=(h6 _ _ _ h).there p hf;exact(zv p u hu λhq=>hne (h8 _ _ _ _ _ _ p h hcell hf hq)).1 hf'
   rcases tJ h with⟨rfl,rfl,rfl⟩|⟨hne,hc1⟩<;>rcases tJ h' with⟨rfl,rfl,rfl⟩|⟨Wl,hc2⟩
   ·exact⟨rfl,rfl⟩
   ·rw[if_pos ⟨rfl,rfl⟩]at hf;rw[if_neg Wl]at hf';exact(cross Wl hc2 hf' hf).elim
   ·rw[if_pos ⟨rfl,rfl⟩]at hf';rw[if_neg hne]at hf;exact(cross hne hc1 hf hf').elim
   ·rw[if_neg hne]at hf;rw[if_neg Wl]at hf';exact h8 _ _ _ _ _ _ p hc1 hc2 hf hf'
  ·constructor
   ·rintro (⟨hp,hn⟩|hp)
    ·rcases(h9 p).1 hp with hp|⟨i',j,r,h,hf⟩
     ·exact .inl hp
     ·have hne:¬(i'=x/\j=c):=λ⟨q1,q2⟩=>by subst q1 q2;exact hn hf
      obtain⟨r',h'⟩:=ub h;exact .inr ⟨i',j,r',h',by rw[if_neg hne];exact hf⟩
    ·obtain⟨r',h'⟩:=ub hcell;exact .inr ⟨x,c,r',h',by rw[if_pos ⟨rfl,rfl⟩];exact hp⟩
   ·rintro (hp|⟨i',j,r,h,hf⟩)
    ·exact .inl ⟨(h9 p).2 (.inl hp),hreg0 p hp⟩
    ·rcases tJ h with⟨rfl,rfl,rfl⟩|⟨hne,h⟩
     ·rw[if_pos ⟨rfl,rfl⟩]at hf;exact .inr hf
     ·rw[if_neg hne]at hf;exact .inl ⟨(h9 p).2 (.inr ⟨_,_,_,h,hf⟩),λhq=>hne (h8 _ _ _ _ _ _ p h hcell hf hq)⟩
end
theorem Pm {P:Program} {g:FuncId} {o:Orc} (ho:tG P g o):tG P g (Pk o):=by
 intro ρ nid vs H K out hK;unfold Pk at hK;split at hK
 case h_2=>exact ho ρ nid _ H K _ hK
 rename_i i x c rest;cases hpl:Hl rest<;>simp only[hpl,cond_true,cond_false]at hK
 ·exact nomatch hK
 split at hK
 case h_2=>exact nomatch hK
 rename_i t xs hli;simp only[An]at hK;obtain⟨e,hx,hK⟩:=hK;split at hK
 case h_2=>exact nomatch hK
 rename_i t' ys hc;obtain⟨q,hq,hen,hup,Ti⟩:=ho ρ nid _ _ _ _ hK;cases hpv:(D0 q.v&&(isNil q.news&&isNil q.gone))<;>simp only[hpv,cond_true,cond_false]at hq
 ·exact nomatch hq
 simp only[XB]at hpv;obtain⟨hpv,hnw,hgn⟩:=hpv;have hnw:=eR hnw;have hgn:=eR hgn;split at hq
 case h_2=>exact nomatch hq
 rename_i i' t2 zs hqu;split at hq
 case isFalse=>exact nomatch hq
 rename_i het;subst het;simp only[An]at hq;obtain⟨y,hy,hK⟩:=hq;have hy:=Ty.cM _ _ _ hy
 have hii:i'=i:=by
  obtain⟨B',hB'⟩:=hup i' _ (by rw[hqu,aC,if_pos rfl]);rw[aC]at hB';by_cases e:i=i'
  ·exact e.symm
  ·rw[if_neg e]at hB';exact nomatch hB'
 subst hii;refine⟨_,hK,hen,λj B hB=>?_,λH1 pl w us he hr hgl hn hl hp H' ha=>?_⟩
 ·rw[aC]at hB;by_cases e:i'=j
  ·subst e;exact⟨_,hli⟩
  ·rw[if_neg e]at hB;exact nomatch hB
 have hli1:=he _ _ hli;obtain⟨u0,hu0⟩:∃u0,us[0]? =some u0:=⟨us[0]'(by rw[<-hl];simp),by simp⟩;have hi0:=hp 0 _ u0 rfl hu0
 cases hi0 with
 |inn _ _ _ sh t1 xs1 b o n cap _ hl1 hx1 hc1 hh hok hat Du=>
  rw[hli1]at hl1;cases hl1;obtain⟨⟨a',jk,b',o',vs,fs,h1,h2,h3,h4,h5,h6,h7,h8,h9⟩⟩:=hr.blk _ _ hli1;rw[hh]at h1;cases h1;have h3:=h3.resolve_left (by omega);cases h3;have hcell:aB t xs x c (.sl t2 ys):=⟨e,hx,hc⟩
  have hu:u0=vs x c:=by rw[h5 _ _ _ hcell]at hat;cases hat;rfl
  subst hu
  let pl2:Pl:=⟨λ_=>vs x c,λ_=>fs x c,pl.base⟩
  have hl1:∀{j B},look [(i',Blk.arr none t2 ys)] j=some B->j=i'/\B=.arr none t2 ys:=λ{j B} h=>by
   rw[aC]at h;by_cases e:i'=j
   ·rw[if_pos e]at h;cases h;exact⟨e.symm,rfl⟩
   ·rw[if_neg e]at h;exact nomatch h
  have hr2:cY [(i',.arr none t2 ys)] pl2 w:=by
   refine⟨λj B hB=>?_,λj k B B' p q1 q2 _ _=>?_,λj B p hB hf=>?_,hr.nb⟩
   ·obtain⟨rfl,rfl⟩:=hl1 hB;exact(h6 _ _ _ hcell).row
   ·rw[(hl1 q1).1,(hl1 q2).1]
   ·exact hr.ob _ _ p hli1 ((h9 p).2 (.inr ⟨_,_,_,hcell,hf⟩))
  have haf:after [(i',.arr none t2 ys)] nid q=some [(i',.arr none t2 zs)]:=by
   unfold after;rw[hqu,hnw]
   have:tI [(i',Blk.arr none t2 zs)] [(i',Blk.arr none t2 ys)]=[(i',.arr none t2 zs)]:=by simp[tI,put]
   rw[this]
   have:jg q.kil [(i',Blk.arr none t2 zs)]=some [(i',.arr none t2 zs)]:=by
    unfold jg;split
    ·rfl
    ·simp[As,CR.kil,hgn,mem,Blk.aP]
   rw[this];simp[aN]
  have hgl2:Sr w [(i',.arr none t2 ys)] pl2:=hgl.bJ (dF.refl w) λp u hp hno=>⟨λ⟨j,B,hB,hf⟩=>by
    obtain⟨rfl,rfl⟩:=hl1 hB
    exact hno ⟨_,_,hli1,(h9 p).2 (.inr ⟨_,_,_,hcell,hf⟩)⟩,hp⟩
  refine(Ti _ pl2 w us .rfl' hr2 hgl2 (λk hk=>by rw[hnw]at hk;exact nomatch hk) (by simpa using hl) (λj v u hv hu=>?_) _ haf).mono λe' w' ⟨u,pl2',he',hst,hv'⟩=>?_
  ·cases j with
   |zero=>
    rw[hu0]at hu;cases hu;cases hv
    exact ar.own (pl:=pl2) i' none t2 ys (by rw[aC,if_pos rfl])
   |succ j=>exact Hm (D1 hpl v (XX (by simpa using hv))) (hp (j+1) v u (by simpa using hv) hu)
  ·obtain⟨ht,_⟩:=vd (c:={v:=q.v,upd:=[(i',.arr none t (xs.set x y))],mH:=[i']}) hli1 rfl rfl rfl ha;obtain⟨pl',Xo⟩:=Rp hr hli1 hx hc hy hh h2 h4 h5 h6 h7 h8 h9 (pl2:=pl2) rfl rfl rfl (by show mem i' q.gone=false;rw[hgn];rfl) hst ht;exact⟨u,pl',he',Xo,Hm hpv hv'⟩
end
section
variable [Tok] [Glo]
section
variable {ρ:Type}
def fM:Nat->Code->List (Nat× Code)
 |cb,.seq a b=>fM cb a++fM cb b
 |cb,.cond _ a b=>fM cb a++fM cb b
 |_,.block id c=>fM id c
 |cb,.scope c=>fM cb c
 |cb,.loop c=>[(cb,c)]
 |_,_=>[]
theorem iJ {E:Env} {LP:Nat->Ev ρ->Ev ρ}:∀(c:Code) (cb:Nat),(∀x∈fM cb c,Sound E.P (.loop x.2) (LP x.1 λst K=>ev E LP x.1 x.2 st K))->jr E LP cb c
 |.seq a b,cb,h=>⟨iJ a cb λx hx=>h x (by simp[fM,hx]),iJ b cb λx hx=>h x (by simp[fM,hx])⟩
 |.cond _ a b,cb,h=>⟨iJ a cb λx hx=>h x (by simp[fM,hx]),iJ b cb λx hx=>h x (by simp[fM,hx])⟩
 |.block id c,_,h=>iJ c id h
 |.scope c,cb,h=>iJ c cb h
 |.loop c,cb,h=>h (cb,c) (by simp[fM])
 |.skip,_,_=>trivial
 |.label _,_,_=>trivial
 |.region _ _ _,_,_=>trivial
 |.exit _,_,_=>trivial
 |.ret,_,_=>trivial
 |.rangeFunc _ _ _ _,_,_=>trivial
 |.goto _,_,_=>trivial
 |.refuse _,_,_=>trivial
def TH (p:Nat× Code->Prop):List (Nat× Code)->Prop
 |[]=>True
 |x::l=>p x/\TH p l
theorem Hn {p:Nat× Code->Prop}:∀{l:List (Nat× Code)},TH p l->∀x∈l,p x
 |y::l,h,x,hx=>by
  rcases X3.1 hx with rfl|hx
  ·exact h.1
  ·exact Hn h.2 x hx
theorem Bi {E:Env} {LP:Nat->Ev ρ->Ev ρ} {c:Code} {cb:Nat} {l:List (Nat× Code)} (hl:fM cb c=l)
  (h:TH (λx=>Sound E.P (.loop x.2) (LP x.1 λst K=>ev E LP x.1 x.2 st K)) l):jr E LP cb c:=
 iJ c cb (by rw[hl];exact Hn h)
theorem j7 {E:Env} {LP:Nat->Ev ρ->Ev ρ} {c:Code} {cb:Nat} (hl:fM cb c=[]):jr E LP cb c:=Bi hl trivial
theorem Rq {P:Program} {n g:Nat} {o o':Orc} (h:tG P n o) (h':tG P g o'):tG P g (cond (Nat.beq g n) o o'):=by
 cases hb:Nat.beq g n
 ·exact h'
 ·have:g=n:=On hb;subst this;exact h
theorem TI {P:Program} {c:Code} {f:Ev ρ} {p V:Type} (hf:Sound P c f) {bJ:List Nat} {co:List (iG× Co)} (kx:Ex->List Nat) (cx:Ex->List (iG× Co)) (k:Nat) {dec:Nat->NF->Option (p× V)} {tm:p× V->St}
  {g:p->V->(V->Option ρ)->(Ex->St->Option ρ)->Option ρ} (hd:∀n nf v,dec n nf=some v->ir bJ n nf=tm v)
  (hg:∀(q:p) (v:V) (K K1:Ex->St->Option ρ),f (tm (q,v)) (λe st'=>match e with
    |.normal=>(xl bJ co st').bind λnf=>K1 .normal (ir bJ st'.n nf)
    |e=>(xl (kx e) (cx e) st').bind λnf=>K e (ir (kx e) st'.n nf))=g q v (λv'=>K1 .normal (tm (q,v'))) K):
  Sound P (.loop c) (xm bJ co dec λpv K=>iter (λv next=>g pv.1 v next K) k pv.2):=
 Fk hf kx cx k hd λpv K=>(xn (tm:=λv=>tm (pv.1,v)) (g:=λv next K=>g pv.1 v next K) (λv K K1 next hn=>by
  have:next=λv'=>K1 .normal (tm (pv.1,v')):=funext λv'=>(hn v').symm
  rw[this];exact hg pv.1 v K K1) K k pv.2).symm
theorem Vd {T:Type} {bJ:List Nat} {N:Nat} {d:NF->Option T} {tm:T->St} (h:∀nf v,d nf=some v->ir bJ N nf=tm v) (n:Nat) (nf:NF) (v:T)
  (e:cond (Nat.beq n N) (d nf) none=some v):ir bJ n nf=tm v:=by
 cases hb:Nat.beq n N<;>simp only[hb,cond_true,cond_false]at e
 ·exact nomatch e
 ·have:n=N:=On hb;subst this;exact h nf v e
theorem yO {A R:Type} {E:Env} (hE:mM E) {LP:Nat->Ev R->Ev R} {g:FuncId} {fn:Func} (hf:E.P.funcs[g]? =some fn) (hc:fn.body.isSome=true)
  (hnm:(fn.name== "runtime.NumGoroutine")=false) (Bj:A->List Arg) (IW:List Arg->Option A) (hA:∀l a,IW l=some a->l=Bj a)
  (hn:∀a,Nat.ble (Bj a).length fn.ntmps=true) (hLP:jr E LP 0 (fn.body.getD .skip)) {rt:RT} {dec:Out->Option R} {enc:R->Out} (hd:∀o r,dec o=some r->o=enc r)
  {F:A->Option R} (h:∀a,ev E LP 0 (fn.body.getD .skip) (st0 fn (Bj a)) (fin E.P fn rt dec)=F a):
  Ll E.P g λ_ l K=>(IW l).bind λa=>(F a).bind λr=>K (enc r):=by
 intro ρ l K out hK;simp only[An]at hK;obtain⟨a,ha,r,hr,hK⟩:=hK;obtain⟨c,hcb⟩:=Option.isSome_iff_exists.1 hc
 have hgc:fn.body.getD .skip=c:=by rw[hcb];rfl
 rw[hA l a ha];exact⟨enc r,hK,MQ hE hd hf hcb hnm (hn a) (hgc▸hLP) (by rw[<-hgc,h a];exact hr)⟩
theorem Bl {A R:Type} {E:Env} (hE:mM E) {LP:Nat->Ev R->Ev R} {g:FuncId} {fn:Func} (hf:E.P.funcs[g]? =some fn) (hc:fn.body.isSome=true)
  (hnm:(fn.name== "runtime.NumGoroutine")=false) (Bj:A->List SV) (blksOf:A->List Blk) (IW:List SV->List Blk->Option A) (hA:∀l b a,IW l b=some a->l=Bj a/\b=blksOf a)
  (hn:∀a,Nat.ble (Bj a).length fn.ntmps=true) (hLP:jr E LP 0 (fn.body.getD .skip)) {rt:RT} {ks:List KD} {dec:A->lI->Option R} {enc:A->R->lI}
  (hlen:∀a r,(enc a r).kept.length=(blksOf a).length) (hd:∀a o r,dec a o=some r->o=enc a r)
  {F:A->Option R} (h:∀a,ev E LP 0 (fn.body.getD .skip) (NP fn (Bj a) (blksOf a)) (Pg E.P fn rt ks (dec a))=F a):
  Bf E.P g λ_ l b K=>(IW l b).bind λa=>(F a).bind λr=>K (enc a r):=by
 intro ρ l b K out hK;simp only[An]at hK;obtain⟨a,ha,r,hr,hK⟩:=hK;obtain⟨c,hcb⟩:=Option.isSome_iff_exists.1 hc
 have hgc:fn.body.getD .skip=c:=by rw[hcb];rfl
 obtain⟨rfl,rfl⟩:=hA l b a ha;exact⟨enc a r,hK,Pj hE (hd a) (hlen a r) hf hcb hnm (hn a) (hgc▸hLP) (by rw[<-hgc,h a];exact hr)⟩
def Wm (t:List SV->aM->Bool) (o o':Orc):Orc:=λρ nid vs h K=>cond (t vs h) (o ρ nid vs h K) (o' ρ nid vs h K)
theorem TJ {P:Program} {g:FuncId} {t:List SV->aM->Bool} {o o':Orc} (h:tG P g o) (h':tG P g o'):tG P g (Wm t o o'):=by
 intro ρ nid vs H K out hK;simp only[Wm]at hK;cases ht:t vs H<;>simp only[ht,cond_true,cond_false]at hK
 ·exact h' ρ nid vs H K _ hK
 ·exact h ρ nid vs H K _ hK
def JR {α:Type}:Option α->Bool
 |some _=>true
 |none=>false
def VT {A:Type} (pr:List Pr) (IW:List SV->List Blk->Option A):List SV->aM->Bool:=λvs h=>match TF h pr vs with
 |some vs1=>
  let L:=reach h 3 (qO [] (Mg vs1))
  match G7 L vs1 with
  |some args=>match pd h L L with
   |some bs=>JR (IW args bs)
   |none=>false
  |none=>false
 |none=>false
def dZ {α:Type} [DecidableEq α] (x y:α):Bool:=decide (x=y)
theorem Rr {α R:Type} [DecidableEq α] {z e:α} {x r:R} (h:cond (dZ z e) (some x) none=some r):z=e/\some x=some r:=by
 unfold dZ at h;by_cases c:z=e
 ·rw[decide_eq_true c]at h;exact⟨c,h⟩
 ·rw[decide_eq_false c]at h;exact nomatch h
theorem Rs {α β R:Type} [DecidableEq α] [DecidableEq β] {z e:α} {z2 e2:β} {x r:R} (h:cond (dZ z e) (cond (dZ z2 e2) (some x) none) none=some r):z=e/\z2=e2/\some x=some r:=by
 unfold dZ at h;by_cases c:z=e
 ·rw[decide_eq_true c]at h;exact⟨c,Rr h⟩
 ·rw[decide_eq_false c]at h;exact nomatch h
theorem Rt {α β γ R:Type} [DecidableEq α] [DecidableEq β] [DecidableEq γ] {z e:α} {z2 e2:β} {z3 e3:γ} {x r:R} (h:cond (dZ z e) (cond (dZ z2 e2) (cond (dZ z3 e3) (some x) none) none) none=some r):z=e/\z2=e2/\z3=e3/\some x=some r:=by
 unfold dZ at h;by_cases c:z=e
 ·rw[decide_eq_true c]at h;exact⟨c,Rs h⟩
 ·rw[decide_eq_false c]at h;exact nomatch h
end
theorem Ru {A0 A1 A2 A3 R:Type} [DecidableEq A0] [DecidableEq A1] [DecidableEq A2] [DecidableEq A3] {z0 e0:A0} {z1 e1:A1} {z2 e2:A2} {z3 e3:A3} {x r:R} (h:cond (dZ z0 e0) (cond (dZ z1 e1) (cond (dZ z2 e2) (cond (dZ z3 e3) (some x) none) none) none) none=some r):z0=e0/\z1=e1/\z2=e2/\z3=e3/\some x=some r:=by
 unfold dZ at h;by_cases c:z0=e0
 ·rw[decide_eq_true c]at h;exact⟨c,Rt h⟩
 ·rw[decide_eq_false c]at h;cases h
theorem Rv {A0 A1 A2 A3 A4 R:Type} [DecidableEq A0] [DecidableEq A1] [DecidableEq A2] [DecidableEq A3] [DecidableEq A4] {z0 e0:A0} {z1 e1:A1} {z2 e2:A2} {z3 e3:A3} {z4 e4:A4} {x r:R} (h:cond (dZ z0 e0) (cond (dZ z1 e1) (cond (dZ z2 e2) (cond (dZ z3 e3) (cond (dZ z4 e4) (some x) none) none) none) none) none=some r):z0=e0/\z1=e1/\z2=e2/\z3=e3/\z4=e4/\some x=some r:=by
 unfold dZ at h;by_cases c:z0=e0
 ·rw[decide_eq_true c]at h;exact⟨c,Ru h⟩
 ·rw[decide_eq_false c]at h;cases h
theorem Rw {A0 A1 A2 A3 A4 A5 R:Type} [DecidableEq A0] [DecidableEq A1] [DecidableEq A2] [DecidableEq A3] [DecidableEq A4] [DecidableEq A5] {z0 e0:A0} {z1 e1:A1} {z2 e2:A2} {z3 e3:A3} {z4 e4:A4} {z5 e5:A5} {x r:R} (h:cond (dZ z0 e0) (cond (dZ z1 e1) (cond (dZ z2 e2) (cond (dZ z3 e3) (cond (dZ z4 e4) (cond (dZ z5 e5) (some x) none) none) none) none) none) none=some r):z0=e0/\z1=e1/\z2=e2/\z3=e3/\z4=e4/\z5=e5/\some x=some r:=by
 unfold dZ at h;by_cases c:z0=e0
 ·rw[decide_eq_true c]at h;exact⟨c,Rv h⟩
 ·rw[decide_eq_false c]at h;cases h
theorem Rx {A0 A1 A2 A3 A4 A5 A6 R:Type} [DecidableEq A0] [DecidableEq A1] [DecidableEq A2] [DecidableEq A3] [DecidableEq A4] [DecidableEq A5] [DecidableEq A6] {z0 e0:A0} {z1 e1:A1} {z2 e2:A2} {z3 e3:A3} {z4 e4:A4} {z5 e5:A5} {z6 e6:A6} {x r:R} (h:cond (dZ z0 e0) (cond (dZ z1 e1) (cond (dZ z2 e2) (cond (dZ z3 e3) (cond (dZ z4 e4) (cond (dZ z5 e5) (cond (dZ z6 e6) (some x) none) none) none) none) none) none) none=some r):z0=e0/\z1=e1/\z2=e2/\z3=e3/\z4=e4/\z5=e5/\z6=e6/\some x=some r:=by
 unfold dZ at h;by_cases c:z0=e0
 ·rw[decide_eq_true c]at h;exact⟨c,Rw h⟩
 ·rw[decide_eq_false c]at h;cases h
end
section
variable [Tok] [Glo]
section
variable {ρ:Type}
def WX (f g:Ev ρ):Ev ρ:=λst K=>f st λe st'=>match e with
 |.normal=>g st' K
 |e=>K e st'
theorem Ho {P:Program} {c:Code} {f:Ev ρ} (hf:Sound P c f) (bJ:List Nat) (co:List (iG× Co)) (kx:Ex->List Nat) (cx:Ex->List (iG× Co)) (k:Nat) {w0:World} {fp0:G0} {bs:Cell->Prop} {n:Nat} {st:St} {a:Act} {w:World} {K:Ex->St->Option ρ} {out:ρ} {Q:Exit->Act->World->Prop}
  (hr:Rl w0 fp0 bs n st a w) (h:JN f bJ co kx cx k st K=some out) (hK:∀e st' a' w',K e st'=some out->Rl w0 fp0 bs n st' a' w'->Q e.up a' w'):Code.rounds P c Q k a w:=by
 induction k generalizing st a w with
 |zero=>exact nomatch h
 |succ k ih=>
  rw[rounds_succ]
  exact hf w0 fp0 bs n st a w _ out _ hr h λe st' a' w' h' hr'=>by
   have hn:=hr'.VS
   cases e with
   |normal=>
    simp only[An]at h';obtain⟨nf,h1,h2⟩:=h';rw[hn]at h2
    exact ih (nE hr' h1) h2
   |exit j=>
    simp only[An]at h';obtain⟨nf,h1,h2⟩:=h';rw[hn]at h2
    exact hK (.exit j) _ a' w' h2 (nE hr' h1)
   |ret=>
    simp only[An]at h';obtain⟨nf,h1,h2⟩:=h';rw[hn]at h2;exact hK .ret _ a' w' h2 (nE hr' h1)
theorem TK {P:Program} {c:Code} {f:Ev ρ} {p V:Type} (hf:Sound P c f) {bJ:List Nat} {co:List (iG× Co)} (kx:Ex->List Nat) (cx:Ex->List (iG× Co)) (k:Nat) {dec:Nat->NF->Option (p× V)} {tm:p× V->St}
  {g:p->V->(V->Option ρ)->(Ex->St->Option ρ)->Option ρ} (hd:∀n nf v,dec n nf=some v->ir bJ n nf=tm v)
  (hg:∀(q:p) (v:V) (K K1:Ex->St->Option ρ),f (tm (q,v)) (λe st'=>match e with
    |.normal=>(xl bJ co st').bind λnf=>K1 .normal (ir bJ st'.n nf)
    |e=>(xl (kx e) (cx e) st').bind λnf=>K e (ir (kx e) st'.n nf))=g q v (λv'=>K1 .normal (tm (q,v'))) K):
  Sound P (.loop c) (WX f (xm bJ co dec λpv K=>iter (λv next=>g pv.1 v next K) k pv.2)):=by
 have lG:∀(pv:p× V) (K:Ex->St->Option ρ),iter (λv next=>g pv.1 v next K) k pv.2=JN f bJ co kx cx k (tm pv) K:=λpv K=>(xn (tm:=λv=>tm (pv.1,v)) (g:=λv next K=>g pv.1 v next K) (λv K K1 next hn=>by
  have:next=λv'=>K1 .normal (tm (pv.1,v')):=funext λv'=>(hn v').symm
  rw[this];exact hg pv.1 v K K1) K k pv.2).symm
 intro w0 fp0 bs n st a w K out Q hr h hK;refine wp_loop_rounds (k+1) ?_;rw[rounds_succ];refine hf w0 fp0 bs n st a w _ out _ hr h λe st' a' w' h' hr'=>?_
 cases e with
 |normal=>
  simp only[xm,An]at h';obtain⟨nf,h1,v,h2,h3⟩:=h';have hn:=hr'.VS;rw[hn]at h2;rw[lG v K,<-hd n nf v h2]at h3
  exact Ho hf bJ co kx cx k (nE hr' h1) h3 hK
 |exit j=>exact hK (.exit j) st' a' w' h' hr'
 |ret=>exact hK .ret st' a' w' h' hr'
end
end
section
variable [Glo]
def JS (n:Nat):R->R
 |.sl _ _=>.tok n
 |r=>r
def nH:Nat->List R->List R
 |_,[]=>[]
 |n,r::l=>JS n r::nH (n+1) l
def yP (s s':S):Nat->List s.E->Option (List s'.E)
 |_,[]=>some []
 |n,x::l=>(s'.fa (nH n (s.cells x))).bind λy=>(yP s s' (n+s.sz) l).bind λys=>some (y::ys)
def dI (s:S):List s.E->List R
 |[]=>[]
 |x::l=>s.cells x++dI s l
def rE (C:List R):R->Option R
 |.tok n=>match n with
  |0=>none
  |m+1=>match C[m]? with
   |some (.sl t xs)=>some (.sl t xs)
   |_=>none
 |.sl _ _=>none
 |r=>some r
def xq (C:List R):List R->Option (List R)
 |[]=>some []
 |r::l=>(rE C r).bind λx=>(xq C l).bind λxs=>some (x::xs)
def zy (s s':S) (C:List R):List s'.E->Option (List s.E)
 |[]=>some []
 |y::l=>(xq C (s'.cells y)).bind λc=>(s.fa c).bind λx=>(zy s s' C l).bind λxs=>some (x::xs)
def Gj:List R->List Nat
 |[]=>[]
 |.tok n::l=>n::Gj l
 |_::l=>Gj l
def Ty.plain:Ty->Bool
 |.tok=>false
 |.st .dp|.st .jf=>false
 |.sl t=>t.plain
 |.ho _|.hl _=>false
 |_=>true
def R.plain:R->Bool
 |.tok _=>false
 |.sl t _=>t.plain
 |_=>true
def Bm:List R->Bool
 |[]=>true
 |r::l=>cond r.plain (Bm l) false
def D2 (i:Nat):List Nat->Bool
 |[]=>true
 |k::l=>cond (Nat.beq k i) false (D2 i l)
mutual
def SV.less (k:Nat):SV->Bool
 |.r d x=>x.plain&&D2 k d
 |.lB d cs=>Bm cs&&D2 k d
 |.inn _ _ _=>false
 |.agg cs=>xr k cs
 |.tup cs=>xr k cs
 |.fn _ a b=>xr k a&&xr k b
 |_=>true
def xr (k:Nat):List SV->Bool
 |[]=>true
 |v::l=>v.less k&&xr k l
end
def Blk.less (k:Nat):Blk->Bool
 |.box cs=>xr k cs
 |.arr none t _=>t.plain
 |.arr (some d) t _=>t.plain&&D2 k d
def D3 (k:Nat):Nat->List Blk->Bool
 |_,[]=>true
 |n,b::l=>(Nat.beq n k||b.less k)&&D3 k (n+1) l
def Bn (k:Nat):List (Option Blk)->Bool
 |[]=>true
 |none::l=>Bn k l
 |some b::l=>b.less k&&Bn k l
variable {ρ:Type}
def Pn (s s':S) (k:Nat) (C:List R):List Blk->(List Blk->Nat->Option ρ)->Option ρ
 |[],K=>K [] 0
 |.arr none (.st s1) zs::l,K=>if h:s1=s' then
   cond (iq (Gj (dI s' (h▸zs)))) ((zy s s' C (h▸zs)).bind λxs=>Pn s s' k C l λl n=>K (.arr none (.st s) xs::l) (n+1)) none
  else cond ((Ty.st s1).plain) (Pn s s' k C l λl n=>K (.arr none (.st s1) zs::l) n) none
 |b::l,K=>cond (b.less k) (Pn s s' k C l λl n=>K (b::l) n) none
def Ry (s s':S) (k:Nat) (C:List R) (o:lI) (K:lI->Option ρ):Option ρ:=
 cond (o.v.less k&&Bn k o.kept) (Pn s s' k C o.news λl n=>cond (Nat.ble n 1) (K ⟨o.v,o.kept,l⟩) none) none
def Wn (s s':S) (kb:Nat) (G:MG):MG:=λ_ l b K=>
 match b[kb]? with
 |some (.arr none (.st s1) xs)=>if h:s1=s then
   cond (xr kb l&&D3 kb 0 b) ((yP s s' 1 (h▸xs)).bind λys=>G _ l (b.set kb (.arr none (.st s') ys)) λo=>Ry s s' kb (dI s (h▸xs)) o K) none
  else none
 |_=>none
section
variable [Tok] [Glo]
theorem xt {t:Ty} {i j:Nat} {r:R}:¬aB t [] i j r:=λ⟨x,hx,_⟩=>by simp at hx
theorem yQ:∀{l:List R} {n j:Nat} {r':R},(nH n l)[j]? =some r'->∃r,l[j]? =some r/\r'=JS (n+j) r
 |[],n,j,r',h=>by simp[nH]at h
 |r::l,n,0,r',h=>by simp[nH]at h;exact⟨r,rfl,h.symm⟩
 |r::l,n,j+1,r',h=>by
  simp only[nH,Ze]at h;obtain⟨x,h1,h2⟩:=yQ h;grind
theorem Bo {s s':S} (hsz:s'.sz=s.sz):∀{xs:List s.E} {n:Nat} {ys:List s'.E},yP s s' n xs=some ys->
  ys.length=xs.length/\∀i j r',aB (.st s') ys i j r'->∃r,aB (.st s) xs i j r/\r'=JS (n+(i*s.sz+j)) r
 |[],n,ys,h=>by cases h;exact⟨rfl,λi j r' hc=>(xt hc).elim⟩
 |x::xs,n,ys,h=>by
  simp only[yP,An,It]at h;obtain⟨y,hy,ys',h2,rfl⟩:=h;obtain⟨g1,g2⟩:=Bo hsz h2;refine⟨by simp[g1],λi j r' hc=>?_⟩
  rcases ez.1 hc with⟨rfl,hj⟩|⟨i',rfl,hc'⟩
  ·have e:(Ty.st s').cells y=nH n (s.cells x):=S.cM s' _ y hy;rw[e]at hj;obtain⟨r,h1,h2⟩:=yQ hj;exact⟨r,ez.2 (.inl ⟨rfl,h1⟩),by rw[h2];congr 1;omega⟩
  ·obtain⟨r,h1,h2⟩:=g2 i' j r' hc';refine⟨r,ez.2 (.inr ⟨i',rfl,h1⟩),?_⟩;grind
theorem rF {s:S}:∀{xs:List s.E} {k:Nat} {r:R},(dI s xs)[k]? =some r->aB (.st s) xs (k/s.sz) (k %s.sz) r
 |[],k,r,h=>by simp[dI]at h
 |x::xs,k,r,h=>by
  have hl:(s.cells x).length=s.sz:=Ty.cw (.st s) x;have hp:0<s.sz:=Ty.ie (.st s);simp only[dI]at h;by_cases c:k<s.sz
  ·rw[XQ (by omega)]at h;rw[YQ c,Yq c];exact ez.2 (.inl ⟨rfl,h⟩)
  ·rw[XL (by omega),hl]at h;have:=rF h
   have e1:k/s.sz=(k-s.sz)/s.sz+1:=by
    conv=>lhs;rw[show k=(k-s.sz)+s.sz from by omega]
    exact Nat.add_div_right _ hp
   have e2:k %s.sz=(k-s.sz) %s.sz:=by
    conv=>lhs;rw[show k=(k-s.sz)+s.sz from by omega]
    exact Nat.add_mod_right _ _
   rw[e1,e2];exact ez.2 (.inr ⟨_,rfl,this⟩)
theorem qf {s:S}:∀{xs:List s.E} {i j:Nat} {r:R},aB (.st s) xs i j r->(dI s xs)[i*s.sz+j]? =some r
 |[],i,j,r,h=>(xt h).elim
 |x::xs,i,j,r,h=>by
  have hl:(s.cells x).length=s.sz:=Ty.cw (.st s) x;have hj:j<s.sz:=(aO h).2;simp only[dI]
  rcases ez.1 h with⟨rfl,h1⟩|⟨i',rfl,h1⟩
  ·rw[XQ (by omega),ZQ,XN];exact h1
  ·rw[Y0,XL (by omega),hl,show i'*s.sz+s.sz+j-s.sz=i'*s.sz+j from by omega];exact qf h1
theorem Bp {C:List R}:∀{l l':List R},xq C l=some l'->l'.length=l.length/\∀(j:Nat) (r:R),l'[j]? =some r->∃r',l[j]? =some r'/\rE C r'=some r
 |[],l',h=>by cases h;exact⟨rfl,λj r hj=>by simp at hj⟩
 |r0::l,l',h=>by
  simp only[xq,An,It]at h;obtain⟨x,hx,xs,h2,rfl⟩:=h;obtain⟨g1,g2⟩:=Bp h2;grind
theorem xu {s s':S} {C:List R}:∀{ys:List s'.E} {xs:List s.E},zy s s' C ys=some xs->
  xs.length=ys.length/\∀i j r,aB (.st s) xs i j r->∃r',aB (.st s') ys i j r'/\rE C r'=some r
 |[],xs,h=>by cases h;exact⟨rfl,λi j r hc=>(xt hc).elim⟩
 |y::ys,xs,h=>by
  simp only[zy,An,It]at h;obtain⟨c,hc,x,hx,xs',h2,rfl⟩:=h;obtain⟨g1,g2⟩:=xu h2;refine⟨by simp[g1],λi j r hcell=>?_⟩
  rcases ez.1 hcell with⟨rfl,hj⟩|⟨i',rfl,hc'⟩
  ·have e:(Ty.st s).cells x=c:=S.cM s _ x hx;rw[e]at hj;obtain⟨r',h1,h2⟩:=(Bp hc).2 j r hj;exact⟨r',ez.2 (.inl ⟨rfl,h1⟩),h2⟩
  ·obtain⟨r',h1,h2⟩:=g2 i' j r hc';exact⟨r',ez.2 (.inr ⟨i',rfl,h1⟩),h2⟩
theorem Fp:∀{l:List R} {k n:Nat},l[k]? =some (.tok n)->n∈Gj l
 |[],k,n,h=>by simp at h
 |r::l,0,n,h=>by simp at h;subst h;simp[Gj]
 |r::l,k+1,n,h=>by
  have:=Fp (l:=l) (k:=k) (by simpa using h);cases r<;>simp[Gj,this]
theorem Lx:∀{l:List R} {a b n:Nat},(Gj l).Nodup->l[a]? =some (.tok n)->l[b]? =some (.tok n)->a=b
 |[],a,b,n,_,h,_=>by simp at h
 |r::l,0,0,n,_,_,_=>rfl
 |r::l,0,b+1,n,hn,h,h'=>by
  simp at h;subst h;have:=Fp (l:=l) (k:=b) (by simpa using h');simp only[Gj,YI]at hn
  grind
 |r::l,a+1,0,n,hn,h,h'=>by
  simp at h';subst h';have:=Fp (l:=l) (k:=a) (by simpa using h);simp only[Gj,YI]at hn
  grind
 |r::l,a+1,b+1,n,hn,h,h'=>by
  have hl:(Gj l).Nodup:=by
   cases r<;>simp only[Gj,YI]at hn<;>first|exact hn|exact hn.2
  exact congrArg (·+1) (Lx (l:=l) hl (by simpa using h) (by simpa using h'))
theorem Hp {C:List R} {r' r:R} (h:rE C r'=some r):(∃n t xs,r'=.tok (n+1)/\C[n]? =some (.sl t xs)/\r=.sl t xs)\/((∀n,r'≠.tok n)/\(∀t xs,r'≠.sl t xs)/\r=r'):=by
 cases r' with
 |tok n=>
  cases n with
  |zero=>cases h
  |succ m=>
   have h:(match C[m]? with|some (.sl t xs)=>some (R.sl t xs)|_=>none)=some r:=h
   grind
 |sl t xs=>cases h
 |nr=>cases h;exact .inr ⟨(λ_ e=>nomatch e),(λ_ _ e=>nomatch e),rfl⟩
 |int k n=>cases h;exact .inr ⟨(λ_ e=>nomatch e),(λ_ _ e=>nomatch e),rfl⟩
 |bool b=>cases h;exact .inr ⟨(λ_ e=>nomatch e),(λ_ _ e=>nomatch e),rfl⟩
 |str l=>cases h;exact .inr ⟨(λ_ e=>nomatch e),(λ_ _ e=>nomatch e),rfl⟩
theorem qg {k:Nat}:∀{d:List Nat},D2 k d=true->mem k d=false
 |[],_=>rfl
 |x::l,h=>by
  simp only[D2]at h;cases hb:Nat.beq x k<;>simp only[hb,cond_true,cond_false]at h
  ·simp only[mem,hb,cond_false];exact qg h
  ·cases h
theorem rG:∀{l:List R},Bm l=true->∀(j:Nat) (r:R),l[j]? =some r->r.plain=true
 |[],_,j,r,h=>by simp at h
 |x::l,h,j,r,hj=>by
  simp only[Bm]at h;cases hx:x.plain<;>simp only[hx,cond_true,cond_false]at h
  ·cases h
  ·cases j with
   |zero=>grind
   |succ j=>exact rG h j r (by simpa using hj)
theorem mS {t:Ty} (h:t.plain=true) {xs:List t.El} {i j:Nat} {r:R} (hc:aB t xs i j r):r.plain=true:=by
 obtain⟨x,_,hr⟩:=hc;have hm:=XX hr
 cases t with
 |tok=>cases h
 |ho s=>cases h
 |hl t=>cases h
 |sl t=>simp[Ty.cells]at hm;subst hm;exact h
 |int k=>simp[Ty.cells]at hm;subst hm;rfl
 |bool=>simp[Ty.cells]at hm;subst hm;rfl
 |str=>simp[Ty.cells]at hm;subst hm;rfl
 |st s=>
  have key:∀l:List R,Bm l=true->r∈l->r.plain=true:=λl hl hrl=>by
   obtain⟨j,hj⟩:=Yw hrl;exact rG hl j r hj
  cases s<;>first|(refine key _ ?_ hm;rfl)|exact nomatch h
theorem mT {k:Nat}:∀{l:List SV},xr k l=true->∀(j:Nat) (x:SV),l[j]? =some x->x.less k=true
 |[],_,j,x,h=>by simp at h
 |v::l,h,j,x,hj=>by
  simp only[xr,XB]at h
  cases j with
  |zero=>grind
  |succ j=>exact mT h.2 j x (by simpa using hj)
theorem D4 {k:Nat}:∀{l:List Blk} {n:Nat},D3 k n l=true->∀(j:Nat) (b:Blk),l[j]? =some b->n+j≠k->b.less k=true
 |[],n,_,j,b,h,_=>by simp at h
 |x::l,n,h,j,b,hj,hne=>by
  simp only[D3,XB,Zq]at h
  cases j with
  |zero=>
   simp at hj;subst hj
   rcases h.1 with h1|h1
   ·exact(hne (by simpa using On h1)).elim
   ·exact h1
  |succ j=>exact D4 h.2 j b (by simpa using hj) (by omega)
theorem sJ {k:Nat}:∀{l:List (Option Blk)},Bn k l=true->∀(j:Nat) (b:Blk),l[j]? =some (some b)->b.less k=true
 |[],_,j,b,h=>by simp at h
 |none::l,h,j,b,hj=>by
  cases j with
  |zero=>simp at hj
  |succ j=>exact sJ (l:=l) h j b (by simpa using hj)
 |some x::l,h,j,b,hj=>by
  simp only[Bn,XB]at h
  cases j with
  |zero=>grind
  |succ j=>exact sJ h.2 j b (by simpa using hj)
end
theorem xv {T T':Tok} {w:World} {ok:Cell->Prop} {r:R} {v:Value} (h:@RepR T w ok r v):r.plain=true->@RepR T' w ok r v:=by
 induction h with
 |int=>exactλ_=>.int _ _
 |bool=>exactλ_=>.bool _
 |str=>exactλ_=>.str _
 |tok=>exactλh=>nomatch h
 |nr v h=>exactλ_=>.nr v h
 |sl t xs a cap b o vs hcap ha hc _ ih=>exactλh=>.sl t xs a cap b o vs hcap ha hc λi j r hr=>ih i j r hr (mS h hr)
theorem MU {T T':Tok} {w:World} {r:R} {v:Value} {fp:Cell->Prop} (h:@fV T w r v fp):r.plain=true->@fV T' w r v fp:=by
 induction h with
 |int=>exactλ_=>.int _ _
 |bool=>exactλ_=>.bool _
 |str=>exactλ_=>.str _
 |tok=>exactλh=>nomatch h
 |nr v h=>exactλ_=>.nr v h
 |sl t xs a cap b o vs fs fp hcap ha lC hc _ hd1 hd2 hfp ih=>exactλh=>.sl t xs a cap b o vs fs fp hcap ha lC hc (λi j r hr=>ih i j r hr (mS h hr)) hd1 hd2 hfp
def Blk.sim:Blk->Blk->Prop
 |.box _,.box _=>True
 |.arr _ t xs,.arr _ t' ys=>t.sz=t'.sz/\xs.length=ys.length
 |_,_=>False
theorem Blk.Ly (b:Blk):b.sim b:=by cases b<;>simp[Blk.sim]
theorem Blk.TL {b b':Blk} (h:b.sim b'):b.lF=b'.lF:=by cases b<;>cases b'<;>first|rfl|exact h.elim
theorem JT {sh:Option (List Nat)} {t:Ty} {xs:List t.El} {B:Blk} (h:(Blk.arr sh t xs).sim B):∃sh' t' xs',B=.arr sh' t' xs'/\t.sz=t'.sz/\xs.length=xs'.length:=by
 cases B with
 |box=>exact h.elim
 |arr sh' t' xs'=>exact⟨sh',t',xs',rfl,h.1,h.2⟩
theorem SE {cs:List SV} {B:Blk} (h:(Blk.box cs).sim B):∃cs',B=.box cs':=by
 cases B with
 |box cs'=>grind
 |arr=>exact h.elim
theorem ar.move {T T':Tok} {w:World} {H H':aM} {pl pl':Pl} {k:Nat} (hH:∀i B,look H i=some B->∃B',look H' i=some B'/\B.sim B') (hh:∀i,pl'.hdr i=pl.hdr i)
  (ho:∀d p,mem k d=false->okd H pl d p->okd H' pl' d p) {v:SV} {u:Value} (h:@ar T w H pl v u):v.less k=true->@ar T' w H' pl' v u:=by
 induction h with
 |r d x v hx=>
  intro hl;simp only[SV.less,XB]at hl
  exact .r d x v ((xv hx hl.1).frame λp u hp hu=>⟨ho d p (qg hl.2) hp,hu⟩)
 |cF=>exactλ_=>.cF
 |qZ=>exactλ_=>.qZ
 |own i sh t xs hi=>
  intro _;obtain⟨B',h1,h2⟩:=hH i _ hi;obtain⟨sh',t',xs',rfl,h3,h4⟩:=JT h2;rw[<-hh i]
  exact .own i sh' t' xs' h1
 |sub i o n sh t xs a a' cap jk hi hhd hn hc hc' ha=>
  intro _;obtain⟨B',h1,h2⟩:=hH i _ hi;obtain⟨sh',t',xs',rfl,h3,h4⟩:=JT h2
  exact .sub i o n sh' t' xs' a a' cap jk h1 (by rw[hh i,hhd,h4]) (by omega) hc hc' (by rw[<-h3];exact ha)
 |bsl i n cs a hi hhd=>
  intro _;obtain⟨B',h1,h2⟩:=hH i _ hi;obtain⟨cs',rfl⟩:=SE h2
  exact .bsl i n cs' a h1 ((hh i).trans hhd)
 |wQ i o cs b m hi hhd=>
  intro _;obtain⟨B',h1,h2⟩:=hH i _ hi;obtain⟨cs',rfl⟩:=SE h2
  exact .wQ i o cs' b m h1 ((hh i).trans hhd)
 |uQ i x o sh t xs b m n cap hi hx hhd=>
  intro _;obtain⟨B',h1,h2⟩:=hH i _ hi;obtain⟨sh',t',xs',rfl,h3,h4⟩:=JT h2;rw[h3]
  exact .uQ i x o sh' t' xs' b m n cap h1 (by omega) ((hh i).trans hhd)
 |inn=>exactλh=>nomatch h
 |lB d cs b o vs hc hr=>
  intro hl;simp only[SV.less,XB]at hl;have hk:=qg hl.2
  exact .lB d cs b o vs (λj r hj=>⟨ho d _ hk (hc j r hj).1,(hc j r hj).2⟩) λj r hj=>(xv (hr j r hj) (rG hl.1 j r hj)).frame λp u hp hu=>⟨ho d p hk hp,hu⟩
 |agg cs vs h1 h2 _ ih=>exactλhl=>.agg cs vs h1 h2 λj x v hx hv=>ih j x v hx hv (mT hl j x hx)
 |tup cs vs h1 _ ih=>exactλhl=>.tup cs vs h1 λj x v hx hv=>ih j x v hx hv (mT hl j x hx)
 |fn f as bs us vs h1 _ h2 _ ih1 ih2=>
  intro hl;have hl:(xr k as&&xr k bs)=true:=hl;rw[XB]at hl
  exact .fn f as bs us vs h1 (λj x v hx hv=>ih1 j x v hx hv (mT hl.1 j x hx)) h2 λj x v hx hv=>ih2 j x v hx hv (mT hl.2 j x hx)
 |undef v=>exactλ_=>.undef v
theorem eL.move {T T':Tok} {w:World} {H H':aM} {pl pl':Pl} {k i:Nat} (hH:∀i B,look H i=some B->∃B',look H' i=some B'/\B.sim B') (hh:∀i,pl'.hdr i=pl.hdr i)
  (ho:∀d p,mem k d=false->okd H pl d p->okd H' pl' d p) {B:Blk} (hf:pl'.fp i=pl.fp i) (h:@eL T w H pl i B) (hl:B.less k=true):@eL T' w H' pl' i B:=by
 cases B with
 |box cs=>
  obtain⟨b,o,h1,h2,h3⟩:=h;refine⟨b,o,(hh i).trans h1,λp=>by rw[hf];exact h2 p,λj v hv=>?_⟩;obtain⟨u,g1,g2,g3,g4⟩:=h3 j v hv
  exact⟨u,g1,g2,g3,g4.move hH hh ho (mT hl j v hv)⟩
 |arr sh t xs=>
  cases sh with
  |none=>
   obtain⟨⟨a,cap,b,o,vs,fs,q1,q2,q3,q4,q5,q6,q7,q8,q9⟩⟩:=h
   exact⟨⟨a,cap,b,o,vs,fs,(hh i).trans q1,q2,q3,q4,q5,λi j r hc=>MU (q6 i j r hc) (mS hl hc),q7,q8,λp=>by rw[hf];exact q9 p⟩⟩
  |some d=>
   simp only[Blk.less,XB]at hl;obtain⟨⟨a,cap,b,o,vs,fs,q1,q2,q3,q4,q5,q6,q7,q8,q9⟩⟩:=h;exact⟨⟨a,cap,b,o,vs,fs,(hh i).trans q1,q2,q3,q4,q5,λi j r hc=>⟨(xv (q6 i j r hc).1 (mS hl.1 hc)).frame λp u hp hu=>⟨ho d p (qg hl.2) hp,hu⟩,(q6 i j r hc).2⟩,q7,q8,λp=>by rw[hf];exact q9 p⟩⟩
section
variable [Tok] [Glo]
inductive UnB (s s':S) (k:Nat) (C:List R):Blk->Blk->Prop
 |num (zs:List s'.E) (xs:List s.E) (hn:(Gj (dI s' zs)).Nodup) (hu:zy s s' C zs=some xs):UnB s s' k C (.arr none (.st s') zs) (.arr none (.st s) xs)
 |same (b:Blk) (h:b.less k=true):UnB s s' k C b b
def zz (s':S) (l:List Blk) (a:Nat):Prop:=∃zs:List s'.E,l[a]? =some (.arr none (.st s') zs)
theorem Po {s s':S} {k:Nat} {C:List R}:∀{l:List Blk} {K:List Blk->Nat->Option ρ} {out:ρ},Pn s s' k C l K=some out->
  ∃l' n,K l' n=some out/\l'.length=l.length/\(∀(j:Nat) (B:Blk),l[j]? =some B->∃B',l'[j]? =some B'/\UnB s s' k C B B')/\(∀a,zz s' l a->1<=n)/\(n<=1->∀a b,zz s' l a->zz s' l b->a=b):=by
 intro l
 induction l with
 |nil=>
  intro K out h
  exact⟨[],0,h,rfl,λj B hj=>by simp at hj,λa ⟨zs,h⟩=>by simp at h,λ_ a b ⟨zs,h⟩=>by simp at h⟩
 |cons x l ih=>
  intro K out h
  have step:∀(x':Blk) (m:Nat),UnB s s' k C x x'->(∀zs:List s'.E,x=.arr none (.st s') zs->m=1)->(Pn s s' k C l λl n=>K (x'::l) (n+m))=some out->
    ∃l' n,K l' n=some out/\l'.length=(x::l).length/\(∀(j:Nat) (B:Blk),(x::l)[j]? =some B->∃B',l'[j]? =some B'/\UnB s s' k C B B')/\(∀a,zz s' (x::l) a->1<=n)/\(n<=1->∀a b,zz s' (x::l) a->zz s' (x::l) b->a=b):=by
   intro x' m hU hm h;obtain⟨l',n,h1,h2,h3,h4,h5⟩:=ih h;refine⟨x'::l',n+m,h1,by simp[h2],λj B hj=>?_,λa ha=>?_,λhn a b ha hb=>?_⟩
   ·grind
   ·obtain⟨zs,ha⟩:=ha
    cases a with
    |zero=>grind
    |succ a=>have:=h4 a ⟨zs,by simpa using ha⟩;omega
   ·obtain⟨zs,ha⟩:=ha;obtain⟨zs',hb⟩:=hb
    cases a with
    |zero=>
     cases b with
     |zero=>rfl
     |succ b=>
      simp at ha;have q1:=hm zs ha;have q2:=h4 b ⟨zs',by simpa using hb⟩
      omega
    |succ a=>
     cases b with
     |zero=>
      simp at hb;have q1:=hm zs' hb;have q2:=h4 a ⟨zs,by simpa using ha⟩
      omega
     |succ b=>rw[h5 (by omega) a b ⟨zs,by simpa using ha⟩ ⟨zs',by simpa using hb⟩]
  cases x with
  |box cs=>
   have h:cond ((Blk.box cs).less k) (Pn s s' k C l λl n=>K (.box cs::l) n) none=some out:=h;cases hl:(Blk.box cs).less k<;>rw[hl]at h
   ·cases h
   ·exact step (.box cs) 0 (.same _ hl) (λzs e=>nomatch e) h
  |arr sh t xs=>
   have plain:(∀zs:List s'.E,Blk.arr sh t xs=.arr none (.st s') zs->False)->cond ((Blk.arr sh t xs).less k) (Pn s s' k C l λl n=>K (.arr sh t xs::l) n) none=some out->
     ∃l' n,K l' n=some out/\l'.length=(Blk.arr sh t xs::l).length/\(∀(j:Nat) (B:Blk),(Blk.arr sh t xs::l)[j]? =some B->∃B',l'[j]? =some B'/\UnB s s' k C B B')/\(∀a,zz s' (Blk.arr sh t xs::l) a->1<=n)/\(n<=1->∀a b,zz s' (Blk.arr sh t xs::l) a->zz s' (Blk.arr sh t xs::l) b->a=b):=by
    intro hne h;cases hl:(Blk.arr sh t xs).less k<;>rw[hl]at h
    ·cases h
    ·exact step _ 0 (.same _ hl) (λzs e=>(hne zs e).elim) h
   cases sh with
   |some d=>exact plain (λzs e=>nomatch e) h
   |none=>
    cases t with
    |st s1=>
     have h:(if hs:s1=s' then
       cond (iq (Gj (dI s' (hs▸xs)))) ((zy s s' C (hs▸xs)).bind λxs=>Pn s s' k C l λl n=>K (.arr none (.st s) xs::l) (n+1)) none
      else cond ((Ty.st s1).plain) (Pn s s' k C l λl n=>K (.arr none (.st s1) xs::l) n) none)=some out:=h
     by_cases hs:s1=s'
     ·subst hs;rw[dif_pos rfl]at h;have h:cond (iq (Gj (dI s1 xs))) ((zy s s1 C xs).bind λxs=>Pn s s1 k C l λl n=>K (.arr none (.st s) xs::l) (n+1)) none=some out:=h;cases hn:iq (Gj (dI s1 xs))<;>rw[hn]at h
      ·cases h
      ·rw[cond_true,An]at h;obtain⟨ys,hy,h⟩:=h;exact step _ 1 (.num xs ys (mL hn) hy) (λ_ _=>rfl) h
     ·rw[dif_neg hs]at h
      exact plain (λzs e=>by cases e;exact hs rfl) h
    |int k=>exact plain (λzs e=>nomatch e) h
    |bool=>exact plain (λzs e=>nomatch e) h
    |str=>exact plain (λzs e=>nomatch e) h
    |sl t=>exact plain (λzs e=>nomatch e) h
    |tok=>exact plain (λzs e=>nomatch e) h
    |ho s=>exact plain (λzs e=>nomatch e) h
    |hl t=>exact plain (λzs e=>nomatch e) h
theorem MV {s s':S} {k:Nat} {C:List R} {o:lI} {K:lI->Option ρ} {out:ρ} (h:Ry s s' k C o K=some out):
  ∃l',K ⟨o.v,o.kept,l'⟩=some out/\o.v.less k=true/\Bn k o.kept=true/\l'.length=o.news.length/\(∀(j:Nat) (B:Blk),o.news[j]? =some B->∃B',l'[j]? =some B'/\UnB s s' k C B B')/\
   (∀a b,zz s' o.news a->zz s' o.news b->a=b):=by
 unfold Ry at h;cases hc:(o.v.less k&&Bn k o.kept)<;>rw[hc]at h
 ·cases h
 rw[cond_true]at h;obtain⟨l',n,h1,h2,h3,h4,h5⟩:=Po h;rw[XB]at hc;cases hn:Nat.ble n 1<;>rw[hn]at h1
 ·cases h1
 ·exact⟨l',h1,hc.1,hc.2,h2,h3,h5 (XT hn)⟩
theorem xw {t:Ty} {xs:List t.El} {i j:Nat} {r r':R} (h:aB t xs i j r) (h':aB t xs i j r'):r=r':=by
 obtain⟨x,hx,hr⟩:=h;obtain⟨x',hx',hr'⟩:=h';grind
end
theorem rH {T T':Tok} {w w':World} {r:R} {v:Value} {f:Cell->Prop} (h:@fV T w r v f) (h1:∀n,r≠.tok n) (h2:∀t xs,r≠.sl t xs):@fV T' w' r v (λ_=>False):=by
 cases h with
 |int=>exact .int _ _
 |bool=>exact .bool _
 |str=>exact .str _
 |nr _ h=>exact .nr _ h
 |tok n=>grind
 |sl t xs=>grind
theorem Pp {T:Tok} {w:World} {r:R} {v:Value} {f:Cell->Prop} (h:@fV T w r v f) (h2:∀t xs,r≠.sl t xs):∀p,¬f p:=by
 cases h with
 |int=>grind
 |bool=>grind
 |str=>grind
 |tok n=>grind
 |nr=>grind
 |sl t xs=>grind
theorem Pq {T:Tok} {w:World} {n:Nat} {v:Value} {f:Cell->Prop} (h:@fV T w (.tok n) v f):v=T.env n:=by cases h;rfl
theorem xx [Tok] (l:List Blk) (k:Nat):look (aN 0 l) k=l[k]? :=by rw[bG,if_pos (Ya _),Yt]
abbrev Da (env:Nat->Value) (h1:∀n,one (env n)=true) (h2:env 0=.slice none 0 0):Tok:=⟨env,h1,h2⟩
theorem Wo {P:Program} {g:FuncId} {G:MG} {s s':S} (hsz:s'.sz=s.sz) (hps:(Ty.st s).plain=true) (WY:(Ty.st s').plain=false) (kb:Nat)
    (Xp:∀(ρ:Type) l b (K:lI->Option ρ),G ρ l b K=(G lI l b some).bind K) (h:∀T:Tok,@Bf T _ P g G) [T0:Tok]:Bf P g (Wn s s' kb G):=by
  intro ρ args bs K out hG;unfold Wn at hG;split at hG
  rotate_left
  · cases hG
  rename_i s1 xs hkb;split at hG
  rotate_left
  · cases hG
  rename_i hs;subst hs;have hG:cond (xr kb args&&D3 kb 0 bs) ((yP s1 s' 1 xs).bind λys=>G ρ args (bs.set kb (.arr none (.st s') ys)) λo=>Ry s1 s' kb (dI s1 xs) o K) none=some out:=hG;cases TM:(xr kb args&&D3 kb 0 bs)<;>rw[TM]at hG
  · cases hG
  rw[cond_true,An]at hG;obtain⟨ys,hys,hG⟩:=hG;rw[Xp,An]at hG;obtain⟨o,ho,hun⟩:=hG;obtain⟨l',hK,hlv,hlk,hln,hU,Xq⟩:=MV hun;rw[XB]at TM;obtain⟨hla,hlb⟩:=TM;obtain⟨hny,hcy⟩:=Bo hsz hys;have Wp:@List.length (Ty.st s').El ys=@List.length (Ty.st s1).El xs:=hny;have hkl:kb<bs.length:=(Of.1 hkb).1;have hszT:(Ty.st s').sz=(Ty.st s1).sz:=hsz;have hszE:(Ty.st s1).sz=s1.sz:=rfl;have NN:0<s1.sz:=Ty.ie (.st s1);refine⟨⟨o.v,o.kept,l'⟩,hK,?_⟩;generalize ho':(⟨o.v,o.kept,l'⟩:lI)=o'
  have hv':o'.v=o.v:=by rw[<-ho']
  have hk':o'.kept=o.kept:=by rw[<-ho']
  have hn':o'.news=l':=by rw[<-ho']
  have hfw:∀k B,look o.heap k=some B->∃B',look o'.heap k=some B'/\UnB s1 s' kb (dI s1 xs) B B':=λk B hB=>by
    by_cases c:k<o.kept.length
    · rw[lI.lO o c]at hB;rw[lI.lO o' (by rw[hk'];exact c),hk'];refine⟨B,hB,.same B ?_⟩;rw[An]at hB;obtain⟨x,hx,rfl⟩:=hB;exact sJ hlk k B hx
    · rw[lI.ju o (by omega)]at hB;rw[lI.ju o' (by rw[hk'];omega),hk',hn'];grind
  have hbw:∀k B',look o'.heap k=some B'->∃B,look o.heap k=some B/\UnB s1 s' kb (dI s1 xs) B B':=λk B' hB'=>by
    cases hq:look o.heap k with
    | some B =>
      grind
    | none =>
      by_cases c:k<o.kept.length
      · rw[lI.lO o c]at hq;rw[lI.lO o' (by rw[hk'];exact c),hk',hq]at hB';cases hB'
      · rw[lI.ju o (by omega),List.getElem?_eq_none_iff]at hq;rw[lI.ju o' (by rw[hk'];omega),hk',hn',Yb (by omega)]at hB';cases hB'
  have hnum1:∀k k' (zs zs':List s'.E),look o.heap k=some (.arr none (.st s') zs)->look o.heap k'=some (.arr none (.st s') zs')->k=k':=λk k' zs zs' h1 h2=>by
    have low:∀k (zs:List s'.E),look o.heap k=some (.arr none (.st s') zs)->o.kept.length<=k/\zz s' o.news (k-o.kept.length):=λk zs h1=>by
      by_cases c:k<o.kept.length
      · rw[lI.lO o c,An]at h1;obtain⟨x,hx,rfl⟩:=h1;have:=sJ hlk k _ hx;rw[show Blk.less kb (Blk.arr none (Ty.st s') zs)=(Ty.st s').plain from rfl,WY]at this;cases this
      · rw[lI.ju o (by omega)]at h1;exact⟨by omega,zs,h1⟩
    grind
  obtain⟨o2,ho2,hM⟩:=h T0 lI args _ some o ho;rw[YA ho2]at hM;obtain⟨hE,Ve,_⟩:=hM;refine⟨hE,by rw[hk',Ve,YB],?_⟩;intro w us pl hr hlen tF hgl
  have MW:look (aN 0 bs) kb=some (.arr none (.st s1) xs):=by rw[xx];exact hkb
  obtain⟨R0⟩:=hr.blk kb _ MW
  let env:Nat->Value:=λn=>match n with
    |0=>.slice none 0 0
    |n+1=>if n/s1.sz<xs.length then R0.vs (n/s1.sz) (n %s1.sz)else .slice none 0 0
  have henv1:∀n,one (env n)=true:=λn=>by
    cases n with
    |zero=>rfl
    | succ n =>
      show one (if n/s1.sz<xs.length then R0.vs (n/s1.sz) (n %s1.sz)else .slice none 0 0)=true;by_cases c:n/s1.sz<xs.length
      · rw[if_pos c];obtain⟨r,hc⟩:=dU (t:=.st s1) (xs:=xs) c (ZI n NN);exact(R0.hr _ _ r hc).tD
      · rw[if_neg c];rfl
  have hTenv:∀n,n/s1.sz<xs.length->env (n+1)=R0.vs (n/s1.sz) (n %s1.sz):=λn c=>by
    show(if n/s1.sz<xs.length then R0.vs (n/s1.sz) (n %s1.sz)else .slice none 0 0)=_;rw[if_pos c]
  let inner:Cell->Prop:=λp=>∃i j r,aB (.st s1) xs i j r/\R0.fs i j p
  have D5:∀p,inner p->pl.fp kb p:=λp hp=>(R0.hfp p).2 (.inr hp)
  let plT:Pl:=⟨pl.hdr,λk p=>if k=kb then reg R0.b R0.o (R0.cap*(Ty.st s1).sz) p else pl.fp k p,λp=>pl.base p/\¬inner p⟩
  have hfpT:∀k p,plT.fp k p->pl.fp k p:=λk p hp=>by
    have hp:if k=kb then reg R0.b R0.o (R0.cap*(Ty.st s1).sz) p else pl.fp k p:=hp
    by_cases c:k=kb
    · rw[if_pos c]at hp;rw[c];exact(R0.hfp p).2 (.inl hp)
    · rw[if_neg c]at hp;exact hp
  have hfpN:∀k,k≠kb->plT.fp k=pl.fp k:=λk c=>by
    funext p
    show(if k=kb then reg R0.b R0.o (R0.cap*(Ty.st s1).sz) p else pl.fp k p)=_;rw[if_neg c]
  have hbsT:∀k,k≠kb->look (aN 0 (bs.set kb (.arr none (.st s') ys))) k=look (aN 0 bs) k:=λk c=>by
    rw[xx,xx,Za (λe=>c e.symm)]
  have hbsK:look (aN 0 (bs.set kb (.arr none (.st s') ys))) kb=some (.arr none (.st s') ys):=by
    rw[xx,YR hkl]
  have hHT:∀i B,look (aN 0 bs) i=some B->∃B',look (aN 0 (bs.set kb (.arr none (.st s') ys))) i=some B'/\B.sim B':=λi B hB=>by
    by_cases c:i=kb
    · subst c;rw[MW]at hB;cases hB;exact⟨_,hbsK,hszT.symm,hny.symm⟩
    · exact⟨B,by rw[hbsT i c];exact hB,B.Ly⟩
  have hoT:∀d p,mem kb d=false->okd (aN 0 bs) pl d p->okd (aN 0 (bs.set kb (.arr none (.st s') ys))) plT d p:=λd p hd hp=>by
    have hno:¬pl.fp kb p:=hp.2 kb _ MW λhm=>by rw[hd]at hm;cases hm
    refine⟨⟨hp.1,λhi=>hno (D5 p hi)⟩,λi B hB hm hf=>?_⟩;by_cases c:i=kb
    · subst c;exact hno (hfpT _ p hf)
    · rw[hbsT i c]at hB;exact hp.2 i B hB hm (hfpT i p hf)
  have hown:=hr.gy
  have hrT:@cY (Da env henv1 rfl) (aN 0 (bs.set kb (.arr none (.st s') ys))) plT w:=by
    refine @cY.mk (Da env henv1 rfl) (aN 0 (bs.set kb (.arr none (.st s') ys))) plT w (λi B hB=>?_) (λi j B B' p h1 h2 f1 f2=>?_) (λi B p hB hf=>(show pl.base p/\¬inner p from⟨?_,λhi=>?_⟩)) (λp hp=>(show pl.base p/\¬inner p from⟨hr.nb p hp,λhi=>?_⟩))
    · by_cases c:i=kb
      · subst c;rw[hbsK]at hB;cases hB;refine⟨⟨R0.a,R0.cap,R0.b,R0.o,R0.vs,λ_ _ _=>False,by rw[Wp];exact R0.Az,by rw[Wp];exact R0.hcap,R0.ha,by rw[hszT];exact R0.lC,λi j r' hc=>?_,λi j r' hc=>?_,λi j r p hc hf=>hf.elim,λi j r i' j' r' p _ _ hf=>hf.elim,λp=>?_⟩⟩
        · obtain⟨r,h1,_⟩:=hcy i j r' hc;rw[hszT];exact R0.hc i j r h1
        · obtain⟨r,h1,h2⟩:=hcy i j r' hc;have h0:=R0.hr i j r h1;have hpr:=mS hps h1;have hij:=aO h1;subst h2
          cases r with
          | sl t l =>
            have e:env (1+(i*s1.sz+j))=R0.vs i j:=by
              have hj:j<s1.sz:=hij.2
              have d1:(i*s1.sz+j)/s1.sz=i:=by rw[Ye,Y3 NN,YQ hj];omega
              have d2:(i*s1.sz+j) %s1.sz=j:=by rw[Ye,YH,Yq hj]
              rw[show 1+(i*s1.sz+j)=(i*s1.sz+j)+1 from by omega,hTenv _ (by rw[d1];exact hij.1),d1,d2]
            show @fV (Da env henv1 rfl) w (.tok (1+(i*s1.sz+j))) (R0.vs i j) _;rw[<-e]
            exact @fV.tok (Da env henv1 rfl) w _
          |int k n=>exact rH h0 (λ_ e=>nomatch e) (λ_ _ e=>nomatch e)
          |bool b=>exact rH h0 (λ_ e=>nomatch e) (λ_ _ e=>nomatch e)
          |str l=>exact rH h0 (λ_ e=>nomatch e) (λ_ _ e=>nomatch e)
          |tok n=>cases hpr
          |nr=>exact rH h0 (λ_ e=>nomatch e) (λ_ _ e=>nomatch e)
        · show(if i=i then reg R0.b R0.o (R0.cap*(Ty.st s1).sz) p else pl.fp i p)↔_;rw[if_pos rfl,hszT];exact⟨λh=>.inl h,λh=>h.elim id λ⟨_,_,_,_,hf⟩=>hf.elim⟩
      · rw[hbsT i c]at hB;have hl:=D4 hlb i B (by rw[<-xx];exact hB) (by rw[XN];exact c);exact eL.move (pl:=pl) (pl':=plT) hHT (λ_=>rfl) hoT (hfpN i c) (hr.blk i B hB) hl
    · have low:∀{i B},look (aN 0 (bs.set kb (.arr none (.st s') ys))) i=some B->∃B,look (aN 0 bs) i=some B:=λ{i B} hB=>by
        by_cases c:i=kb
        · subst c;exact⟨_,MW⟩
        · rw[hbsT i c]at hB;exact⟨_,hB⟩
      obtain⟨B1,g1⟩:=low h1;obtain⟨B2,g2⟩:=low h2;exact hr.dis i j B1 B2 p g1 g2 (hfpT i p f1) (hfpT j p f2)
    · by_cases c:i=kb
      · subst c;exact hr.ob _ _ p MW (hfpT _ p hf)
      · rw[hbsT i c]at hB;exact hr.ob i B p hB (hfpT i p hf)
    · by_cases c:i=kb
      · subst c
        have hf:if i=i then reg R0.b R0.o (R0.cap*(Ty.st s1).sz) p else pl.fp i p:=hf
        rw[if_pos rfl]at hf;obtain⟨i,j,r,hc,hfs⟩:=hi;exact R0.hd1 i j r p hc hfs hf
      · rw[hbsT i c]at hB;exact c (hr.dis i kb B _ p hB MW (hfpT i p hf) (D5 p hi))
    · obtain⟨u,hu⟩:=hown kb _ p MW (D5 p hi);rw[hp]at hu;cases hu
  have hglT:Sr w (aN 0 (bs.set kb (.arr none (.st s') ys))) plT:=hgl.bJ (dF.refl w) λp u hp hno=>⟨λ⟨i,B,hB,hf⟩=>by
      by_cases c:i=kb
      · subst c;exact hno ⟨_,_,MW,hfpT _ p hf⟩
      · rw[hbsT i c]at hB
        exact hno ⟨i,B,hB,hfpT i p hf⟩,hp⟩
  obtain⟨o2,ho2,hM⟩:=h (Da env henv1 rfl) lI args _ some o ho;rw[YA ho2]at hM;obtain⟨_,_,G6⟩:=hM;refine Calls.mono (G6 w us plT hrT hlen (λj x u hx hu=>(tF j x u hx hu).move (pl:=pl) (pl':=plT) hHT (λ_=>rfl) hoT (mT hla j x hx)) hglT) ?_;intro e w' Wq;obtain⟨u,pl',he,hr',hvr,wY,hgrow,Rk,Pt⟩:=Wq
  have hin:∀p,inner p->(∀u,w.at? p=some u->w'.at? p=some u/\w'.eK p=w.eK p)/\∀k B,look o.heap k=some B->¬pl'.fp k p:=λp hp=>by
    have hno:∀k B,look (aN 0 (bs.set kb (.arr none (.st s') ys))) k=some B->¬plT.fp k p:=λk B hB hf=>(@cY.ob (Da env henv1 rfl) _ plT w hrT k B p hB hf).2 hp;obtain⟨u,hu⟩:=hown kb _ p MW (D5 p hp);refine⟨λu hu=>(Pt p u hu hno).2,(Pt p u hu hno).1⟩
  have hnb:=@cY.nb (Da env henv1 rfl) _ _ _ hr';have VN:=@cY.blk (Da env henv1 rfl) _ _ _ hr';have Xr:=@cY.dis (Da env henv1 rfl) _ _ _ hr';have hob:=@cY.ob (Da env henv1 rfl) _ _ _ hr'
  let plD:Pl:=⟨pl'.hdr,λk p=>pl'.fp k p\/∃(zs:List s'.E) (i j n:Nat) (r:R),look o.heap k=some (.arr none (.st s') zs)/\aB (.st s') zs i j (.tok (n+1))/\aB (.st s1) xs (n/s1.sz) (n %s1.sz) r/\R0.fs (n/s1.sz) (n %s1.sz) p,pl.base⟩
  have hbs:∀p,pl'.base p->pl.base p/\¬inner p:=λp hp=>by rw[wY]at hp;exact hp
  have hHD:∀i B,look o.heap i=some B->∃B',look o'.heap i=some B'/\B.sim B':=λi B hB=>by
    obtain⟨B',h1,h2⟩:=hfw i B hB;refine⟨B',h1,?_⟩
    cases h2 with
    |num zs xs' hn hu=>exact⟨hszT,(xu hu).1.symm⟩
    |same=>exact B.Ly
  have hoD:∀d p,mem kb d=false->okd o.heap pl' d p->okd o'.heap plD d p:=λd p _ hp=>by
    refine⟨(hbs p hp.1).1,λi B' hB' hm hf=>?_⟩;obtain⟨B,hB,hUB⟩:=hbw i B' hB'
    rcases hf with hf|⟨zs,i',j,n,r,_,_,h3,h4⟩
    · refine hp.2 i B hB (λhd=>?_) hf;rw[<-hm hd];obtain⟨B2,g1,g2⟩:=hHD i B hB;rw[hB']at g1;cases g1;exact Blk.TL g2
    · exact(hbs p hp.1).2 ⟨_,_,r,h3,h4⟩
  refine⟨u,plD,he,?_,?_,rfl,hgrow,?_,?_⟩
  · refine ⟨λ i B' hB' => ?_, λ i j B B' p h1 h2 f1 f2 => ?_, λ i B' p hB' hf => ?_, λ p hp => (hbs p (hnb p hp)).1⟩
    · obtain ⟨B, hB, hUB⟩ := hbw i B' hB'
      cases hUB with
      | same _ hl =>
        refine eL.move (pl:=pl') (pl':=plD) hHD (λ_=>rfl) hoD ?_ (VN i B' hB) hl
        funext p
        apply propext;refine⟨λhp=>hp.elim id λ⟨zs,i',j,n,r,h1,_⟩=>?_,λhp=>.inl hp⟩;rw[hB]at h1;cases h1;rw[show Blk.less kb (Blk.arr none (Ty.st s') zs)=(Ty.st s').plain from rfl,WY]at hl
        cases hl
      | num zs xs' hn hu =>
        obtain⟨hlx,hcx⟩:=xu hu;have WZ:@List.length (Ty.st s1).El xs'=@List.length (Ty.st s').El zs:=hlx;obtain⟨R1⟩:=VN i _ hB
        have SF:∀i j r',aB (.st s') zs i j r'->∃r,aB (.st s1) xs' i j r/\rE (dI s1 xs) r'=some r:=λi j r' hc=>by
          obtain⟨g1,g2⟩:=aO hc;obtain⟨r,hr⟩:=dU (t:=.st s1) (xs:=xs') (i:=i) (j:=j) (by omega) (by rw[<-hszT];exact g2);obtain⟨r2,h1,h2⟩:=hcx i j r hr;rw[xw hc h1];exact⟨r,hr,h2⟩
        have Xt:∀i j n,aB (.st s') zs i j (.tok (n+1))->∃t l,aB (.st s1) xs (n/s1.sz) (n %s1.sz) (.sl t l)/\aB (.st s1) xs' i j (.sl t l):=λi j n hc=>by
          obtain⟨r,h1,h2⟩:=SF i j _ hc
          rcases Hp h2 with⟨n',t,l,e1,e2,rfl⟩|⟨e1,_,_⟩
          · cases e1;exact⟨t,l,rF e2,h1⟩
          · exact(e1 _ rfl).elim
        refine⟨⟨R1.a,R1.cap,R1.b,R1.o,R1.vs,λi j p=>∃n r,aB (.st s') zs i j (.tok (n+1))/\aB (.st s1) xs (n/s1.sz) (n %s1.sz) r/\R0.fs (n/s1.sz) (n %s1.sz) p,
          by rw[WZ];exact R1.Az,by rw[WZ];exact R1.hcap,R1.ha,by rw[<-hszT];exact R1.lC,λi j r hc=>?_,λi j r hc=>?_,λi' j r p hc hf=>?_,λi1 j1 r1 i2 j2 r2 p hc1 hc2 hf1 hf2=>?_,λp=>?_⟩⟩
        · obtain⟨r',h1,_⟩:=hcx i j r hc;rw[<-hszT];exact R1.hc i j r' h1
        · obtain⟨r',h1,h2⟩:=hcx i j r hc;have hR:=R1.hr i j r' h1
          rcases Hp h2 with⟨n,t,l,rfl,e2,rfl⟩|⟨e1,e2,rfl⟩
          · have hcell:=rF e2;have hval:R1.vs i j=R0.vs (n/s1.sz) (n %s1.sz):=(Pq hR).trans (hTenv n (aO hcell).1);have hD:=(R0.hr _ _ _ hcell).frame (w':=w') λp u hp hu=>(hin p ⟨_,_,_,hcell,hp⟩).1 u hu;rw[hval];refine hD.congr λp=>⟨λhp=>⟨n,_,h1,hcell,hp⟩,λ⟨n',r2,g1,g2,g3⟩=>?_⟩;have:=xw h1 g1;cases this;exact g3
          · refine(rH hR e1 e2).congr λp=>⟨λhf=>hf.elim,λ⟨n',r2,g1,_⟩=>?_⟩;exact e1 _ (xw h1 g1)
        · obtain⟨n,r2,g1,g2,g3⟩:=hf;intro lC;exact(hin p ⟨_,_,r2,g2,g3⟩).2 i _ hB ((R1.hfp p).2 (.inl (by rw[hszT];exact lC)))
        · obtain⟨n1,q1,g1,g2,g3⟩:=hf1;obtain⟨n2,q2,k1,k2,k3⟩:=hf2;obtain⟨d1,d2⟩:=R0.hd2 _ _ q1 _ _ q2 p g2 k2 g3 k3
          have hnn:n1=n2:=by
            rw[<-Zv n1 s1.sz,<-Zv n2 s1.sz,d1,d2]
          subst hnn;have e1:=qf g1;have e2:=qf k1;have hi:=Lx hn e1 e2;have l1:j1<s'.sz:=(aO g1).2;have l2:j2<s'.sz:=(aO k1).2;have hp':0<s'.sz:=Ty.ie (.st s')
          have m1:(i1*s'.sz+j1)/s'.sz=i1:=by rw[Ye,Y3 hp',YQ l1];omega
          have m2:(i2*s'.sz+j2)/s'.sz=i2:=by rw[Ye,Y3 hp',YQ l2];omega
          have m3:(i1*s'.sz+j1) %s'.sz=j1:=by rw[Ye,YH,Yq l1]
          have m4:(i2*s'.sz+j2) %s'.sz=j2:=by rw[Ye,YH,Yq l2]
          exact⟨by rw[<-m1,<-m2,hi],by rw[<-m3,<-m4,hi]⟩
        · constructor
          · rintro (hp|⟨zs0,i',j,n,r,h1,h2,h3,h4⟩)
            · rcases(R1.hfp p).1 hp with lC|⟨i',j,r',hc,hf⟩
              · exact .inl (by rw[<-hszT];exact lC)
              · obtain⟨r,_,hu'⟩:=SF i' j r' hc;refine(Pp (R1.hr i' j r' hc) (λt l e=>?_) p hf).elim;rw[e]at hu';cases hu'
            · rw[hB]at h1;cases h1;obtain⟨t,l,_,hx⟩:=Xt i' j n h2;exact .inr ⟨i',j,_,hx,n,r,h2,h3,h4⟩
          · rintro (lC|⟨i',j,r,hc,n,r2,g1,g2,g3⟩)
            · exact .inl ((R1.hfp p).2 (.inl (by rw[hszT];exact lC)))
            · exact .inr ⟨zs,i',j,n,r2,hB,g1,g2,g3⟩
    · obtain⟨B1,g1,_⟩:=hbw i B h1;obtain⟨B2,g2,_⟩:=hbw j B' h2
      rcases f1 with f1|⟨zs,i',j',n,r,a1,a2,a3,a4⟩
      · rcases f2 with f2|⟨zs,i',j',n,r,a1,a2,a3,a4⟩
        · exact Xr i j B1 B2 p g1 g2 f1 f2
        · exact((hin p ⟨_,_,r,a3,a4⟩).2 i B1 g1 f1).elim
      · rcases f2 with f2|⟨zs2,i2,j2,n2,r2,b1,b2,b3,b4⟩
        · exact((hin p ⟨_,_,r,a3,a4⟩).2 j B2 g2 f2).elim
        · exact hnum1 i j zs zs2 a1 b1
    · obtain⟨B,hB,_⟩:=hbw i B' hB'
      rcases hf with hf|⟨zs,i',j',n,r,a1,a2,a3,a4⟩
      · exact(hbs p (hob i B p hB hf)).1
      · exact hr.ob kb _ p MW (D5 p ⟨_,_,r,a3,a4⟩)
  · rw[hv'];exact hvr.move (pl:=pl') (pl':=plD) hHD (λ_=>rfl) hoD hlv
  · intro k B hB;rw[hk']at hB;obtain⟨h1,B0,h2,h3⟩:=Rk k B hB;by_cases c:k=kb
    · subst c;rw[YR hkl]at h2;cases h2
      cases B with
      |box=>exact h3.elim
      |arr sh t zs=>exact⟨h1,.arr none (.st s1) xs,by rw[<-xx,MW],⟨hszT.symm.trans h3.1,Wp.symm.trans h3.2⟩⟩
    · exact⟨h1,B0,by rwa [Za (λe=>c e.symm)]at h2,h3⟩
  · intro p u hu hno
    have hnoT:∀k B,look (aN 0 (bs.set kb (.arr none (.st s') ys))) k=some B->¬plT.fp k p:=λk B hB hf=>by
      by_cases c:k=kb
      · subst c;exact hno _ _ MW (hfpT _ p hf)
      · rw[hbsT k c]at hB;exact hno k B hB (hfpT k p hf)
    obtain⟨g1,g2⟩:=Pt p u hu hnoT;refine⟨λk B' hB' hf=>?_,g2⟩;obtain⟨B,hB,_⟩:=hbw k B' hB'
    rcases hf with hf|⟨zs,i',j',n,r,a1,a2,a3,a4⟩
    · exact g1 k B hB hf
    · exact hno kb _ MW (D5 p ⟨_,_,r,a3,a4⟩)
def lJ (xs:List Task):Option (List dY):=yP .task .dp 1 xs
def j8 (zs:List dY):Bool:=iq (Gj (dI .dp zs))
def qS (xs:List Task) (zs:List dY):Option (List Task):=zy .task .dp (dI .task xs) zs
end
section
variable [Tok] [Glo]
structure Cd (α:Type) where
 n:Nat
 to:α->List R
 of:List R->Option α
 h:∀rs a,of rs=some a->to a=rs
def R.one (k:IntKind):R->Option Int
 |.int k' n=>cond (decide (k'=k)) (some n) none
 |_=>none
def cdI (k:IntKind):Cd Int:=⟨1,λn=>[.int k n],λ
 |[.int k' n]=>cond (decide (k'=k)) (some n) none
 |_=>none,λrs a h=>by
  split at h
  ·rename_i k' n;by_cases c:k'=k
   ·rw[decide_eq_true c]at h;cases h;rw[c]
   ·rw[decide_eq_false c]at h;exact nomatch h
  ·exact nomatch h⟩
def cdZ:Cd Int:=cdI .i64
def cdB:Cd Bool:=⟨1,λb=>[.bool b],λ
 |[.bool b]=>some b
 |_=>none,λrs a h=>by
  split at h
  ·cases h;rfl
  ·exact nomatch h⟩
def cdN:Cd Nat:=⟨1,λn=>[.tok n],λ
 |[.tok n]=>some n
 |_=>none,λrs a h=>by
  split at h
  ·cases h;rfl
  ·exact nomatch h⟩
def cdT:Cd (List UInt8):=⟨1,λl=>[.str l],λ
 |[.str l]=>some l
 |_=>none,λrs a h=>by
  split at h
  ·cases h;rfl
  ·exact nomatch h⟩
def cdL (t:Ty):Cd (List t.El):=⟨1,λxs=>[.sl t xs],λ
 |[r]=>r.asL t
 |_=>none,λrs a h=>by
  split at h
  ·rw[R.gp h]
  ·exact nomatch h⟩
def cdS (s:S):Cd s.E:=⟨s.sz,s.cells,λrs=>(Ty.st s).fa rs,λrs a h=>Ty.cM (.st s) rs a h⟩
def cdU:Cd Unit:=⟨0,λ_=>[],λ
 |[]=>some ()
 |_=>none,λrs a h=>by
  split at h
  ·rfl
  ·exact nomatch h⟩
def Cd.p {α β:Type} (A:Cd α) (B:Cd β):Cd (α× β):=⟨A.n+B.n,λx=>A.to x.1++B.to x.2,λrs=>(A.of (rs.take A.n)).bind λa=>(B.of (rs.drop A.n)).bind λb=>some (a,b),λrs x h=>by
 simp only[An,It]at h;obtain⟨a,ha,b,hb,rfl⟩:=h
 rw[A.h _ _ ha,B.h _ _ hb,YN]⟩
def Cd.m {α β:Type} (A:Cd α) (f:α->β) (g:β->α) (e:∀x,g (f x)=x):Cd β:=⟨A.n,λx=>A.to (g x),λrs=>(A.of rs).bind λa=>some (f a),λrs x h=>by
 simp only[An,It]at h;obtain⟨a,ha,rfl⟩:=h
 rw[e,A.h _ _ ha]⟩
def uq:Cd Job:=((cdS .model).p (cdZ.p ((cdS .dn).p cdZ))).m (λx=>⟨x.1,x.2.1,x.2.2.1,x.2.2.2⟩) (λx=>(x.model,x.at_,x.act,x.jQ)) λ_=>rfl
def bh:Cd ak:=(cdZ.p (cdZ.p (cdZ.p ((cdL (.st .task)).p (cdZ.p (cdZ.p (cdZ.p cdZ))))))).m (λx=>⟨x.1,x.2.1,x.2.2.1,x.2.2.2.1,x.2.2.2.2.1,x.2.2.2.2.2.1,x.2.2.2.2.2.2.1,x.2.2.2.2.2.2.2⟩)
 (λx=>(x.now,x.ai,x.age,x.tasks,x.run,x.left,x.turns,x.next)) λ_=>rfl
def da:Cd Runtime:=(bh.p ((cdL (.st .model)).p ((cdL .bool).p (cdL (.st .request))))).m (λx=>⟨x.1,x.2.1,x.2.2.1,x.2.2.2⟩) (λx=>(x.sched,x.ao,x.aq,x.ae)) λ_=>rfl
def qh:Cd Reader:=((cdL (.int .u8)).p (cdZ.p cdB)).m (λx=>⟨x.1,x.2.1,x.2.2⟩) (λx=>(x.b,x.at_,x.bad)) λ_=>rfl
inductive Sk where
 |r (d:List Nat) (j:Nat)
 |v (x:SV)
 |sub (i j l:Nat)
 |ptr (i j o:Nat)
 |agg (l:List Sk)
 |tup (l:List Sk)
 |fn (f:Nat) (a b:List Sk)
 |lB (d js:List Nat)
inductive SkB where
 |box (l:List Sk)
 |arr (sh:Option (List Nat)) (t:Ty) (j:Nat)
abbrev Sk.h (j:Nat):Sk:=.r [] j
def hs (j:Nat):Nat->List Sk
 |0=>[]
 |n+1=>.r [] j::hs (j+1) n
abbrev Sk.own (i:Nat):Sk:=.v (.own i)
def R.tk:R->Nat
 |.tok n=>n
 |_=>0
def R.ls (t:Ty) (r:R):List t.El:=(r.asL t).getD []
def at0:List R->Nat->R
 |[],_=>.tok 0
 |r::_,0=>r
 |_::l,j+1=>at0 l j
def atL (f:Nat->R):List Nat->List R
 |[]=>[]
 |j::l=>f j::atL f l
mutual
def Sk.fill (f:Nat->R):Sk->SV
 |.r d j=>.r d (f j)
 |.v x=>x
 |.sub i j l=>.sub i (f j).tk (f l).tk
 |.ptr i j o=>.ptr i (f j).tk o
 |.agg l=>.agg (qi f l)
 |.tup l=>.tup (qi f l)
 |.fn g a b=>.fn (.func g) (qi f a) (qi f b)
 |.lB d js=>.lB d (atL f js)
def qi (f:Nat->R):List Sk->List SV
 |[]=>[]
 |s::l=>s.fill f::qi f l
end
def SkB.fill (f:Nat->R):SkB->Blk
 |.box l=>.box (qi f l)
 |.arr sh t j=>.arr sh t ((f j).ls t)
def ur (f:Nat->R):List SkB->List Blk
 |[]=>[]
 |b::l=>b.fill f::ur f l
abbrev Ps:=List (Nat× R)
def eqL:List Nat->List Nat->Bool
 |[],[]=>true
 |a::l,b::m=>cond (Nat.beq a b) (eqL l m) false
 |_,_=>false
def Rz:SV->SV->Bool
 |.own i,.own j=>Nat.beq i j
 |.cF,.cF=>true
 |.qZ,.qZ=>true
 |.undef,.undef=>true
 |.ptr i x o,.ptr i' x' o'=>cond (Nat.beq i i') (cond (Nat.beq x x') (Nat.beq o o') false) false
 |.bsl i n,.bsl i' n'=>cond (Nat.beq i i') (Nat.beq n n') false
 |_,_=>false
def VU:List Nat->List R->Option Ps
 |[],[]=>some []
 |j::l,r::m=>(VU l m).bind λq=>some ((j,r)::q)
 |_,_=>none
mutual
def Sk.mt:Sk->SV->Option Ps
 |.r d j,v=>match v with
  |.r d' x=>cond (eqL d d') (some [(j,x)]) none
  |_=>none
 |.v x,v=>cond (Rz x v) (some []) none
 |.sub i j l,v=>match v with
  |.sub i' o n=>cond (Nat.beq i i') (some [(j,.tok o),(l,.tok n)]) none
  |_=>none
 |.ptr i j o,v=>match v with
  |.ptr i' x o'=>cond (Nat.beq i i') (cond (Nat.beq o o') (some [(j,.tok x)]) none) none
  |_=>none
 |.agg l,v=>match v with
  |.agg cs=>mtL l cs
  |_=>none
 |.tup l,v=>match v with
  |.tup cs=>mtL l cs
  |_=>none
 |.fn g a b,v=>match v with
  |.fn (.func g') a' b'=>cond (Nat.beq g g') ((mtL a a').bind λp=>(mtL b b').bind λq=>some (p++q)) none
  |_=>none
 |.lB d js,v=>match v with
  |.lB d' cs=>cond (eqL d d') (VU js cs) none
  |_=>none
def mtL:List Sk->List SV->Option Ps
 |[],l=>match l with
  |[]=>some []
  |_=>none
 |s::m,l=>match l with
  |v::l=>(s.mt v).bind λp=>(mtL m l).bind λq=>some (p++q)
  |_=>none
end
def Wr:Option (List Nat)->Option (List Nat)->Bool
 |none,none=>true
 |some a,some b=>eqL a b
 |_,_=>false
def SkB.mt:SkB->Blk->Option Ps
 |.box l,b=>match b with
  |.box cs=>mtL l cs
  |_=>none
 |.arr sh t j,b=>match b with
  |.arr sh' t' xs=>cond (Wr sh sh') (cond (decide (t'=t)) (some [(j,.sl t' xs)]) none) none
  |_=>none
def mtB:List SkB->List Blk->Option Ps
 |[],l=>match l with
  |[]=>some []
  |_=>none
 |s::m,l=>match l with
  |v::l=>(s.mt v).bind λp=>(mtB m l).bind λq=>some (p++q)
  |_=>none
theorem Hq:∀{a b:List Nat},eqL a b=true->a=b
 |[],[],_=>rfl
 |[],_::_,h=>nomatch h
 |_::_,[],h=>nomatch h
 |a::l,b::m,h=>by
  simp only[eqL]at h;cases hb:Nat.beq a b<;>rw[hb]at h<;>simp only[cond_true,cond_false]at h
  ·exact nomatch h
  ·rw[On hb,Hq h]
theorem TN {a b:Option (List Nat)} (h:Wr a b=true):a=b:=by
 cases a with
 |none=>cases b with
  |none=>rfl
  |some _=>exact nomatch h
 |some x=>cases b with
  |none=>exact nomatch h
  |some y=>exact congrArg some (Hq h)
theorem RA {a b:SV} (h:Rz a b=true):a=b:=by
 unfold Rz at h;split at h
 ·rw[On h]
 ·rfl
 ·rfl
 ·rfl
 ·rename_i i x o i' x' o';cases h1:Nat.beq i i'<;>rw[h1]at h<;>simp only[cond_true,cond_false]at h
  ·exact nomatch h
  ·cases h2:Nat.beq x x'<;>rw[h2]at h<;>simp only[cond_true,cond_false]at h
   ·exact nomatch h
   ·rw[On h1,On h2,On h]
 ·rename_i i n i' n';cases h1:Nat.beq i i'<;>rw[h1]at h<;>simp only[cond_true,cond_false]at h
  ·exact nomatch h
  ·rw[On h1,On h]
 ·exact nomatch h
def nI (f:Nat->R) (ps:Ps):Prop:=∀p∈ps,f p.1=p.2
theorem nI.left {f:Nat->R} {p q:Ps} (h:nI f (p++q)):nI f p:=λx hx=>h x (ZC _ hx)
theorem nI.right {f:Nat->R} {p q:Ps} (h:nI f (p++q)):nI f q:=λx hx=>h x (Zy _ hx)
theorem Pu {f:Nat->R}:∀{js:List Nat} {cs:List R} {ps:Ps},VU js cs=some ps->nI f ps->atL f js=cs
 |[],[],_,_,_=>rfl
 |[],_::_,_,h,_=>nomatch h
 |_::_,[],_,h,_=>nomatch h
 |j::l,r::m,ps,h,hf=>by
  simp only[VU,An,It]at h;obtain⟨q,hq,rfl⟩:=h;rw[atL,Pu hq λp hp=>hf p (XV _ hp),hf (j,r) Yc]
mutual
theorem Sk.MX {f:Nat->R}:(s:Sk)->{v:SV}->{ps:Ps}->s.mt v=some ps->nI f ps->s.fill f=v
 |.r d j,v,ps,h,hf=>by
  simp only[Sk.mt]at h;split at h
  ·rename_i d' x;cases hd:eqL d d'<;>rw[hd]at h<;>simp only[cond_true,cond_false]at h
   ·exact nomatch h
   ·cases h;rw[Sk.fill,Hq hd,hf (j,x) Yc]
  ·exact nomatch h
 |.v x,v,ps,h,hf=>by
  simp only[Sk.mt]at h;cases hd:Rz x v<;>rw[hd]at h<;>simp only[cond_true,cond_false]at h
  ·exact nomatch h
  ·rw[Sk.fill,RA hd]
 |.sub i j l,v,ps,h,hf=>by
  simp only[Sk.mt]at h;split at h
  ·rename_i i' o n;cases hd:Nat.beq i i'<;>rw[hd]at h<;>simp only[cond_true,cond_false]at h
   ·exact nomatch h
   ·cases h;rw[Sk.fill,On hd,hf (j,.tok o) Yc,hf (l,.tok n) (XV _ Yc)];rfl
  ·exact nomatch h
 |.ptr i j o,v,ps,h,hf=>by
  simp only[Sk.mt]at h;split at h
  ·rename_i i' x o';cases hd:Nat.beq i i'<;>rw[hd]at h<;>simp only[cond_true,cond_false]at h
   ·exact nomatch h
   ·cases hd2:Nat.beq o o'<;>rw[hd2]at h<;>simp only[cond_true,cond_false]at h
    ·exact nomatch h
    ·cases h;rw[Sk.fill,On hd,On hd2,hf (j,.tok x) Yc];rfl
  ·exact nomatch h
 |.agg l,v,ps,h,hf=>by
  simp only[Sk.mt]at h;split at h
  ·rw[Sk.fill,yR l h hf]
  ·exact nomatch h
 |.tup l,v,ps,h,hf=>by
  simp only[Sk.mt]at h;split at h
  ·rw[Sk.fill,yR l h hf]
  ·exact nomatch h
 |.fn g a b,v,ps,h,hf=>by
  simp only[Sk.mt]at h;split at h
  ·rename_i g' a' b';cases hd:Nat.beq g g'<;>rw[hd]at h<;>simp only[cond_true,cond_false]at h
   ·exact nomatch h
   ·simp only[An,It]at h;obtain⟨p,hp,q,hq,rfl⟩:=h;rw[Sk.fill,On hd,yR a hp hf.left,yR b hq hf.right]
  ·exact nomatch h
 |.lB d js,v,ps,h,hf=>by
  simp only[Sk.mt]at h;split at h
  ·rename_i d' cs;cases hd:eqL d d'<;>rw[hd]at h<;>simp only[cond_true,cond_false]at h
   ·exact nomatch h
   ·rw[Sk.fill,Hq hd,Pu h hf]
  ·exact nomatch h
theorem yR {f:Nat->R}:(s:List Sk)->{v:List SV}->{ps:Ps}->mtL s v=some ps->nI f ps->qi f s=v
 |[],v,ps,h,hf=>by
  simp only[mtL]at h;split at h
  ·rfl
  ·exact nomatch h
 |s::m,v,ps,h,hf=>by
  simp only[mtL]at h;split at h
  ·simp only[An,It]at h;obtain⟨p,hp,q,hq,rfl⟩:=h;rw[qi,Sk.MX s hp hf.left,yR m hq hf.right]
  ·exact nomatch h
end
theorem SkB.MX {f:Nat->R} (s:SkB) {b:Blk} {ps:Ps} (h:s.mt b=some ps) (hf:nI f ps):s.fill f=b:=by
 cases s with
 |box l=>
  simp only[SkB.mt]at h;split at h
  ·rw[SkB.fill,yR l h hf]
  ·exact nomatch h
 |arr sh t j=>
  simp only[SkB.mt]at h;split at h
  ·rename_i sh' t' xs;cases hd:Wr sh sh'<;>rw[hd]at h<;>simp only[cond_true,cond_false]at h
   ·exact nomatch h
   ·by_cases c:t'=t
    ·subst c;rw[decide_eq_true rfl]at h;cases h;rw[SkB.fill,TN hd,hf (j,.sl t' xs) Yc];simp[R.ls,R.asL]
    ·rw[decide_eq_false c]at h;exact nomatch h
  ·exact nomatch h
theorem Hr {f:Nat->R}:(s:List SkB)->{v:List Blk}->{ps:Ps}->mtB s v=some ps->nI f ps->ur f s=v
 |[],v,ps,h,hf=>by
  simp only[mtB]at h;split at h
  ·rfl
  ·exact nomatch h
 |s::m,v,ps,h,hf=>by
  simp only[mtB]at h;split at h
  ·simp only[An,It]at h;obtain⟨p,hp,q,hq,rfl⟩:=h;rw[ur,SkB.MX s hp hf.left,Hr m hq hf.right]
  ·exact nomatch h
def ord (ps:Ps):Nat->Nat->Option (List R)
 |_,0=>some []
 |j,n+1=>(look ps j).bind λr=>(ord ps (j+1) n).bind λl=>some (r::l)
theorem SG {ps:Ps}:∀{n j:Nat} {rs:List R},ord ps j n=some rs->∀i,i<n->look ps (j+i)=some (at0 rs i)
 |0,_,_,_,i,hi=>absurd hi (Nat.not_lt_zero _)
 |n+1,j,rs,h,i,hi=>by
  simp only[ord,An,It]at h;obtain⟨r,hr,l,hl,rfl⟩:=h
  cases i with
  |zero=>exact hr
  |succ i=>have:=SG hl i (by omega);rwa [show j+1+i=j+(i+1)from by omega]at this
def Pv (n:Nat):Ps->Bool
 |[]=>true
 |(j,_)::l=>cond (Nat.ble (j+1) n) (cond (JR (look l j)) false (Pv n l)) false
theorem D6 {n:Nat}:∀{ps:Ps},Pv n ps=true->∀p∈ps,p.1<n/\look ps p.1=some p.2
  |[],_,_,h=>nomatch h
  | (j, r) :: l, h, p, hp => by
    simp only[Pv]at h;cases h1:Nat.ble (j+1) n<;>rw[h1]at h<;>simp only[cond_true,cond_false]at h
    · exact nomatch h
    · cases h2:JR (look l j)<;>rw[h2]at h<;>simp only[cond_true,cond_false]at h
      · rcases X3.1 hp with rfl|hp
        · exact⟨XT h1,by simp[look]⟩
        · obtain⟨g1,g2⟩:=D6 h p hp;refine⟨g1,?_⟩;rw[aC];by_cases c:j=p.1
          · subst c;rw[g2]at h2;exact nomatch h2
          · rw[if_neg c];exact g2
      · exact nomatch h
def rd {α:Type} (c:Cd α) (ps:Ps):Option α:=cond (Pv c.n ps) ((ord ps 0 c.n).bind c.of) none
theorem Fq {α:Type} {c:Cd α} {ps:Ps} {a:α} (h:rd c ps=some a):nI (at0 (c.to a)) ps:=by
 unfold rd at h;cases hk:Pv c.n ps<;>rw[hk]at h<;>simp only[cond_true,cond_false]at h
 ·exact nomatch h
 ·rw[An]at h;obtain⟨rs,hrs,ha⟩:=h;intro p hp;obtain⟨g1,g2⟩:=D6 hk p hp;have:=SG hrs p.1 g1;rw[XN,g2]at this;rw[c.h _ _ ha];exact(YA this).symm
end
section
variable [Tok] [Glo]
structure SkI where
 a:List Sk
 b:List SkB
structure SkO where
 v:Sk
 kept:List (Option SkB)
 news:List SkB
def SkI.IW {A:Type} (i:SkI) (c:Cd A) (l:List SV) (b:List Blk):Option A:=(mtL i.a l).bind λp=>(mtB i.b b).bind λq=>rd c (p++q)
theorem SkI.TP {A:Type} {i:SkI} {c:Cd A} {l:List SV} {b:List Blk} {a:A} (h:i.IW c l b=some a):l=qi (at0 (c.to a)) i.a/\b=ur (at0 (c.to a)) i.b:=by
 simp only[SkI.IW,An]at h;obtain⟨p,hp,q,hq,h⟩:=h;have:=Fq h;exact⟨(yR _ hp this.left).symm,(Hr _ hq this.right).symm⟩
def JU (f:Nat->R):List (Option SkB)->List (Option Blk)
 |[]=>[]
 |none::l=>none::JU f l
 |some b::l=>some (b.fill f)::JU f l
def mtK:List (Option SkB)->List (Option Blk)->Option Ps
 |[],l=>match l with
  |[]=>some []
  |_=>none
 |none::m,l=>match l with
  |none::l=>mtK m l
  |_=>none
 |some s::m,l=>match l with
  |some b::l=>(s.mt b).bind λp=>(mtK m l).bind λq=>some (p++q)
  |_=>none
theorem Pw {f:Nat->R}:(s:List (Option SkB))->{v:List (Option Blk)}->{ps:Ps}->mtK s v=some ps->nI f ps->JU f s=v
 |[],v,ps,h,hf=>by
  simp only[mtK]at h;split at h
  ·rfl
  ·exact nomatch h
 |none::m,v,ps,h,hf=>by
  simp only[mtK]at h;split at h
  ·rw[JU,Pw m h hf]
  ·exact nomatch h
 |some s::m,v,ps,h,hf=>by
  simp only[mtK]at h;split at h
  ·simp only[An,It]at h;obtain⟨p,hp,q,hq,rfl⟩:=h;rw[JU,SkB.MX s hp hf.left,Pw m hq hf.right]
  ·exact nomatch h
theorem rI {f:Nat->R}:(s:List (Option SkB))->(JU f s).length=s.length
 |[]=>rfl
 |none::l=>congrArg (·+1) (rI l)
 |some _::l=>congrArg (·+1) (rI l)
theorem yS {f:Nat->R}:(s:List SkB)->(ur f s).length=s.length
 |[]=>rfl
 |_::l=>congrArg (·+1) (yS l)
def S.dec:(s:S)->DecidableEq s.E
 |.shape=>(inferInstance:DecidableEq Shape)|.dn=>(inferInstance:DecidableEq az)|.aS=>(inferInstance:DecidableEq aA)|.model=>(inferInstance:DecidableEq Model)|.task=>(inferInstance:DecidableEq Task)|.request=>(inferInstance:DecidableEq Request)
 |.step=>(inferInstance:DecidableEq Step)|.event=>(inferInstance:DecidableEq Event)|.entry=>(inferInstance:DecidableEq Entry)|.Qw=>(inferInstance:DecidableEq Mc)|.dp=>(inferInstance:DecidableEq dY)|.jf=>(inferInstance:DecidableEq uR)
def Ty.dec:(t:Ty)->DecidableEq t.El
 |.int _=>(inferInstance:DecidableEq Int)
 |.bool=>(inferInstance:DecidableEq Bool)
 |.str=>(inferInstance:DecidableEq (List UInt8))
 |.sl t=>@instDecidableEqList _ t.dec
 |.st s=>s.dec
 |.tok=>(inferInstance:DecidableEq Nat)
 |.ho s=>letI:=s.dec;(inferInstance:DecidableEq (Option s.E))
 |.hl t=>letI:=t.dec;(inferInstance:DecidableEq (Option (List t.El)))
def TQ {α:Type} (z e:R) (K:Option α):Option α:=
 match z,e with
 |.int k a,.int k' b=>cond (decide (k=k')) (cond (dZ a b) K none) none
 |.bool a,.bool b=>cond (dZ a b) K none
 |.str a,.str b=>cond (dZ a b) K none
 |.tok a,.tok b=>cond (dZ a b) K none
 |.sl t a,.sl t' b=>if h:t'=t then cond (@dZ _ (@instDecidableEqList _ t.dec) a (h▸b)) K none else none
 |_,_=>none
theorem RB {α:Type} {z e:R} {K:Option α} {x:α} (h:TQ z e K=some x):z=e/\K=some x:=by
 unfold TQ at h
 have go:∀{β:Type} [DecidableEq β] {a b:β} {K:Option α},cond (dZ a b) K none=some x->a=b/\K=some x:=λ{β} _ {a b K} h=>by
  unfold dZ at h;by_cases c:a=b
  ·rw[decide_eq_true c]at h;exact⟨c,h⟩
  ·rw[decide_eq_false c]at h;exact nomatch h
 split at h
 ·rename_i k a k' b;by_cases c:k=k'
  ·rw[decide_eq_true c]at h;obtain⟨h1,h2⟩:=go h;exact⟨by rw[c,h1],h2⟩
  ·rw[decide_eq_false c]at h;exact nomatch h
 ·obtain⟨h1,h2⟩:=go h;exact⟨by rw[h1],h2⟩
 ·obtain⟨h1,h2⟩:=go h;exact⟨by rw[h1],h2⟩
 ·obtain⟨h1,h2⟩:=go h;exact⟨by rw[h1],h2⟩
 ·split at h
  ·rename_i t a t' b c;subst c;obtain⟨h1,h2⟩:=@go _ (@instDecidableEqList _ (Ty.dec _)) _ _ _ h;exact⟨by rw[h1],h2⟩
  ·exact nomatch h
 ·exact nomatch h
def Vf {α:Type} (n:Nat) (f:Nat->R):Ps->(Ps->Option α)->Option α
 |[],K=>K []
 |(j,z)::l,K=>cond (Nat.ble (j+1) n) (TQ z (f j) (Vf n f l K)) (Vf n f l λq=>K ((j-n,z)::q))
theorem JV {α:Type} {n:Nat} {f:Nat->R} {x:α}:∀{ps:Ps} {K:Ps->Option α},Vf n f ps K=some x->∃q,K q=some x/\∀p∈ps,(p.1<n/\f p.1=p.2)\/(n<=p.1/\(p.1-n,p.2)∈q)
  |[],K,h=>⟨[],h,λ_ hp=>nomatch hp⟩
  | (j, z) :: l, K, h => by
    simp only[Vf]at h;cases hb:Nat.ble (j+1) n<;>rw[hb]at h<;>simp only[cond_true,cond_false]at h
    · obtain⟨q,hq,hp⟩:=JV h;refine⟨_,hq,λp h=>?_⟩
      rcases X3.1 h with rfl|h
      · have:¬j+1<=n:=λc=>by rw[YV c]at hb;exact nomatch hb
        exact .inr ⟨by simp only;omega,Yc⟩
      · rcases hp p h with h|⟨h1,h2⟩
        · exact .inl h
        · exact .inr ⟨h1,XV _ h2⟩
    · obtain⟨h1,h2⟩:=RB h;obtain⟨q,hq,hp⟩:=JV h2;refine⟨q,hq,λp h=>?_⟩
      rcases X3.1 h with rfl|h
      · exact .inl ⟨XT hb,h1.symm⟩
      · exact hp p h
theorem Px:∀(l m:List R) (j:Nat),at0 (l++m) j=if j<l.length then at0 l j else at0 m (j-l.length)
 |[],m,j=>by simp
 |r::l,m,0=>by simp[at0]
 |r::l,m,j+1=>by
  rw[YY,at0,Px l m j];by_cases c:j<l.length
  ·rw[if_pos c,if_pos (by simpa using c),at0]
  ·rw[if_neg c,if_neg (by simpa using c),XI,Nat.add_sub_add_right]
def Vg {A B:Type} (cA:Cd A) (cB:Cd B) (a:A) (b:B):Nat->R:=at0 (cA.to a++cB.to b)
def SkO.enc {A B:Type} (o:SkO) (cA:Cd A) (cB:Cd B) (a:A) (b:B):lI:=⟨o.v.fill (Vg cA cB a b),JU (Vg cA cB a b) o.kept,ur (Vg cA cB a b) o.news⟩
def SkO.dec {A B:Type} (o:SkO) (cA:Cd A) (cB:Cd B) (a:A) (m:lI):Option B:=
  (o.v.mt m.v).bind λp=>(mtK o.kept m.kept).bind λq=>(mtB o.news m.news).bind λr=>
    cond (Nat.beq (cA.to a).length cA.n) (Vf cA.n (at0 (cA.to a)) (p++(q++r)) (rd cB)) none
theorem SkO.Hs {A B:Type} {o:SkO} {cA:Cd A} {cB:Cd B} {a:A} {m:lI} {b:B} (h:o.dec cA cB a m=some b):m=o.enc cA cB a b:=by
 simp only[SkO.dec,An]at h;obtain⟨p,hp,q,hq,r,hr,h⟩:=h;cases hb:Nat.beq (cA.to a).length cA.n<;>rw[hb]at h<;>simp only[cond_true,cond_false]at h
 ·exact nomatch h
 have hn:=On hb;obtain⟨s,hs,hf⟩:=JV h;have hr':=Fq hs
 have hF:nI (Vg cA cB a b) (p++(q++r)):=λx hx=>by
  unfold Vg;rw[Px,hn]
  rcases hf x hx with⟨h1,h2⟩|⟨h1,h2⟩
  ·rw[if_pos h1,h2]
  ·rw[if_neg (by omega)];exact hr' _ h2
 cases m;simp only[SkO.enc,Sk.MX _ hp hF.left,Pw _ hq hF.right.left,Hr _ hr hF.right.right]
def gM {A B:Type} (i:SkI) (cA:Cd A) (o:SkO) (cB:Cd B) (F:A->Option B):MG:=λ_ l b K=>(i.IW cA l b).bind λa=>(F a).bind λr=>K (o.enc cA cB a r)
def oM {A B:Type} (pr:List Pr) (i:SkI) (cA:Cd A) (o:SkO) (cB:Cd B) (F:A->Option B):Orc:=Hc pr (gM i cA o cB F)
theorem Ws {A B:Type} {E:Env} (hE:mM E) {LP:Nat->Ev B->Ev B} {g:FuncId} {fn:Func} (hf:E.P.funcs[g]? =some fn) (hc:fn.body.isSome=true) (hnm:(fn.name== "runtime.NumGoroutine")=false)
  {i:SkI} {cA:Cd A} {o:SkO} {cB:Cd B} {F:A->Option B} (hn:Nat.ble i.a.length fn.ntmps=true) (hl:Nat.beq o.kept.length i.b.length=true)
  (hLP:jr E LP 0 (fn.body.getD .skip)) (rt:RT) (ks:List KD)
  (h:∀a,ev E LP 0 (fn.body.getD .skip) (NP fn (qi (at0 (cA.to a)) i.a) (ur (at0 (cA.to a)) i.b)) (Pg E.P fn rt ks (o.dec cA cB a))=F a):
  Bf E.P g (gM i cA o cB F):=by
 have hln:∀(f:Nat->R) (l:List Sk),(qi f l).length=l.length:=λf l=>by
  induction l with
  |nil=>rfl
  |cons s l ih=>rw[qi,XI,ih];rfl
 exact Bl hE hf hc hnm (λa=>qi (at0 (cA.to a)) i.a) (λa=>ur (at0 (cA.to a)) i.b) (i.IW cA) (λl b a h=>SkI.TP h)
  (λa=>by rw[hln];exact hn) hLP (enc:=o.enc cA cB) (λa r=>by simp only[SkO.enc,rI,yS];exact On hl) (λa m r h=>SkO.Hs h) h
theorem okM {A B:Type} {E:Env} (hE:mM E) {LP:Nat->Ev B->Ev B} {g:FuncId} {fn:Func} (hf:E.P.funcs[g]? =some fn) (hc:fn.body.isSome=true) (hnm:(fn.name== "runtime.NumGoroutine")=false)
  {pr:List Pr} {i:SkI} {cA:Cd A} {o:SkO} {cB:Cd B} {F:A->Option B} (hn:Nat.ble i.a.length fn.ntmps=true) (hl:Nat.beq o.kept.length i.b.length=true)
  (hLP:jr E LP 0 (fn.body.getD .skip)) (rt:RT) (ks:List KD)
  (h:∀a,ev E LP 0 (fn.body.getD .skip) (NP fn (qi (at0 (cA.to a)) i.a) (ur (at0 (cA.to a)) i.b)) (Pg E.P fn rt ks (o.dec cA cB a))=F a):
  tG E.P g (oM pr i cA o cB F):=rA (Ws hE hf hc hnm hn hl hLP rt ks h)
def rJ:List Sh->List Nat->List R->List Arg
 |.one _::l,fs,r::rs=>.one r::rJ l fs rs
 |.agg ts::l,fs,rs=>.agg (rs.take ts.length)::rJ l fs (rs.drop ts.length)
 |.fn::l,f::fs,rs=>.fn (.func f) [] []::rJ l fs rs
 |_,_,_=>[]
def rsP:List Sh->List Nat->List Arg->Option (List R)
 |[],_,l=>match l with
  |[]=>some []
  |_=>none
 |.one _::m,fs,l=>match l with
  |.one r::l=>(rsP m fs l).bind λq=>some (r::q)
  |_=>none
 |.agg ts::m,fs,l=>match l with
  |.agg rs::l=>cond (Nat.beq rs.length ts.length) ((rsP m fs l).bind λq=>some (rs++q)) none
  |_=>none
 |.fn::m,fs,l=>match fs,l with
  |f::fs,.fn (.func g) [] []::l=>cond (Nat.beq g f) (rsP m fs l) none
  |_,_=>none
theorem Ht:∀{sh:List Sh} {fs:List Nat} {l:List Arg} {rs:List R},rsP sh fs l=some rs->rJ sh fs rs=l
 |[],fs,l,rs,h=>by
  simp only[rsP]at h;split at h
  ·cases fs<;>rfl
  ·exact nomatch h
 |.one t::m,fs,l,rs,h=>by
  simp only[rsP]at h;split at h
  ·simp only[An,It]at h;obtain⟨q,hq,rfl⟩:=h;rw[rJ,Ht hq]
  ·exact nomatch h
 |.agg ts::m,fs,l,rs,h=>by
  simp only[rsP]at h;split at h
  ·rename_i rs' l';cases hb:Nat.beq rs'.length ts.length<;>rw[hb]at h<;>simp only[cond_true,cond_false]at h
   ·exact nomatch h
   ·simp only[An,It]at h;obtain⟨q,hq,rfl⟩:=h;have e:=On hb;rw[rJ,<-e,List.take_left,List.drop_left,Ht hq]
  ·exact nomatch h
 |.fn::m,fs,l,rs,h=>by
  simp only[rsP]at h;split at h
  ·rename_i f fs g l';cases hb:Nat.beq g f<;>rw[hb]at h<;>simp only[cond_true,cond_false]at h
   ·exact nomatch h
   ·rw[rJ,Ht h,On hb]
  ·exact nomatch h
theorem nJ:∀(sh:List Sh) (fs:List Nat) (rs:List R),(rJ sh fs rs).length<=sh.length
 |[],fs,rs=>by simp[rJ]
 |.one _::l,fs,r::rs=>Nat.succ_le_succ (nJ l fs rs)
 |.one _::_,_,[]=>by simp[rJ]
 |.agg ts::l,fs,rs=>Nat.succ_le_succ (nJ l fs _)
 |.fn::l,f::fs,rs=>Nat.succ_le_succ (nJ l fs rs)
 |.fn::_,[],_=>by simp[rJ]
structure SkP where
 v:Sk
 news:List SkB:=[]
def SkP.enc {B:Type} (o:SkP) (cB:Cd B) (b:B):Out:=(o.v.fill (at0 (cB.to b)),ur (at0 (cB.to b)) o.news)
def SkP.dec {B:Type} (o:SkP) (cB:Cd B) (m:Out):Option B:=(o.v.mt m.1).bind λp=>(mtB o.news m.2).bind λr=>rd cB (p++r)
theorem SkP.Hs {B:Type} {o:SkP} {cB:Cd B} {m:Out} {b:B} (h:o.dec cB m=some b):m=o.enc cB b:=by
 simp only[SkP.dec,An]at h;obtain⟨p,hp,r,hr,h⟩:=h;have hF:=Fq h;cases m;simp only[SkP.enc,Sk.MX _ hp hF.left,Hr _ hr hF.right]
def oP {A B:Type} (sh:List Sh) (fs:List Nat) (cA:Cd A) (o:SkP) (cB:Cd B) (F:A->Option B):Orc:=JK sh λ_ l K=>((rsP sh fs l).bind cA.of).bind λa=>(F a).bind λr=>K (o.enc cB r)
theorem okP {A B:Type} {E:Env} (hE:mM E) {LP:Nat->Ev B->Ev B} {g:FuncId} {fn:Func} (hf:E.P.funcs[g]? =some fn) (hc:fn.body.isSome=true) (hnm:(fn.name== "runtime.NumGoroutine")=false)
  {sh:List Sh} {fs:List Nat} {cA:Cd A} {o:SkP} {cB:Cd B} {F:A->Option B} (hn:Nat.ble sh.length fn.ntmps=true)
  (hLP:jr E LP 0 (fn.body.getD .skip)) (rt:RT)
  (h:∀a,ev E LP 0 (fn.body.getD .skip) (st0 fn (rJ sh fs (cA.to a))) (fin E.P fn rt (o.dec cB))=F a):
  tG E.P g (oP sh fs cA o cB F):=
 DU (yO hE hf hc hnm (λa=>rJ sh fs (cA.to a)) (λl=>(rsP sh fs l).bind cA.of) (λl a h=>by
  rw[An]at h;obtain⟨rs,h1,h2⟩:=h
  rw[cA.h _ _ h2,Ht h1]) (λa=>YV (YW (nJ _ _ _) (XT hn))) hLP (λm r h=>SkP.Hs h) h)
end
section
variable [Tok] [Glo]
structure O (P:Program) (g:FuncId) where
 o:Orc
 ok:tG P g o
abbrev OL (P:Program):=List (Sigma λg=>O P g)
def Wt {P:Program}:OL P->FuncId->Orc
 |[],_=>UD
 |⟨n,x⟩::l,g=>cond (Nat.beq g n) x.o (Wt l g)
theorem xy {P:Program}:∀(l:OL P) (g:FuncId),tG P g (Wt l g)
 |[],g=>Q1 P g
 |⟨_,x⟩::l,g=>Rq x.ok (xy l g)
def CV {P:Program} (tt:TT) (l:OL P):Env:={P:=P,tt:=tt,orc:=Wt l}
structure Py where
 f:Env->Env
 hP:∀E,(f E).P=E.P:=by exactλ_=>rfl
 hO:∀E,(f E).orc=E.orc:=by exactλ_=>rfl
def Py.id:Py:={f:=λE=>E}
def Py.w (l:List Nat):Py:={f:=λE=>{E with wr:=λg=>mem g l,wt:=true}}
theorem xz {P:Program} (tt:TT) (l:OL P) (m:Py):mM (m.f (CV tt l)):=by
 intro g;rw[m.hO,m.hP];exact xy l g
def O.alt {P:Program} {g:FuncId} (t:List SV->aM->Bool) (a b:O P g):O P g:=⟨Wm t a.o b.o,TJ a.ok b.ok⟩
def O.inn {P:Program} {g:FuncId} (a:O P g):O P g:=⟨Pk a.o,Pm a.ok⟩
def SI (fn:Func) (n:Nat):Bool:=fn.body.isSome&&(!(fn.name== "runtime.NumGoroutine")&&Nat.ble n fn.ntmps)
theorem vr {fn:Func} {n:Nat} (h:SI fn n=true):fn.body.isSome=true/\(fn.name== "runtime.NumGoroutine")=false/\Nat.ble n fn.ntmps=true:=by
 simp only[SI,XB,Zz]at h;exact⟨h.1,h.2.1,h.2.2⟩
def Wu (ρ:Type):Nat->Ev ρ->Ev ρ:=λ_ _ _ _=>none
def dh {A B:Type} {P:Program} (tt:TT) (l:OL P) (m:Py) {g:FuncId} {fn:Func} (hf:P.funcs[g]? =some fn) (sh:List Sh) (cA:Cd A) (o:SkP) (cB:Cd B) (rt:RT) (F:A->Option B) (fs:List Nat:=[])
    (hk:(SI fn sh.length&&isNil (fM 0 (fn.body.getD .skip)))=true:=by kernel_rfl)
    (h:∀a,ev (m.f (CV tt l)) (Wu B) 0 (fn.body.getD .skip) (st0 fn (rJ sh fs (cA.to a))) (fin P fn rt (o.dec cB))=F a:=by intro a;kernel_rfl):O P g:=
  ⟨oP sh fs cA o cB F,by
    rw[XB]at hk;obtain⟨h1,h2,h3⟩:=vr hk.1;have e:(m.f (CV tt l)).P=P:=m.hP _;have:=okP (E:=m.f (CV tt l)) (sh:=sh) (fs:=fs) (cA:=cA) (o:=o) (cB:=cB) (F:=F) (g:=g) (fn:=fn) (xz tt l m) (by rw[e];exact hf) h1 h2 h3 (j7 (eR hk.2)) rt (λa=>by rw[e];exact h a)
    rwa [e]at this⟩
theorem Vh {A B:Type} {P:Program} (tt:TT) (l:OL P) (m:Py) {g:FuncId} {fn:Func} (hf:P.funcs[g]? =some fn) {i:SkI} {cA:Cd A} {o:SkO} {cB:Cd B} (rt:RT) (ks:List KD) {F:A->Option B}
  (hk:(SI fn i.a.length&&(Nat.beq o.kept.length i.b.length&&isNil (fM 0 (fn.body.getD .skip))))=true:=by kernel_rfl)
  (h:∀a,ev (m.f (CV tt l)) (Wu B) 0 (fn.body.getD .skip) (NP fn (qi (at0 (cA.to a)) i.a) (ur (at0 (cA.to a)) i.b)) (Pg P fn rt ks (o.dec cA cB a))=F a:=by intro a;kernel_rfl):Bf P g (gM i cA o cB F):=by
 obtain⟨k1,k2⟩:=Yn.1 hk;obtain⟨k3,k4⟩:=Yn.1 k2;obtain⟨h1,h2,h3⟩:=vr k1;have e:(m.f (CV tt l)).P=P:=m.hP _;have:=Ws (E:=m.f (CV tt l)) (i:=i) (cA:=cA) (o:=o) (cB:=cB) (F:=F) (g:=g) (fn:=fn) (xz tt l m) (by rw[e];exact hf) h1 h2 h3 k3 (j7 (eR k4)) rt ks (λa=>by rw[e];exact h a);rwa [e]at this
def sK {A B:Type} {P:Program} (tt:TT) (l:OL P) (m:Py) {g:FuncId} {fn:Func} (hf:P.funcs[g]? =some fn) (pr:List Pr) (i:SkI) (cA:Cd A) (o:SkO) (cB:Cd B) (rt:RT) (ks:List KD) (F:A->Option B)
  (hk:(SI fn i.a.length&&(Nat.beq o.kept.length i.b.length&&isNil (fM 0 (fn.body.getD .skip))))=true:=by kernel_rfl)
  (h:∀a,ev (m.f (CV tt l)) (Wu B) 0 (fn.body.getD .skip) (NP fn (qi (at0 (cA.to a)) i.a) (ur (at0 (cA.to a)) i.b)) (Pg P fn rt ks (o.dec cA cB a))=F a:=by intro a;kernel_rfl):O P g:=
 ⟨oM pr i cA o cB F,rA (Vh tt l m hf rt ks hk h)⟩
end
section
variable [Tok] [Glo]
structure SkS where
 s:List Sk
 b:List SkB:=[]
 gh:List (Option Nat):=[]
def SkS.fill (q:SkS) (f:Nat->R):NF:=(qi f q.s,ur f q.b,q.gh)
def SkS.dec {T:Type} (q:SkS) (c:Cd T) (nf:NF):Option T:=
 (mtL q.s nf.1).bind λp=>(mtB q.b nf.2.1).bind λr=>cond (decide (nf.2.2=q.gh)) (rd c (p++r)) none
theorem SkS.Hs {T:Type} {q:SkS} {c:Cd T} {nf:NF} {t:T} (h:q.dec c nf=some t):nf=q.fill (at0 (c.to t)):=by
 simp only[SkS.dec,An]at h;obtain⟨p,hp,r,hr,h⟩:=h;by_cases e:nf.2.2=q.gh
 ·rw[decide_eq_true e]at h;have hf:=Fq h;obtain⟨a,b,g⟩:=nf;simp only at hp hr e;simp only[SkS.fill,yR _ hp hf.left,Hr _ hr hf.right,e]
 ·rw[decide_eq_false e]at h;exact nomatch h
abbrev XS:=List (Nat× (List Nat× List (iG× Co)))
def exN:Ex->Nat
 |.normal=>0
 |.ret=>1
 |.exit j=>j+2
def exL:XS->Nat->List Nat× List (iG× Co)
 |[],_=>([],[])
 |(j,x)::l,n=>cond (Nat.beq j n) x (exL l n)
structure LX (Y:Type) where
 j:Nat
 bJ:List Nat
 co:List (iG× Co)
 c:Cd Y
 s:SkS
def LX.e {Y:Type} (x:LX Y):Ex:=match x.j with
 |0=>.normal
 |1=>.ret
 |j+2=>.exit j
def LX.x {Y:Type} (x:LX Y):Nat× (List Nat× List (iG× Co)):=(x.j,x.bJ,x.co)
def LX.k {Y P B:Type} (x:LX Y) (n:Nat) (c:Cd P) (K:Ex->St->Option B) (p:P):Y->Option B:=λy=>K x.e (ir x.bJ n (x.s.fill (at0 (c.to p++x.c.to y))))
structure Lp (B:Type) where
 i:Nat
 pl:Bool
 bJ:List Nat
 co:List (iG× Co)
 P:Type
 V:Type
 cP:Cd P
 cV:Cd V
 s:SkS
 xs:XS
 G:Nat->P->V->(V->Option B)->(Ex->St->Option B)->Option B
def L1 {B P V X:Type} (i:Nat) (pl:Bool) (bJ:List Nat) (co:List (iG× Co)) (cP:Cd P) (cV:Cd V) (s:SkS) (x:LX X) (F:P->V->(V->Option B)->(X->Option B)->Option B):Lp B:=
 ⟨i,pl,bJ,co,P,V,cP,cV,s,[x.x],λn p v m K=>F p v m (x.k n cP K p)⟩
def L2 {B P V X Y:Type} (i:Nat) (pl:Bool) (bJ:List Nat) (co:List (iG× Co)) (cP:Cd P) (cV:Cd V) (s:SkS) (x:LX X) (y:LX Y) (F:P->V->(V->Option B)->(X->Option B)->(Y->Option B)->Option B):Lp B:=
 ⟨i,pl,bJ,co,P,V,cP,cV,s,[x.x,y.x],λn p v m K=>F p v m (x.k n cP K p) (y.k n cP K p)⟩
section
variable {B:Type}
def Lp.tm (l:Lp B) (n:Nat) (q:l.P× l.V):St:=ir l.bJ n (l.s.fill (at0 (l.cP.to q.1++l.cV.to q.2)))
def Lp.orc (l:Lp B) (k n:Nat) (f:Ev B):Ev B:=
 let o:Ev B:=xm l.bJ l.co (λm nf=>cond (Nat.beq m n) (l.s.dec (l.cP.p l.cV) nf) none) λpv K=>iter (λv next=>l.G n pv.1 v next K) k pv.2
 cond l.pl (WX f o) o
def lpF (i:Nat):List (Lp B)->Option (Lp B)
 |[]=>none
 |l::ls=>cond (Nat.beq l.i i) (some l) (lpF i ls)
def MY (k n:Nat) (ls:List (Lp B)) (i:Nat) (f:Ev B):Ev B:=match lpF i ls with
 |some l=>l.orc k n f
 |none=>λ_ _=>none
def Lp.Step (E:Env) (LP:Nat->Ev B->Ev B) (n:Nat) (c:Code) (l:Lp B):Prop:=
 ∀(p:l.P) (v:l.V) (K K1:Ex->St->Option B),ev E LP l.i c (l.tm n (p,v)) (λe st'=>match e with
  |.normal=>(xl l.bJ l.co st').bind λnf=>K1 .normal (ir l.bJ st'.n nf)
  |e=>(xl (exL l.xs (exN e)).1 (exL l.xs (exN e)).2 st').bind λnf=>K e (ir (exL l.xs (exN e)).1 st'.n nf))=l.G n p v (λv'=>K1 .normal (l.tm n (p,v'))) K
def gz:Nat->Code->List (Nat× Code)
 |cb,.seq a b=>gz cb a++gz cb b
 |cb,.cond _ a b=>gz cb a++gz cb b
 |_,.block id c=>gz id c
 |cb,.scope c=>gz cb c
 |cb,.loop c=>gz cb c++[(cb,c)]
 |_,_=>[]
def Steps (E:Env) (LP:Nat->Ev B->Ev B) (n:Nat) (cs:List (Nat× Code)):Nat->List (Lp B)->Prop
 |_,[]=>True
 |j,l::ls=>l.Step E LP n (cs.getD j (0,.skip)).2/\Steps E LP n cs (j+1) ls
theorem Lz {E:Env} {LP:Nat->Ev B->Ev B} {n:Nat} {cs:List (Nat× Code)}:∀(ls:List (Lp B)) (j:Nat),Steps E LP n cs j ls->∀(i:Nat) (l:Lp B),ls[i]? =some l->l.Step E LP n (cs.getD (j+i) (0,.skip)).2
 |[],_,_,i,l,h=>by simp at h
 |l::ls,j,hs,i,l',h=>by
  cases i with
  |zero=>simp at h;subst h;exact hs.1
  |succ i=>have:=Lz ls (j+1) hs.2 i l' (by simpa using h);rwa [show j+1+i=j+(i+1)from by omega]at this
theorem SJ:∀{ls:List (Lp B)} {i:Nat} {l:Lp B},(ls.map (·.i)).Nodup->ls[i]? =some l->lpF l.i ls=some l
 |[],i,_,_,h=>by simp at h
 |m::ls,i,l,hn,h=>by
  rw[Yp,YI]at hn
  cases i with
  |zero=>simp at h;subst h;simp[lpF]
  |succ i=>
   have h:ls[i]? =some l:=by simpa using h
   have hne:¬m.i=l.i:=λe=>hn.1 (e▸ZE.2 ⟨l,XX h,rfl⟩);rw[lpF];cases hb:Nat.beq m.i l.i
   ·exact SJ hn.2 h
   ·exact(hne (On hb)).elim
theorem rK {E:Env} (hE:mM E) {k n:Nat} {ls:List (Lp B)}:∀(c:Code) (cb:Nat),(∀x∈gz cb c,∃l,lpF x.1 ls=some l/\l.i=x.1/\l.Step E (MY k n ls) n x.2)->jr E (MY k n ls) cb c
 |.seq a b,cb,h=>⟨rK hE a cb λx hx=>h x (by simp[gz,hx]),rK hE b cb λx hx=>h x (by simp[gz,hx])⟩
 |.cond _ a b,cb,h=>⟨rK hE a cb λx hx=>h x (by simp[gz,hx]),rK hE b cb λx hx=>h x (by simp[gz,hx])⟩
 |.block id c,_,h=>rK hE c id h
 |.scope c,cb,h=>rK hE c cb h
 |.loop c,cb,h=>by
  obtain⟨l,h1,h2,h3⟩:=h (cb,c) (by simp[gz]);simp only at h1 h2 h3;subst h2;have hs:=jt hE c l.i (rK hE c l.i λx hx=>h x (by simp[gz,hx]))
  have hd:∀m nf v,cond (Nat.beq m n) (l.s.dec (l.cP.p l.cV) nf) none=some v->ir l.bJ m nf=l.tm n v:=
   Vd λnf v e=>by rw[SkS.Hs e];rfl
  show Sound E.P (.loop c) (MY k n ls l.i λst K=>ev E (MY k n ls) l.i c st K);unfold MY;rw[h1];simp only[Lp.orc];cases l.pl
  ·exact TI hs (λe=>(exL l.xs (exN e)).1) (λe=>(exL l.xs (exN e)).2) k hd h3
  ·exact TK hs (λe=>(exL l.xs (exN e)).1) (λe=>(exL l.xs (exN e)).2) k hd h3
 |.skip,_,_=>trivial
 |.label _,_,_=>trivial
 |.region _ _ _,_,_=>trivial
 |.exit _,_,_=>trivial
 |.ret,_,_=>trivial
 |.rangeFunc _ _ _ _,_,_=>trivial
 |.goto _,_,_=>trivial
 |.refuse _,_,_=>trivial
def lpB (cs:List (Nat× Code)) (ls:List (Lp B)):Bool:=eqL (cs.map (·.1)) (ls.map (·.i))&&nodup (ls.map (·.i))
theorem D7 {E:Env} (hE:mM E) {k n:Nat} {ls:List (Lp B)} {c:Code} (hb:lpB (gz 0 c) ls=true) (hs:Steps E (MY k n ls) n (gz 0 c) 0 ls):jr E (MY k n ls) 0 c:=by
 unfold lpB at hb;rw[XB]at hb;have hm:=Hq hb.1;refine rK hE c 0 λx hx=>?_;obtain⟨i,hi⟩:=List.mem_iff_getElem?.1 hx
 have e:((gz 0 c).map (·.1))[i]? =some x.1:=by rw[Yl,hi];rfl
 rw[hm,Yl]at e
 cases hl:ls[i]? with
 |none=>rw[hl]at e;exact nomatch e
 |some l=>
  rw[hl]at e;have hi':l.i=x.1:=YA e;refine⟨l,hi'▸SJ (ft hb.2) hl,hi',?_⟩;have:=Lz ls 0 hs i l hl;rwa [XN,List.getD,hi]at this
end
def gl {A B:Type} {P:Program} (tt:TT) (l:OL P) (m:Py) {g:FuncId} {fn:Func} (hf:P.funcs[g]? =some fn) (k:Nat) (ls:List (Lp B)) (sh:List Sh) (cA:Cd A) (o:SkP) (cB:Cd B) (rt:RT) (F:A->Option B) (fs:List Nat:=[])
    (hk:(SI fn sh.length&&lpB (gz 0 (fn.body.getD .skip)) ls)=true:=by kernel_rfl) (hs:Steps (m.f (CV tt l)) (MY k fn.ntmps ls) fn.ntmps (gz 0 (fn.body.getD .skip)) 0 ls:=by(repeat refine⟨λp v K K1=>by kernel_rfl,?_⟩);exact trivial)
    (h:∀a,ev (m.f (CV tt l)) (MY k fn.ntmps ls) 0 (fn.body.getD .skip) (st0 fn (rJ sh fs (cA.to a))) (fin P fn rt (o.dec cB))=F a:=by intro a;kernel_rfl):O P g:=
  ⟨oP sh fs cA o cB F,by
    rw[XB]at hk;obtain⟨h1,h2,h3⟩:=vr hk.1;have e:(m.f (CV tt l)).P=P:=m.hP _;have:=okP (E:=m.f (CV tt l)) (sh:=sh) (fs:=fs) (cA:=cA) (o:=o) (cB:=cB) (F:=F) (g:=g) (fn:=fn) (xz tt l m) (by rw[e];exact hf) h1 h2 h3 (D7 (xz tt l m) hk.2 hs) rt (λa=>by rw[e];exact h a)
    rwa [e]at this⟩
theorem Vi {A B:Type} {P:Program} (tt:TT) (l:OL P) (m:Py) {g:FuncId} {fn:Func} (hf:P.funcs[g]? =some fn) (k:Nat) (ls:List (Lp B)) {i:SkI} {cA:Cd A} {o:SkO} {cB:Cd B} (rt:RT) (ks:List KD) {F:A->Option B}
  (hk:(SI fn i.a.length&&(Nat.beq o.kept.length i.b.length&&lpB (gz 0 (fn.body.getD .skip)) ls))=true:=by kernel_rfl) (hs:Steps (m.f (CV tt l)) (MY k fn.ntmps ls) fn.ntmps (gz 0 (fn.body.getD .skip)) 0 ls:=by(repeat refine⟨λp v K K1=>by kernel_rfl,?_⟩);exact trivial)
  (h:∀a,ev (m.f (CV tt l)) (MY k fn.ntmps ls) 0 (fn.body.getD .skip) (NP fn (qi (at0 (cA.to a)) i.a) (ur (at0 (cA.to a)) i.b)) (Pg P fn rt ks (o.dec cA cB a))=F a:=by intro a;kernel_rfl):Bf P g (gM i cA o cB F):=by
 obtain⟨k1,k2⟩:=Yn.1 hk;obtain⟨k3,k4⟩:=Yn.1 k2;obtain⟨h1,h2,h3⟩:=vr k1;have e:(m.f (CV tt l)).P=P:=m.hP _;have:=Ws (E:=m.f (CV tt l)) (i:=i) (cA:=cA) (o:=o) (cB:=cB) (F:=F) (g:=g) (fn:=fn) (xz tt l m) (by rw[e];exact hf) h1 h2 h3 k3 (D7 (xz tt l m) k4 hs) rt ks (λa=>by rw[e];exact h a);rwa [e]at this
def yU {A B:Type} {P:Program} (tt:TT) (l:OL P) (m:Py) {g:FuncId} {fn:Func} (hf:P.funcs[g]? =some fn) (k:Nat) (ls:List (Lp B)) (pr:List Pr) (i:SkI) (cA:Cd A) (o:SkO) (cB:Cd B) (rt:RT) (ks:List KD) (F:A->Option B)
  (hk:(SI fn i.a.length&&(Nat.beq o.kept.length i.b.length&&lpB (gz 0 (fn.body.getD .skip)) ls))=true:=by kernel_rfl) (hs:Steps (m.f (CV tt l)) (MY k fn.ntmps ls) fn.ntmps (gz 0 (fn.body.getD .skip)) 0 ls:=by(repeat refine⟨λp v K K1=>by kernel_rfl,?_⟩);exact trivial)
  (h:∀a,ev (m.f (CV tt l)) (MY k fn.ntmps ls) 0 (fn.body.getD .skip) (NP fn (qi (at0 (cA.to a)) i.a) (ur (at0 (cA.to a)) i.b)) (Pg P fn rt ks (o.dec cA cB a))=F a:=by intro a;kernel_rfl):O P g:=
 ⟨oM pr i cA o cB F,rA (Vi tt l m hf k ls rt ks hk hs h)⟩
def VV {A B:Type} {P:Program} {g:FuncId} (s s':S) (kb:Nat) (pr:List Pr) {i:SkI} {cA:Cd A} {o:SkO} {cB:Cd B} {F:A->Option B} (h:∀T:Tok,@Bf T _ P g (gM i cA o cB F))
  (hsz:s'.sz=s.sz:=by rfl) (h1:(Ty.st s).plain=true:=by rfl) (h2:(Ty.st s').plain=false:=by rfl):O P g:=
 ⟨Hc pr (Wn s s' kb (gM i cA o cB F)),rA (Wo hsz h1 h2 kb (λρ l b K=>by simp only[gM,Yi,XC]) h)⟩
end
section
open Go.RowKit (Below)
variable [Tok] [Glo]
def okH {A B:Type} {P:Program} {g:FuncId} (sh:List Sh) (fs:List Nat) (cA:Cd A) (o:SkP) (cB:Cd B) (F:A->Option B)
    (h:∀a b,F a=some b->mQ P g (rJ sh fs (cA.to a)) (o.enc cB b)):O P g:=
  ⟨oP sh fs cA o cB F,DU (λρ l K out hG=>by
    rw[An]at hG;obtain⟨a,h1,hG⟩:=hG;rw[An]at hG h1;obtain⟨b,h2,hG⟩:=hG;obtain⟨rs,h3,h4⟩:=h1;refine⟨_,hG,?_⟩
    have e:l=rJ sh fs (cA.to a):=by rw[cA.h _ _ h4,Ht h3]
    rw[e]
    exact h a b h2)⟩
theorem Below.at_ {w w':World} (h:Below w.heap.size w w') {p:Cell} {x:Value} (hx:w.at? p=some x):w'.at? p=some x/\w'.eK p=w.eK p:=by
 have hlt:p.1<w.heap.size:=by
  unfold World.at? World.cell? at hx
  cases hb:w.heap[p.1]? with
  |none=>simp[hb]at hx
  |some o=>exact(XW.1 hb).1
 have hb:=h.block p.1 hlt;exact⟨by unfold World.at? World.cell? at*;rw[hb];exact hx,by unfold World.eK;rw[hb]⟩
theorem Below.Vj {w w':World} (h:Below w.heap.size w w'):dF w w':=by
 refine⟨h.os,h.output,λi hi=>?_⟩;rw[h.block i hi];split
 ·rename_i e1 e2;rw[e1]at e2;cases e2;exact⟨rfl,.inl rfl,rfl⟩
 ·rfl
end
end Go.Proofs.Ev
