/- The evaluator over the model's code, and that it is sound: part 7. -/
import Derived.Test.YtimmojehndbiiaaEvK6
import Derived.KernelRfl
import Derived.Below
import Derived.Maps.Own
import Derived.Maps.OwnOps
import GoSem.ClaimChange
import Derived.Deep.Slices
import Derived.DataReads
import Derived.ProofKit
import Derived.WideKeyArgs
import Derived.IntWalk
set_option linter.unusedVariables false
set_option linter.unusedSimpArgs false
set_option linter.unusedSectionVars false
namespace Go.Proofs.Ev
open IntKind(i64 u8 u64)
section
variable [Tok]
def pb:SV->Bool
 |.r _ (.int _ _)=>true
 |.r _ (.bool _)=>true
 |.r _ (.str _)=>true
 |_=>false
def rO:List SV->Bool
 |[]=>true
 |v::l=>cond (pb v) (rO l) false
theorem pc:∀{l:List SV},rO l=true->∀v∈l,pb v=true
 |[],_,v,hv=>nomatch hv
 |x::l,h,v,hv=>by
  simp only[rO]at h;cases hx:pb x<;>simp only[hx,cond_true,cond_false]at h
  ·exact nomatch h
  ·rcases FM.1 hv with rfl|hv
   ·exact hx
   ·exact pc h v hv
theorem rP {w w':World} {H H':az} {pl pl':Pl} {v:SV} {u:Value} (h:pb v=true) (hv:ab w H pl v u):ab w' H' pl' v u:=by
 cases hv with
 |r d x _ hx=>cases hx with
  |int=>exact .r _ _ _ (.int _ _)
  |bool=>exact .r _ _ _ (.bool _)
  |str=>exact .r _ _ _ (.str _)
  |tok=>first|exact .r _ _ _ (.tok _)|exact nomatch h
  |gV=>exact nomatch h
  |sl=>exact nomatch h
 |_=>exact nomatch h
def yZ (o:Orc):Orc:=λρ nid vs h K=>match vs with
 |.inn i x c::rest=>cond (rO rest) (match look h i with
  |some (.arr none t xs)=>(xs[x]?).bind λe=>match(t.cells e)[c]? with
   |some (.sl t' ys)=>o ρ nid (.own i::rest) [(i,.arr none t' ys)] λq=>
    cond (pb q.v&&(isNil q.news&&isNil q.gone)) (match q.upd with
     |[(_,.arr none t2 zs)]=>if he:t2=t' then(t.dj ((t.cells e).take c++[.sl t' (he▸zs)]++(t.cells e).drop (c+1))).bind λy=>K {v:=q.v,upd:=[(i,.arr none t (xs.set x y))],fF:=[i]}else none
     |_=>none) none
   |_=>none
  |_=>none) none
 |_=>o ρ nid vs h K
section
variable {w w':World} {H H':az} {pl:Pl}
theorem AO {i x c cap b o:Nat} {t t':Ty} {xs:List t.El} {e y:t.El} {ys zs:List t'.El} {vs:Nat->Nat->Value} {fs:Nat->Nat->Cell->Prop} {T2:Kil} {pl2 pl2':Pl}
  (hr:bJ H pl w) (hli:look H i=some (.arr none t xs)) (hx:xs[x]? =some e) (hc:(t.cells e)[c]? =some (.sl t' ys)) (hy:t.cells y=(t.cells e).take c++[.sl t' zs]++(t.cells e).drop (c+1))
  (hh:pl.hdr i=.slice (some ⟨b,o,none⟩) xs.length cap) (h2:xs.length<=cap) (h4:∀j,j<cap*t.sz->(∃v,w.at? (b,o+j)=some v)/\whole (w.cC (b,o+j)) o (cap*t.sz)=true)
  (h5:∀i j r,au t xs i j r->w.at? (b,o+(i*t.sz+j))=some (vs i j)) (h6:∀i j r,au t xs i j r->di w r (vs i j) (fs i j))
  (h7:∀i j r p,au t xs i j r->fs i j p->¬reg b o (cap*t.sz) p) (h8:∀i j r i' j' r' p,au t xs i j r->au t xs i' j' r'->fs i j p->fs i' j' p->i=i'/\j=j')
  (h9:∀p,pl.fp i p↔reg b o (cap*t.sz) p\/∃i j r,au t xs i j r/\fs i j p)
  (hb2:pl2.base=pl.base) (hf2:pl2.fp i=fs x c) (hd2:pl2.hdr i=vs x c) (hg2:mem i T2.1=false) (hst:bG [(i,.arr none t' ys)] [(i,.arr none t' zs)] T2 pl2 pl2' w w')
  (ht:gG H H' ([],[i]) i (.arr none t (xs.set x y))):∃pl',bG H H' ([],[i]) pl pl' w w':=by
 have hxl:x<xs.length:=(Fv.1 hx).1
 have hcl:c<t.sz:=by rw[<-Ty.bF t e];exact(Fv.1 hc).1
 have hcell:au t xs x c (.sl t' ys):=⟨e,hx,hc⟩
 have hl1:∀{t':Ty} {ys:List t'.El} {j B},look [(i,Blk.arr none t' ys)] j=some B->j=i/\B=.arr none t' ys:=λ{t' ys j B} h=>by
  rw[aj]at h;by_cases e:i=j
  ·rw[if_pos e]at h;cases h;exact⟨e.symm,rfl⟩
  ·rw[if_neg e]at h;exact nomatch h
 have mq:∀p u,w.at? p=some u->¬fs x c p->¬pl2'.fp i p/\w'.at? p=some u/\w'.cC p=w.cC p:=λp u hp hn=>by
  obtain⟨g1,g2⟩:=hst.fr p u hp λj B hB hf=>by
   obtain⟨rfl,_⟩:=hl1 hB;rw[hf2]at hf;exact hn hf
  exact⟨g1 i _ (by rw[aj,if_pos rfl]),g2⟩
 have nV:∀p,fs x c p->pl.fp i p:=λp hp=>(h9 p).2 (.inr ⟨_,_,_,hcell,hp⟩)
 have Fk:∀j,mem j [i]=true->j=i:=λj hj=>by
  simp only[mem]at hj;cases hb:Nat.beq i j<;>simp only[hb,cond_true,cond_false]at hj
  ·exact nomatch hj
  ·exact(Fx hb).symm
 have hmi:mem i [i]=true:=by simp[mem]
 have sy:∀p,pl2'.fp i p->∃u,w'.at? p=some u:=λp hp=>hst.hr.dI i _ p (by rw[aj,if_pos rfl]) hp
 refine⟨_,eS (hdr:=pl.hdr i) (fp:=λp=>(pl.fp i p/\¬fs x c p)\/pl2'.fp i p) hst.gr hr ht (λj hj=>nomatch hj) (λj hj=>.inr (Fk j hj)) (.inr ⟨_,hli,hmi,⟨rfl,by simp⟩,rfl⟩)
  (λp u hp hno=>(mq p u hp λhf=>hno i _ hmi hli (nV p hf)).2) (λp hp=>?_) (λp hp=>?_) λhk=>?_⟩
 ·have:=hst.hr.nb p hp;rw[hst.bs,hb2]at this;exact this
 ·rcases hp with hp|hp
  ·exact .inr ⟨i,_,hmi,hli,hp.1⟩
  ·cases hq:w.at? p with
   |none=>exact .inl rfl
   |some u=>
    by_cases hf:fs x c p
    ·exact .inr ⟨i,_,hmi,hli,nV p hf⟩
    ·exact((mq p u hq hf).1 hp).elim
 ·have jS:∀{i' j r},au t (xs.set x y) i' j r->(i'=x/\j=c/\r=.sl t' zs)\/(¬(i'=x/\j=c)/\au t xs i' j r):=λ{i' j r} h=>by
   obtain⟨z,hz,hzj⟩:=h;by_cases e1:i'=x
   ·subst e1;rw[List.getElem?_set_self hxl]at hz;cases hz;rw[hy]at hzj
    have hto:((t.cells e).take c).length=c:=by rw[FT,Ty.bF];omega
    by_cases c1:j<c
    ·rw[FE,FB (by omega),FY,if_pos c1]at hzj;exact .inr ⟨λh=>by omega,e,hx,hzj⟩
    ·by_cases c2:j=c
     ·subst c2;rw[FE,Fz (by omega),hto,Nat.sub_self]at hzj;cases hzj;exact .inl ⟨rfl,rfl,rfl⟩
     ·rw[FE,Fz (by omega),hto,Fz (by simp;omega),FO]at hzj;simp only[List.length_singleton]at hzj;rw[show c+1+(j-c-1)=j from by omega]at hzj;exact .inr ⟨λh=>c2 h.2,e,hx,hzj⟩
   ·rw[List.getElem?_set_ne (λe=>e1 e.symm)]at hz;exact .inr ⟨λh=>e1 h.1,z,hz,hzj⟩
  have j6:∀{i' j r},au t xs i' j r->∃r',au t (xs.set x y) i' j r':=λ{i' j r} h=>by
   obtain⟨a1,a2⟩:=aG h;exact cE (by simpa using a1) a2
  have hreg0:∀p,reg b o (cap*t.sz) p->¬fs x c p:=λp hp hf=>h7 _ _ _ p hcell hf hp
  have hsl:di w' (.sl t' zs) (vs x c) (pl2'.fp i):=by
   have h1:=hst.hr.blk i _ (by rw[aj,if_pos rfl]:look [(i,Blk.arr none t' zs)] i=some (.arr none t' zs));obtain⟨_,_,_,h3⟩:=hst.kp.k1 i _ (by rw[aj,if_pos rfl]) hg2;rw[<-hd2,<-h3];obtain⟨R⟩:=h1;exact R.DV
  have e1:(pl.set i (pl.hdr i) λp=>(pl.fp i p/\¬fs x c p)\/pl2'.fp i p).hdr i=pl.hdr i:=by simp[Pl.set]
  have e2:(pl.set i (pl.hdr i) λp=>(pl.fp i p/\¬fs x c p)\/pl2'.fp i p).fp i=λp=>(pl.fp i p/\¬fs x c p)\/pl2'.fp i p:=by simp[Pl.set]
  show Nonempty (Row w' (di w') t (xs.set x y) ((pl.set i (pl.hdr i) λp=>(pl.fp i p/\¬fs x c p)\/pl2'.fp i p).hdr i) ((pl.set i (pl.hdr i) λp=>(pl.fp i p/\¬fs x c p)\/pl2'.fp i p).fp i));rw[e1,e2];refine⟨⟨some ⟨b,o,none⟩,cap,b,o,vs,λi' j=>if i'=x/\j=c then pl2'.fp i else fs i' j,by rw[hh,GV],by rw[GV];exact h2,.inr rfl,λj hj=>?_,λi' j r h=>?_,λi' j r h=>?_,λi' j r p h hf=>?_,λi' j r i'' j' r' p h h' hf hf'=>?_,λp=>?_⟩⟩
  ·obtain⟨⟨v,hv⟩,hi⟩:=h4 j hj;obtain⟨_,g1,g2⟩:=mq _ v hv (hreg0 _ ⟨rfl,by simp,by simp;omega⟩);exact⟨⟨v,g1⟩,by rw[g2];exact hi⟩
  ·obtain⟨a1,a2⟩:=aG h;rw[GV]at a1;obtain⟨r0,hr0⟩:=cE a1 a2;exact(mq _ _ (h5 _ _ _ hr0) (hreg0 _ ⟨rfl,by simp,by have:=iX a1 a2 h2;simp;omega⟩)).2.1
  ·rcases jS h with⟨rfl,rfl,rfl⟩|⟨hne,h⟩
   ·rw[if_pos ⟨rfl,rfl⟩];exact hsl
   ·rw[if_neg hne];refine(h6 _ _ _ h).frame λp u hp hu=>(mq p u hu λhf=>hne ?_).2;exact h8 _ _ _ _ _ _ p h hcell hp hf
  ·rcases jS h with⟨rfl,rfl,rfl⟩|⟨hne,h⟩
   ·rw[if_pos ⟨rfl,rfl⟩]at hf;intro hre;obtain⟨p1,p2⟩:=p;obtain⟨q1,q2,q3⟩:=hre;simp only at q1 q2 q3;subst q1;obtain⟨⟨v,hv⟩,_⟩:=h4 (p2-o) (by omega);rw[show o+(p2-o)=p2 from by omega]at hv;exact(mq _ v hv (hreg0 _ ⟨rfl,q2,q3⟩)).1 hf
   ·rw[if_neg hne]at hf;exact h7 _ _ _ p h hf
  ·have cross:∀{i' j r},¬(i'=x/\j=c)->au t xs i' j r->fs i' j p->pl2'.fp i p->False:=λ{i' j r} hne h hf hf'=>by
    obtain⟨u,hu⟩:=(h6 _ _ _ h).there p hf;exact(mq p u hu λhq=>hne (h8 _ _ _ _ _ _ p h hcell hf hq)).1 hf'
   rcases jS h with⟨rfl,rfl,rfl⟩|⟨hne,hc1⟩<;>rcases jS h' with⟨rfl,rfl,rfl⟩|⟨Er,hc2⟩
   ·exact⟨rfl,rfl⟩
   ·rw[if_pos ⟨rfl,rfl⟩]at hf;rw[if_neg Er]at hf';exact(cross Er hc2 hf' hf).elim
   ·rw[if_pos ⟨rfl,rfl⟩]at hf';rw[if_neg hne]at hf;exact(cross hne hc1 hf hf').elim
   ·rw[if_neg hne]at hf;rw[if_neg Er]at hf';exact h8 _ _ _ _ _ _ p hc1 hc2 hf hf'
  ·constructor
   ·rintro (⟨hp,hn⟩|hp)
    ·rcases(h9 p).1 hp with hp|⟨i',j,r,h,hf⟩
     ·exact .inl hp
     ·have hne:¬(i'=x/\j=c):=λ⟨q1,q2⟩=>by subst q1 q2;exact hn hf
      obtain⟨r',h'⟩:=j6 h;exact .inr ⟨i',j,r',h',by rw[if_neg hne];exact hf⟩
    ·obtain⟨r',h'⟩:=j6 hcell;exact .inr ⟨x,c,r',h',by rw[if_pos ⟨rfl,rfl⟩];exact hp⟩
   ·rintro (hp|⟨i',j,r,h,hf⟩)
    ·exact .inl ⟨(h9 p).2 (.inl hp),hreg0 p hp⟩
    ·rcases jS h with⟨rfl,rfl,rfl⟩|⟨hne,h⟩
     ·rw[if_pos ⟨rfl,rfl⟩]at hf;exact .inr hf
     ·rw[if_neg hne]at hf;exact .inl ⟨(h9 p).2 (.inr ⟨_,_,_,h,hf⟩),λhq=>hne (h8 _ _ _ _ _ _ p h hcell hf hq)⟩
end
theorem za {P:Program} {g:FuncId} {o:Orc} (ho:jP P g o):jP P g (yZ o):=by
 intro ρ nid vs H K out hK;unfold yZ at hK;split at hK
 case h_2=>exact ho ρ nid _ H K _ hK
 rename_i i x c rest;cases hpl:rO rest<;>simp only[hpl,cond_true,cond_false]at hK
 ·exact nomatch hK
 split at hK
 case h_2=>exact nomatch hK
 rename_i t xs hli;simp only[An]at hK;obtain⟨e,hx,hK⟩:=hK;split at hK
 case h_2=>exact nomatch hK
 rename_i t' ys hc;obtain⟨q,hq,hen,hup,BW⟩:=ho ρ nid _ _ _ _ hK;cases hpv:(pb q.v&&(isNil q.news&&isNil q.gone))<;>simp only[hpv,cond_true,cond_false]at hq
 ·exact nomatch hq
 simp only[Fy]at hpv;obtain⟨hpv,hnw,hgn⟩:=hpv;have hnw:=cF hnw;have hgn:=cF hgn;split at hq
 case h_2=>exact nomatch hq
 rename_i i' t2 zs hqu;split at hq
 case isFalse=>exact nomatch hq
 rename_i het;subst het;simp only[An]at hq;obtain⟨y,hy,hK⟩:=hq;have hy:=Ty.bT _ _ _ hy
 have hii:i'=i:=by
  obtain⟨B',hB'⟩:=hup i' _ (by rw[hqu,aj,if_pos rfl]);rw[aj]at hB';by_cases e:i=i'
  ·exact e.symm
  ·rw[if_neg e]at hB';exact nomatch hB'
 subst hii;refine⟨_,hK,hen,λj B hB=>?_,λH1 pl w us he hr hn hl hp H' ha=>?_⟩
 ·rw[aj]at hB;by_cases e:i'=j
  ·subst e;exact⟨_,hli⟩
  ·rw[if_neg e]at hB;exact nomatch hB
 have hli1:=he _ _ hli;obtain⟨u0,hu0⟩:∃u0,us[0]? =some u0:=⟨us[0]'(by rw[<-hl];simp),by simp⟩;have hi0:=hp 0 _ u0 rfl hu0
 cases hi0 with
 |inn _ _ _ sh t1 xs1 b o n cap _ hl1 hx1 hc1 hh hok hat oA=>
  rw[hli1]at hl1;cases hl1;obtain⟨⟨a',en,b',o',vs,fs,h1,h2,h3,h4,h5,h6,h7,h8,h9⟩⟩:=hr.blk _ _ hli1;rw[hh]at h1;cases h1;have h3:=h3.resolve_left (by omega);cases h3;have hcell:au t xs x c (.sl t2 ys):=⟨e,hx,hc⟩
  have hu:u0=vs x c:=by rw[h5 _ _ _ hcell]at hat;cases hat;rfl
  subst hu
  let pl2:Pl:=⟨λ_=>vs x c,λ_=>fs x c,pl.base⟩
  have hl1:∀{j B},look [(i',Blk.arr none t2 ys)] j=some B->j=i'/\B=.arr none t2 ys:=λ{j B} h=>by
   rw[aj]at h;by_cases e:i'=j
   ·rw[if_pos e]at h;cases h;exact⟨e.symm,rfl⟩
   ·rw[if_neg e]at h;exact nomatch h
  have hr2:bJ [(i',.arr none t2 ys)] pl2 w:=by
   refine⟨λj B hB=>?_,λj k B B' p q1 q2 _ _=>?_,λj B p hB hf=>?_,hr.nb⟩
   ·obtain⟨rfl,rfl⟩:=hl1 hB;exact(h6 _ _ _ hcell).row
   ·rw[(hl1 q1).1,(hl1 q2).1]
   ·exact hr.ob _ _ p hli1 ((h9 p).2 (.inr ⟨_,_,_,hcell,hf⟩))
  have haf:after [(i',.arr none t2 ys)] nid q=some [(i',.arr none t2 zs)]:=by
   unfold after;rw[hqu,hnw]
   have:jR [(i',Blk.arr none t2 zs)] [(i',Blk.arr none t2 ys)]=[(i',.arr none t2 zs)]:=by simp[jR,put]
   rw[this]
   have:ec q.kil [(i',Blk.arr none t2 zs)]=some [(i',.arr none t2 zs)]:=by
    unfold ec;split
    ·rfl
    ·simp[mK,CR.kil,hgn,mem,Blk.aA]
   rw[this];simp[aF]
  refine(BW _ pl2 w us .rfl' hr2 (λk hk=>by rw[hnw]at hk;exact nomatch hk) (by simpa using hl) (λj v u hv hu=>?_) _ haf).mono λe' w' ⟨u,pl2',he',hst,hv'⟩=>?_
  ·cases j with
   |zero=>
    rw[hu0]at hu;cases hu;cases hv
    exact ab.own (pl:=pl2) i' none t2 ys (by rw[aj,if_pos rfl])
   |succ j=>exact rP (pc hpl v (FG (by simpa using hv))) (hp (j+1) v u (by simpa using hv) hu)
  ·obtain⟨ht,_⟩:=kH (c:={v:=q.v,upd:=[(i',.arr none t (xs.set x y))],fF:=[i']}) hli1 rfl rfl rfl ha;obtain⟨pl',Fl⟩:=AO hr hli1 hx hc hy hh h2 h4 h5 h6 h7 h8 h9 (pl2:=pl2) rfl rfl rfl (by show mem i' q.gone=false;rw[hgn];rfl) hst ht;exact⟨u,pl',he',Fl,rP hpv hv'⟩
end
section
variable [Tok]
section
variable {ρ:Type}
def bL:Nat->Code->List (Nat× Code)
 |cb,.seq a b=>bL cb a++bL cb b
 |cb,.cond _ a b=>bL cb a++bL cb b
 |_,.block id c=>bL id c
 |cb,.scope c=>bL cb c
 |cb,.loop c=>[(cb,c)]
 |_,_=>[]
theorem dT {E:Env} {LP:Nat->Ev ρ->Ev ρ}:∀(c:Code) (cb:Nat),(∀x∈bL cb c,Sound E.P (.loop x.2) (LP x.1 λst K=>ev E LP x.1 x.2 st K))->ew E LP cb c
 |.seq a b,cb,h=>⟨dT a cb λx hx=>h x (by simp[bL,hx]),dT b cb λx hx=>h x (by simp[bL,hx])⟩
 |.cond _ a b,cb,h=>⟨dT a cb λx hx=>h x (by simp[bL,hx]),dT b cb λx hx=>h x (by simp[bL,hx])⟩
 |.block id c,_,h=>dT c id h
 |.scope c,cb,h=>dT c cb h
 |.loop c,cb,h=>h (cb,c) (by simp[bL])
 |.skip,_,_=>trivial
 |.label _,_,_=>trivial
 |.region _ _ _,_,_=>trivial
 |.exit _,_,_=>trivial
 |.ret,_,_=>trivial
 |.rangeFunc _ _ _ _,_,_=>trivial
 |.goto _,_,_=>trivial
 |.refuse _,_,_=>trivial
def Cp (p:Nat× Code->Prop):List (Nat× Code)->Prop
 |[]=>True
 |x::l=>p x/\Cp p l
theorem rQ {p:Nat× Code->Prop}:∀{l:List (Nat× Code)},Cp p l->∀x∈l,p x
 |y::l,h,x,hx=>by
  rcases FM.1 hx with rfl|hx
  ·exact h.1
  ·exact rQ h.2 x hx
theorem kY {E:Env} {LP:Nat->Ev ρ->Ev ρ} {c:Code} {cb:Nat} {l:List (Nat× Code)} (hl:bL cb c=l)
  (h:Cp (λx=>Sound E.P (.loop x.2) (LP x.1 λst K=>ev E LP x.1 x.2 st K)) l):ew E LP cb c:=
 dT c cb (by rw[hl];exact rQ h)
theorem bM {E:Env} {LP:Nat->Ev ρ->Ev ρ} {c:Code} {cb:Nat} (hl:bL cb c=[]):ew E LP cb c:=kY hl trivial
theorem AP {P:Program} {n g:Nat} {o o':Orc} (h:jP P n o) (h':jP P g o'):jP P g (cond (Nat.beq g n) o o'):=by
 cases hb:Nat.beq g n
 ·exact h'
 ·have:g=n:=Fx hb;subst this;exact h
theorem eM {P:Program} {c:Code} {f:Ev ρ} {p V:Type} (hf:Sound P c f) {bp:List Nat} {co:List (bY× Co)} (kx:Ex->List Nat) (cx:Ex->List (bY× Co)) (k:Nat) {dec:Nat->NF->Option (p× V)} {tm:p× V->St}
  {g:p->V->(V->Option ρ)->(Ex->St->Option ρ)->Option ρ} (hd:∀n nf v,dec n nf=some v->aY bp n nf=tm v)
  (hg:∀(q:p) (v:V) (K K1:Ex->St->Option ρ),f (tm (q,v)) (λe st'=>match e with
    |.normal=>(db bp co st').bind λnf=>K1 .normal (aY bp st'.n nf)
    |e=>(db (kx e) (cx e) st').bind λnf=>K e (aY (kx e) st'.n nf))=g q v (λv'=>K1 .normal (tm (q,v'))) K):
  Sound P (.loop c) (dc bp co dec λpv K=>iter (λv next=>g pv.1 v next K) k pv.2):=
 ql hf kx cx k hd λpv K=>(lX (tm:=λv=>tm (pv.1,v)) (g:=λv next K=>g pv.1 v next K) (λv K K1 next hn=>by
  have:next=λv'=>K1 .normal (tm (pv.1,v')):=funext λv'=>(hn v').symm
  rw[this];exact hg pv.1 v K K1) K k pv.2).symm
theorem gQ {T:Type} {bp:List Nat} {N:Nat} {d:NF->Option T} {tm:T->St} (h:∀nf v,d nf=some v->aY bp N nf=tm v) (n:Nat) (nf:NF) (v:T)
  (e:cond (Nat.beq n N) (d nf) none=some v):aY bp n nf=tm v:=by
 cases hb:Nat.beq n N<;>simp only[hb,cond_true,cond_false]at e
 ·exact nomatch e
 ·have:n=N:=Fx hb;subst this;exact h nf v e
theorem mg {A R:Type} {E:Env} (hE:gv E) {LP:Nat->Ev R->Ev R} {g:FuncId} {fn:Func} (hf:E.P.funcs[g]? =some fn) (hc:fn.body.isSome=true)
  (hnm:(fn.name== "runtime.NumGoroutine")=false) (nz:A->List Arg) (zU:List Arg->Option A) (hA:∀l a,zU l=some a->l=nz a)
  (hn:∀a,Nat.ble (nz a).length fn.ntmps=true) (hLP:ew E LP 0 (fn.body.getD .skip)) {rt:RT} {dec:Out->Option R} {enc:R->Out} (hd:∀o r,dec o=some r->o=enc r)
  {F:A->Option R} (h:∀a,ev E LP 0 (fn.body.getD .skip) (st0 fn (nz a)) (fin E.P fn rt dec)=F a):
  vb E.P g λ_ l K=>(zU l).bind λa=>(F a).bind λr=>K (enc r):=by
 intro ρ l K out hK;simp only[An]at hK;obtain⟨a,ha,r,hr,hK⟩:=hK;obtain⟨c,hcb⟩:=Option.isSome_iff_exists.1 hc
 have hgc:fn.body.getD .skip=c:=by rw[hcb];rfl
 rw[hA l a ha];exact⟨enc r,hK,wm hE hd hf hcb hnm (hn a) (hgc▸hLP) (by rw[<-hgc,h a];exact hr)⟩
theorem tT {A R:Type} {E:Env} (hE:gv E) {LP:Nat->Ev R->Ev R} {g:FuncId} {fn:Func} (hf:E.P.funcs[g]? =some fn) (hc:fn.body.isSome=true)
  (hnm:(fn.name== "runtime.NumGoroutine")=false) (nz:A->List SV) (blksOf:A->List Blk) (zU:List SV->List Blk->Option A) (hA:∀l b a,zU l b=some a->l=nz a/\b=blksOf a)
  (hn:∀a,Nat.ble (nz a).length fn.ntmps=true) (hLP:ew E LP 0 (fn.body.getD .skip)) {rt:RT} {ks:List KD} {dec:A->kt->Option R} {enc:A->R->kt}
  (hlen:∀a r,(enc a r).kept.length=(blksOf a).length) (hd:∀a o r,dec a o=some r->o=enc a r)
  {F:A->Option R} (h:∀a,ev E LP 0 (fn.body.getD .skip) (yW fn (nz a) (blksOf a)) (zT E.P fn rt ks (dec a))=F a):
  yL E.P g λ_ l b K=>(zU l b).bind λa=>(F a).bind λr=>K (enc a r):=by
 intro ρ l b K out hK;simp only[An]at hK;obtain⟨a,ha,r,hr,hK⟩:=hK;obtain⟨c,hcb⟩:=Option.isSome_iff_exists.1 hc
 have hgc:fn.body.getD .skip=c:=by rw[hcb];rfl
 obtain⟨rfl,rfl⟩:=hA l b a ha;exact⟨enc a r,hK,yY hE (hd a) (hlen a r) hf hcb hnm (hn a) (hgc▸hLP) (by rw[<-hgc,h a];exact hr)⟩
def zb {α:Type}:Option α->Bool
 |some _=>true
 |none=>false
def tU {α:Type} [DecidableEq α] (x y:α):Bool:=decide (x=y)
end
end
section
variable [Tok]
section
variable {ρ:Type}
def EX (f g:Ev ρ):Ev ρ:=λst K=>f st λe st'=>match e with
 |.normal=>g st' K
 |e=>K e st'
theorem rR {P:Program} {c:Code} {f:Ev ρ} (hf:Sound P c f) (bp:List Nat) (co:List (bY× Co)) (kx:Ex->List Nat) (cx:Ex->List (bY× Co)) (k:Nat) {w0:World} {fp0:G0} {bs:Cell->Prop} {n:Nat} {st:St} {a:Act} {w:World} {K:Ex->St->Option ρ} {out:ρ} {Q:Exit->Act->World->Prop}
  (hr:Rl w0 fp0 bs n st a w) (h:tP f bp co kx cx k st K=some out) (hK:∀e st' a' w',K e st'=some out->Rl w0 fp0 bs n st' a' w'->Q e.up a' w'):Code.rounds P c Q k a w:=by
 induction k generalizing st a w with
 |zero=>exact nomatch h
 |succ k ih=>
  rw[rounds_succ]
  exact hf w0 fp0 bs n st a w _ out _ hr h λe st' a' w' h' hr'=>by
   have hn:=hr'.DZ
   cases e with
   |normal=>
    simp only[An]at h';obtain⟨nf,h1,h2⟩:=h';rw[hn]at h2
    exact ih (fX hr' h1) h2
   |exit j=>
    simp only[An]at h';obtain⟨nf,h1,h2⟩:=h';rw[hn]at h2
    exact hK (.exit j) _ a' w' h2 (fX hr' h1)
   |ret=>
    simp only[An]at h';obtain⟨nf,h1,h2⟩:=h';rw[hn]at h2;exact hK .ret _ a' w' h2 (fX hr' h1)
theorem Cq {P:Program} {c:Code} {f:Ev ρ} {p V:Type} (hf:Sound P c f) {bp:List Nat} {co:List (bY× Co)} (kx:Ex->List Nat) (cx:Ex->List (bY× Co)) (k:Nat) {dec:Nat->NF->Option (p× V)} {tm:p× V->St}
  {g:p->V->(V->Option ρ)->(Ex->St->Option ρ)->Option ρ} (hd:∀n nf v,dec n nf=some v->aY bp n nf=tm v)
  (hg:∀(q:p) (v:V) (K K1:Ex->St->Option ρ),f (tm (q,v)) (λe st'=>match e with
    |.normal=>(db bp co st').bind λnf=>K1 .normal (aY bp st'.n nf)
    |e=>(db (kx e) (cx e) st').bind λnf=>K e (aY (kx e) st'.n nf))=g q v (λv'=>K1 .normal (tm (q,v'))) K):
  Sound P (.loop c) (EX f (dc bp co dec λpv K=>iter (λv next=>g pv.1 v next K) k pv.2)):=by
 have hrun:∀(pv:p× V) (K:Ex->St->Option ρ),iter (λv next=>g pv.1 v next K) k pv.2=tP f bp co kx cx k (tm pv) K:=λpv K=>(lX (tm:=λv=>tm (pv.1,v)) (g:=λv next K=>g pv.1 v next K) (λv K K1 next hn=>by
  have:next=λv'=>K1 .normal (tm (pv.1,v')):=funext λv'=>(hn v').symm
  rw[this];exact hg pv.1 v K K1) K k pv.2).symm
 intro w0 fp0 bs n st a w K out Q hr h hK;refine wp_loop_rounds (k+1) ?_;rw[rounds_succ];refine hf w0 fp0 bs n st a w _ out _ hr h λe st' a' w' h' hr'=>?_
 cases e with
 |normal=>
  simp only[dc,An]at h';obtain⟨nf,h1,v,h2,h3⟩:=h';have hn:=hr'.DZ;rw[hn]at h2;rw[hrun v K,<-hd n nf v h2]at h3
  exact rR hf bp co kx cx k (fX hr' h1) h3 hK
 |exit j=>exact hK (.exit j) st' a' w' h' hr'
 |ret=>exact hK .ret st' a' w' h' hr'
end
end
section
def Ty.plain:Ty->Bool
 |.tok=>false
 |.st .mH|.st .ea=>false
 |.sl t=>t.plain
 |.ho _|.hl _=>false
 |_=>true
def R.plain:R->Bool
 |.tok _=>false
 |.sl t _=>t.plain
 |_=>true
def nA:List R->Bool
 |[]=>true
 |r::l=>cond r.plain (nA l) false
def pd (i:Nat):List Nat->Bool
 |[]=>true
 |k::l=>cond (Nat.beq k i) false (pd i l)
mutual
def SV.less (k:Nat):SV->Bool
 |.r d x=>x.plain&&pd k d
 |.fb d cs=>nA cs&&pd k d
 |.inn _ _ _=>false
 |.agg cs=>oa k cs
 |.tup cs=>oa k cs
 |.fn _ a b=>oa k a&&oa k b
 |_=>true
def oa (k:Nat):List SV->Bool
 |[]=>true
 |v::l=>v.less k&&oa k l
end
def Blk.less (k:Nat):Blk->Bool
 |.box cs=>oa k cs
 |.arr none t _=>t.plain
 |.arr (some d) t _=>t.plain&&pd k d
variable {ρ:Type}
section
variable [Tok]
theorem iv {k:Nat}:∀{d:List Nat},pd k d=true->mem k d=false
 |[],_=>rfl
 |x::l,h=>by
  simp only[pd]at h;cases hb:Nat.beq x k<;>simp only[hb,cond_true,cond_false]at h
  ·simp only[mem,hb,cond_false];exact iv h
  ·cases h
theorem jo:∀{l:List R},nA l=true->∀(j:Nat) (r:R),l[j]? =some r->r.plain=true
 |[],_,j,r,h=>by simp at h
 |x::l,h,j,r,hj=>by
  simp only[nA]at h;cases hx:x.plain<;>simp only[hx,cond_true,cond_false]at h
  ·cases h
  ·cases j with
   |zero=>grind
   |succ j=>exact jo h j r (by simpa using hj)
theorem iw {t:Ty} (h:t.plain=true) {xs:List t.El} {i j:Nat} {r:R} (hc:au t xs i j r):r.plain=true:=by
 obtain⟨x,_,hr⟩:=hc;have hm:=FG hr
 cases t with
 |tok=>cases h
 |ho s=>cases h
 |hl t=>cases h
 |sl t=>simp[Ty.cells]at hm;subst hm;exact h
 |int k=>simp[Ty.cells]at hm;subst hm;rfl
 |bool=>simp[Ty.cells]at hm;subst hm;rfl
 |str=>simp[Ty.cells]at hm;subst hm;rfl
 |st s=>
  have key:∀l:List R,nA l=true->r∈l->r.plain=true:=λl hl hrl=>by
   obtain⟨j,hj⟩:=Gc hrl;exact jo hl j r hj
  cases s<;>first|(refine key _ ?_ hm;rfl)|exact nomatch h
theorem gR {k:Nat}:∀{l:List SV},oa k l=true->∀(j:Nat) (x:SV),l[j]? =some x->x.less k=true
 |[],_,j,x,h=>by simp at h
 |v::l,h,j,x,hj=>by
  simp only[oa,Fy]at h
  cases j with
  |zero=>grind
  |succ j=>exact gR h.2 j x (by simpa using hj)
end
theorem l0 {T T':Tok} {w:World} {ok:Cell->Prop} {r:R} {v:Value} (h:@RepR T w ok r v):r.plain=true->@RepR T' w ok r v:=by
 induction h with
 |int=>exactλ_=>.int _ _
 |bool=>exactλ_=>.bool _
 |str=>exactλ_=>.str _
 |tok=>exactλh=>nomatch h
 |gV v h=>exactλ_=>.gV v h
 |sl t xs a cap b o vs hcap ha hc _ ih=>exactλh=>.sl t xs a cap b o vs hcap ha hc λi j r hr=>ih i j r hr (iw h hr)
theorem wv {T T':Tok} {w:World} {r:R} {v:Value} {fp:Cell->Prop} (h:@di T w r v fp):r.plain=true->@di T' w r v fp:=by
 induction h with
 |int=>exactλ_=>.int _ _
 |bool=>exactλ_=>.bool _
 |str=>exactλ_=>.str _
 |tok=>exactλh=>nomatch h
 |gV v h=>exactλ_=>.gV v h
 |sl t xs a cap b o vs fs fp hcap ha fT hc _ hd1 hd2 hfp ih=>exactλh=>.sl t xs a cap b o vs fs fp hcap ha fT hc (λi j r hr=>ih i j r hr (iw h hr)) hd1 hd2 hfp
def Blk.sim:Blk->Blk->Prop
 |.box _,.box _=>True
 |.arr _ t xs,.arr _ t' ys=>t.sz=t'.sz/\xs.length=ys.length
 |_,_=>False
theorem tV {sh:Option (List Nat)} {t:Ty} {xs:List t.El} {B:Blk} (h:(Blk.arr sh t xs).sim B):∃sh' t' xs',B=.arr sh' t' xs'/\t.sz=t'.sz/\xs.length=xs'.length:=by
 cases B with
 |box=>exact h.elim
 |arr sh' t' xs'=>exact⟨sh',t',xs',rfl,h.1,h.2⟩
theorem Bq {cs:List SV} {B:Blk} (h:(Blk.box cs).sim B):∃cs',B=.box cs':=by
 cases B with
 |box cs'=>grind
 |arr=>exact h.elim
theorem ab.move {T T':Tok} {w:World} {H H':az} {pl pl':Pl} {k:Nat} (hH:∀i B,look H i=some B->∃B',look H' i=some B'/\B.sim B') (hh:∀i,pl'.hdr i=pl.hdr i)
  (ho:∀d p,mem k d=false->okd H pl d p->okd H' pl' d p) {v:SV} {u:Value} (h:@ab T w H pl v u):v.less k=true->@ab T' w H' pl' v u:=by
 induction h with
 |r d x v hx=>
  intro hl;simp only[SV.less,Fy]at hl
  exact .r d x v ((l0 hx hl.1).frame λp u hp hu=>⟨ho d p (iv hl.2) hp,hu⟩)
 |cU=>exactλ_=>.cU
 |iP=>exactλ_=>.iP
 |own i sh t xs hi=>
  intro _;obtain⟨B',h1,h2⟩:=hH i _ hi;obtain⟨sh',t',xs',rfl,h3,h4⟩:=tV h2;rw[<-hh i]
  exact .own i sh' t' xs' h1
 |sub i o n sh t xs a a' cap en hi hhd hn hc hc' ha=>
  intro _;obtain⟨B',h1,h2⟩:=hH i _ hi;obtain⟨sh',t',xs',rfl,h3,h4⟩:=tV h2
  exact .sub i o n sh' t' xs' a a' cap en h1 (by rw[hh i,hhd,h4]) (by omega) hc hc' (by rw[<-h3];exact ha)
 |bsl i n cs a hi hhd=>
  intro _;obtain⟨B',h1,h2⟩:=hH i _ hi;obtain⟨cs',rfl⟩:=Bq h2
  exact .bsl i n cs' a h1 ((hh i).trans hhd)
 |ly i o cs b m hi hhd=>
  intro _;obtain⟨B',h1,h2⟩:=hH i _ hi;obtain⟨cs',rfl⟩:=Bq h2
  exact .ly i o cs' b m h1 ((hh i).trans hhd)
 |kr i x o sh t xs b m n cap hi hx hhd=>
  intro _;obtain⟨B',h1,h2⟩:=hH i _ hi;obtain⟨sh',t',xs',rfl,h3,h4⟩:=tV h2;rw[h3]
  exact .kr i x o sh' t' xs' b m n cap h1 (by omega) ((hh i).trans hhd)
 |inn=>exactλh=>nomatch h
 |fb d cs b o vs hc hr=>
  intro hl;simp only[SV.less,Fy]at hl;have hk:=iv hl.2
  exact .fb d cs b o vs (λj r hj=>⟨ho d _ hk (hc j r hj).1,(hc j r hj).2⟩) λj r hj=>(l0 (hr j r hj) (jo hl.1 j r hj)).frame λp u hp hu=>⟨ho d p hk hp,hu⟩
 |agg cs vs h1 h2 _ ih=>exactλhl=>.agg cs vs h1 h2 λj x v hx hv=>ih j x v hx hv (gR hl j x hx)
 |tup cs vs h1 _ ih=>exactλhl=>.tup cs vs h1 λj x v hx hv=>ih j x v hx hv (gR hl j x hx)
 |fn f as bs us vs h1 _ h2 _ ih1 ih2=>
  intro hl;have hl:(oa k as&&oa k bs)=true:=hl;rw[Fy]at hl
  exact .fn f as bs us vs h1 (λj x v hx hv=>ih1 j x v hx hv (gR hl.1 j x hx)) h2 λj x v hx hv=>ih2 j x v hx hv (gR hl.2 j x hx)
 |undef v=>exactλ_=>.undef v
theorem cL.move {T T':Tok} {w:World} {H H':az} {pl pl':Pl} {k i:Nat} (hH:∀i B,look H i=some B->∃B',look H' i=some B'/\B.sim B') (hh:∀i,pl'.hdr i=pl.hdr i)
  (ho:∀d p,mem k d=false->okd H pl d p->okd H' pl' d p) {B:Blk} (hf:pl'.fp i=pl.fp i) (h:@cL T w H pl i B) (hl:B.less k=true):@cL T' w H' pl' i B:=by
 cases B with
 |box cs=>
  obtain⟨b,o,h1,h2,h3⟩:=h;refine⟨b,o,(hh i).trans h1,λp=>by rw[hf];exact h2 p,λj v hv=>?_⟩;obtain⟨u,g1,g2,g3,g4⟩:=h3 j v hv
  exact⟨u,g1,g2,g3,g4.move hH hh ho (gR hl j v hv)⟩
 |arr sh t xs=>
  cases sh with
  |none=>
   obtain⟨⟨a,cap,b,o,vs,fs,q1,q2,q3,q4,q5,q6,q7,q8,q9⟩⟩:=h
   exact⟨⟨a,cap,b,o,vs,fs,(hh i).trans q1,q2,q3,q4,q5,λi j r hc=>wv (q6 i j r hc) (iw hl hc),q7,q8,λp=>by rw[hf];exact q9 p⟩⟩
  |some d=>
   simp only[Blk.less,Fy]at hl;obtain⟨⟨a,cap,b,o,vs,fs,q1,q2,q3,q4,q5,q6,q7,q8,q9⟩⟩:=h;exact⟨⟨a,cap,b,o,vs,fs,(hh i).trans q1,q2,q3,q4,q5,λi j r hc=>⟨(l0 (q6 i j r hc).1 (iw hl.1 hc)).frame λp u hp hu=>⟨ho d p (iv hl.2) hp,hu⟩,(q6 i j r hc).2⟩,q7,q8,λp=>by rw[hf];exact q9 p⟩⟩
section
variable [Tok]
end
end
section
variable [Tok]
structure Cd (α:Type) where
 n:Nat
 to:α->List R
 of:List R->Option α
 h:∀rs a,of rs=some a->to a=rs
def R.one (k:IntKind):R->Option Int
 |.int k' n=>cond (decide (k'=k)) (some n) none
 |_=>none
def cdI (k:IntKind):Cd Int:=⟨1,λn=>[.int k n],λ
 |[.int k' n]=>cond (decide (k'=k)) (some n) none
 |_=>none,λrs a h=>by
  split at h
  ·rename_i k' n;by_cases c:k'=k
   ·rw[decide_eq_true c]at h;cases h;rw[c]
   ·rw[decide_eq_false c]at h;exact nomatch h
  ·exact nomatch h⟩
def cdZ:Cd Int:=cdI .i64
def cdB:Cd Bool:=⟨1,λb=>[.bool b],λ
 |[.bool b]=>some b
 |_=>none,λrs a h=>by
  split at h
  ·cases h;rfl
  ·exact nomatch h⟩
def cdL (t:Ty):Cd (List t.El):=⟨1,λxs=>[.sl t xs],λ
 |[r]=>r.asL t
 |_=>none,λrs a h=>by
  split at h
  ·rw[R.de h]
  ·exact nomatch h⟩
def cdS (s:S):Cd s.E:=⟨s.sz,s.cells,λrs=>(Ty.st s).dj rs,λrs a h=>Ty.bT (.st s) rs a h⟩
def cdU:Cd Unit:=⟨0,λ_=>[],λ
 |[]=>some ()
 |_=>none,λrs a h=>by
  split at h
  ·rfl
  ·exact nomatch h⟩
def Cd.p {α β:Type} (A:Cd α) (B:Cd β):Cd (α× β):=⟨A.n+B.n,λx=>A.to x.1++B.to x.2,λrs=>(A.of (rs.take A.n)).bind λa=>(B.of (rs.drop A.n)).bind λb=>some (a,b),λrs x h=>by
 simp only[An,Fu]at h;obtain⟨a,ha,b,hb,rfl⟩:=h
 rw[A.h _ _ ha,B.h _ _ hb,FU]⟩
def Cd.m {α β:Type} (A:Cd α) (f:α->β) (g:β->α) (e:∀x,g (f x)=x):Cd β:=⟨A.n,λx=>A.to (g x),λrs=>(A.of rs).bind λa=>some (f a),λrs x h=>by
 simp only[An,Fu]at h;obtain⟨a,ha,rfl⟩:=h
 rw[e,A.h _ _ ha]⟩
inductive Sk where
 |r (d:List Nat) (j:Nat)
 |v (x:SV)
 |sub (i j l:Nat)
 |ptr (i j o:Nat)
 |agg (l:List Sk)
 |tup (l:List Sk)
 |fn (f:Nat) (a b:List Sk)
 |fb (d js:List Nat)
inductive SkB where
 |box (l:List Sk)
 |arr (sh:Option (List Nat)) (t:Ty) (j:Nat)
abbrev Sk.h (j:Nat):Sk:=.r [] j
def hs (j:Nat):Nat->List Sk
 |0=>[]
 |n+1=>.r [] j::hs (j+1) n
abbrev Sk.own (i:Nat):Sk:=.v (.own i)
def R.tk:R->Nat
 |.tok n=>n
 |_=>0
def R.ls (t:Ty) (r:R):List t.El:=(r.asL t).getD []
def at0:List R->Nat->R
 |[],_=>.tok 0
 |r::_,0=>r
 |_::l,j+1=>at0 l j
def atL (f:Nat->R):List Nat->List R
 |[]=>[]
 |j::l=>f j::atL f l
mutual
def Sk.fill (f:Nat->R):Sk->SV
 |.r d j=>.r d (f j)
 |.v x=>x
 |.sub i j l=>.sub i (f j).tk (f l).tk
 |.ptr i j o=>.ptr i (f j).tk o
 |.agg l=>.agg (ix f l)
 |.tup l=>.tup (ix f l)
 |.fn g a b=>.fn (.func g) (ix f a) (ix f b)
 |.fb d js=>.fb d (atL f js)
def ix (f:Nat->R):List Sk->List SV
 |[]=>[]
 |s::l=>s.fill f::ix f l
end
def SkB.fill (f:Nat->R):SkB->Blk
 |.box l=>.box (ix f l)
 |.arr sh t j=>.arr sh t ((f j).ls t)
def kn (f:Nat->R):List SkB->List Blk
 |[]=>[]
 |b::l=>b.fill f::kn f l
abbrev Ps:=List (Nat× R)
def eqL:List Nat->List Nat->Bool
 |[],[]=>true
 |a::l,b::m=>cond (Nat.beq a b) (eqL l m) false
 |_,_=>false
def AQ:SV->SV->Bool
 |.own i,.own j=>Nat.beq i j
 |.cU,.cU=>true
 |.iP,.iP=>true
 |.undef,.undef=>true
 |.ptr i x o,.ptr i' x' o'=>cond (Nat.beq i i') (cond (Nat.beq x x') (Nat.beq o o') false) false
 |.bsl i n,.bsl i' n'=>cond (Nat.beq i i') (Nat.beq n n') false
 |_,_=>false
def D0:List Nat->List R->Option Ps
 |[],[]=>some []
 |j::l,r::m=>(D0 l m).bind λq=>some ((j,r)::q)
 |_,_=>none
mutual
def Sk.mt:Sk->SV->Option Ps
 |.r d j,v=>match v with
  |.r d' x=>cond (eqL d d') (some [(j,x)]) none
  |_=>none
 |.v x,v=>cond (AQ x v) (some []) none
 |.sub i j l,v=>match v with
  |.sub i' o n=>cond (Nat.beq i i') (some [(j,.tok o),(l,.tok n)]) none
  |_=>none
 |.ptr i j o,v=>match v with
  |.ptr i' x o'=>cond (Nat.beq i i') (cond (Nat.beq o o') (some [(j,.tok x)]) none) none
  |_=>none
 |.agg l,v=>match v with
  |.agg cs=>mtL l cs
  |_=>none
 |.tup l,v=>match v with
  |.tup cs=>mtL l cs
  |_=>none
 |.fn g a b,v=>match v with
  |.fn (.func g') a' b'=>cond (Nat.beq g g') ((mtL a a').bind λp=>(mtL b b').bind λq=>some (p++q)) none
  |_=>none
 |.fb d js,v=>match v with
  |.fb d' cs=>cond (eqL d d') (D0 js cs) none
  |_=>none
def mtL:List Sk->List SV->Option Ps
 |[],l=>match l with
  |[]=>some []
  |_=>none
 |s::m,l=>match l with
  |v::l=>(s.mt v).bind λp=>(mtL m l).bind λq=>some (p++q)
  |_=>none
end
def Es:Option (List Nat)->Option (List Nat)->Bool
 |none,none=>true
 |some a,some b=>eqL a b
 |_,_=>false
def SkB.mt:SkB->Blk->Option Ps
 |.box l,b=>match b with
  |.box cs=>mtL l cs
  |_=>none
 |.arr sh t j,b=>match b with
  |.arr sh' t' xs=>cond (Es sh sh') (cond (decide (t'=t)) (some [(j,.sl t' xs)]) none) none
  |_=>none
def mtB:List SkB->List Blk->Option Ps
 |[],l=>match l with
  |[]=>some []
  |_=>none
 |s::m,l=>match l with
  |v::l=>(s.mt v).bind λp=>(mtB m l).bind λq=>some (p++q)
  |_=>none
theorem rS:∀{a b:List Nat},eqL a b=true->a=b
 |[],[],_=>rfl
 |[],_::_,h=>nomatch h
 |_::_,[],h=>nomatch h
 |a::l,b::m,h=>by
  simp only[eqL]at h;cases hb:Nat.beq a b<;>rw[hb]at h<;>simp only[cond_true,cond_false]at h
  ·exact nomatch h
  ·rw[Fx hb,rS h]
theorem Cr {a b:Option (List Nat)} (h:Es a b=true):a=b:=by
 cases a with
 |none=>cases b with
  |none=>rfl
  |some _=>exact nomatch h
 |some x=>cases b with
  |none=>exact nomatch h
  |some y=>exact congrArg some (rS h)
theorem AR {a b:SV} (h:AQ a b=true):a=b:=by
 unfold AQ at h;split at h
 ·rw[Fx h]
 ·rfl
 ·rfl
 ·rfl
 ·rename_i i x o i' x' o';cases h1:Nat.beq i i'<;>rw[h1]at h<;>simp only[cond_true,cond_false]at h
  ·exact nomatch h
  ·cases h2:Nat.beq x x'<;>rw[h2]at h<;>simp only[cond_true,cond_false]at h
   ·exact nomatch h
   ·rw[Fx h1,Fx h2,Fx h]
 ·rename_i i n i' n';cases h1:Nat.beq i i'<;>rw[h1]at h<;>simp only[cond_true,cond_false]at h
  ·exact nomatch h
  ·rw[Fx h1,Fx h]
 ·exact nomatch h
def gd (f:Nat->R) (ps:Ps):Prop:=∀p∈ps,f p.1=p.2
theorem gd.left {f:Nat->R} {p q:Ps} (h:gd f (p++q)):gd f p:=λx hx=>h x (Gg _ hx)
theorem gd.right {f:Nat->R} {p q:Ps} (h:gd f (p++q)):gd f q:=λx hx=>h x (Gu _ hx)
theorem zc {f:Nat->R}:∀{js:List Nat} {cs:List R} {ps:Ps},D0 js cs=some ps->gd f ps->atL f js=cs
 |[],[],_,_,_=>rfl
 |[],_::_,_,h,_=>nomatch h
 |_::_,[],_,h,_=>nomatch h
 |j::l,r::m,ps,h,hf=>by
  simp only[D0,An,Fu]at h;obtain⟨q,hq,rfl⟩:=h;rw[atL,zc hq λp hp=>hf p (FZ _ hp),hf (j,r) F5]
mutual
theorem Sk.wx {f:Nat->R}:(s:Sk)->{v:SV}->{ps:Ps}->s.mt v=some ps->gd f ps->s.fill f=v
 |.r d j,v,ps,h,hf=>by
  simp only[Sk.mt]at h;split at h
  ·rename_i d' x;cases hd:eqL d d'<;>rw[hd]at h<;>simp only[cond_true,cond_false]at h
   ·exact nomatch h
   ·cases h;rw[Sk.fill,rS hd,hf (j,x) F5]
  ·exact nomatch h
 |.v x,v,ps,h,hf=>by
  simp only[Sk.mt]at h;cases hd:AQ x v<;>rw[hd]at h<;>simp only[cond_true,cond_false]at h
  ·exact nomatch h
  ·rw[Sk.fill,AR hd]
 |.sub i j l,v,ps,h,hf=>by
  simp only[Sk.mt]at h;split at h
  ·rename_i i' o n;cases hd:Nat.beq i i'<;>rw[hd]at h<;>simp only[cond_true,cond_false]at h
   ·exact nomatch h
   ·cases h;rw[Sk.fill,Fx hd,hf (j,.tok o) F5,hf (l,.tok n) (FZ _ F5)];rfl
  ·exact nomatch h
 |.ptr i j o,v,ps,h,hf=>by
  simp only[Sk.mt]at h;split at h
  ·rename_i i' x o';cases hd:Nat.beq i i'<;>rw[hd]at h<;>simp only[cond_true,cond_false]at h
   ·exact nomatch h
   ·cases hd2:Nat.beq o o'<;>rw[hd2]at h<;>simp only[cond_true,cond_false]at h
    ·exact nomatch h
    ·cases h;rw[Sk.fill,Fx hd,Fx hd2,hf (j,.tok x) F5];rfl
  ·exact nomatch h
 |.agg l,v,ps,h,hf=>by
  simp only[Sk.mt]at h;split at h
  ·rw[Sk.fill,mi l h hf]
  ·exact nomatch h
 |.tup l,v,ps,h,hf=>by
  simp only[Sk.mt]at h;split at h
  ·rw[Sk.fill,mi l h hf]
  ·exact nomatch h
 |.fn g a b,v,ps,h,hf=>by
  simp only[Sk.mt]at h;split at h
  ·rename_i g' a' b';cases hd:Nat.beq g g'<;>rw[hd]at h<;>simp only[cond_true,cond_false]at h
   ·exact nomatch h
   ·simp only[An,Fu]at h;obtain⟨p,hp,q,hq,rfl⟩:=h;rw[Sk.fill,Fx hd,mi a hp hf.left,mi b hq hf.right]
  ·exact nomatch h
 |.fb d js,v,ps,h,hf=>by
  simp only[Sk.mt]at h;split at h
  ·rename_i d' cs;cases hd:eqL d d'<;>rw[hd]at h<;>simp only[cond_true,cond_false]at h
   ·exact nomatch h
   ·rw[Sk.fill,rS hd,zc h hf]
  ·exact nomatch h
theorem mi {f:Nat->R}:(s:List Sk)->{v:List SV}->{ps:Ps}->mtL s v=some ps->gd f ps->ix f s=v
 |[],v,ps,h,hf=>by
  simp only[mtL]at h;split at h
  ·rfl
  ·exact nomatch h
 |s::m,v,ps,h,hf=>by
  simp only[mtL]at h;split at h
  ·simp only[An,Fu]at h;obtain⟨p,hp,q,hq,rfl⟩:=h;rw[ix,Sk.wx s hp hf.left,mi m hq hf.right]
  ·exact nomatch h
end
theorem SkB.wx {f:Nat->R} (s:SkB) {b:Blk} {ps:Ps} (h:s.mt b=some ps) (hf:gd f ps):s.fill f=b:=by
 cases s with
 |box l=>
  simp only[SkB.mt]at h;split at h
  ·rw[SkB.fill,mi l h hf]
  ·exact nomatch h
 |arr sh t j=>
  simp only[SkB.mt]at h;split at h
  ·rename_i sh' t' xs;cases hd:Es sh sh'<;>rw[hd]at h<;>simp only[cond_true,cond_false]at h
   ·exact nomatch h
   ·by_cases c:t'=t
    ·subst c;rw[decide_eq_true rfl]at h;cases h;rw[SkB.fill,Cr hd,hf (j,.sl t' xs) F5];simp[R.ls,R.asL]
    ·rw[decide_eq_false c]at h;exact nomatch h
  ·exact nomatch h
theorem rT {f:Nat->R}:(s:List SkB)->{v:List Blk}->{ps:Ps}->mtB s v=some ps->gd f ps->kn f s=v
 |[],v,ps,h,hf=>by
  simp only[mtB]at h;split at h
  ·rfl
  ·exact nomatch h
 |s::m,v,ps,h,hf=>by
  simp only[mtB]at h;split at h
  ·simp only[An,Fu]at h;obtain⟨p,hp,q,hq,rfl⟩:=h;rw[kn,SkB.wx s hp hf.left,rT m hq hf.right]
  ·exact nomatch h
def ord (ps:Ps):Nat->Nat->Option (List R)
 |_,0=>some []
 |j,n+1=>(look ps j).bind λr=>(ord ps (j+1) n).bind λl=>some (r::l)
theorem Br {ps:Ps}:∀{n j:Nat} {rs:List R},ord ps j n=some rs->∀i,i<n->look ps (j+i)=some (at0 rs i)
 |0,_,_,_,i,hi=>absurd hi (Nat.not_lt_zero _)
 |n+1,j,rs,h,i,hi=>by
  simp only[ord,An,Fu]at h;obtain⟨r,hr,l,hl,rfl⟩:=h
  cases i with
  |zero=>exact hr
  |succ i=>have:=Br hl i (by omega);rwa [show j+1+i=j+(i+1)from by omega]at this
def zd (n:Nat):Ps->Bool
 |[]=>true
 |(j,_)::l=>cond (Nat.ble (j+1) n) (cond (zb (look l j)) false (zd n l)) false
theorem pe {n:Nat}:∀{ps:Ps},zd n ps=true->∀p∈ps,p.1<n/\look ps p.1=some p.2
  |[],_,_,h=>nomatch h
  | (j, r) :: l, h, p, hp => by
    simp only[zd]at h;cases h1:Nat.ble (j+1) n<;>rw[h1]at h<;>simp only[cond_true,cond_false]at h
    · exact nomatch h
    · cases h2:zb (look l j)<;>rw[h2]at h<;>simp only[cond_true,cond_false]at h
      · rcases FM.1 hp with rfl|hp
        · exact⟨FH h1,by simp[look]⟩
        · obtain⟨g1,g2⟩:=pe h p hp;refine⟨g1,?_⟩;rw[aj];by_cases c:j=p.1
          · subst c;rw[g2]at h2;exact nomatch h2
          · rw[if_neg c];exact g2
      · exact nomatch h
def rd {α:Type} (c:Cd α) (ps:Ps):Option α:=cond (zd c.n ps) ((ord ps 0 c.n).bind c.of) none
theorem qp {α:Type} {c:Cd α} {ps:Ps} {a:α} (h:rd c ps=some a):gd (at0 (c.to a)) ps:=by
 unfold rd at h;cases hk:zd c.n ps<;>rw[hk]at h<;>simp only[cond_true,cond_false]at h
 ·exact nomatch h
 ·rw[An]at h;obtain⟨rs,hrs,ha⟩:=h;intro p hp;obtain⟨g1,g2⟩:=pe hk p hp;have:=Br hrs p.1 g1;rw[FC,g2]at this;rw[c.h _ _ ha];exact(Gn this).symm
end
section
variable [Tok]
structure SkI where
 a:List Sk
 b:List SkB
structure SkO where
 v:Sk
 kept:List (Option SkB)
 news:List SkB
def SkI.zU {A:Type} (i:SkI) (c:Cd A) (l:List SV) (b:List Blk):Option A:=(mtL i.a l).bind λp=>(mtB i.b b).bind λq=>rd c (p++q)
theorem SkI.Cs {A:Type} {i:SkI} {c:Cd A} {l:List SV} {b:List Blk} {a:A} (h:i.zU c l b=some a):l=ix (at0 (c.to a)) i.a/\b=kn (at0 (c.to a)) i.b:=by
 simp only[SkI.zU,An]at h;obtain⟨p,hp,q,hq,h⟩:=h;have:=qp h;exact⟨(mi _ hp this.left).symm,(rT _ hq this.right).symm⟩
def tW (f:Nat->R):List (Option SkB)->List (Option Blk)
 |[]=>[]
 |none::l=>none::tW f l
 |some b::l=>some (b.fill f)::tW f l
def mtK:List (Option SkB)->List (Option Blk)->Option Ps
 |[],l=>match l with
  |[]=>some []
  |_=>none
 |none::m,l=>match l with
  |none::l=>mtK m l
  |_=>none
 |some s::m,l=>match l with
  |some b::l=>(s.mt b).bind λp=>(mtK m l).bind λq=>some (p++q)
  |_=>none
theorem ze {f:Nat->R}:(s:List (Option SkB))->{v:List (Option Blk)}->{ps:Ps}->mtK s v=some ps->gd f ps->tW f s=v
 |[],v,ps,h,hf=>by
  simp only[mtK]at h;split at h
  ·rfl
  ·exact nomatch h
 |none::m,v,ps,h,hf=>by
  simp only[mtK]at h;split at h
  ·rw[tW,ze m h hf]
  ·exact nomatch h
 |some s::m,v,ps,h,hf=>by
  simp only[mtK]at h;split at h
  ·simp only[An,Fu]at h;obtain⟨p,hp,q,hq,rfl⟩:=h;rw[tW,SkB.wx s hp hf.left,ze m hq hf.right]
  ·exact nomatch h
theorem jq {f:Nat->R}:(s:List (Option SkB))->(tW f s).length=s.length
 |[]=>rfl
 |none::l=>congrArg (·+1) (jq l)
 |some _::l=>congrArg (·+1) (jq l)
theorem mj {f:Nat->R}:(s:List SkB)->(kn f s).length=s.length
 |[]=>rfl
 |_::l=>congrArg (·+1) (mj l)
def S.dec:(s:S)->DecidableEq s.E
 |.shape=>(inferInstance:DecidableEq Shape)|.iN=>(inferInstance:DecidableEq fy)|.iO=>(inferInstance:DecidableEq pt)|.model=>(inferInstance:DecidableEq Model)|.task=>(inferInstance:DecidableEq Task)|.request=>(inferInstance:DecidableEq Request)
 |.step=>(inferInstance:DecidableEq Step)|.event=>(inferInstance:DecidableEq Event)|.entry=>(inferInstance:DecidableEq Entry)|.wish=>(inferInstance:DecidableEq Wish)|.mH=>(inferInstance:DecidableEq wT)|.ea=>(inferInstance:DecidableEq ku)
def Ty.dec:(t:Ty)->DecidableEq t.El
 |.int _=>(inferInstance:DecidableEq Int)
 |.bool=>(inferInstance:DecidableEq Bool)
 |.str=>(inferInstance:DecidableEq (List UInt8))
 |.sl t=>@instDecidableEqList _ t.dec
 |.st s=>s.dec
 |.tok=>(inferInstance:DecidableEq Nat)
 |.ho s=>letI:=s.dec;(inferInstance:DecidableEq (Option s.E))
 |.hl t=>letI:=t.dec;(inferInstance:DecidableEq (Option (List t.El)))
def Ct {α:Type} (z e:R) (K:Option α):Option α:=
 match z,e with
 |.int k a,.int k' b=>cond (decide (k=k')) (cond (tU a b) K none) none
 |.bool a,.bool b=>cond (tU a b) K none
 |.str a,.str b=>cond (tU a b) K none
 |.tok a,.tok b=>cond (tU a b) K none
 |.sl t a,.sl t' b=>if h:t'=t then cond (@tU _ (@instDecidableEqList _ t.dec) a (h▸b)) K none else none
 |_,_=>none
theorem AU {α:Type} {z e:R} {K:Option α} {x:α} (h:Ct z e K=some x):z=e/\K=some x:=by
 unfold Ct at h
 have go:∀{β:Type} [DecidableEq β] {a b:β} {K:Option α},cond (tU a b) K none=some x->a=b/\K=some x:=λ{β} _ {a b K} h=>by
  unfold tU at h;by_cases c:a=b
  ·rw[decide_eq_true c]at h;exact⟨c,h⟩
  ·rw[decide_eq_false c]at h;exact nomatch h
 split at h
 ·rename_i k a k' b;by_cases c:k=k'
  ·rw[decide_eq_true c]at h;obtain⟨h1,h2⟩:=go h;exact⟨by rw[c,h1],h2⟩
  ·rw[decide_eq_false c]at h;exact nomatch h
 ·obtain⟨h1,h2⟩:=go h;exact⟨by rw[h1],h2⟩
 ·obtain⟨h1,h2⟩:=go h;exact⟨by rw[h1],h2⟩
 ·obtain⟨h1,h2⟩:=go h;exact⟨by rw[h1],h2⟩
 ·split at h
  ·rename_i t a t' b c;subst c;obtain⟨h1,h2⟩:=@go _ (@instDecidableEqList _ (Ty.dec _)) _ _ _ h;exact⟨by rw[h1],h2⟩
  ·exact nomatch h
 ·exact nomatch h
def Dw {α:Type} (n:Nat) (f:Nat->R):Ps->(Ps->Option α)->Option α
 |[],K=>K []
 |(j,z)::l,K=>cond (Nat.ble (j+1) n) (Ct z (f j) (Dw n f l K)) (Dw n f l λq=>K ((j-n,z)::q))
theorem tX {α:Type} {n:Nat} {f:Nat->R} {x:α}:∀{ps:Ps} {K:Ps->Option α},Dw n f ps K=some x->∃q,K q=some x/\∀p∈ps,(p.1<n/\f p.1=p.2)\/(n<=p.1/\(p.1-n,p.2)∈q)
  |[],K,h=>⟨[],h,λ_ hp=>nomatch hp⟩
  | (j, z) :: l, K, h => by
    simp only[Dw]at h;cases hb:Nat.ble (j+1) n<;>rw[hb]at h<;>simp only[cond_true,cond_false]at h
    · obtain⟨q,hq,hp⟩:=tX h;refine⟨_,hq,λp h=>?_⟩
      rcases FM.1 h with rfl|h
      · have:¬j+1<=n:=λc=>by rw[Gt c]at hb;exact nomatch hb
        exact .inr ⟨by simp only;omega,F5⟩
      · rcases hp p h with h|⟨h1,h2⟩
        · exact .inl h
        · exact .inr ⟨h1,FZ _ h2⟩
    · obtain⟨h1,h2⟩:=AU h;obtain⟨q,hq,hp⟩:=tX h2;refine⟨q,hq,λp h=>?_⟩
      rcases FM.1 h with rfl|h
      · exact .inl ⟨FH hb,h1.symm⟩
      · exact hp p h
theorem zf:∀(l m:List R) (j:Nat),at0 (l++m) j=if j<l.length then at0 l j else at0 m (j-l.length)
 |[],m,j=>by simp
 |r::l,m,0=>by simp[at0]
 |r::l,m,j+1=>by
  rw[GA,at0,zf l m j];by_cases c:j<l.length
  ·rw[if_pos c,if_pos (by simpa using c),at0]
  ·rw[if_neg c,if_neg (by simpa using c),F4,Nat.add_sub_add_right]
def Dx {A B:Type} (cA:Cd A) (cB:Cd B) (a:A) (b:B):Nat->R:=at0 (cA.to a++cB.to b)
def SkO.enc {A B:Type} (o:SkO) (cA:Cd A) (cB:Cd B) (a:A) (b:B):kt:=⟨o.v.fill (Dx cA cB a b),tW (Dx cA cB a b) o.kept,kn (Dx cA cB a b) o.news⟩
def SkO.dec {A B:Type} (o:SkO) (cA:Cd A) (cB:Cd B) (a:A) (m:kt):Option B:=
  (o.v.mt m.v).bind λp=>(mtK o.kept m.kept).bind λq=>(mtB o.news m.news).bind λr=>
    cond (Nat.beq (cA.to a).length cA.n) (Dw cA.n (at0 (cA.to a)) (p++(q++r)) (rd cB)) none
theorem SkO.rU {A B:Type} {o:SkO} {cA:Cd A} {cB:Cd B} {a:A} {m:kt} {b:B} (h:o.dec cA cB a m=some b):m=o.enc cA cB a b:=by
 simp only[SkO.dec,An]at h;obtain⟨p,hp,q,hq,r,hr,h⟩:=h;cases hb:Nat.beq (cA.to a).length cA.n<;>rw[hb]at h<;>simp only[cond_true,cond_false]at h
 ·exact nomatch h
 have hn:=Fx hb;obtain⟨s,hs,hf⟩:=tX h;have hr':=qp hs
 have hF:gd (Dx cA cB a b) (p++(q++r)):=λx hx=>by
  unfold Dx;rw[zf,hn]
  rcases hf x hx with⟨h1,h2⟩|⟨h1,h2⟩
  ·rw[if_pos h1,h2]
  ·rw[if_neg (by omega)];exact hr' _ h2
 cases m;simp only[SkO.enc,Sk.wx _ hp hF.left,ze _ hq hF.right.left,rT _ hr hF.right.right]
def gM {A B:Type} (i:SkI) (cA:Cd A) (o:SkO) (cB:Cd B) (F:A->Option B):MG:=λ_ l b K=>(i.zU cA l b).bind λa=>(F a).bind λr=>K (o.enc cA cB a r)
def oM {A B:Type} (pr:List Pr) (i:SkI) (cA:Cd A) (o:SkO) (cB:Cd B) (F:A->Option B):Orc:=yR pr (gM i cA o cB F)
theorem Et {A B:Type} {E:Env} (hE:gv E) {LP:Nat->Ev B->Ev B} {g:FuncId} {fn:Func} (hf:E.P.funcs[g]? =some fn) (hc:fn.body.isSome=true) (hnm:(fn.name== "runtime.NumGoroutine")=false)
  {i:SkI} {cA:Cd A} {o:SkO} {cB:Cd B} {F:A->Option B} (hn:Nat.ble i.a.length fn.ntmps=true) (hl:Nat.beq o.kept.length i.b.length=true)
  (hLP:ew E LP 0 (fn.body.getD .skip)) (rt:RT) (ks:List KD)
  (h:∀a,ev E LP 0 (fn.body.getD .skip) (yW fn (ix (at0 (cA.to a)) i.a) (kn (at0 (cA.to a)) i.b)) (zT E.P fn rt ks (o.dec cA cB a))=F a):
  yL E.P g (gM i cA o cB F):=by
 have hln:∀(f:Nat->R) (l:List Sk),(ix f l).length=l.length:=λf l=>by
  induction l with
  |nil=>rfl
  |cons s l ih=>rw[ix,F4,ih];rfl
 exact tT hE hf hc hnm (λa=>ix (at0 (cA.to a)) i.a) (λa=>kn (at0 (cA.to a)) i.b) (i.zU cA) (λl b a h=>SkI.Cs h)
  (λa=>by rw[hln];exact hn) hLP (enc:=o.enc cA cB) (λa r=>by simp only[SkO.enc,jq,mj];exact Fx hl) (λa m r h=>SkO.rU h) h
theorem okM {A B:Type} {E:Env} (hE:gv E) {LP:Nat->Ev B->Ev B} {g:FuncId} {fn:Func} (hf:E.P.funcs[g]? =some fn) (hc:fn.body.isSome=true) (hnm:(fn.name== "runtime.NumGoroutine")=false)
  {pr:List Pr} {i:SkI} {cA:Cd A} {o:SkO} {cB:Cd B} {F:A->Option B} (hn:Nat.ble i.a.length fn.ntmps=true) (hl:Nat.beq o.kept.length i.b.length=true)
  (hLP:ew E LP 0 (fn.body.getD .skip)) (rt:RT) (ks:List KD)
  (h:∀a,ev E LP 0 (fn.body.getD .skip) (yW fn (ix (at0 (cA.to a)) i.a) (kn (at0 (cA.to a)) i.b)) (zT E.P fn rt ks (o.dec cA cB a))=F a):
  jP E.P g (oM pr i cA o cB F):=kW (Et hE hf hc hnm hn hl hLP rt ks h)
def jr:List Sh->List Nat->List R->List Arg
 |.one _::l,fs,r::rs=>.one r::jr l fs rs
 |.agg ts::l,fs,rs=>.agg (rs.take ts.length)::jr l fs (rs.drop ts.length)
 |.fn::l,f::fs,rs=>.fn (.func f) [] []::jr l fs rs
 |_,_,_=>[]
def rsP:List Sh->List Nat->List Arg->Option (List R)
 |[],_,l=>match l with
  |[]=>some []
  |_=>none
 |.one _::m,fs,l=>match l with
  |.one r::l=>(rsP m fs l).bind λq=>some (r::q)
  |_=>none
 |.agg ts::m,fs,l=>match l with
  |.agg rs::l=>cond (Nat.beq rs.length ts.length) ((rsP m fs l).bind λq=>some (rs++q)) none
  |_=>none
 |.fn::m,fs,l=>match fs,l with
  |f::fs,.fn (.func g) [] []::l=>cond (Nat.beq g f) (rsP m fs l) none
  |_,_=>none
theorem rV:∀{sh:List Sh} {fs:List Nat} {l:List Arg} {rs:List R},rsP sh fs l=some rs->jr sh fs rs=l
 |[],fs,l,rs,h=>by
  simp only[rsP]at h;split at h
  ·cases fs<;>rfl
  ·exact nomatch h
 |.one t::m,fs,l,rs,h=>by
  simp only[rsP]at h;split at h
  ·simp only[An,Fu]at h;obtain⟨q,hq,rfl⟩:=h;rw[jr,rV hq]
  ·exact nomatch h
 |.agg ts::m,fs,l,rs,h=>by
  simp only[rsP]at h;split at h
  ·rename_i rs' l';cases hb:Nat.beq rs'.length ts.length<;>rw[hb]at h<;>simp only[cond_true,cond_false]at h
   ·exact nomatch h
   ·simp only[An,Fu]at h;obtain⟨q,hq,rfl⟩:=h;have e:=Fx hb;rw[jr,<-e,List.take_left,List.drop_left,rV hq]
  ·exact nomatch h
 |.fn::m,fs,l,rs,h=>by
  simp only[rsP]at h;split at h
  ·rename_i f fs g l';cases hb:Nat.beq g f<;>rw[hb]at h<;>simp only[cond_true,cond_false]at h
   ·exact nomatch h
   ·rw[jr,rV h,Fx hb]
  ·exact nomatch h
theorem gf:∀(sh:List Sh) (fs:List Nat) (rs:List R),(jr sh fs rs).length<=sh.length
 |[],fs,rs=>by simp[jr]
 |.one _::l,fs,r::rs=>Nat.succ_le_succ (gf l fs rs)
 |.one _::_,_,[]=>by simp[jr]
 |.agg ts::l,fs,rs=>Nat.succ_le_succ (gf l fs _)
 |.fn::l,f::fs,rs=>Nat.succ_le_succ (gf l fs rs)
 |.fn::_,[],_=>by simp[jr]
structure SkP where
 v:Sk
 news:List SkB:=[]
def SkP.enc {B:Type} (o:SkP) (cB:Cd B) (b:B):Out:=(o.v.fill (at0 (cB.to b)),kn (at0 (cB.to b)) o.news)
def SkP.dec {B:Type} (o:SkP) (cB:Cd B) (m:Out):Option B:=(o.v.mt m.1).bind λp=>(mtB o.news m.2).bind λr=>rd cB (p++r)
theorem SkP.rU {B:Type} {o:SkP} {cB:Cd B} {m:Out} {b:B} (h:o.dec cB m=some b):m=o.enc cB b:=by
 simp only[SkP.dec,An]at h;obtain⟨p,hp,r,hr,h⟩:=h;have hF:=qp h;cases m;simp only[SkP.enc,Sk.wx _ hp hF.left,rT _ hr hF.right]
def oP {A B:Type} (sh:List Sh) (fs:List Nat) (cA:Cd A) (o:SkP) (cB:Cd B) (F:A->Option B):Orc:=tM sh λ_ l K=>((rsP sh fs l).bind cA.of).bind λa=>(F a).bind λr=>K (o.enc cB r)
theorem okP {A B:Type} {E:Env} (hE:gv E) {LP:Nat->Ev B->Ev B} {g:FuncId} {fn:Func} (hf:E.P.funcs[g]? =some fn) (hc:fn.body.isSome=true) (hnm:(fn.name== "runtime.NumGoroutine")=false)
  {sh:List Sh} {fs:List Nat} {cA:Cd A} {o:SkP} {cB:Cd B} {F:A->Option B} (hn:Nat.ble sh.length fn.ntmps=true)
  (hLP:ew E LP 0 (fn.body.getD .skip)) (rt:RT)
  (h:∀a,ev E LP 0 (fn.body.getD .skip) (st0 fn (jr sh fs (cA.to a))) (fin E.P fn rt (o.dec cB))=F a):
  jP E.P g (oP sh fs cA o cB F):=
 o4 (mg hE hf hc hnm (λa=>jr sh fs (cA.to a)) (λl=>(rsP sh fs l).bind cA.of) (λl a h=>by
  rw[An]at h;obtain⟨rs,h1,h2⟩:=h
  rw[cA.h _ _ h2,rV h1]) (λa=>Gt (G3 (gf _ _ _) (FH hn))) hLP (λm r h=>SkP.rU h) h)
end
section
variable [Tok]
structure O (P:Program) (g:FuncId) where
 o:Orc
 ok:jP P g o
abbrev OL (P:Program):=List (Sigma λg=>O P g)
def Eu {P:Program}:OL P->FuncId->Orc
 |[],_=>CV
 |⟨n,x⟩::l,g=>cond (Nat.beq g n) x.o (Eu l g)
theorem nB {P:Program}:∀(l:OL P) (g:FuncId),jP P g (Eu l g)
 |[],g=>Ao P g
 |⟨_,x⟩::l,g=>AP x.ok (nB l g)
def oc {P:Program} (tt:TT) (l:OL P):Env:={P:=P,tt:=tt,orc:=Eu l}
structure zg where
 f:Env->Env
 hP:∀E,(f E).P=E.P:=by exactλ_=>rfl
 hO:∀E,(f E).orc=E.orc:=by exactλ_=>rfl
def zg.id:zg:={f:=λE=>E}
def zg.w (l:List Nat):zg:={f:=λE=>{E with wr:=λg=>mem g l,wt:=true}}
theorem l3 {P:Program} (tt:TT) (l:OL P) (m:zg):gv (m.f (oc tt l)):=by
 intro g;rw[m.hO,m.hP];exact nB l g
def O.inn {P:Program} {g:FuncId} (a:O P g):O P g:=⟨yZ a.o,za a.ok⟩
def Bs (fn:Func) (n:Nat):Bool:=fn.body.isSome&&(!(fn.name== "runtime.NumGoroutine")&&Nat.ble n fn.ntmps)
theorem kZ {fn:Func} {n:Nat} (h:Bs fn n=true):fn.body.isSome=true/\(fn.name== "runtime.NumGoroutine")=false/\Nat.ble n fn.ntmps=true:=by
 simp only[Bs,Fy,GH]at h;exact⟨h.1,h.2.1,h.2.2⟩
theorem zh {A B:Type} {P:Program} {g:FuncId} {pr:List Pr} {i:SkI} {cA:Cd A} {o:SkO} {cB:Cd B}:jP P g (oM pr i cA o cB λ_=>none):=by
 refine kW λρ args bs K out h=>?_;simp only[gM,Ge,An]at h;obtain⟨_,_,h⟩:=h;exact nomatch h
def Ew (ρ:Type):Nat->Ev ρ->Ev ρ:=λ_ _ _ _=>none
def tY {A B:Type} {P:Program} (tt:TT) (l:OL P) (m:zg) {g:FuncId} {fn:Func} (hf:P.funcs[g]? =some fn) (sh:List Sh) (cA:Cd A) (o:SkP) (cB:Cd B) (rt:RT) (F:A->Option B) (fs:List Nat:=[])
    (hk:(Bs fn sh.length&&isNil (bL 0 (fn.body.getD .skip)))=true:=by kernel_rfl)
    (h:∀a,ev (m.f (oc tt l)) (Ew B) 0 (fn.body.getD .skip) (st0 fn (jr sh fs (cA.to a))) (fin P fn rt (o.dec cB))=F a:=by intro a;kernel_rfl):O P g:=
  ⟨oP sh fs cA o cB F,by
    rw[Fy]at hk;obtain⟨h1,h2,h3⟩:=kZ hk.1;have e:(m.f (oc tt l)).P=P:=m.hP _;have:=okP (E:=m.f (oc tt l)) (sh:=sh) (fs:=fs) (cA:=cA) (o:=o) (cB:=cB) (F:=F) (g:=g) (fn:=fn) (l3 tt l m) (by rw[e];exact hf) h1 h2 h3 (bM (cF hk.2)) rt (λa=>by rw[e];exact h a)
    rwa [e]at this⟩
theorem Ey {A B:Type} {P:Program} (tt:TT) (l:OL P) (m:zg) {g:FuncId} {fn:Func} (hf:P.funcs[g]? =some fn) {i:SkI} {cA:Cd A} {o:SkO} {cB:Cd B} (rt:RT) (ks:List KD) {F:A->Option B}
  (hk:(Bs fn i.a.length&&(Nat.beq o.kept.length i.b.length&&isNil (bL 0 (fn.body.getD .skip))))=true:=by kernel_rfl)
  (h:∀a,ev (m.f (oc tt l)) (Ew B) 0 (fn.body.getD .skip) (yW fn (ix (at0 (cA.to a)) i.a) (kn (at0 (cA.to a)) i.b)) (zT P fn rt ks (o.dec cA cB a))=F a:=by intro a;kernel_rfl):yL P g (gM i cA o cB F):=by
 obtain⟨k1,k2⟩:=G2.1 hk;obtain⟨k3,k4⟩:=G2.1 k2;obtain⟨h1,h2,h3⟩:=kZ k1;have e:(m.f (oc tt l)).P=P:=m.hP _;have:=Et (E:=m.f (oc tt l)) (i:=i) (cA:=cA) (o:=o) (cB:=cB) (F:=F) (g:=g) (fn:=fn) (l3 tt l m) (by rw[e];exact hf) h1 h2 h3 k3 (bM (cF k4)) rt ks (λa=>by rw[e];exact h a);rwa [e]at this
def Cu {A B:Type} {P:Program} (tt:TT) (l:OL P) (m:zg) {g:FuncId} {fn:Func} (hf:P.funcs[g]? =some fn) (pr:List Pr) (i:SkI) (cA:Cd A) (o:SkO) (cB:Cd B) (rt:RT) (ks:List KD) (F:A->Option B)
  (hk:(Bs fn i.a.length&&(Nat.beq o.kept.length i.b.length&&isNil (bL 0 (fn.body.getD .skip))))=true:=by kernel_rfl)
  (h:∀a,ev (m.f (oc tt l)) (Ew B) 0 (fn.body.getD .skip) (yW fn (ix (at0 (cA.to a)) i.a) (kn (at0 (cA.to a)) i.b)) (zT P fn rt ks (o.dec cA cB a))=F a:=by intro a;kernel_rfl):O P g:=
 ⟨oM pr i cA o cB F,kW (Ey tt l m hf rt ks hk h)⟩
end
section
variable [Tok]
structure SkS where
 s:List Sk
 b:List SkB:=[]
 gh:List (Option Nat):=[]
def SkS.fill (q:SkS) (f:Nat->R):NF:=(ix f q.s,kn f q.b,q.gh)
def SkS.dec {T:Type} (q:SkS) (c:Cd T) (nf:NF):Option T:=
 (mtL q.s nf.1).bind λp=>(mtB q.b nf.2.1).bind λr=>cond (decide (nf.2.2=q.gh)) (rd c (p++r)) none
theorem SkS.rU {T:Type} {q:SkS} {c:Cd T} {nf:NF} {t:T} (h:q.dec c nf=some t):nf=q.fill (at0 (c.to t)):=by
 simp only[SkS.dec,An]at h;obtain⟨p,hp,r,hr,h⟩:=h;by_cases e:nf.2.2=q.gh
 ·rw[decide_eq_true e]at h;have hf:=qp h;obtain⟨a,b,g⟩:=nf;simp only at hp hr e;simp only[SkS.fill,mi _ hp hf.left,rT _ hr hf.right,e]
 ·rw[decide_eq_false e]at h;exact nomatch h
abbrev XS:=List (Nat× (List Nat× List (bY× Co)))
def exN:Ex->Nat
 |.normal=>0
 |.ret=>1
 |.exit j=>j+2
def exL:XS->Nat->List Nat× List (bY× Co)
 |[],_=>([],[])
 |(j,x)::l,n=>cond (Nat.beq j n) x (exL l n)
structure LX (Y:Type) where
 j:Nat
 bp:List Nat
 co:List (bY× Co)
 c:Cd Y
 s:SkS
def LX.e {Y:Type} (x:LX Y):Ex:=match x.j with
 |0=>.normal
 |1=>.ret
 |j+2=>.exit j
def LX.x {Y:Type} (x:LX Y):Nat× (List Nat× List (bY× Co)):=(x.j,x.bp,x.co)
def LX.k {Y P B:Type} (x:LX Y) (n:Nat) (c:Cd P) (K:Ex->St->Option B) (p:P):Y->Option B:=λy=>K x.e (aY x.bp n (x.s.fill (at0 (c.to p++x.c.to y))))
structure Lp (B:Type) where
 i:Nat
 pl:Bool
 bp:List Nat
 co:List (bY× Co)
 P:Type
 V:Type
 cP:Cd P
 cV:Cd V
 s:SkS
 xs:XS
 G:Nat->P->V->(V->Option B)->(Ex->St->Option B)->Option B
def L1 {B P V X:Type} (i:Nat) (pl:Bool) (bp:List Nat) (co:List (bY× Co)) (cP:Cd P) (cV:Cd V) (s:SkS) (x:LX X) (F:P->V->(V->Option B)->(X->Option B)->Option B):Lp B:=
 ⟨i,pl,bp,co,P,V,cP,cV,s,[x.x],λn p v m K=>F p v m (x.k n cP K p)⟩
def L2 {B P V X Y:Type} (i:Nat) (pl:Bool) (bp:List Nat) (co:List (bY× Co)) (cP:Cd P) (cV:Cd V) (s:SkS) (x:LX X) (y:LX Y) (F:P->V->(V->Option B)->(X->Option B)->(Y->Option B)->Option B):Lp B:=
 ⟨i,pl,bp,co,P,V,cP,cV,s,[x.x,y.x],λn p v m K=>F p v m (x.k n cP K p) (y.k n cP K p)⟩
section
variable {B:Type}
def Lp.tm (l:Lp B) (n:Nat) (q:l.P× l.V):St:=aY l.bp n (l.s.fill (at0 (l.cP.to q.1++l.cV.to q.2)))
def Lp.orc (l:Lp B) (k n:Nat) (f:Ev B):Ev B:=
 let o:Ev B:=dc l.bp l.co (λm nf=>cond (Nat.beq m n) (l.s.dec (l.cP.p l.cV) nf) none) λpv K=>iter (λv next=>l.G n pv.1 v next K) k pv.2
 cond l.pl (EX f o) o
def lpF (i:Nat):List (Lp B)->Option (Lp B)
 |[]=>none
 |l::ls=>cond (Nat.beq l.i i) (some l) (lpF i ls)
def wy (k n:Nat) (ls:List (Lp B)) (i:Nat) (f:Ev B):Ev B:=match lpF i ls with
 |some l=>l.orc k n f
 |none=>λ_ _=>none
def Lp.Step (E:Env) (LP:Nat->Ev B->Ev B) (n:Nat) (c:Code) (l:Lp B):Prop:=
 ∀(p:l.P) (v:l.V) (K K1:Ex->St->Option B),ev E LP l.i c (l.tm n (p,v)) (λe st'=>match e with
  |.normal=>(db l.bp l.co st').bind λnf=>K1 .normal (aY l.bp st'.n nf)
  |e=>(db (exL l.xs (exN e)).1 (exL l.xs (exN e)).2 st').bind λnf=>K e (aY (exL l.xs (exN e)).1 st'.n nf))=l.G n p v (λv'=>K1 .normal (l.tm n (p,v'))) K
def dp:Nat->Code->List (Nat× Code)
 |cb,.seq a b=>dp cb a++dp cb b
 |cb,.cond _ a b=>dp cb a++dp cb b
 |_,.block id c=>dp id c
 |cb,.scope c=>dp cb c
 |cb,.loop c=>dp cb c++[(cb,c)]
 |_,_=>[]
def Steps (E:Env) (LP:Nat->Ev B->Ev B) (n:Nat) (cs:List (Nat× Code)):Nat->List (Lp B)->Prop
 |_,[]=>True
 |j,l::ls=>l.Step E LP n (cs.getD j (0,.skip)).2/\Steps E LP n cs (j+1) ls
theorem vl {E:Env} {LP:Nat->Ev B->Ev B} {n:Nat} {cs:List (Nat× Code)}:∀(ls:List (Lp B)) (j:Nat),Steps E LP n cs j ls->∀(i:Nat) (l:Lp B),ls[i]? =some l->l.Step E LP n (cs.getD (j+i) (0,.skip)).2
 |[],_,_,i,l,h=>by simp at h
 |l::ls,j,hs,i,l',h=>by
  cases i with
  |zero=>simp at h;subst h;exact hs.1
  |succ i=>have:=vl ls (j+1) hs.2 i l' (by simpa using h);rwa [show j+1+i=j+(i+1)from by omega]at this
theorem Bt:∀{ls:List (Lp B)} {i:Nat} {l:Lp B},(ls.map (·.i)).Nodup->ls[i]? =some l->lpF l.i ls=some l
 |[],i,_,_,h=>by simp at h
 |m::ls,i,l,hn,h=>by
  rw[F9,GJ]at hn
  cases i with
  |zero=>simp at h;subst h;simp[lpF]
  |succ i=>
   have h:ls[i]? =some l:=by simpa using h
   have hne:¬m.i=l.i:=λe=>hn.1 (e▸Hd.2 ⟨l,FG h,rfl⟩);rw[lpF];cases hb:Nat.beq m.i l.i
   ·exact Bt hn.2 h
   ·exact(hne (Fx hb)).elim
theorem jt {E:Env} (hE:gv E) {k n:Nat} {ls:List (Lp B)}:∀(c:Code) (cb:Nat),(∀x∈dp cb c,∃l,lpF x.1 ls=some l/\l.i=x.1/\l.Step E (wy k n ls) n x.2)->ew E (wy k n ls) cb c
 |.seq a b,cb,h=>⟨jt hE a cb λx hx=>h x (by simp[dp,hx]),jt hE b cb λx hx=>h x (by simp[dp,hx])⟩
 |.cond _ a b,cb,h=>⟨jt hE a cb λx hx=>h x (by simp[dp,hx]),jt hE b cb λx hx=>h x (by simp[dp,hx])⟩
 |.block id c,_,h=>jt hE c id h
 |.scope c,cb,h=>jt hE c cb h
 |.loop c,cb,h=>by
  obtain⟨l,h1,h2,h3⟩:=h (cb,c) (by simp[dp]);simp only at h1 h2 h3;subst h2;have hs:=b8 hE c l.i (jt hE c l.i λx hx=>h x (by simp[dp,hx]))
  have hd:∀m nf v,cond (Nat.beq m n) (l.s.dec (l.cP.p l.cV) nf) none=some v->aY l.bp m nf=l.tm n v:=
   gQ λnf v e=>by rw[SkS.rU e];rfl
  show Sound E.P (.loop c) (wy k n ls l.i λst K=>ev E (wy k n ls) l.i c st K);unfold wy;rw[h1];simp only[Lp.orc];cases l.pl
  ·exact eM hs (λe=>(exL l.xs (exN e)).1) (λe=>(exL l.xs (exN e)).2) k hd h3
  ·exact Cq hs (λe=>(exL l.xs (exN e)).1) (λe=>(exL l.xs (exN e)).2) k hd h3
 |.skip,_,_=>trivial
 |.label _,_,_=>trivial
 |.region _ _ _,_,_=>trivial
 |.exit _,_,_=>trivial
 |.ret,_,_=>trivial
 |.rangeFunc _ _ _ _,_,_=>trivial
 |.goto _,_,_=>trivial
 |.refuse _,_,_=>trivial
def lpB (cs:List (Nat× Code)) (ls:List (Lp B)):Bool:=eqL (cs.map (·.1)) (ls.map (·.i))&&nodup (ls.map (·.i))
theorem pf {E:Env} (hE:gv E) {k n:Nat} {ls:List (Lp B)} {c:Code} (hb:lpB (dp 0 c) ls=true) (hs:Steps E (wy k n ls) n (dp 0 c) 0 ls):ew E (wy k n ls) 0 c:=by
 unfold lpB at hb;rw[Fy]at hb;have hm:=rS hb.1;refine jt hE c 0 λx hx=>?_;obtain⟨i,hi⟩:=List.mem_iff_getElem?.1 hx
 have e:((dp 0 c).map (·.1))[i]? =some x.1:=by rw[F3,hi];rfl
 rw[hm,F3]at e
 cases hl:ls[i]? with
 |none=>rw[hl]at e;exact nomatch e
 |some l=>
  rw[hl]at e;have hi':l.i=x.1:=Gn e;refine⟨l,hi'▸Bt (cR hb.2) hl,hi',?_⟩;have:=vl ls 0 hs i l hl;rwa [FC,List.getD,hi]at this
end
def wz {A B:Type} {P:Program} (tt:TT) (l:OL P) (m:zg) {g:FuncId} {fn:Func} (hf:P.funcs[g]? =some fn) (k:Nat) (ls:List (Lp B)) (sh:List Sh) (cA:Cd A) (o:SkP) (cB:Cd B) (rt:RT) (F:A->Option B) (fs:List Nat:=[])
    (hk:(Bs fn sh.length&&lpB (dp 0 (fn.body.getD .skip)) ls)=true:=by kernel_rfl) (hs:Steps (m.f (oc tt l)) (wy k fn.ntmps ls) fn.ntmps (dp 0 (fn.body.getD .skip)) 0 ls:=by(repeat refine⟨λp v K K1=>by kernel_rfl,?_⟩);exact trivial)
    (h:∀a,ev (m.f (oc tt l)) (wy k fn.ntmps ls) 0 (fn.body.getD .skip) (st0 fn (jr sh fs (cA.to a))) (fin P fn rt (o.dec cB))=F a:=by intro a;kernel_rfl):O P g:=
  ⟨oP sh fs cA o cB F,by
    rw[Fy]at hk;obtain⟨h1,h2,h3⟩:=kZ hk.1;have e:(m.f (oc tt l)).P=P:=m.hP _;have:=okP (E:=m.f (oc tt l)) (sh:=sh) (fs:=fs) (cA:=cA) (o:=o) (cB:=cB) (F:=F) (g:=g) (fn:=fn) (l3 tt l m) (by rw[e];exact hf) h1 h2 h3 (pf (l3 tt l m) hk.2 hs) rt (λa=>by rw[e];exact h a)
    rwa [e]at this⟩
theorem Ez {A B:Type} {P:Program} (tt:TT) (l:OL P) (m:zg) {g:FuncId} {fn:Func} (hf:P.funcs[g]? =some fn) (k:Nat) (ls:List (Lp B)) {i:SkI} {cA:Cd A} {o:SkO} {cB:Cd B} (rt:RT) (ks:List KD) {F:A->Option B}
  (hk:(Bs fn i.a.length&&(Nat.beq o.kept.length i.b.length&&lpB (dp 0 (fn.body.getD .skip)) ls))=true:=by kernel_rfl) (hs:Steps (m.f (oc tt l)) (wy k fn.ntmps ls) fn.ntmps (dp 0 (fn.body.getD .skip)) 0 ls:=by(repeat refine⟨λp v K K1=>by kernel_rfl,?_⟩);exact trivial)
  (h:∀a,ev (m.f (oc tt l)) (wy k fn.ntmps ls) 0 (fn.body.getD .skip) (yW fn (ix (at0 (cA.to a)) i.a) (kn (at0 (cA.to a)) i.b)) (zT P fn rt ks (o.dec cA cB a))=F a:=by intro a;kernel_rfl):yL P g (gM i cA o cB F):=by
 obtain⟨k1,k2⟩:=G2.1 hk;obtain⟨k3,k4⟩:=G2.1 k2;obtain⟨h1,h2,h3⟩:=kZ k1;have e:(m.f (oc tt l)).P=P:=m.hP _;have:=Et (E:=m.f (oc tt l)) (i:=i) (cA:=cA) (o:=o) (cB:=cB) (F:=F) (g:=g) (fn:=fn) (l3 tt l m) (by rw[e];exact hf) h1 h2 h3 k3 (pf (l3 tt l m) k4 hs) rt ks (λa=>by rw[e];exact h a);rwa [e]at this
def zV {A B:Type} {P:Program} (tt:TT) (l:OL P) (m:zg) {g:FuncId} {fn:Func} (hf:P.funcs[g]? =some fn) (k:Nat) (ls:List (Lp B)) (pr:List Pr) (i:SkI) (cA:Cd A) (o:SkO) (cB:Cd B) (rt:RT) (ks:List KD) (F:A->Option B)
  (hk:(Bs fn i.a.length&&(Nat.beq o.kept.length i.b.length&&lpB (dp 0 (fn.body.getD .skip)) ls))=true:=by kernel_rfl) (hs:Steps (m.f (oc tt l)) (wy k fn.ntmps ls) fn.ntmps (dp 0 (fn.body.getD .skip)) 0 ls:=by(repeat refine⟨λp v K K1=>by kernel_rfl,?_⟩);exact trivial)
  (h:∀a,ev (m.f (oc tt l)) (wy k fn.ntmps ls) 0 (fn.body.getD .skip) (yW fn (ix (at0 (cA.to a)) i.a) (kn (at0 (cA.to a)) i.b)) (zT P fn rt ks (o.dec cA cB a))=F a:=by intro a;kernel_rfl):O P g:=
 ⟨oM pr i cA o cB F,kW (Ez tt l m hf k ls rt ks hk hs h)⟩
end
section
open Go.RowKit (Below)
variable [Tok]
def okH {A B:Type} {P:Program} {g:FuncId} (sh:List Sh) (fs:List Nat) (cA:Cd A) (o:SkP) (cB:Cd B) (F:A->Option B)
    (h:∀a b,F a=some b->fN P g (jr sh fs (cA.to a)) (o.enc cB b)):O P g:=
  ⟨oP sh fs cA o cB F,o4 (λρ l K out hG=>by
    rw[An]at hG;obtain⟨a,h1,hG⟩:=hG;rw[An]at hG h1;obtain⟨b,h2,hG⟩:=hG;obtain⟨rs,h3,h4⟩:=h1;refine⟨_,hG,?_⟩
    have e:l=jr sh fs (cA.to a):=by rw[cA.h _ _ h4,rV h3]
    rw[e]
    exact h a b h2)⟩
theorem Below.at_ {w w':World} (h:Below w.heap.size w w') {p:Cell} {x:Value} (hx:w.at? p=some x):w'.at? p=some x/\w'.cC p=w.cC p:=by
 have hlt:p.1<w.heap.size:=by
  unfold World.at? World.cell? at hx
  cases hb:w.heap[p.1]? with
  |none=>simp[hb]at hx
  |some o=>exact(FJ.1 hb).1
 have hb:=h.block p.1 hlt;exact⟨by unfold World.at? World.cell? at*;rw[hb];exact hx,by unfold World.cC;rw[hb]⟩
theorem Below.Dy {w w':World} (h:Below w.heap.size w w'):cn w w':=by
 refine⟨h.os,h.output,λi hi=>?_⟩;rw[h.block i hi];split
 ·rename_i e1 e2;rw[e1]at e2;cases e2;exact⟨rfl,.inl rfl,rfl⟩
 ·rfl
theorem pure_below {P:Program} {g:FuncId} (he:re P g) {args:List Arg} {b:Bool}
    (h:∀(w:World) (us:Array Value) (ok:Cell->Prop),args.length=us.size->(∀(j:Nat) (x:Arg) (u:Value),args[j]? =some x->us[j]? =some u->jX w ok x u)->
      Calls P g us w λe w'=>e=.returned (.bool b)/\Below w.heap.size w w'):fN P g args (.r [] (.bool b),[]):=by
  refine⟨he,λw us ok hl hr=>(h w us ok hl hr).mono ?_⟩
  rintro e w' ⟨rfl,hB⟩
  refine⟨_,⟨λ_=>undef,λ_ _=>False,λp=>ok p\/w.at? p=none⟩,rfl,⟨λi B hB=>(nomatch hB),λi j B B' p h1=>(nomatch h1),λi B p h1=>(nomatch h1),λp hp=>.inr ?_⟩,fg,rfl,λp x hx=>Below.at_ hB hx,λi B p h1=>(nomatch h1),Below.Dy hB⟩
  cases hx:w.at? p with
  |none=>rfl
  |some x=>rw[(Below.at_ hB hx).1]at hp;exact nomatch hp
end
section
open Go Go.Maps
theorem plainElem_bool_inv {H:Type} {P:Program} {e:TypeId} (he:P.underlying e=some .bool) {v:Value} {z:DataW H× List MemPlace} (h:plainElem P e v=some z):∃x:Bool,v=.bool x/\z=(.lit (.bool x),[]):=by
 unfold plainElem at h;rw[he]at h;split at h
 ·rename_i x _;exact⟨_,rfl,(Gn h).symm⟩
 ·rename_i hq;exact absurd hq (by simp)
 ·rename_i hq;exact absurd hq (by simp)
 ·exact nomatch h
end
section
variable [Tok]
def R.ty:R->Ty
 |.int k _=>.int k
 |.bool _=>.bool
 |.str _=>.str
 |.sl t _=>.sl t
 |.tok _=>.tok
 |.gV=>.st .shape
inductive R.Wf:R->Prop
 |int (k:IntKind) (n:Int) (h:(Lit.int k n).wf=true):R.Wf (.int k n)
 |bool (b:Bool):R.Wf (.bool b)
 |str (l:List UInt8) (h:l.length<=maxLen):R.Wf (.str l)
 |sl (t:Ty) (xs:List t.El) (h:∀i j r,au t xs i j r->R.Wf r) (hl:xs.length<=maxLen):R.Wf (.sl t xs)
theorem fa (t:Ty) (r:R) (h:r.ty=t) (hs:∀s,t≠.st s):∃x,t.l7 r=some x:=by
 subst h
 cases r with
 |int k n=>exact⟨n,by simp[Ty.l7,R.ty]⟩
 |bool b=>exact⟨b,by simp[Ty.l7,R.ty]⟩
 |str l=>exact⟨l,by simp[Ty.l7,R.ty]⟩
 |sl t xs=>exact⟨xs,by simp[Ty.l7,R.ty]⟩
 |tok n=>exact⟨n,by simp[Ty.l7,R.ty]⟩
 |gV=>exact(hs .shape rfl).elim
theorem Cv {r:R} (h:r.ty=.tok):∃n,r=.tok n:=by cases r<;>simp_all [R.ty]
theorem bq {r:R} {k:IntKind} (h:r.ty=.int k):∃n,r=.int k n:=by cases r<;>simp_all [R.ty]
theorem EA {r:R} (h:r.ty=.bool):∃n,r=.bool n:=by cases r<;>simp_all [R.ty]
theorem k5 {r:R} {t:Ty} (h:r.ty=.sl t):∃xs,r=.sl t xs:=by
 cases r with
 |sl t' xs=>cases h;exact⟨xs,rfl⟩
 |_=>cases h
theorem tZ:(rs:List R)->rs.map R.ty=S.tys .shape->∃x,qD rs=some x
 |[x0,x1,x2],h=>by
  simp only[S.tys,F9,GL,Gp,and_true]at h;obtain⟨h0,h1,h2⟩:=h;obtain⟨_,rfl⟩:=bq h0;obtain⟨_,rfl⟩:=bq h1;obtain⟨_,rfl⟩:=bq h2
  simp[qD,R.asI,R.asB,R.asL]
 |[],h=>by have:=congrArg List.length h;simp[S.tys]at this
 |[_],h=>by have:=congrArg List.length h;simp[S.tys]at this
 |[_,_],h=>by have:=congrArg List.length h;simp[S.tys]at this
 |_::_::_::_::_,h=>by have:=congrArg List.length h;simp[S.tys]at this
theorem rW:(rs:List R)->rs.map R.ty=S.tys .iN->∃x,mJ rs=some x
 |[x0,x1,x2,x3],h=>by
  simp only[S.tys,F9,GL,Gp,and_true]at h;obtain⟨h0,h1,h2,h3⟩:=h;obtain⟨_,rfl⟩:=bq h0;obtain⟨_,rfl⟩:=bq h1;obtain⟨_,rfl⟩:=bq h2;obtain⟨_,rfl⟩:=k5 h3
  simp[mJ,R.asI,R.asB,R.asL]
 |[],h=>by have:=congrArg List.length h;simp[S.tys]at this
 |[_],h=>by have:=congrArg List.length h;simp[S.tys]at this
 |[_,_],h=>by have:=congrArg List.length h;simp[S.tys]at this
 |[_,_,_],h=>by have:=congrArg List.length h;simp[S.tys]at this
 |_::_::_::_::_::_,h=>by have:=congrArg List.length h;simp[S.tys]at this
theorem ua:(rs:List R)->rs.map R.ty=S.tys .iO->∃x,qF rs=some x
 |[x0,x1,x2,x3,x4,x5,x6,x7,x8],h=>by
  simp only[S.tys,F9,GL,Gp,and_true]at h;obtain⟨h0,h1,h2,h3,h4,h5,h6,h7,h8⟩:=h;obtain⟨_,rfl⟩:=bq h0;obtain⟨_,rfl⟩:=bq h1;obtain⟨_,rfl⟩:=bq h2;obtain⟨_,rfl⟩:=bq h3;obtain⟨_,rfl⟩:=bq h4;obtain⟨_,rfl⟩:=bq h5;obtain⟨_,rfl⟩:=bq h6;obtain⟨_,rfl⟩:=k5 h7;obtain⟨_,rfl⟩:=k5 h8
  simp[qF,R.asI,R.asB,R.asL]
 |[],h=>by have:=congrArg List.length h;simp[S.tys]at this
 |[_],h=>by have:=congrArg List.length h;simp[S.tys]at this
 |[_,_],h=>by have:=congrArg List.length h;simp[S.tys]at this
 |[_,_,_],h=>by have:=congrArg List.length h;simp[S.tys]at this
 |[_,_,_,_],h=>by have:=congrArg List.length h;simp[S.tys]at this
 |[_,_,_,_,_],h=>by have:=congrArg List.length h;simp[S.tys]at this
 |[_,_,_,_,_,_],h=>by have:=congrArg List.length h;simp[S.tys]at this
 |[_,_,_,_,_,_,_],h=>by have:=congrArg List.length h;simp[S.tys]at this
 |[_,_,_,_,_,_,_,_],h=>by have:=congrArg List.length h;simp[S.tys]at this
 |_::_::_::_::_::_::_::_::_::_::_,h=>by have:=congrArg List.length h;simp[S.tys]at this
theorem ub:(rs:List R)->rs.map R.ty=S.tys .model->∃x,qG rs=some x
 |[x0,x1,x2,x3],h=>by
  simp only[S.tys,F9,GL,Gp,and_true]at h;obtain⟨h0,h1,h2,h3⟩:=h;obtain⟨_,rfl⟩:=bq h0;obtain⟨_,rfl⟩:=bq h1;obtain⟨_,rfl⟩:=bq h2;obtain⟨_,rfl⟩:=k5 h3
  simp[qG,R.asI,R.asB,R.asL]
 |[],h=>by have:=congrArg List.length h;simp[S.tys]at this
 |[_],h=>by have:=congrArg List.length h;simp[S.tys]at this
 |[_,_],h=>by have:=congrArg List.length h;simp[S.tys]at this
 |[_,_,_],h=>by have:=congrArg List.length h;simp[S.tys]at this
 |_::_::_::_::_::_,h=>by have:=congrArg List.length h;simp[S.tys]at this
theorem wA:(rs:List R)->rs.map R.ty=S.tys .task->∃x,wX rs=some x
 |[x0,x1,x2,x3,x4],h=>by
  simp only[S.tys,F9,GL,Gp,and_true]at h;obtain⟨h0,h1,h2,h3,h4⟩:=h;obtain⟨_,rfl⟩:=bq h0;obtain⟨_,rfl⟩:=k5 h1;obtain⟨_,rfl⟩:=bq h2;obtain⟨_,rfl⟩:=bq h3;obtain⟨_,rfl⟩:=bq h4
  simp[wX,R.asI,R.asB,R.asL]
 |[],h=>by have:=congrArg List.length h;simp[S.tys]at this
 |[_],h=>by have:=congrArg List.length h;simp[S.tys]at this
 |[_,_],h=>by have:=congrArg List.length h;simp[S.tys]at this
 |[_,_,_],h=>by have:=congrArg List.length h;simp[S.tys]at this
 |[_,_,_,_],h=>by have:=congrArg List.length h;simp[S.tys]at this
 |_::_::_::_::_::_::_,h=>by have:=congrArg List.length h;simp[S.tys]at this
theorem qq:(rs:List R)->rs.map R.ty=S.tys .request->∃x,kv rs=some x
 |[x0,x1,x2,x3,x4,x5,x6,x7,x8,x9,x10,x11,x12],h=>by
  simp only[S.tys,F9,GL,Gp,and_true]at h;obtain⟨h0,h1,h2,h3,h4,h5,h6,h7,h8,h9,h10,h11,h12⟩:=h;obtain⟨_,rfl⟩:=bq h0;obtain⟨_,rfl⟩:=bq h1;obtain⟨_,rfl⟩:=bq h2;obtain⟨_,rfl⟩:=bq h3;obtain⟨_,rfl⟩:=bq h4;obtain⟨_,rfl⟩:=k5 h5;obtain⟨_,rfl⟩:=bq h6;obtain⟨_,rfl⟩:=bq h7;obtain⟨_,rfl⟩:=bq h8;obtain⟨_,rfl⟩:=bq h9;obtain⟨_,rfl⟩:=k5 h10;obtain⟨_,rfl⟩:=bq h11;obtain⟨_,rfl⟩:=bq h12
  simp[kv,R.asI,R.asB,R.asL]
 |[],h=>by have:=congrArg List.length h;simp[S.tys]at this
 |[_],h=>by have:=congrArg List.length h;simp[S.tys]at this
 |[_,_],h=>by have:=congrArg List.length h;simp[S.tys]at this
 |[_,_,_],h=>by have:=congrArg List.length h;simp[S.tys]at this
 |[_,_,_,_],h=>by have:=congrArg List.length h;simp[S.tys]at this
 |[_,_,_,_,_],h=>by have:=congrArg List.length h;simp[S.tys]at this
 |[_,_,_,_,_,_],h=>by have:=congrArg List.length h;simp[S.tys]at this
 |[_,_,_,_,_,_,_],h=>by have:=congrArg List.length h;simp[S.tys]at this
 |[_,_,_,_,_,_,_,_],h=>by have:=congrArg List.length h;simp[S.tys]at this
 |[_,_,_,_,_,_,_,_,_],h=>by have:=congrArg List.length h;simp[S.tys]at this
 |[_,_,_,_,_,_,_,_,_,_],h=>by have:=congrArg List.length h;simp[S.tys]at this
 |[_,_,_,_,_,_,_,_,_,_,_],h=>by have:=congrArg List.length h;simp[S.tys]at this
 |[_,_,_,_,_,_,_,_,_,_,_,_],h=>by have:=congrArg List.length h;simp[S.tys]at this
 |_::_::_::_::_::_::_::_::_::_::_::_::_::_::_,h=>by have:=congrArg List.length h;simp[S.tys]at this
theorem wB:(rs:List R)->rs.map R.ty=S.tys .step->∃x,wY rs=some x
 |[x0,x1,x2,x3,x4,x5,x6,x7],h=>by
  simp only[S.tys,F9,GL,Gp,and_true]at h;obtain⟨h0,h1,h2,h3,h4,h5,h6,h7⟩:=h;obtain⟨_,rfl⟩:=bq h0;obtain⟨_,rfl⟩:=bq h1;obtain⟨_,rfl⟩:=bq h2;obtain⟨_,rfl⟩:=k5 h3;obtain⟨_,rfl⟩:=bq h4;obtain⟨_,rfl⟩:=bq h5;obtain⟨_,rfl⟩:=bq h6;obtain⟨_,rfl⟩:=k5 h7
  simp[wY,R.asI,R.asB,R.asL]
 |[],h=>by have:=congrArg List.length h;simp[S.tys]at this
 |[_],h=>by have:=congrArg List.length h;simp[S.tys]at this
 |[_,_],h=>by have:=congrArg List.length h;simp[S.tys]at this
 |[_,_,_],h=>by have:=congrArg List.length h;simp[S.tys]at this
 |[_,_,_,_],h=>by have:=congrArg List.length h;simp[S.tys]at this
 |[_,_,_,_,_],h=>by have:=congrArg List.length h;simp[S.tys]at this
 |[_,_,_,_,_,_],h=>by have:=congrArg List.length h;simp[S.tys]at this
 |[_,_,_,_,_,_,_],h=>by have:=congrArg List.length h;simp[S.tys]at this
 |_::_::_::_::_::_::_::_::_::_,h=>by have:=congrArg List.length h;simp[S.tys]at this
theorem uc:(rs:List R)->rs.map R.ty=S.tys .event->∃x,qH rs=some x
 |[x0,x1,x2,x3,x4,x5,x6],h=>by
  simp only[S.tys,F9,GL,Gp,and_true]at h;obtain⟨h0,h1,h2,h3,h4,h5,h6⟩:=h;obtain⟨_,rfl⟩:=bq h0;obtain⟨_,rfl⟩:=bq h1;obtain⟨_,rfl⟩:=bq h2;obtain⟨_,rfl⟩:=bq h3;obtain⟨_,rfl⟩:=bq h4;obtain⟨_,rfl⟩:=bq h5;obtain⟨_,rfl⟩:=k5 h6
  simp[qH,R.asI,R.asB,R.asL]
 |[],h=>by have:=congrArg List.length h;simp[S.tys]at this
 |[_],h=>by have:=congrArg List.length h;simp[S.tys]at this
 |[_,_],h=>by have:=congrArg List.length h;simp[S.tys]at this
 |[_,_,_],h=>by have:=congrArg List.length h;simp[S.tys]at this
 |[_,_,_,_],h=>by have:=congrArg List.length h;simp[S.tys]at this
 |[_,_,_,_,_],h=>by have:=congrArg List.length h;simp[S.tys]at this
 |[_,_,_,_,_,_],h=>by have:=congrArg List.length h;simp[S.tys]at this
 |_::_::_::_::_::_::_::_::_,h=>by have:=congrArg List.length h;simp[S.tys]at this
theorem ud:(rs:List R)->rs.map R.ty=S.tys .entry->∃x,qI rs=some x
 |[x0,x1,x2,x3,x4,x5,x6,x7,x8,x9,x10,x11,x12],h=>by
  simp only[S.tys,F9,GL,Gp,and_true]at h;obtain⟨h0,h1,h2,h3,h4,h5,h6,h7,h8,h9,h10,h11,h12⟩:=h;obtain⟨_,rfl⟩:=bq h0;obtain⟨_,rfl⟩:=bq h1;obtain⟨_,rfl⟩:=bq h2;obtain⟨_,rfl⟩:=bq h3;obtain⟨_,rfl⟩:=k5 h4;obtain⟨_,rfl⟩:=bq h5;obtain⟨_,rfl⟩:=bq h6;obtain⟨_,rfl⟩:=bq h7;obtain⟨_,rfl⟩:=k5 h8;obtain⟨_,rfl⟩:=bq h9;obtain⟨_,rfl⟩:=bq h10;obtain⟨_,rfl⟩:=bq h11;obtain⟨_,rfl⟩:=EA h12
  simp[qI,R.asI,R.asB,R.asL]
 |[],h=>by have:=congrArg List.length h;simp[S.tys]at this
 |[_],h=>by have:=congrArg List.length h;simp[S.tys]at this
 |[_,_],h=>by have:=congrArg List.length h;simp[S.tys]at this
 |[_,_,_],h=>by have:=congrArg List.length h;simp[S.tys]at this
 |[_,_,_,_],h=>by have:=congrArg List.length h;simp[S.tys]at this
 |[_,_,_,_,_],h=>by have:=congrArg List.length h;simp[S.tys]at this
 |[_,_,_,_,_,_],h=>by have:=congrArg List.length h;simp[S.tys]at this
 |[_,_,_,_,_,_,_],h=>by have:=congrArg List.length h;simp[S.tys]at this
 |[_,_,_,_,_,_,_,_],h=>by have:=congrArg List.length h;simp[S.tys]at this
 |[_,_,_,_,_,_,_,_,_],h=>by have:=congrArg List.length h;simp[S.tys]at this
 |[_,_,_,_,_,_,_,_,_,_],h=>by have:=congrArg List.length h;simp[S.tys]at this
 |[_,_,_,_,_,_,_,_,_,_,_],h=>by have:=congrArg List.length h;simp[S.tys]at this
 |[_,_,_,_,_,_,_,_,_,_,_,_],h=>by have:=congrArg List.length h;simp[S.tys]at this
 |_::_::_::_::_::_::_::_::_::_::_::_::_::_::_,h=>by have:=congrArg List.length h;simp[S.tys]at this
theorem wC:(rs:List R)->rs.map R.ty=S.tys .wish->∃x,wZ rs=some x
 |[x0,x1,x2],h=>by
  simp only[S.tys,F9,GL,Gp,and_true]at h;obtain⟨h0,h1,h2⟩:=h;obtain⟨_,rfl⟩:=bq h0;obtain⟨_,rfl⟩:=bq h1;obtain⟨_,rfl⟩:=bq h2
  simp[wZ,R.asI,R.asB,R.asL]
 |[],h=>by have:=congrArg List.length h;simp[S.tys]at this
 |[_],h=>by have:=congrArg List.length h;simp[S.tys]at this
 |[_,_],h=>by have:=congrArg List.length h;simp[S.tys]at this
 |_::_::_::_::_,h=>by have:=congrArg List.length h;simp[S.tys]at this
theorem aZ {α β:Type} {f:α->β} {rs:List α} {t:β} {ts:List β} (h:rs.map f=t::ts):∃r rs',rs=r::rs'/\f r=t/\rs'.map f=ts:=by
 cases rs with
 |nil=>cases h
 |cons r rs=>grind
theorem ue (rs:List R) (h:rs.map R.ty=S.tys .mH):∃x,uu rs=some x:=by
 obtain⟨a0,rs,rfl,g0,h⟩:=aZ h;obtain⟨a1,rs,rfl,g1,h⟩:=aZ h;obtain⟨a2,rs,rfl,g2,h⟩:=aZ h;obtain⟨a3,rs,rfl,g3,h⟩:=aZ h;obtain⟨a4,rs,rfl,g4,h⟩:=aZ h;rw[List.map_eq_nil_iff]at h;subst h;obtain⟨x0,rfl⟩:=bq g0;obtain⟨x1,rfl⟩:=Cv g1;obtain⟨x2,rfl⟩:=bq g2;obtain⟨x3,rfl⟩:=bq g3;obtain⟨x4,rfl⟩:=bq g4;exact⟨_,rfl⟩
theorem od (rs:List R) (h:rs.map R.ty=S.tys .ea):∃x,ky rs=some x:=by
 obtain⟨a0,rs,rfl,g0,h⟩:=aZ h;obtain⟨a1,rs,rfl,g1,h⟩:=aZ h;obtain⟨a2,rs,rfl,g2,h⟩:=aZ h;obtain⟨a3,rs,rfl,g3,h⟩:=aZ h;obtain⟨a4,rs,rfl,g4,h⟩:=aZ h;obtain⟨a5,rs,rfl,g5,h⟩:=aZ h;obtain⟨a6,rs,rfl,g6,h⟩:=aZ h;obtain⟨a7,rs,rfl,g7,h⟩:=aZ h;obtain⟨a8,rs,rfl,g8,h⟩:=aZ h;obtain⟨a9,rs,rfl,g9,h⟩:=aZ h;obtain⟨a10,rs,rfl,g10,h⟩:=aZ h;obtain⟨a11,rs,rfl,g11,h⟩:=aZ h;obtain⟨a12,rs,rfl,g12,h⟩:=aZ h;rw[List.map_eq_nil_iff]at h;subst h;obtain⟨x0,rfl⟩:=bq g0;obtain⟨x1,rfl⟩:=bq g1;obtain⟨x2,rfl⟩:=bq g2;obtain⟨x3,rfl⟩:=bq g3;obtain⟨x4,rfl⟩:=bq g4;obtain⟨x5,rfl⟩:=Cv g5;obtain⟨x6,rfl⟩:=bq g6;obtain⟨x7,rfl⟩:=bq g7;obtain⟨x8,rfl⟩:=bq g8;obtain⟨x9,rfl⟩:=bq g9;obtain⟨x10,rfl⟩:=Cv g10;obtain⟨x11,rfl⟩:=bq g11;obtain⟨x12,rfl⟩:=bq g12;exact⟨_,rfl⟩
theorem qt (t:Ty) (rs:List R) (h:rs.map R.ty=t.tys):∃x,t.dj rs=some x:=by
 have single:∀{t:Ty},(∀s,t≠.st s)->t.tys=[t]->rs.map R.ty=t.tys->∃r,rs=[r]/\r.ty=t:=λ{t} _ e h=>by
  rw[e]at h
  match rs,h with
  |[r],h=>grind
 have key:∀s:S,rs.map R.ty=s.tys->∃x,s.dj rs=some x:=λs h=>by
  cases s with
  |shape=>exact tZ rs h
  |iN=>exact rW rs h
  |iO=>exact ua rs h
  |model=>exact ub rs h
  |task=>exact wA rs h
  |request=>exact qq rs h
  |step=>exact wB rs h
  |event=>exact uc rs h
  |entry=>exact ud rs h
  |wish=>exact wC rs h
  |mH=>exact ue rs h
  |ea=>exact od rs h
 cases t with
 |st s=>exact key s h
 |ho s=>
  obtain⟨x,hx⟩:=key s h
  exact⟨some x,by show(s.dj rs).bind _=_;rw[hx];rfl⟩
 |hl t=>
  have h:rs.map R.ty=[.sl t]:=h;obtain⟨r,rs',rfl,hr,h⟩:=List.map_eq_cons_iff.1 h;rw[List.map_eq_nil_iff]at h;subst h;obtain⟨xs,rfl⟩:=k5 hr
  exact⟨some xs,by show(if h:t=t then some (some (h▸xs))else none)=_;rw[dif_pos rfl];rfl⟩
 |tok=>obtain⟨r,rfl,e⟩:=single (t:=.tok) (λs h=>nomatch h) rfl h;exact fa _ r e (λs h=>nomatch h)
 |int k=>obtain⟨r,rfl,e⟩:=single (t:=.int k) (λs h=>nomatch h) rfl h;exact fa _ r e (λs h=>nomatch h)
 |bool=>obtain⟨r,rfl,e⟩:=single (t:=.bool) (λs h=>nomatch h) rfl h;exact fa _ r e (λs h=>nomatch h)
 |str=>obtain⟨r,rfl,e⟩:=single (t:=.str) (λs h=>nomatch h) rfl h;exact fa _ r e (λs h=>nomatch h)
 |sl t=>obtain⟨r,rfl,e⟩:=single (t:=.sl t) (λs h=>nomatch h) rfl h;exact fa _ r e (λs h=>nomatch h)
def vm (P:Program) (g:TypeId->Option (List Ty)):Nat->List Field->Option (List Ty)
 |_,[]=>some []
 |off,f::l=>cond (Nat.beq f.offset off) ((g f.type).bind λts=>cond (Nat.beq (P.cellsOf f.type) ts.length) ((vm P g (off+ts.length) l).bind λus=>some (ts++us)) none) none
def mu (P:Program) (tt:TT):Nat->TypeId->Option (List Ty)
 |0,_=>none
 |n+1,T=>match P.underlying T with
  |some (.int k)=>some [.int k]
  |some .bool=>some [.bool]
  |some .string=>some [.str]
  |some (.slice e)=>(tt e).bind λt=>(mu P tt n e).bind λts=>if ts=t.tys/\P.cellsOf e=ts.length then some [.sl t]else none
  |some (.struct fs)=>(vm P (mu P tt n) 0 fs.toList).bind λts=>cond (Nat.beq (P.cellsOf T) ts.length) (some ts) none
  |_=>none
def gg (w:World) (ts:List Ty) (cs:List Value):Prop:=
 ∃rs:List R,rs.map R.ty=ts/\rs.length=cs.length/\∀(j:Nat) (r:R) (v:Value),rs[j]? =some r->cs[j]? =some v->RepR w (λ_=>True) r v/\r.Wf
theorem gg.one {w:World} {r:R} {v:Value} (h:RepR w (λ_=>True) r v) (hw:r.Wf):gg w [r.ty] [v]:=
  ⟨[r],rfl,rfl,λj r' v' h1 h2=>by
    cases j with
    |zero=>grind
    |succ j=>simp at h1⟩
theorem gg.append {w:World} {ts us:List Ty} {cs ds:List Value} (h:gg w ts cs) (g:gg w us ds):gg w (ts++us) (cs++ds):=by
 obtain⟨rs,h1,h2,h3⟩:=h;obtain⟨qs,g1,g2,g3⟩:=g;refine⟨rs++qs,by simp[h1,g1],by simp[h2,g2],λj r v hr hv=>?_⟩;grind
section
variable {H:Type} {enc:TypeId× Value->H} {P:Program} {tt:TT} {w:World} {base:Nat} {sp:Nat->Bool} {held:Bool}
theorem nC {g:TypeId->Option (List Ty)} {F:TypeId->List Value->Option (DataW H× List MemPlace)} (hg:∀T cs x ts,F T cs=some x->g T=some ts->cs.length=P.cellsOf T->gg w ts cs) (cs:List Value):
  ∀(fs:List Field) (off:Nat) (ts:List Ty) (xs:List (DataW H× List MemPlace)),vm P g off fs=some ts->fs.mapM (λf=>F f.type ((cs.drop f.offset).take (P.cellsOf f.type)))=some xs->off+ts.length=cs.length->gg w ts (cs.drop off)
 |[],off,ts,xs,h,_,hl=>by
  cases h;have:cs.drop off=[]:=List.drop_eq_nil_of_le (by simp at hl;omega)
  rw[this];exact⟨[],rfl,rfl,λj r v hr _=>by simp at hr⟩
 |f::fs,off,ts,xs,h,hm,hl=>by
  simp only[vm]at h;cases ho:Nat.beq f.offset off<;>simp only[ho,cond_true,cond_false,An]at h
  ·cases h
  have ho:=Fx ho;obtain⟨us,hu,h⟩:=h;cases hc:Nat.beq (P.cellsOf f.type) us.length<;>simp only[hc,cond_true,cond_false,An,Fu]at h
  ·cases h
  have hc:=Fx hc;obtain⟨vs,hv,rfl⟩:=h;rw[List.mapM_cons]at hm
  cases hF:F f.type ((cs.drop f.offset).take (P.cellsOf f.type))with
  |none=>grind
  |some y=>
   cases hR:fs.mapM (λf=>F f.type ((cs.drop f.offset).take (P.cellsOf f.type)))with
   |none=>grind
   |some ys=>
    rw[FD]at hl;have h1:=hg _ _ _ _ hF hu (by rw[FT,GQ];omega);have h2:=nC hg cs fs (off+us.length) vs ys hv hR (by omega);rw[ho,hc]at h1;have:=h1.append h2;rwa [<-List.drop_drop,FU]at this
theorem trod_int {fuel:Nat} {T:TypeId} {cs:List Value} {x:DataW H× List MemPlace} {k:IntKind} (hu:P.underlying T=some (.int k)) (h:DataW.trod enc P w base sp held fuel T cs=some x):∃n,cs=[.int k n]/\(Lit.int k n).wf=true:=by
 cases fuel with
 |zero=>cases h
 |succ fuel=>
  unfold DataW.trod at h;grind
theorem trod_bool {fuel:Nat} {T:TypeId} {cs:List Value} {x:DataW H× List MemPlace} (hu:P.underlying T=some .bool) (h:DataW.trod enc P w base sp held fuel T cs=some x):∃b,cs=[.bool b]:=by
 cases fuel with
 |zero=>cases h
 |succ fuel=>
  unfold DataW.trod at h;grind
theorem AV {fuel:Nat} {T:TypeId} {cs:List Value} {x:DataW H× List MemPlace} (hu:P.underlying T=some .string) (h:DataW.trod enc P w base sp held fuel T cs=some x):∃s,cs=[.string s]/\s.size<=maxLen:=by
 cases fuel with
 |zero=>cases h
 |succ fuel=>
  unfold DataW.trod at h;grind
theorem uf {fuel:Nat} {T:TypeId} {cs:List Value} {x:DataW H× List MemPlace} {fs:Array Field} (hu:P.underlying T=some (.struct fs)) (h:DataW.trod enc P w base sp held fuel T cs=some x):
  ∃fuel' xs,cs.length=P.cellsOf T/\fs.toList.mapM (λf=>DataW.trod enc P w base sp held fuel' f.type ((cs.drop f.offset).take (P.cellsOf f.type)))=some xs:=by
 cases fuel with
 |zero=>cases h
 |succ fuel=>
  unfold DataW.trod at h;simp only[hu]at h;split at h
  ·rename_i hl;obtain⟨xs,hx,_⟩:=FA.1 h;exact⟨fuel,xs,hl,hx⟩
  ·cases h
theorem nD {α:Type} {Q:Nat->α->Prop}:∀(n:Nat),(∀i,i<n->∃x,Q i x)->∃l:List α,l.length=n/\∀(i:Nat) (x:α),l[i]? =some x->Q i x
 |0,_=>⟨[],rfl,λi x h=>by simp at h⟩
 |n+1,h=>by
  obtain⟨l,h1,h2⟩:=nD n λi hi=>h i (by omega);obtain⟨x,hx⟩:=h n (by omega);refine⟨l++[x],by simp[h1],λi y hy=>?_⟩;grind
theorem zi {a:Addr} {v:Value} (h:w.cell? a=some v):a.spot=none:=by
 unfold World.cell? at h
 cases hs:a.spot with
 |none=>rfl
 |some s=>grind
theorem pg {n j:Nat} (h:j<n):(List.range n)[j]? =some j:=by rw[Fw (by simpa using h)];simp
theorem l4:∀(n fuel:Nat) (T:TypeId) (cs:List Value) (x:DataW H× List MemPlace) (ts:List Ty),DataW.trod enc P w base sp held fuel T cs=some x->mu P tt n T=some ts->gg w ts cs
 |0,_,_,_,_,_,_,h=>nomatch h
 |n+1,fuel,T,cs,x,ts,h,hf=>by
  unfold mu at hf;split at hf
  ·rename_i k hu;cases hf;obtain⟨m,rfl,hw⟩:=trod_int hu h;exact gg.one (.int k m) (.int k m hw)
  ·rename_i hu;cases hf;obtain⟨b,rfl⟩:=trod_bool hu h;exact gg.one (.bool b) (.bool b)
  ·rename_i hu;cases hf;obtain⟨s,rfl,hsl⟩:=AV hu h
   have:s=⟨s.data.toList.toArray⟩:=by simp
   rw[this];exact gg.one (.str s.data.toList) (.str _ (by simpa using hsl))
  ·rename_i e hu;simp only[An]at hf;obtain⟨t,ht,us,hus,hf⟩:=hf;split at hf
   ·rename_i hc;obtain⟨rfl,hsz⟩:=hc;cases hf;rw[Ty.lF]at hsz
    rcases DataW.trod_slice hu h with⟨rfl,_⟩|⟨a,len,cap,elems,rest,n',_,rfl,_,hb,hlc,hcap,hlen,hel,_⟩
    ·exact gg.one (.sl t [] none 0 0 0 (λ_ _=>undef) (FQ _) (.inl rfl) (λi j r ⟨x,hx,_⟩=>by simp at hx) (λi j r ⟨x,hx,_⟩=>by simp at hx)) (.sl t [] (λi j r ⟨x,hx,_⟩=>by simp at hx) (F2 _))
    ·subst hlen
     have Fm:∀i,i<elems.length->∃x:t.El,∃ds,w.cells? base (a.add (i*P.cellsOf e)) (P.cellsOf e)=some ds/\(t.cells x).length=ds.length/\
       ∀(j:Nat) (r:R) (v:Value),(t.cells x)[j]? =some r->ds[j]? =some v->RepR w (λ_=>True) r v/\r.Wf:=λi hi=>by
      have:=hel i hi;rw[Fw hi]at this;obtain⟨ds,h1,h2⟩:=An.1 this;obtain⟨rs,g1,g2,g3⟩:=l4 n n' e ds _ _ h2 hus;obtain⟨x,hx⟩:=qt t rs g1;have hc:=Ty.bT t rs x hx;grind
     obtain⟨xs,hxl,hxs⟩:=nD elems.length Fm
     have key:∀i j r,au t xs i j r->a.spot=none/\∃v,w.at? (a.block,a.off+(i*t.sz+j))=some v/\RepR w (λ_=>True) r v/\r.Wf:=λi j r ⟨x,hx,hr⟩=>by
      obtain⟨ds,h1,h2,h3⟩:=hxs i x hx
      have hj:j<ds.length:=by rw[<-h2];exact(Fv.1 hr).1
      unfold World.cells? at h1;rw[if_pos (by unfold Addr.add;split<;>exact hb)]at h1;have hl:=mapM_some_length h1;rw[List.length_range]at hl;have hg:=mapM_some_get h1 j j (pg (by omega));rw[Fw hj]at hg
      have hsp:a.spot=none:=by
       have hi:i<xs.length:=(Fv.1 hx).1;obtain⟨es,q1,q2,_⟩:=hxs 0 _ (Fw (by omega));have Ah:=t.eb;rw[Ty.bF]at q2;unfold World.cells? at q1;rw[if_pos (by unfold Addr.add;split<;>exact hb)]at q1;have h0:=mapM_some_get q1 0 0 (pg (by omega));rw[Fw (by omega)]at h0;have hs:=zi h0;simpa[Addr.add]using hs
      refine⟨hsp,ds[j],?_,h3 j r _ hr (Fw hj)⟩
      have:(a.add (i*P.cellsOf e)).add j=⟨a.block,a.off+(i*t.sz+j),none⟩:=by
       obtain⟨b0,o0,s0⟩:=a;simp only at hsp;subst hsp;rw[hsz];simp only[Addr.add];grind
      rw[this]at hg;exact hg
     rw[<-hxl]
     have Ed:RepR w (λ_=>True) (.sl t xs) (.slice (some a) xs.length cap):=by
      refine .sl t xs (some a) cap a.block a.off (λi j=>(w.at? (a.block,a.off+(i*t.sz+j))).getD undef) (by omega) ?_ (λi j r hc=>?_) (λi j r hc=>?_)
      ·cases xs with
       |nil=>exact .inl rfl
       |cons x l=>
        right;obtain⟨r,hr⟩:=cE (t:=t) (xs:=x::l) (i:=0) (j:=0) (by simp) t.eb;have:=(key 0 0 r hr).1;obtain⟨b0,o0,s0⟩:=a;grind
      ·grind
      ·grind
     exact gg.one Ed (.sl t xs (λi j r hc=>by obtain⟨_,v,_,_,hw⟩:=key i j r hc;exact hw) (by omega))
   ·cases hf
  ·rename_i fs hu;simp only[An]at hf;obtain⟨us,hus,hf⟩:=hf;cases hc:Nat.beq (P.cellsOf T) us.length<;>simp only[hc,cond_true,cond_false]at hf
   ·cases hf
   cases hf;have hc:=Fx hc;obtain⟨fuel',xs,hl,hx⟩:=uf hu h;have:=nC (F:=DataW.trod enc P w base sp held fuel') (λT cs x ts h1 h2 _=>l4 n fuel' T cs x ts h1 h2) cs fs.toList 0 _ xs hus hx (by omega);grind
  ·cases hf
end
end
section
variable [Tok]
open Go.ChangeShapes Go.WideShapes Go.ChangeAt Go.RowKit
def zj (P:Program) (tt:TT) (T:TypeId) (a:Arg):Prop:=
 ∃ts,mu P tt 8 T=some ts/\((∃fs,P.underlying T=some (.struct fs))->∃rs:List R,a=.agg rs/\rs.map R.ty=ts/\∀r∈rs,r.Wf)/\
  ((∀fs,P.underlying T≠some (.struct fs))->∃r:R,a=.one r/\[r.ty]=ts/\r.Wf)
def nE (P:Program) (tt:TT):List TypeId->List Arg->Prop
 |[],[]=>True
 |T::Ts,a::as=>zj P tt T a/\nE P tt Ts as
 |_,_=>False
section
variable {H:Type} {enc:TypeId× Value->H} {P:Program} {tt:TT} {w:World} {base:Nat} {sp:Nat->Bool} {held:Bool}
theorem AW {b0:Nat} {T:TypeId} {v:Value} {d:DataW H} {p:List MemPlace} {ts:List Ty} (hd:DataW.Trod enc P w base sp held T v d p) (hv:Value.okWide P w .any b0 T v) (hf:mu P tt 8 T=some ts):
  ∃a,zj P tt T a/\jX w (λ_=>True) a v:=by
 obtain⟨fuel,hd⟩:=hd;obtain⟨rs,h1,h2,h3⟩:=l4 8 fuel T _ _ ts hd hf;by_cases hs:∃fs,P.underlying T=some (.struct fs)
 ·obtain⟨fs,hfs⟩:=hs;simp only[Value.okWide,hfs]at hv;obtain⟨cs,rfl,hsz,_⟩:=hv;refine⟨.agg rs,⟨ts,hf,λ_=>⟨rs,rfl,h1,λr hr=>?_⟩,λh=>(h fs hfs).elim⟩,cs,rfl,by simpa[Value.cells]using h2,λj r u hr hu=>?_⟩
  ·obtain⟨j,hj⟩:=Gc hr
   have hlt:j<cs.size:=by
    have:=(Fv.1 hj).1;simp[Value.cells]at h2;omega
   exact(h3 j r cs[j] hj (by simp[Value.cells,hlt])).2
  ·exact(h3 j r u hr (by simpa[Value.cells]using hu)).1
 ·have one1:∀{t},rs.map R.ty=[t]->∃r,rs=[r]:=λh=>List.length_eq_one_iff.1 (by simpa using congrArg List.length h)
  have oA:∃r,rs=[r]:=by
   unfold mu at hf;split at hf
   ·cases hf;exact one1 h1
   ·cases hf;exact one1 h1
   ·cases hf;exact one1 h1
   ·simp only[An]at hf;obtain⟨t,_,us,_,hf⟩:=hf;split at hf
    ·cases hf;exact one1 h1
    ·exact nomatch hf
   ·rename_i fs hu;exact(hs ⟨fs,hu⟩).elim
   ·exact nomatch hf
  obtain⟨r,rfl⟩:=oA
  have Dz:v.cells.toList=[v]:=by
   have Fo:∀cs,v≠.agg cs:=λcs e=>by
    subst e;unfold mu at hf;split at hf
    ·rename_i k hu;obtain⟨n,e⟩:=okWide_int hu hv;exact nomatch e
    ·rename_i hu;obtain⟨n,e⟩:=okWide_bool hu hv;exact nomatch e
    ·rename_i hu;obtain⟨n,e⟩:=okWide_string hu hv;exact nomatch e
    ·rename_i e hu;obtain⟨a,l,c,e⟩:=okWide_slice hu hv;exact nomatch e
    ·rename_i fs hu;exact(hs ⟨fs,hu⟩).elim
    ·exact nomatch hf
   cases v<;>first|rfl|exact(Fo _ rfl).elim
  rw[Dz]at h3;have:=h3 0 r v rfl rfl;exact⟨.one r,⟨ts,hf,λh=>(hs h).elim,λ_=>⟨r,rfl,by simpa using h1,this.2⟩⟩,this.1⟩
theorem rX {b0:Nat}:∀{Ts:List TypeId} {vs:List Value} {ds:List (DataW H)} {ps:List MemPlace},DataW.TrodAll enc P w base sp held Ts vs ds ps->
  (∀(j:Nat) t v,Ts[j]? =some t->vs[j]? =some v->Value.okWide P w .any b0 t v)->(Ts.all λT=>(mu P tt 8 T).isSome)=true->
  ∃as,nE P tt Ts as/\as.length=vs.length/\ds.length=Ts.length/\∀(j:Nat) (x:Arg) (u:Value),as[j]? =some x->vs[j]? =some u->jX w (λ_=>True) x u
 |[],[],[],_,_,_,_=>⟨[],trivial,rfl,rfl,λj x u h=>by simp at h⟩
 |T::Ts,v::vs,d::ds,ps,⟨p,q,h1,h2,_⟩,hv,hf=>by
  simp only[List.all_cons,Fy]at hf;obtain⟨ts,hts⟩:=Option.isSome_iff_exists.1 hf.1;obtain⟨a,g1,g2⟩:=AW h1 (hv 0 T v rfl rfl) hts;obtain⟨as,g3,g4,g5,g6⟩:=rX h2 (λj t v ht hw=>hv (j+1) t v (by simpa using ht) (by simpa using hw)) hf.2;refine⟨a::as,⟨g1,g3⟩,by simp[g4],by simp[g5],λj x u hx hu=>?_⟩
  cases j with
  |zero=>simp at hx hu;subst hx hu;exact g2
  |succ j=>exact g6 j x u (by simpa using hx) (by simpa using hu)
 |[],_::_,_,_,h,_,_=>nomatch h
 |[],[],_::_,_,h,_,_=>nomatch h
 |_::_,[],_,_,h,_,_=>nomatch h
 |_::_,_::_,[],_,h,_,_=>nomatch h
variable {w':World}
theorem ug (hg:cn w w') (hc:∀(p:Cell) x,w.at? p=some x->w'.at? p=some x/\w'.cC p=w.cC p) (may:MemPlace->Prop):w.keptBut w' may:=by
 obtain⟨h1,h2,h3⟩:=hg;refine⟨h1,h2,λi hi=>?_⟩;have:=h3 i hi;split at this
 ·rename_i c t fr c' t' fr' e1 e2;obtain⟨q1,q2,q3⟩:=this;rw[e1,e2];refine⟨q1,?_,q3,λj _=>?_⟩
  ·rcases q2 with q2|q2
   ·exact q2
   ·have h0:w.at? (i,0)=some c[0]:=by simp[World.at?,World.cell?,e1,q2]
    have:=(hc _ _ h0).2;simp only[World.cC,e1,e2,FI]at this;exact Prod.ext this.1 this.2.1
  ·by_cases hj:j<c.size
   ·have:w.at? (i,j)=some c[j]:=by simp[World.at?,World.cell?,e1,hj]
    have:=(hc _ _ this).1;simp only[World.at?,World.cell?,e2,G8,Gv,if_false]at this;rw[this,FF hj]
   ·rw[Array.getElem?_eq_none (by omega),Array.getElem?_eq_none (by omega)]
 ·rename_i x y h4;rw[this];split
  ·rename_i e1 e2;rw[e1]at e2;cases e2;exact⟨rfl,rfl,rfl,λ_ _=>rfl⟩
  ·rename_i e1 e2;rw[e1]at e2;cases e2;exact .inr ⟨rfl,rfl⟩
  ·rfl
theorem zk {may:MemPlace->Prop} (h:w.keptBut w' may) {a:Addr} (ha:a.block<w.heap.size):w'.frozen? a=w.frozen? a:=by
 have:=h.2.2 a.block ha;unfold World.frozen?;split at this
 ·rename_i e1 e2;obtain⟨_,q2,_⟩:=this;rw[e1,e2,q2]
 ·rename_i e1 e2;rw[e1,e2]
 ·rw[this]
theorem Cw (hg:cn w w') (hc:∀(p:Cell) x,w.at? p=some x->w'.at? p=some x/\w'.cC p=w.cC p) {p:MemPlace} (hp:p.block<w.heap.size):w.sameAt w' p:=by
 obtain⟨_,_,h3⟩:=ug hg hc λ_=>False
 cases p with
 |cell b o=>
  have:=h3 b hp;show w'.cell? ⟨b,o,none⟩=w.cell? ⟨b,o,none⟩;split at this
  ·rename_i c t fr c' t' fr' e1 e2;obtain⟨q1,q2,q3,q4⟩:=this;simp only[World.cell?,e1,e2,G8,Gv,if_false];exact q4 o (λh=>h)
  ·rename_i es ck es' ck' e1 e2;simp[World.cell?,e1,e2]
  ·simp only[World.cell?,this]
 |map b=>
  have:=h3 b hp;show w'.heap[b]? =w.heap[b]?;split at this
  ·rename_i c t fr c' t' fr' e1 e2;obtain⟨rfl,rfl,q3,q4⟩:=this;rw[e1,e2];have:c'=c:=Array.ext_getElem? λj=>q4 j (λh=>h);rw[this]
  ·rename_i es ck es' ck' e1 e2
   rcases this with h|⟨rfl,rfl⟩
   ·exact h.elim
   ·rw[e1,e2]
  ·exact this
theorem k6 (hl:laidOutB P=true):∀{Ts:List TypeId} {vs:List Value} {ds:List (DataW H)} {ps:List MemPlace},(∀t∈Ts,P.readableRec t=true/\t<P.types.size)->
    DataW.TrodAll enc P w 0 (λ_=>true) true Ts vs ds ps->(∀p∈ps,w.sameAt w' p)->(∀p∈ps,sp p.block=true)->DataW.TrodAll enc P w' 0 sp true Ts vs ds ps
  |[],[],[],_,_,h,_,_=>h
  | T :: Ts, v :: vs, d :: ds, ps, hT, ⟨p, q, h1, h2, e⟩, hs, hp =>
    ⟨p,q,WideElems.Trod_stays hl (hT T (by simp)).1 (hT T (by simp)).2 h1 (λx hx=>hs x (by rw[e];exact Gg _ hx)) (λx hx=>hp x (by rw[e];exact Gg _ hx)),
      k6 hl (λt ht=>hT t (by simp[ht])) h2 (λx hx=>hs x (by rw[e];exact Gu _ hx)) (λx hx=>hp x (by rw[e];exact Gu _ hx)),e⟩
  |[],_::_,_,_,_,h,_,_=>nomatch h
  |[],[],_::_,_,_,h,_,_=>nomatch h
  |_::_,[],_,_,_,h,_,_=>nomatch h
  |_::_,_::_,[],_,_,h,_,_=>nomatch h
end
theorem zl {H:Type} {enc:TypeId× Value->H} {P:Program} {f:Func} {s:ChangeSpec} {apart fresh handsOn again:Bool} {W W':World} {args:Array Value} {v:Value} {ds gs:List (DataW H)} {before pa pv:List MemPlace}
  (hW:DataW.Whole enc P f.params.toList s.vars apart W args.toList ds gs before)
  (Bp:∀(b:Nat) (sp:Nat->Bool) (hd:Bool),DataW.TrodAll enc P W' b sp hd f.resultTypes.toList (v.resultList f.resultTypes.size) (s.fn H (ds++gs)).results [])
  (kL:∀sp:Nat->Bool,(∀p∈before,sp p.block=true)->DataW.TrodAll enc P W' 0 sp true f.params.toList args.toList (s.fn H (ds++gs)).args pa)
  (zm:∀sp:Nat->Bool,(∀p∈before,sp p.block=true)->DataW.TrodVars enc P W' sp s.vars (s.fn H (ds++gs)).vars pv)
  (hps:before=pa++pv) (hk:W.keptBut W' (·∈before)) (hfz:∀b off,MemPlace.cell b off∈before->W'.frozen? ⟨b,off,none⟩=W.frozen? ⟨b,off,none⟩)
  (hok:∀(j:Nat) (t:TypeId) (r:Value),f.resultTypes[j]? =some t->(v.resultList f.resultTypes.size)[j]? =some r->Value.okWide P W' .any 0 t r):s.post enc P f apart fresh handsOn again W args v W':=by
 have hin:∀p∈before,(decide (p.block<W.heap.size))=true:=λp hp=>decide_eq_true (hW.lt p hp);subst hps;refine⟨ds,gs,_,[],pa,pv,hW,Bp _ _ _,kL (λb=>decide (b<W.heap.size)) hin,zm _ hin,World.keptBut_mono (λp hp=>⟨hp,.inr (F7.1 hp)⟩) hk,λ_=>?_⟩;obtain⟨_,_,_,_,_,hz,hn⟩:=id hW;refine⟨hok,_,_,([]++pa)++pv,⟨[]++pa,pv,trodAll_append (kL _ λ_ _=>rfl) (Bp _ _ _),zm _ λ_ _=>rfl,rfl,λb off hp=>?_,λha=>?_⟩,λp hp _=>?_⟩
 ·have hp:MemPlace.cell b off∈pa++pv:=by simpa using hp
  rw[hfz b off hp];exact hz b off hp
 ·simpa using hn ha
 ·simpa using hp
theorem wD {C:Checked} {os:Os} {g:FuncId} {fn:Func} {s:ChangeSpec} {tt:TT} {H:Type} {enc:TypeId× Value->H} {conds:List PathCond} {apart fresh handsOn again:Bool}
    (own:ownKnob C.prog.godebug=none) (started:os.Started) (noInit:C.prog.inits.idxOf? g=none) (hfn:C.prog.funcs[g]? =some fn)
    (witness:∃(w:World) (tape:Tape) (i:Input),w.os=os/\(w.forCall tape i).Shaped C.prog/\i.vars=[]/\Input.okWide C.prog (w.forCall tape i) .any w.heap.size g i/\
      s.pre6 enc C.prog fn conds apart (w.forCall tape i).memory i.args/\Assume.holds {} C.prog (lone (Frame.enter C.prog g i.args .normal) [] (w.forCall tape i)))
    (EB:laidOutB C.prog=true) (EC:∀t∈fn.params.toList,C.prog.readableRec t=true/\t<C.prog.types.size) (ED:(fn.params.toList.all λT=>(mu C.prog tt 8 T).isSome)=true)
    (zm:s.vars=[]) (Cx:∀ds:List (DataW H),ds.length=fn.params.toList.length->s.fn H (ds++[])={results:=[.lit (.bool true)],args:=ds,vars:=[]})
    {bt:TypeId} (Bp:fn.resultTypes=#[bt]) (hbt:C.prog.underlying bt=some .bool)
    (Fp:∀as:List Arg,nE C.prog tt fn.params.toList as->fN C.prog g as (.b true,[])):
    ReturnsInHanded {} C os g .any (s.pre6 enc C.prog fn conds apart) (s.post enc C.prog fn apart fresh handsOn again):=by
  refine returnsInHanded_of_change (C:=C) own started noInit hfn witness ?_;intro W base args ds gs before hval hW _ _;have hW':=hW;obtain⟨p,q,hA,hV,rfl,hfz,_⟩:=hW;rw[zm]at hV;obtain⟨rfl,rfl⟩:=trodVars_none hV;obtain⟨as,g1,g2,g3,g4⟩:=rX hA (λj t v ht hv=>hval j t v (by simpa using ht) (by simpa using hv)) ED;obtain⟨_,hc⟩:=Fp as g1;refine(hc W args (λ_=>True) (by simpa using g2) (λj x u hx hu=>g4 j x u hx (by simpa using hu))).mono λe W' ⟨u,pl,he,_,hu,_,jO,_,hgr⟩=>?_
  have hu:u=.bool true:=by
    cases hu with
    |r _ _ _ h=>cases h;rfl
  subst hu he;have hc':∀(p:Cell) x,W.at? p=some x->W'.at? p=some x/\W'.cC p=W.cC p:=jO;have hlt:∀x∈p,x.block<W.heap.size:=λx hx=>hW'.lt x (by simpa using hx);refine⟨_,rfl,zl (pa:=p) (pv:=[]) hW' (λ_ _ _=>?_) (λsp hsp=>?_) (λ_ _=>?_) rfl (ug hgr hc' _) (λb off hp=>zk (ug hgr hc' λ_=>False) (hW'.lt _ hp)) (ok_one Bp rfl (okWide_bool_mk hbt true))⟩
  · rw[Cx ds g3,Bp];exact trodAll_mk1 (shut_bool hbt true)
  · rw[Cx ds g3];exact k6 EB EC hA (λx hx=>Cw hgr hc' (hlt x hx)) (λx hx=>hsp x (by simpa using hx))
  · rw[Cx ds g3,zm];exact rfl
end
section
instance D1:Tok:=⟨λ_=>.slice none 0 0,λ_=>rfl,rfl⟩
def okI (n:Int):Prop:=-9223372036854775808<=n/\n<=9223372036854775807
theorem bw {n:Int} (h1:-9223372036854775808<=n) (h2:n<=9223372036854775807):i64.wrap n=n:=Go.IntWalk.i64_in n ⟨h1,h2⟩
theorem dg {n m:Nat} (h:n<m) (hm:m<=9223372036854775807):i64.wrap ((n:Int)+1)=((n+1:Nat):Int):=by
 rw[bw (by omega) (by omega)];omega
@[simp] theorem dd {α:Type} (xs:List α) (i:Nat):idx xs (i:Int)=xs[i]? :=by
 have:(0:Int)<=(i:Int):=by omega
 simp[idx,this]
theorem iz {α:Type} (xs:List α) {i:Int} (h:0<=i):idx xs i=xs[i.toNat]? :=by simp[idx,h]
section
variable {R V:Type} {g:V->(V->Option R)->Option R}
theorem cI (k:Nat) (v:V):iter g (k+1) v=g v (iter g k):=rfl
theorem gi {st:Nat->V} {n:Nat} {P:Nat->Option R} (h:∀i,i<n->∀next:V->Option R,next (st (i+1))=P (i+1)->g (st i) next=P i)
  (hn:∀next,g (st n) next=P n):∀(k i:Nat),i<=n->n-i<k->iter g k (st i)=P i
 |0,i,hi,hk=>by omega
 |k+1,i,hi,hk=>by
  rw[cI];by_cases c:i<n
  ·exact h i c _ (gi h hn k (i+1) (by omega) (by omega))
  ·have:i=n:=by omega
   subst this;exact hn _
theorem gj {st:Nat->V} {n:Nat} {r:Option R} (h:∀i,i<n->∀next:V->Option R,g (st i) next=next (st (i+1))) (hn:∀next,g (st n) next=r) {k:Nat} (hk:n<k):
  iter g k (st 0)=r:=gi (P:=λ_=>r) (λi hi next e=>(h i hi next).trans e) hn k 0 (F2 _) (by omega)
end
theorem k7 {α:Type} {p:Prop} [Decidable p] (x y:α):cond (decide p) x y=if p then x else y:=by by_cases h:p<;>simp[h]
theorem dP {α:Type} (a b:Int) (x y:α):cond (a !=b) x y=if a=b then y else x:=by
 by_cases h:a=b
 ·simp[h]
 ·have:(a !=b)=true:=by simpa using h
  rw[this,if_neg h];rfl
theorem AX {α:Type} (a b:Int) (x y:α):cond (a==b) x y=if a=b then x else y:=by
 by_cases h:a=b
 ·simp[h]
 ·have:(a==b)=false:=by simpa using h
  rw[this,if_neg h];rfl
theorem cond_not {α:Type} (b:Bool) (x y:α):cond (!b) x y=cond b y x:=by cases b<;>rfl
theorem aR {α:Type} {xs:List α} {i:Nat} (h:i<xs.length):xs[i]? =some xs[i]:=Fw h
theorem gS {α:Type} {xs:List α} {i:Nat} (h:i<xs.length):xs.drop i=xs[i]::xs.drop (i+1):=(List.getElem_cons_drop h).symm
theorem dq {α:Type} {xs:List α} {i:Nat} (h:i<xs.length):xs.take (i+1)=xs.take i++[xs[i]]:=(List.take_append_getElem h).symm
theorem zn {α R:Type} [DecidableEq α] (xs ys:List α) (hl:xs.length=ys.length) {g:Int->(Int->Option R)->Option R} {yes no:Option R}
  (h:∀(i:Nat) (hi:i<xs.length) (hi':i<ys.length) (next:Int->Option R),g (i:Int) next=if xs[i]=ys[i]then next ((i+1:Nat):Int)else no)
  (hn:∀next,g (xs.length:Int) next=yes) {k:Nat} (hk:xs.length<k):iter g k 0=if xs=ys then yes else no:=by
 have:=gi (g:=g) (st:=λi=>(i:Int)) (n:=xs.length) (P:=λi=>if xs.drop i=ys.drop i then yes else no) (λi hi next e=>by
  have hi':i<ys.length:=by omega
  rw[h i hi hi' next]
  have he:(xs.drop i=ys.drop i)↔(xs[i]=ys[i]/\xs.drop (i+1)=ys.drop (i+1)):=by rw[gS hi,gS hi',Gp]
  by_cases c:xs[i]=ys[i]
  ·rw[if_pos c,e];simp only[he,c,true_and]
  ·rw[if_neg c,if_neg (λq=>c (he.1 q).1)]) (λnext=>by
  rw[GM,List.drop_of_length_le (by omega)];simp;exact hn next) k 0 (F2 _) (by omega)
 simpa using this
end
section
theorem aa {α β:Type} (a:α) (f:α->Option β):(some a).bind f=f a:=rfl
theorem vn {α R:Type} (xs:List α) (p:α->Bool) {g:Int->(Int->Option R)->Option R} {yes no:Option R}
  (h:∀(i:Nat) (hi:i<xs.length) (next:Int->Option R),g (i:Int) next=cond (p xs[i]) (next ((i+1:Nat):Int)) no)
  (hn:∀next,g (xs.length:Int) next=yes) {k:Nat} (hk:xs.length<k):iter g k 0=cond (xs.all p) yes no:=by
 have:=gi (g:=g) (st:=λi=>(i:Int)) (n:=xs.length) (P:=λi=>cond ((xs.drop i).all p) yes no) (λi hi next e=>by
  rw[h i hi next,gS hi,List.all_cons];cases hp:p xs[i]
  ·rfl
  ·simp only[cond_true,Bool.true_and];exact e) (λnext=>by rw[GM];exact hn next) k 0 (F2 _) (by omega)
 simpa using this
theorem rY {α R:Type} (xs:List α) (p:α->Bool) {g:Int->(Int->Option R)->Option R} {yes:Option R} {no:Int->Option R}
  (h:∀(i:Nat) (hi:i<xs.length) (next:Int->Option R),g (i:Int) next=cond (p xs[i]) (no (i:Int)) (next ((i+1:Nat):Int)))
  (hn:∀next,g (xs.length:Int) next=yes) {k:Nat} (hk:xs.length<k):iter g k 0=(xs.findIdx? p).elim yes λi=>no (i:Int):=by
 have:=gi (g:=g) (st:=λi=>(i:Int)) (n:=xs.length) (P:=λi=>((xs.drop i).findIdx? p).elim yes λj=>no ((i+j:Nat):Int)) (λi hi next e=>by
  rw[h i hi next,gS hi,List.findIdx?_cons];cases hp:p xs[i]
  ·simp only[cond_false,Gv,if_false];rw[e]
   cases(xs.drop (i+1)).findIdx? p with
   |none=>rfl
   |some j=>simp only[GO,Option.elim_some];congr 2;omega
  ·simp) (λnext=>by rw[GM];simpa using hn next) k 0 (F2 _) (by omega)
 simpa using this
end
section
theorem cy:fC=274877906944:=rfl
def Bu {α:Type} (t:α->Nat) (xs:List α):Nat:=xs.length+(xs.map t).sum
end
section
variable [Tok]
def EY:Nat:=9223372036854775807
def okS {α:Type} (p:α->Prop) (xs:List α):Prop:=xs.length<=EY/\∀x∈xs,p x
def okB (n:Int):Prop:=0<=n/\n<=255
def Shape.Ok (s:Shape):Prop:=okI s.h/\okI s.w/\okI s.c
def fy.Ok (t:fy):Prop:=t.sh.Ok/\okS okI t.data
def pt.Ok (l:pt):Prop:=okI l.kind/\okI l.out/\okI l.size/\okI l.step/\okI l.mult/\okI l.shift/\okI l.zero/\okS okI l.weights/\okS okI l.EL
def Model.Ok (m:Model):Prop:=m.inp.Ok/\okS pt.Ok m.om
def Job.Ok (j:Job):Prop:=j.model.Ok/\okI j.at_/\j.act.Ok/\okI j.zW
def Task.Ok (t:Task):Prop:=okI t.id/\okS okI t.zX/\okI t.at_/\okI t.due/\okI t.born
def zY.Ok (s:zY):Prop:=okI s.now/\okI s.D5/\okI s.age/\okS Task.Ok s.tasks/\okI s.run/\okI s.left/\okI s.turns/\okI s.next
def Request.Ok (r:Request):Prop:=okI r.id/\okI r.model/\r.job.Ok/\okI r.due
def Runtime.Ok (r:Runtime):Prop:=r.sched.Ok/\okS Model.Ok r.CO/\okS (λ_=>True) r.CP/\okS Request.Ok r.zZ
def Step.Ok (s:Step):Prop:=okI s.kind/\okI s.a/\okI s.b/\okS okB s.data/\s.input.Ok
def Event.Ok (e:Event):Prop:=okI e.kind/\okI e.a/\okI e.b/\e.out.Ok
def Entry.Ok (e:Entry):Prop:=okI e.id/\e.model.Ok/\e.input.Ok/\okI e.at_/\okI e.due/\okI e.end_
def Wish.Ok (w:Wish):Prop:=okI w.id/\okI w.model/\okI w.due
theorem EE {n:Int} (h:(R.int .u8 n).Wf):okB n:=by
 cases h with
 |int _ _ h=>simp[Lit.wf,IntKind.min,IntKind.max,IntKind.signed,IntKind.bits]at h;exact h
theorem EF {t:Ty} {xs:List t.El} {p:t.El->Prop} (h:(R.sl t xs).Wf) (hp:∀x∈xs,(∀r∈t.cells x,r.Wf)->p x):okS p xs:=by
 cases h with
 |sl _ _ h hl=>
  refine⟨by unfold EY;unfold maxLen at hl;omega,λx hx=>hp x hx λr hr=>?_⟩;obtain⟨i,hi⟩:=Gc hx;obtain⟨j,hj⟩:=Gc hr;exact h i j r ⟨x,hi,hj⟩
theorem AY {xs:List Int} (h:(R.bytes xs).Wf):okS okB xs:=EF h λx _ hx=>EE (hx _ (by simp[Ty.cells]))
section
variable {P:Program} {tt:TT} {T:TypeId} {a:Arg}
def nF (P:Program) (T:TypeId):Bool:=
 match P.underlying T with
 |some (.struct _)=>true
 |_=>false
theorem zo {t:Ty} (hf:mu P tt 8 T=some [t]) (hs:nF P T=false) (h:zj P tt T a):∃r:R,a=.one r/\r.ty=t/\r.Wf:=by
 obtain⟨ts,h1,_,h3⟩:=h;rw[hf]at h1;cases h1;obtain⟨r,rfl,g1,g2⟩:=h3 (λfs e=>by simp[nF,e]at hs);exact⟨r,rfl,by simpa using g1,g2⟩
theorem AZ {t:Ty} (hf:mu P tt 8 T=some [.sl t]) (hs:nF P T=false) (h:zj P tt T a):∃xs:List t.El,a=.one (.sl t xs)/\(R.sl t xs).Wf:=by
 obtain⟨r,rfl,h1,h2⟩:=zo hf hs h;obtain⟨n,rfl⟩:=k5 h1;exact⟨n,rfl,h2⟩
theorem uh {as:List Arg} {T:TypeId} (h:nE P tt [T] as):∃a,as=[a]/\zj P tt T a:=by
 match as,h with
 |[a],h=>exact⟨a,rfl,h.1⟩
end
theorem wE {P:Program} {g:FuncId} {G:PG} (h:vb P g G) {as:List Arg} {o:Out} (hG:G Out as some=some o):fN P g as o:=by
 obtain⟨o',h1,h2⟩:=h Out as some o hG;cases h1;exact h2
theorem A1 {p:TypeId->Bool} {l:List TypeId} (h:l.all p=true):∀t∈l,p t=true:=λt ht=>List.all_eq_true.1 h t ht
end
section
variable [Tok]
section
variable {P:Program} {tt:TT} {T:TypeId} {a:Arg}
end
end
end Go.Proofs.Ev
