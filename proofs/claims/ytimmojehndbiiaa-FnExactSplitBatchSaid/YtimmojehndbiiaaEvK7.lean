/- The evaluator over the model's code, and that it is sound: part 7. -/
import Derived.Test.YtimmojehndbiiaaEvK6
import Derived.KernelRfl
import Derived.Below
import Derived.RangeFuncFrom
import Derived.RangeFuncCalls
import Derived.RangeFuncLeaves
import Derived.OrdersIn
import Derived.TacticsIn
import GoSem.ClaimChange
import Derived.Deep.Slices
import Derived.DataReads
import Derived.ProofKit
import Derived.WideKeyArgs
set_option linter.unusedVariables false
set_option linter.unusedSimpArgs false
set_option linter.unusedSectionVars false
namespace Go.Proofs.Ev
section
variable [Tok]
def mQ:SV->Bool
 |.r _ (.int _ _)=>true
 |.r _ (.bool _)=>true
 |.r _ (.str _)=>true
 |_=>false
def pM:List SV->Bool
 |[]=>true
 |v::l=>cond (mQ v) (pM l) false
theorem mR:∀{l:List SV},pM l=true->∀v∈l,mQ v=true
 |[],_,v,hv=>nomatch hv
 |x::l,h,v,hv=>by
  simp only[pM]at h;cases hx:mQ x<;>simp only[hx,cond_true,cond_false]at h
  ·exact nomatch h
  ·rcases Dt.1 hv with rfl|hv
   ·exact hx
   ·exact mR h v hv
theorem pN {w w':World} {H H':Heap} {pl pl':Pl} {v:SV} {u:Value} (h:mQ v=true) (hv:SVRep w H pl v u):SVRep w' H' pl' v u:=by
 cases hv with
 |r d x _ hx=>cases hx with
  |int=>exact .r _ _ _ (.int _ _)
  |bool=>exact .r _ _ _ (.bool _)
  |str=>exact .r _ _ _ (.str _)
  |tok=>first|exact .r _ _ _ (.tok _)|exact nomatch h
  |eT=>exact nomatch h
  |sl=>exact nomatch h
 |_=>exact nomatch h
def wm (o:Orc):Orc:=λρ nid vs h K=>match vs with
 |.inn i x c::rest=>cond (pM rest) (match look h i with
  |some (.arr none t xs)=>(xs[x]?).bind λe=>match(t.cells e)[c]? with
   |some (.sl t' ys)=>o ρ nid (.own i::rest) [(i,.arr none t' ys)] λq=>
    cond (mQ q.v&&(isNil q.news&&isNil q.gone)) (match q.upd with
     |[(_,.arr none t2 zs)]=>if he:t2=t' then(t.bF ((t.cells e).take c++[.sl t' (he▸zs)]++(t.cells e).drop (c+1))).bind λy=>K {v:=q.v,upd:=[(i,.arr none t (xs.set x y))],dA:=[i]}else none
     |_=>none) none
   |_=>none
  |_=>none) none
 |_=>o ρ nid vs h K
section
variable {w w':World} {H H':Heap} {pl:Pl}
theorem xL {i x c cap b o:Nat} {t t':Ty} {xs:List t.El} {e y:t.El} {ys zs:List t'.El} {vs:Nat->Nat->Value} {fs:Nat->Nat->Cell->Prop} {T2:Kil} {pl2 pl2':Pl}
  (hr:aF H pl w) (hli:look H i=some (.arr none t xs)) (hx:xs[x]? =some e) (hc:(t.cells e)[c]? =some (.sl t' ys)) (hy:t.cells y=(t.cells e).take c++[.sl t' zs]++(t.cells e).drop (c+1))
  (hh:pl.hdr i=.slice (some ⟨b,o,none⟩) xs.length cap) (h2:xs.length<=cap) (h4:∀j,j<cap*t.sz->(∃v,w.at? (b,o+j)=some v)/\whole (w.aU (b,o+j)) o (cap*t.sz)=true)
  (h5:∀i j r,ae t xs i j r->w.at? (b,o+(i*t.sz+j))=some (vs i j)) (h6:∀i j r,ae t xs i j r->bE w r (vs i j) (fs i j))
  (h7:∀i j r p,ae t xs i j r->fs i j p->¬reg b o (cap*t.sz) p) (h8:∀i j r i' j' r' p,ae t xs i j r->ae t xs i' j' r'->fs i j p->fs i' j' p->i=i'/\j=j')
  (h9:∀p,pl.fp i p↔reg b o (cap*t.sz) p\/∃i j r,ae t xs i j r/\fs i j p)
  (hb2:pl2.base=pl.base) (hf2:pl2.fp i=fs x c) (hd2:pl2.hdr i=vs x c) (hg2:mem i T2.1=false) (hst:aJ [(i,.arr none t' ys)] [(i,.arr none t' zs)] T2 pl2 pl2' w w')
  (ht:eE H H' ([],[i]) i (.arr none t (xs.set x y))):∃pl',aJ H H' ([],[i]) pl pl' w w':=by
 have hxl:x<xs.length:=(Db.1 hx).1
 have hcl:c<t.sz:=by rw[<-Ty.aH t e];exact(Db.1 hc).1
 have hcell:ae t xs x c (.sl t' ys):=⟨e,hx,hc⟩
 have hl1:∀{t':Ty} {ys:List t'.El} {j B},look [(i,Blk.arr none t' ys)] j=some B->j=i/\B=.arr none t' ys:=λ{t' ys j B} h=>by
  rw[look_cons]at h;by_cases e:i=j
  ·rw[if_pos e]at h;cases h;exact⟨e.symm,rfl⟩
  ·rw[if_neg e]at h;exact nomatch h
 have jf:∀p u,w.at? p=some u->¬fs x c p->¬pl2'.fp i p/\w'.at? p=some u/\w'.aU p=w.aU p:=λp u hp hn=>by
  obtain⟨g1,g2⟩:=hst.fr p u hp λj B hB hf=>by
   obtain⟨rfl,_⟩:=hl1 hB;rw[hf2]at hf;exact hn hf
  exact⟨g1 i _ (by rw[look_cons,if_pos rfl]),g2⟩
 have lU:∀p,fs x c p->pl.fp i p:=λp hp=>(h9 p).2 (.inr ⟨_,_,_,hcell,hp⟩)
 have CY:∀j,mem j [i]=true->j=i:=λj hj=>by
  simp only[mem]at hj;cases hb:Nat.beq i j<;>simp only[hb,cond_true,cond_false]at hj
  ·exact nomatch hj
  ·exact(Dc hb).symm
 have hmi:mem i [i]=true:=by simp[mem]
 have qa:∀p,pl2'.fp i p->∃u,w'.at? p=some u:=λp hp=>hst.hr.bY i _ p (by rw[look_cons,if_pos rfl]) hp
 refine⟨_,cX (hdr:=pl.hdr i) (fp:=λp=>(pl.fp i p/\¬fs x c p)\/pl2'.fp i p) hst.gr hr ht (λj hj=>nomatch hj) (λj hj=>.inr (CY j hj)) (.inr ⟨_,hli,hmi,⟨rfl,by simp⟩,rfl⟩)
  (λp u hp hno=>(jf p u hp λhf=>hno i _ hmi hli (lU p hf)).2) (λp hp=>?_) (λp hp=>?_) λhk=>?_⟩
 ·have:=hst.hr.nb p hp;rw[hst.bs,hb2]at this;exact this
 ·rcases hp with hp|hp
  ·exact .inr ⟨i,_,hmi,hli,hp.1⟩
  ·cases hq:w.at? p with
   |none=>exact .inl rfl
   |some u=>
    by_cases hf:fs x c p
    ·exact .inr ⟨i,_,hmi,hli,lU p hf⟩
    ·exact((jf p u hq hf).1 hp).elim
 ·have gP:∀{i' j r},ae t (xs.set x y) i' j r->(i'=x/\j=c/\r=.sl t' zs)\/(¬(i'=x/\j=c)/\ae t xs i' j r):=λ{i' j r} h=>by
   obtain⟨z,hz,hzj⟩:=h;by_cases e1:i'=x
   ·subst e1;rw[Ek hxl]at hz;cases hz;rw[hy]at hzj
    have hto:((t.cells e).take c).length=c:=by rw[Dz,Ty.aH];omega
    by_cases c1:j<c
    ·rw[Ds,Dm (by omega),Du,if_pos c1]at hzj;exact .inr ⟨λh=>by omega,e,hx,hzj⟩
    ·by_cases c2:j=c
     ·subst c2;rw[Ds,Dh (by omega),hto,Nat.sub_self]at hzj;cases hzj;exact .inl ⟨rfl,rfl,rfl⟩
     ·rw[Ds,Dh (by omega),hto,Dh (by simp;omega),Dr]at hzj;simp only[List.length_singleton]at hzj;rw[show c+1+(j-c-1)=j from by omega]at hzj;exact .inr ⟨λh=>c2 h.2,e,hx,hzj⟩
   ·rw[List.getElem?_set_ne (λe=>e1 e.symm)]at hz;exact .inr ⟨λh=>e1 h.1,z,hz,hzj⟩
  have hU:∀{i' j r},ae t xs i' j r->∃r',ae t (xs.set x y) i' j r':=λ{i' j r} h=>by
   obtain⟨a1,a2⟩:=aj h;exact aZ (by simpa using a1) a2
  have hreg0:∀p,reg b o (cap*t.sz) p->¬fs x c p:=λp hp hf=>h7 _ _ _ p hcell hf hp
  have hsl:bE w' (.sl t' zs) (vs x c) (pl2'.fp i):=by
   have h1:=hst.hr.blk i _ (by rw[look_cons,if_pos rfl]:look [(i,Blk.arr none t' zs)] i=some (.arr none t' zs));obtain⟨_,_,_,h3⟩:=hst.kp.k1 i _ (by rw[look_cons,if_pos rfl]) hg2;rw[<-hd2,<-h3];obtain⟨R⟩:=h1;exact R.Bv
  have e1:(pl.set i (pl.hdr i) λp=>(pl.fp i p/\¬fs x c p)\/pl2'.fp i p).hdr i=pl.hdr i:=by simp[Pl.set]
  have e2:(pl.set i (pl.hdr i) λp=>(pl.fp i p/\¬fs x c p)\/pl2'.fp i p).fp i=λp=>(pl.fp i p/\¬fs x c p)\/pl2'.fp i p:=by simp[Pl.set]
  show Nonempty (Row w' (bE w') t (xs.set x y) ((pl.set i (pl.hdr i) λp=>(pl.fp i p/\¬fs x c p)\/pl2'.fp i p).hdr i) ((pl.set i (pl.hdr i) λp=>(pl.fp i p/\¬fs x c p)\/pl2'.fp i p).fp i));rw[e1,e2];refine⟨⟨some ⟨b,o,none⟩,cap,b,o,vs,λi' j=>if i'=x/\j=c then pl2'.fp i else fs i' j,by rw[hh,Eb],by rw[Eb];exact h2,.inr rfl,λj hj=>?_,λi' j r h=>?_,λi' j r h=>?_,λi' j r p h hf=>?_,λi' j r i'' j' r' p h h' hf hf'=>?_,λp=>?_⟩⟩
  ·obtain⟨⟨v,hv⟩,hi⟩:=h4 j hj;obtain⟨_,g1,g2⟩:=jf _ v hv (hreg0 _ ⟨rfl,by simp,by simp;omega⟩);exact⟨⟨v,g1⟩,by rw[g2];exact hi⟩
  ·obtain⟨a1,a2⟩:=aj h;rw[Eb]at a1;obtain⟨r0,hr0⟩:=aZ a1 a2;exact(jf _ _ (h5 _ _ _ hr0) (hreg0 _ ⟨rfl,by simp,by have:=fO a1 a2 h2;simp;omega⟩)).2.1
  ·rcases gP h with⟨rfl,rfl,rfl⟩|⟨hne,h⟩
   ·rw[if_pos ⟨rfl,rfl⟩];exact hsl
   ·rw[if_neg hne];refine(h6 _ _ _ h).frame λp u hp hu=>(jf p u hu λhf=>hne ?_).2;exact h8 _ _ _ _ _ _ p h hcell hp hf
  ·rcases gP h with⟨rfl,rfl,rfl⟩|⟨hne,h⟩
   ·rw[if_pos ⟨rfl,rfl⟩]at hf;intro hre;obtain⟨p1,p2⟩:=p;obtain⟨q1,q2,q3⟩:=hre;simp only at q1 q2 q3;subst q1;obtain⟨⟨v,hv⟩,_⟩:=h4 (p2-o) (by omega);rw[show o+(p2-o)=p2 from by omega]at hv;exact(jf _ v hv (hreg0 _ ⟨rfl,q2,q3⟩)).1 hf
   ·rw[if_neg hne]at hf;exact h7 _ _ _ p h hf
  ·have cross:∀{i' j r},¬(i'=x/\j=c)->ae t xs i' j r->fs i' j p->pl2'.fp i p->False:=λ{i' j r} hne h hf hf'=>by
    obtain⟨u,hu⟩:=(h6 _ _ _ h).there p hf;exact(jf p u hu λhq=>hne (h8 _ _ _ _ _ _ p h hcell hf hq)).1 hf'
   rcases gP h with⟨rfl,rfl,rfl⟩|⟨hne,hc1⟩<;>rcases gP h' with⟨rfl,rfl,rfl⟩|⟨B4,hc2⟩
   ·exact⟨rfl,rfl⟩
   ·rw[if_pos ⟨rfl,rfl⟩]at hf;rw[if_neg B4]at hf';exact(cross B4 hc2 hf' hf).elim
   ·rw[if_pos ⟨rfl,rfl⟩]at hf';rw[if_neg hne]at hf;exact(cross hne hc1 hf hf').elim
   ·rw[if_neg hne]at hf;rw[if_neg B4]at hf';exact h8 _ _ _ _ _ _ p hc1 hc2 hf hf'
  ·constructor
   ·rintro (⟨hp,hn⟩|hp)
    ·rcases(h9 p).1 hp with hp|⟨i',j,r,h,hf⟩
     ·exact .inl hp
     ·have hne:¬(i'=x/\j=c):=λ⟨q1,q2⟩=>by subst q1 q2;exact hn hf
      obtain⟨r',h'⟩:=hU h;exact .inr ⟨i',j,r',h',by rw[if_neg hne];exact hf⟩
    ·obtain⟨r',h'⟩:=hU hcell;exact .inr ⟨x,c,r',h',by rw[if_pos ⟨rfl,rfl⟩];exact hp⟩
   ·rintro (hp|⟨i',j,r,h,hf⟩)
    ·exact .inl ⟨(h9 p).2 (.inl hp),hreg0 p hp⟩
    ·rcases gP h with⟨rfl,rfl,rfl⟩|⟨hne,h⟩
     ·rw[if_pos ⟨rfl,rfl⟩]at hf;exact .inr hf
     ·rw[if_neg hne]at hf;exact .inl ⟨(h9 p).2 (.inr ⟨_,_,_,h,hf⟩),λhq=>hne (h8 _ _ _ _ _ _ p h hcell hf hq)⟩
end
theorem wo {P:Program} {g:FuncId} {o:Orc} (ho:OrcOk P g o):OrcOk P g (wm o):=by
 intro ρ nid vs H K out hK;unfold wm at hK;split at hK
 case h_2=>exact ho ρ nid _ H K _ hK
 rename_i i x c rest;cases hpl:pM rest<;>simp only[hpl,cond_true,cond_false]at hK
 ·exact nomatch hK
 split at hK
 case h_2=>exact nomatch hK
 rename_i t xs hli;simp only[An]at hK;obtain⟨e,hx,hK⟩:=hK;split at hK
 case h_2=>exact nomatch hK
 rename_i t' ys hc;obtain⟨q,hq,hen,hup,zD⟩:=ho ρ nid _ _ _ _ hK;cases hpv:(mQ q.v&&(isNil q.news&&isNil q.gone))<;>simp only[hpv,cond_true,cond_false]at hq
 ·exact nomatch hq
 simp only[De]at hpv;obtain⟨hpv,hnw,hgn⟩:=hpv;have hnw:=ba hnw;have hgn:=ba hgn;split at hq
 case h_2=>exact nomatch hq
 rename_i i' t2 zs hqu;split at hq
 case isFalse=>exact nomatch hq
 rename_i het;subst het;simp only[An]at hq;obtain⟨y,hy,hK⟩:=hq;have hy:=Ty.aI _ _ _ hy
 have hii:i'=i:=by
  obtain⟨B',hB'⟩:=hup i' _ (by rw[hqu,look_cons,if_pos rfl]);rw[look_cons]at hB';by_cases e:i=i'
  ·exact e.symm
  ·rw[if_neg e]at hB';exact nomatch hB'
 subst hii;refine⟨_,hK,hen,λj B hB=>?_,λH1 pl w us he hr hn hl hp H' ha=>?_⟩
 ·rw[look_cons]at hB;by_cases e:i'=j
  ·subst e;exact⟨_,hli⟩
  ·rw[if_neg e]at hB;exact nomatch hB
 have hli1:=he _ _ hli;obtain⟨u0,hu0⟩:∃u0,us[0]? =some u0:=⟨us[0]'(by rw[<-hl];simp),by simp⟩;have hi0:=hp 0 _ u0 rfl hu0
 cases hi0 with
 |inn _ _ _ sh t1 xs1 b o n cap _ hl1 hx1 hc1 hh hok hat mg=>
  rw[hli1]at hl1;cases hl1;obtain⟨⟨a',cf,b',o',vs,fs,h1,h2,h3,h4,h5,h6,h7,h8,h9⟩⟩:=hr.blk _ _ hli1;rw[hh]at h1;cases h1;have h3:=h3.resolve_left (by omega);cases h3;have hcell:ae t xs x c (.sl t2 ys):=⟨e,hx,hc⟩
  have hu:u0=vs x c:=by rw[h5 _ _ _ hcell]at hat;cases hat;rfl
  subst hu
  let pl2:Pl:=⟨λ_=>vs x c,λ_=>fs x c,pl.base⟩
  have hl1:∀{j B},look [(i',Blk.arr none t2 ys)] j=some B->j=i'/\B=.arr none t2 ys:=λ{j B} h=>by
   rw[look_cons]at h;by_cases e:i'=j
   ·rw[if_pos e]at h;cases h;exact⟨e.symm,rfl⟩
   ·rw[if_neg e]at h;exact nomatch h
  have hr2:aF [(i',.arr none t2 ys)] pl2 w:=by
   refine⟨λj B hB=>?_,λj k B B' p q1 q2 _ _=>?_,λj B p hB hf=>?_,hr.nb⟩
   ·obtain⟨rfl,rfl⟩:=hl1 hB;exact(h6 _ _ _ hcell).row
   ·rw[(hl1 q1).1,(hl1 q2).1]
   ·exact hr.ob _ _ p hli1 ((h9 p).2 (.inr ⟨_,_,_,hcell,hf⟩))
  have haf:after [(i',.arr none t2 ys)] nid q=some [(i',.arr none t2 zs)]:=by
   unfold after;rw[hqu,hnw]
   have:upds [(i',Blk.arr none t2 zs)] [(i',Blk.arr none t2 ys)]=[(i',.arr none t2 zs)]:=by simp[upds,put]
   rw[this]
   have:cl q.kil [(i',Blk.arr none t2 zs)]=some [(i',.arr none t2 zs)]:=by
    unfold cl;split
    ·rfl
    ·simp[kC,CR.kil,hgn,mem,Blk.ai]
   rw[this];simp[newsH]
  refine(zD _ pl2 w us .rfl' hr2 (λk hk=>by rw[hnw]at hk;exact nomatch hk) (by simpa using hl) (λj v u hv hu=>?_) _ haf).mono λe' w' ⟨u,pl2',he',hst,hv'⟩=>?_
  ·cases j with
   |zero=>
    rw[hu0]at hu;cases hu;cases hv
    exact SVRep.own (pl:=pl2) i' none t2 ys (by rw[look_cons,if_pos rfl])
   |succ j=>exact pN (mR hpl v (Dp (by simpa using hv))) (hp (j+1) v u (by simpa using hv) hu)
  ·obtain⟨ht,_⟩:=iG (c:={v:=q.v,upd:=[(i',.arr none t (xs.set x y))],dA:=[i']}) hli1 rfl rfl rfl ha;obtain⟨pl',CZ⟩:=xL hr hli1 hx hc hy hh h2 h4 h5 h6 h7 h8 h9 (pl2:=pl2) rfl rfl rfl (by show mem i' q.gone=false;rw[hgn];rfl) hst ht;exact⟨u,pl',he',CZ,pN hpv hv'⟩
end
section
variable [Tok]
section
variable {ρ:Type}
def bK:Nat->Code->List (Nat× Code)
 |cb,.seq a b=>bK cb a++bK cb b
 |cb,.cond _ a b=>bK cb a++bK cb b
 |_,.block id c=>bK id c
 |cb,.scope c=>bK cb c
 |cb,.loop c=>[(cb,c)]
 |_,_=>[]
theorem b9 {E:Env} {LP:Nat->Ev ρ->Ev ρ}:∀(c:Code) (cb:Nat),(∀x∈bK cb c,Sound E.P (.loop x.2) (LP x.1 λst K=>ev E LP x.1 x.2 st K))->cG E LP cb c
 |.seq a b,cb,h=>⟨b9 a cb λx hx=>h x (by simp[bK,hx]),b9 b cb λx hx=>h x (by simp[bK,hx])⟩
 |.cond _ a b,cb,h=>⟨b9 a cb λx hx=>h x (by simp[bK,hx]),b9 b cb λx hx=>h x (by simp[bK,hx])⟩
 |.block id c,_,h=>b9 c id h
 |.scope c,cb,h=>b9 c cb h
 |.loop c,cb,h=>h (cb,c) (by simp[bK])
 |.skip,_,_=>trivial
 |.label _,_,_=>trivial
 |.region _ _ _,_,_=>trivial
 |.exit _,_,_=>trivial
 |.ret,_,_=>trivial
 |.rangeFunc _ _ _ _,_,_=>trivial
 |.goto _,_,_=>trivial
 |.refuse _,_,_=>trivial
def zW (p:Nat× Code->Prop):List (Nat× Code)->Prop
 |[]=>True
 |x::l=>p x/\zW p l
theorem pO {p:Nat× Code->Prop}:∀{l:List (Nat× Code)},zW p l->∀x∈l,p x
 |y::l,h,x,hx=>by
  rcases Dt.1 hx with rfl|hx
  ·exact h.1
  ·exact pO h.2 x hx
theorem wq {E:Env} {LP:Nat->Ev ρ->Ev ρ} {c:Code} {cb:Nat} {l:List (Nat× Code)} (hl:bK cb c=l)
  (h:zW (λx=>Sound E.P (.loop x.2) (LP x.1 λst K=>ev E LP x.1 x.2 st K)) l):cG E LP cb c:=
 b9 c cb (by rw[hl];exact pO h)
theorem bL {E:Env} {LP:Nat->Ev ρ->Ev ρ} {c:Code} {cb:Nat} (hl:bK cb c=[]):cG E LP cb c:=wq hl trivial
theorem xM {P:Program} {n g:Nat} {o o':Orc} (h:OrcOk P n o) (h':OrcOk P g o'):OrcOk P g (cond (Nat.beq g n) o o'):=by
 cases hb:Nat.beq g n
 ·exact h'
 ·have:g=n:=Dc hb;subst this;exact h
theorem zX {P:Program} {c:Code} {f:Ev ρ} {p V:Type} (hf:Sound P c f) {aY:List Nat} {co:List (b6× Co)} (kx:Ex->List Nat) (cx:Ex->List (b6× Co)) (k:Nat) {dec:Nat->NF->Option (p× V)} {tm:p× V->St}
  {g:p->V->(V->Option ρ)->(Ex->St->Option ρ)->Option ρ} (hd:∀n nf v,dec n nf=some v->bW aY n nf=tm v)
  (hg:∀(q:p) (v:V) (K K1:Ex->St->Option ρ),f (tm (q,v)) (λe st'=>match e with
    |.normal=>(jK aY co st').bind λnf=>K1 .normal (bW aY st'.n nf)
    |e=>(jK (kx e) (cx e) st').bind λnf=>K e (bW (kx e) st'.n nf))=g q v (λv'=>K1 .normal (tm (q,v'))) K):
  Sound P (.loop c) (jL aY co dec λpv K=>iter (λv next=>g pv.1 v next K) k pv.2):=
 nW hf kx cx k hd λpv K=>(jM (tm:=λv=>tm (pv.1,v)) (g:=λv next K=>g pv.1 v next K) (λv K K1 next hn=>by
  have:next=λv'=>K1 .normal (tm (pv.1,v')):=funext λv'=>(hn v').symm
  rw[this];exact hg pv.1 v K K1) K k pv.2).symm
theorem Bb {T:Type} {aY:List Nat} {N:Nat} {d:NF->Option T} {tm:T->St} (h:∀nf v,d nf=some v->bW aY N nf=tm v) (n:Nat) (nf:NF) (v:T)
  (e:cond (Nat.beq n N) (d nf) none=some v):bW aY n nf=tm v:=by
 cases hb:Nat.beq n N<;>simp only[hb,cond_true,cond_false]at e
 ·exact nomatch e
 ·have:n=N:=Dc hb;subst this;exact h nf v e
theorem j5 {A R:Type} {E:Env} (hE:ek E) {LP:Nat->Ev R->Ev R} {g:FuncId} {fn:Func} (hf:E.P.funcs[g]? =some fn) (hc:fn.body.isSome=true)
  (hnm:(fn.name== "runtime.NumGoroutine")=false) (ly:A->List Arg) (wY:List Arg->Option A) (hA:∀l a,wY l=some a->l=ly a)
  (hn:∀a,Nat.ble (ly a).length fn.ntmps=true) (hLP:cG E LP 0 (fn.body.getD .skip)) {rt:RT} {dec:Out->Option R} {enc:R->Out} (hd:∀o r,dec o=some r->o=enc r)
  {F:A->Option R} (h:∀a,ev E LP 0 (fn.body.getD .skip) (st0 fn (ly a)) (fin E.P fn rt dec)=F a):
  sH E.P g λ_ l K=>(wY l).bind λa=>(F a).bind λr=>K (enc r):=by
 intro ρ l K out hK;simp only[An]at hK;obtain⟨a,ha,r,hr,hK⟩:=hK;obtain⟨c,hcb⟩:=Option.isSome_iff_exists.1 hc
 have hgc:fn.body.getD .skip=c:=by rw[hcb];rfl
 rw[hA l a ha];exact⟨enc r,hK,tU hE hd hf hcb hnm (hn a) (hgc▸hLP) (by rw[<-hgc,h a];exact hr)⟩
theorem rk {A R:Type} {E:Env} (hE:ek E) {LP:Nat->Ev R->Ev R} {g:FuncId} {fn:Func} (hf:E.P.funcs[g]? =some fn) (hc:fn.body.isSome=true)
  (hnm:(fn.name== "runtime.NumGoroutine")=false) (ly:A->List SV) (blksOf:A->List Blk) (wY:List SV->List Blk->Option A) (hA:∀l b a,wY l b=some a->l=ly a/\b=blksOf a)
  (hn:∀a,Nat.ble (ly a).length fn.ntmps=true) (hLP:cG E LP 0 (fn.body.getD .skip)) {rt:RT} {ks:List KD} {dec:A->iu->Option R} {enc:A->R->iu}
  (hlen:∀a r,(enc a r).kept.length=(blksOf a).length) (hd:∀a o r,dec a o=some r->o=enc a r)
  {F:A->Option R} (h:∀a,ev E LP 0 (fn.body.getD .skip) (wX fn (ly a) (blksOf a)) (xJ E.P fn rt ks (dec a))=F a):
  vY E.P g λ_ l b K=>(wY l b).bind λa=>(F a).bind λr=>K (enc a r):=by
 intro ρ l b K out hK;simp only[An]at hK;obtain⟨a,ha,r,hr,hK⟩:=hK;obtain⟨c,hcb⟩:=Option.isSome_iff_exists.1 hc
 have hgc:fn.body.getD .skip=c:=by rw[hcb];rfl
 obtain⟨rfl,rfl⟩:=hA l b a ha;exact⟨enc a r,hK,wj hE (hd a) (hlen a r) hf hcb hnm (hn a) (hgc▸hLP) (by rw[<-hgc,h a];exact hr)⟩
def wu {α:Type}:Option α->Bool
 |some _=>true
 |none=>false
def rl {α:Type} [DecidableEq α] (x y:α):Bool:=decide (x=y)
end
end
section
variable [Tok]
section
variable {ρ:Type}
def Cu (f g:Ev ρ):Ev ρ:=λst K=>f st λe st'=>match e with
 |.normal=>g st' K
 |e=>K e st'
theorem pP {P:Program} {c:Code} {f:Ev ρ} (hf:Sound P c f) (aY:List Nat) (co:List (b6× Co)) (kx:Ex->List Nat) (cx:Ex->List (b6× Co)) (k:Nat) {w0:World} {fp0:G0} {bs:Cell->Prop} {n:Nat} {st:St} {a:Act} {w:World} {K:Ex->St->Option ρ} {out:ρ} {Q:Exit->Act->World->Prop}
  (hr:Rl w0 fp0 bs n st a w) (h:rf f aY co kx cx k st K=some out) (hK:∀e st' a' w',K e st'=some out->Rl w0 fp0 bs n st' a' w'->Q e.up a' w'):Code.rounds P c Q k a w:=by
 induction k generalizing st a w with
 |zero=>exact nomatch h
 |succ k ih=>
  rw[rounds_succ]
  exact hf w0 fp0 bs n st a w _ out _ hr h λe st' a' w' h' hr'=>by
   have hn:=hr'.BB
   cases e with
   |normal=>
    simp only[An]at h';obtain⟨nf,h1,h2⟩:=h';rw[hn]at h2
    exact ih (dV hr' h1) h2
   |exit j=>
    simp only[An]at h';obtain⟨nf,h1,h2⟩:=h';rw[hn]at h2
    exact hK (.exit j) _ a' w' h2 (dV hr' h1)
   |ret=>
    simp only[An]at h';obtain⟨nf,h1,h2⟩:=h';rw[hn]at h2;exact hK .ret _ a' w' h2 (dV hr' h1)
theorem zY {P:Program} {c:Code} {f:Ev ρ} {p V:Type} (hf:Sound P c f) {aY:List Nat} {co:List (b6× Co)} (kx:Ex->List Nat) (cx:Ex->List (b6× Co)) (k:Nat) {dec:Nat->NF->Option (p× V)} {tm:p× V->St}
  {g:p->V->(V->Option ρ)->(Ex->St->Option ρ)->Option ρ} (hd:∀n nf v,dec n nf=some v->bW aY n nf=tm v)
  (hg:∀(q:p) (v:V) (K K1:Ex->St->Option ρ),f (tm (q,v)) (λe st'=>match e with
    |.normal=>(jK aY co st').bind λnf=>K1 .normal (bW aY st'.n nf)
    |e=>(jK (kx e) (cx e) st').bind λnf=>K e (bW (kx e) st'.n nf))=g q v (λv'=>K1 .normal (tm (q,v'))) K):
  Sound P (.loop c) (Cu f (jL aY co dec λpv K=>iter (λv next=>g pv.1 v next K) k pv.2)):=by
 have eU:∀(pv:p× V) (K:Ex->St->Option ρ),iter (λv next=>g pv.1 v next K) k pv.2=rf f aY co kx cx k (tm pv) K:=λpv K=>(jM (tm:=λv=>tm (pv.1,v)) (g:=λv next K=>g pv.1 v next K) (λv K K1 next hn=>by
  have:next=λv'=>K1 .normal (tm (pv.1,v')):=funext λv'=>(hn v').symm
  rw[this];exact hg pv.1 v K K1) K k pv.2).symm
 intro w0 fp0 bs n st a w K out Q hr h hK;refine wp_loop_rounds (k+1) ?_;rw[rounds_succ];refine hf w0 fp0 bs n st a w _ out _ hr h λe st' a' w' h' hr'=>?_
 cases e with
 |normal=>
  simp only[jL,An]at h';obtain⟨nf,h1,v,h2,h3⟩:=h';have hn:=hr'.BB;rw[hn]at h2;rw[eU v K,<-hd n nf v h2]at h3
  exact pP hf aY co kx cx k (dV hr' h1) h3 hK
 |exit j=>exact hK (.exit j) st' a' w' h' hr'
 |ret=>exact hK .ret st' a' w' h' hr'
end
end
section
def Ty.plain:Ty->Bool
 |.tok=>false
 |.st .kz|.st .cg=>false
 |.sl t=>t.plain
 |.ho _|.hl _=>false
 |_=>true
def R.plain:R->Bool
 |.tok _=>false
 |.sl t _=>t.plain
 |_=>true
def lz:List R->Bool
 |[]=>true
 |r::l=>cond r.plain (lz l) false
def mS (i:Nat):List Nat->Bool
 |[]=>true
 |k::l=>cond (Nat.beq k i) false (mS i l)
mutual
def SV.less (k:Nat):SV->Bool
 |.r d x=>x.plain&&mS k d
 |.dc d cs=>lz cs&&mS k d
 |.inn _ _ _=>false
 |.agg cs=>l5 k cs
 |.tup cs=>l5 k cs
 |.fn _ a b=>l5 k a&&l5 k b
 |_=>true
def l5 (k:Nat):List SV->Bool
 |[]=>true
 |v::l=>v.less k&&l5 k l
end
def Blk.less (k:Nat):Blk->Bool
 |.box cs=>l5 k cs
 |.arr none t _=>t.plain
 |.arr (some d) t _=>t.plain&&mS k d
variable {ρ:Type}
section
variable [Tok]
theorem fo {k:Nat}:∀{d:List Nat},mS k d=true->mem k d=false
 |[],_=>rfl
 |x::l,h=>by
  simp only[mS]at h;cases hb:Nat.beq x k<;>simp only[hb,cond_true,cond_false]at h
  ·simp only[mem,hb,cond_false];exact fo h
  ·cases h
theorem gm:∀{l:List R},lz l=true->∀(j:Nat) (r:R),l[j]? =some r->r.plain=true
 |[],_,j,r,h=>by simp at h
 |x::l,h,j,r,hj=>by
  simp only[lz]at h;cases hx:x.plain<;>simp only[hx,cond_true,cond_false]at h
  ·cases h
  ·cases j with
   |zero=>grind
   |succ j=>exact gm h j r (by simpa using hj)
theorem fq {t:Ty} (h:t.plain=true) {xs:List t.El} {i j:Nat} {r:R} (hc:ae t xs i j r):r.plain=true:=by
 obtain⟨x,_,hr⟩:=hc;have hm:=Dp hr
 cases t with
 |tok=>cases h
 |ho s=>cases h
 |hl t=>cases h
 |sl t=>simp[Ty.cells]at hm;subst hm;exact h
 |int k=>simp[Ty.cells]at hm;subst hm;rfl
 |bool=>simp[Ty.cells]at hm;subst hm;rfl
 |str=>simp[Ty.cells]at hm;subst hm;rfl
 |st s=>
  have key:∀l:List R,lz l=true->r∈l->r.plain=true:=λl hl hrl=>by
   obtain⟨j,hj⟩:=DI hrl;exact gm hl j r hj
  cases s<;>first|(refine key _ ?_ hm;rfl)|exact nomatch h
theorem eO {k:Nat}:∀{l:List SV},l5 k l=true->∀(j:Nat) (x:SV),l[j]? =some x->x.less k=true
 |[],_,j,x,h=>by simp at h
 |v::l,h,j,x,hj=>by
  simp only[l5,De]at h
  cases j with
  |zero=>grind
  |succ j=>exact eO h.2 j x (by simpa using hj)
end
theorem jP {T T':Tok} {w:World} {ok:Cell->Prop} {r:R} {v:Value} (h:@cr T w ok r v):r.plain=true->@cr T' w ok r v:=by
 induction h with
 |int=>exactλ_=>.int _ _
 |bool=>exactλ_=>.bool _
 |str=>exactλ_=>.str _
 |tok=>exactλh=>nomatch h
 |eT v h=>exactλ_=>.eT v h
 |sl t xs a cap b o vs hcap ha hc _ ih=>exactλh=>.sl t xs a cap b o vs hcap ha hc λi j r hr=>ih i j r hr (fq h hr)
theorem tY {T T':Tok} {w:World} {r:R} {v:Value} {fp:Cell->Prop} (h:@bE T w r v fp):r.plain=true->@bE T' w r v fp:=by
 induction h with
 |int=>exactλ_=>.int _ _
 |bool=>exactλ_=>.bool _
 |str=>exactλ_=>.str _
 |tok=>exactλh=>nomatch h
 |eT v h=>exactλ_=>.eT v h
 |sl t xs a cap b o vs fs fp hcap ha dP hc _ hd1 hd2 hfp ih=>exactλh=>.sl t xs a cap b o vs fs fp hcap ha dP hc (λi j r hr=>ih i j r hr (fq h hr)) hd1 hd2 hfp
def Blk.sim:Blk->Blk->Prop
 |.box _,.box _=>True
 |.arr _ t xs,.arr _ t' ys=>t.sz=t'.sz/\xs.length=ys.length
 |_,_=>False
theorem rm {sh:Option (List Nat)} {t:Ty} {xs:List t.El} {B:Blk} (h:(Blk.arr sh t xs).sim B):∃sh' t' xs',B=.arr sh' t' xs'/\t.sz=t'.sz/\xs.length=xs'.length:=by
 cases B with
 |box=>exact h.elim
 |arr sh' t' xs'=>exact⟨sh',t',xs',rfl,h.1,h.2⟩
theorem yX {cs:List SV} {B:Blk} (h:(Blk.box cs).sim B):∃cs',B=.box cs':=by
 cases B with
 |box cs'=>grind
 |arr=>exact h.elim
theorem SVRep.move {T T':Tok} {w:World} {H H':Heap} {pl pl':Pl} {k:Nat} (hH:∀i B,look H i=some B->∃B',look H' i=some B'/\B.sim B') (hh:∀i,pl'.hdr i=pl.hdr i)
  (ho:∀d p,mem k d=false->okd H pl d p->okd H' pl' d p) {v:SV} {u:Value} (h:@SVRep T w H pl v u):v.less k=true->@SVRep T' w H' pl' v u:=by
 induction h with
 |r d x v hx=>
  intro hl;simp only[SV.less,De]at hl
  exact .r d x v ((jP hx hl.1).frame λp u hp hu=>⟨ho d p (fo hl.2) hp,hu⟩)
 |bq=>exactλ_=>.bq
 |fI=>exactλ_=>.fI
 |own i sh t xs hi=>
  intro _;obtain⟨B',h1,h2⟩:=hH i _ hi;obtain⟨sh',t',xs',rfl,h3,h4⟩:=rm h2;rw[<-hh i]
  exact .own i sh' t' xs' h1
 |sub i o n sh t xs a a' cap cf hi hhd hn hc hc' ha=>
  intro _;obtain⟨B',h1,h2⟩:=hH i _ hi;obtain⟨sh',t',xs',rfl,h3,h4⟩:=rm h2
  exact .sub i o n sh' t' xs' a a' cap cf h1 (by rw[hh i,hhd,h4]) (by omega) hc hc' (by rw[<-h3];exact ha)
 |bsl i n cs a hi hhd=>
  intro _;obtain⟨B',h1,h2⟩:=hH i _ hi;obtain⟨cs',rfl⟩:=yX h2
  exact .bsl i n cs' a h1 ((hh i).trans hhd)
 |ptrB i o cs b m hi hhd=>
  intro _;obtain⟨B',h1,h2⟩:=hH i _ hi;obtain⟨cs',rfl⟩:=yX h2
  exact .ptrB i o cs' b m h1 ((hh i).trans hhd)
 |gY i x o sh t xs b m n cap hi hx hhd=>
  intro _;obtain⟨B',h1,h2⟩:=hH i _ hi;obtain⟨sh',t',xs',rfl,h3,h4⟩:=rm h2;rw[h3]
  exact .gY i x o sh' t' xs' b m n cap h1 (by omega) ((hh i).trans hhd)
 |inn=>exactλh=>nomatch h
 |dc d cs b o vs hc hr=>
  intro hl;simp only[SV.less,De]at hl;have hk:=fo hl.2
  exact .dc d cs b o vs (λj r hj=>⟨ho d _ hk (hc j r hj).1,(hc j r hj).2⟩) λj r hj=>(jP (hr j r hj) (gm hl.1 j r hj)).frame λp u hp hu=>⟨ho d p hk hp,hu⟩
 |agg cs vs h1 h2 _ ih=>exactλhl=>.agg cs vs h1 h2 λj x v hx hv=>ih j x v hx hv (eO hl j x hx)
 |tup cs vs h1 _ ih=>exactλhl=>.tup cs vs h1 λj x v hx hv=>ih j x v hx hv (eO hl j x hx)
 |fn f as bs us vs h1 _ h2 _ ih1 ih2=>
  intro hl;have hl:(l5 k as&&l5 k bs)=true:=hl;rw[De]at hl
  exact .fn f as bs us vs h1 (λj x v hx hv=>ih1 j x v hx hv (eO hl.1 j x hx)) h2 λj x v hx hv=>ih2 j x v hx hv (eO hl.2 j x hx)
 |undef v=>exactλ_=>.undef v
theorem bg.move {T T':Tok} {w:World} {H H':Heap} {pl pl':Pl} {k i:Nat} (hH:∀i B,look H i=some B->∃B',look H' i=some B'/\B.sim B') (hh:∀i,pl'.hdr i=pl.hdr i)
  (ho:∀d p,mem k d=false->okd H pl d p->okd H' pl' d p) {B:Blk} (hf:pl'.fp i=pl.fp i) (h:@bg T w H pl i B) (hl:B.less k=true):@bg T' w H' pl' i B:=by
 cases B with
 |box cs=>
  obtain⟨b,o,h1,h2,h3⟩:=h;refine⟨b,o,(hh i).trans h1,λp=>by rw[hf];exact h2 p,λj v hv=>?_⟩;obtain⟨u,g1,g2,g3,g4⟩:=h3 j v hv
  exact⟨u,g1,g2,g3,g4.move hH hh ho (eO hl j v hv)⟩
 |arr sh t xs=>
  cases sh with
  |none=>
   obtain⟨⟨a,cap,b,o,vs,fs,q1,q2,q3,q4,q5,q6,q7,q8,q9⟩⟩:=h
   exact⟨⟨a,cap,b,o,vs,fs,(hh i).trans q1,q2,q3,q4,q5,λi j r hc=>tY (q6 i j r hc) (fq hl hc),q7,q8,λp=>by rw[hf];exact q9 p⟩⟩
  |some d=>
   simp only[Blk.less,De]at hl;obtain⟨⟨a,cap,b,o,vs,fs,q1,q2,q3,q4,q5,q6,q7,q8,q9⟩⟩:=h;exact⟨⟨a,cap,b,o,vs,fs,(hh i).trans q1,q2,q3,q4,q5,λi j r hc=>⟨(jP (q6 i j r hc).1 (fq hl.1 hc)).frame λp u hp hu=>⟨ho d p (fo hl.2) hp,hu⟩,(q6 i j r hc).2⟩,q7,q8,λp=>by rw[hf];exact q9 p⟩⟩
section
variable [Tok]
end
end
section
variable [Tok]
structure Cd (α:Type) where
 n:Nat
 to:α->List R
 of:List R->Option α
 h:∀rs a,of rs=some a->to a=rs
def R.one (k:IntKind):R->Option Int
 |.int k' n=>cond (decide (k'=k)) (some n) none
 |_=>none
def cdI (k:IntKind):Cd Int:=⟨1,λn=>[.int k n],λ
 |[.int k' n]=>cond (decide (k'=k)) (some n) none
 |_=>none,λrs a h=>by
  split at h
  ·rename_i k' n;by_cases c:k'=k
   ·rw[decide_eq_true c]at h;cases h;rw[c]
   ·rw[decide_eq_false c]at h;exact nomatch h
  ·exact nomatch h⟩
def cdZ:Cd Int:=cdI .i64
def cdB:Cd Bool:=⟨1,λb=>[.bool b],λ
 |[.bool b]=>some b
 |_=>none,λrs a h=>by
  split at h
  ·cases h;rfl
  ·exact nomatch h⟩
def cdL (t:Ty):Cd (List t.El):=⟨1,λxs=>[.sl t xs],λ
 |[r]=>r.asL t
 |_=>none,λrs a h=>by
  split at h
  ·rw[R.bB h]
  ·exact nomatch h⟩
def cdS (s:S):Cd s.E:=⟨s.sz,s.cells,λrs=>(Ty.st s).bF rs,λrs a h=>Ty.aI (.st s) rs a h⟩
def cdU:Cd Unit:=⟨0,λ_=>[],λ
 |[]=>some ()
 |_=>none,λrs a h=>by
  split at h
  ·rfl
  ·exact nomatch h⟩
def Cd.p {α β:Type} (A:Cd α) (B:Cd β):Cd (α× β):=⟨A.n+B.n,λx=>A.to x.1++B.to x.2,λrs=>(A.of (rs.take A.n)).bind λa=>(B.of (rs.drop A.n)).bind λb=>some (a,b),λrs x h=>by
 simp only[An,Da]at h;obtain⟨a,ha,b,hb,rfl⟩:=h
 rw[A.h _ _ ha,B.h _ _ hb,DZ]⟩
def Cd.m {α β:Type} (A:Cd α) (f:α->β) (g:β->α) (e:∀x,g (f x)=x):Cd β:=⟨A.n,λx=>A.to (g x),λrs=>(A.of rs).bind λa=>some (f a),λrs x h=>by
 simp only[An,Da]at h;obtain⟨a,ha,rfl⟩:=h
 rw[e,A.h _ _ ha]⟩
inductive Sk where
 |r (d:List Nat) (j:Nat)
 |v (x:SV)
 |sub (i j l:Nat)
 |ptr (i j o:Nat)
 |agg (l:List Sk)
 |tup (l:List Sk)
 |fn (f:Nat) (a b:List Sk)
 |dc (d js:List Nat)
inductive SkB where
 |box (l:List Sk)
 |arr (sh:Option (List Nat)) (t:Ty) (j:Nat)
abbrev Sk.h (j:Nat):Sk:=.r [] j
def hs (j:Nat):Nat->List Sk
 |0=>[]
 |n+1=>.r [] j::hs (j+1) n
abbrev Sk.own (i:Nat):Sk:=.v (.own i)
def R.tk:R->Nat
 |.tok n=>n
 |_=>0
def R.ls (t:Ty) (r:R):List t.El:=(r.asL t).getD []
def at0:List R->Nat->R
 |[],_=>.tok 0
 |r::_,0=>r
 |_::l,j+1=>at0 l j
def atL (f:Nat->R):List Nat->List R
 |[]=>[]
 |j::l=>f j::atL f l
mutual
def Sk.fill (f:Nat->R):Sk->SV
 |.r d j=>.r d (f j)
 |.v x=>x
 |.sub i j l=>.sub i (f j).tk (f l).tk
 |.ptr i j o=>.ptr i (f j).tk o
 |.agg l=>.agg (fF f l)
 |.tup l=>.tup (fF f l)
 |.fn g a b=>.fn (.func g) (fF f a) (fF f b)
 |.dc d js=>.dc d (atL f js)
def fF (f:Nat->R):List Sk->List SV
 |[]=>[]
 |s::l=>s.fill f::fF f l
end
def SkB.fill (f:Nat->R):SkB->Blk
 |.box l=>.box (fF f l)
 |.arr sh t j=>.arr sh t ((f j).ls t)
def iU (f:Nat->R):List SkB->List Blk
 |[]=>[]
 |b::l=>b.fill f::iU f l
abbrev Ps:=List (Nat× R)
def eqL:List Nat->List Nat->Bool
 |[],[]=>true
 |a::l,b::m=>cond (Nat.beq a b) (eqL l m) false
 |_,_=>false
def xN:SV->SV->Bool
 |.own i,.own j=>Nat.beq i j
 |.bq,.bq=>true
 |.fI,.fI=>true
 |.undef,.undef=>true
 |.ptr i x o,.ptr i' x' o'=>cond (Nat.beq i i') (cond (Nat.beq x x') (Nat.beq o o') false) false
 |.bsl i n,.bsl i' n'=>cond (Nat.beq i i') (Nat.beq n n') false
 |_,_=>false
def BC:List Nat->List R->Option Ps
 |[],[]=>some []
 |j::l,r::m=>(BC l m).bind λq=>some ((j,r)::q)
 |_,_=>none
mutual
def Sk.mt:Sk->SV->Option Ps
 |.r d j,v=>match v with
  |.r d' x=>cond (eqL d d') (some [(j,x)]) none
  |_=>none
 |.v x,v=>cond (xN x v) (some []) none
 |.sub i j l,v=>match v with
  |.sub i' o n=>cond (Nat.beq i i') (some [(j,.tok o),(l,.tok n)]) none
  |_=>none
 |.ptr i j o,v=>match v with
  |.ptr i' x o'=>cond (Nat.beq i i') (cond (Nat.beq o o') (some [(j,.tok x)]) none) none
  |_=>none
 |.agg l,v=>match v with
  |.agg cs=>mtL l cs
  |_=>none
 |.tup l,v=>match v with
  |.tup cs=>mtL l cs
  |_=>none
 |.fn g a b,v=>match v with
  |.fn (.func g') a' b'=>cond (Nat.beq g g') ((mtL a a').bind λp=>(mtL b b').bind λq=>some (p++q)) none
  |_=>none
 |.dc d js,v=>match v with
  |.dc d' cs=>cond (eqL d d') (BC js cs) none
  |_=>none
def mtL:List Sk->List SV->Option Ps
 |[],l=>match l with
  |[]=>some []
  |_=>none
 |s::m,l=>match l with
  |v::l=>(s.mt v).bind λp=>(mtL m l).bind λq=>some (p++q)
  |_=>none
end
def B5:Option (List Nat)->Option (List Nat)->Bool
 |none,none=>true
 |some a,some b=>eqL a b
 |_,_=>false
def SkB.mt:SkB->Blk->Option Ps
 |.box l,b=>match b with
  |.box cs=>mtL l cs
  |_=>none
 |.arr sh t j,b=>match b with
  |.arr sh' t' xs=>cond (B5 sh sh') (cond (decide (t'=t)) (some [(j,.sl t' xs)]) none) none
  |_=>none
def mtB:List SkB->List Blk->Option Ps
 |[],l=>match l with
  |[]=>some []
  |_=>none
 |s::m,l=>match l with
  |v::l=>(s.mt v).bind λp=>(mtB m l).bind λq=>some (p++q)
  |_=>none
theorem pQ:∀{a b:List Nat},eqL a b=true->a=b
 |[],[],_=>rfl
 |[],_::_,h=>nomatch h
 |_::_,[],h=>nomatch h
 |a::l,b::m,h=>by
  simp only[eqL]at h;cases hb:Nat.beq a b<;>rw[hb]at h<;>simp only[cond_true,cond_false]at h
  ·exact nomatch h
  ·rw[Dc hb,pQ h]
theorem zZ {a b:Option (List Nat)} (h:B5 a b=true):a=b:=by
 cases a with
 |none=>cases b with
  |none=>rfl
  |some _=>exact nomatch h
 |some x=>cases b with
  |none=>exact nomatch h
  |some y=>exact congrArg some (pQ h)
theorem xO {a b:SV} (h:xN a b=true):a=b:=by
 unfold xN at h;split at h
 ·rw[Dc h]
 ·rfl
 ·rfl
 ·rfl
 ·rename_i i x o i' x' o';cases h1:Nat.beq i i'<;>rw[h1]at h<;>simp only[cond_true,cond_false]at h
  ·exact nomatch h
  ·cases h2:Nat.beq x x'<;>rw[h2]at h<;>simp only[cond_true,cond_false]at h
   ·exact nomatch h
   ·rw[Dc h1,Dc h2,Dc h]
 ·rename_i i n i' n';cases h1:Nat.beq i i'<;>rw[h1]at h<;>simp only[cond_true,cond_false]at h
  ·exact nomatch h
  ·rw[Dc h1,Dc h]
 ·exact nomatch h
def dY (f:Nat->R) (ps:Ps):Prop:=∀p∈ps,f p.1=p.2
theorem dY.left {f:Nat->R} {p q:Ps} (h:dY f (p++q)):dY f p:=λx hx=>h x (List.mem_append_left _ hx)
theorem dY.right {f:Nat->R} {p q:Ps} (h:dY f (p++q)):dY f q:=λx hx=>h x (List.mem_append_right _ hx)
theorem wv {f:Nat->R}:∀{js:List Nat} {cs:List R} {ps:Ps},BC js cs=some ps->dY f ps->atL f js=cs
 |[],[],_,_,_=>rfl
 |[],_::_,_,h,_=>nomatch h
 |_::_,[],_,h,_=>nomatch h
 |j::l,r::m,ps,h,hf=>by
  simp only[BC,An,Da]at h;obtain⟨q,hq,rfl⟩:=h;rw[atL,wv hq λp hp=>hf p (DJ _ hp),hf (j,r) DF]
mutual
theorem Sk.tZ {f:Nat->R}:(s:Sk)->{v:SV}->{ps:Ps}->s.mt v=some ps->dY f ps->s.fill f=v
 |.r d j,v,ps,h,hf=>by
  simp only[Sk.mt]at h;split at h
  ·rename_i d' x;cases hd:eqL d d'<;>rw[hd]at h<;>simp only[cond_true,cond_false]at h
   ·exact nomatch h
   ·cases h;rw[Sk.fill,pQ hd,hf (j,x) DF]
  ·exact nomatch h
 |.v x,v,ps,h,hf=>by
  simp only[Sk.mt]at h;cases hd:xN x v<;>rw[hd]at h<;>simp only[cond_true,cond_false]at h
  ·exact nomatch h
  ·rw[Sk.fill,xO hd]
 |.sub i j l,v,ps,h,hf=>by
  simp only[Sk.mt]at h;split at h
  ·rename_i i' o n;cases hd:Nat.beq i i'<;>rw[hd]at h<;>simp only[cond_true,cond_false]at h
   ·exact nomatch h
   ·cases h;rw[Sk.fill,Dc hd,hf (j,.tok o) DF,hf (l,.tok n) (DJ _ DF)];rfl
  ·exact nomatch h
 |.ptr i j o,v,ps,h,hf=>by
  simp only[Sk.mt]at h;split at h
  ·rename_i i' x o';cases hd:Nat.beq i i'<;>rw[hd]at h<;>simp only[cond_true,cond_false]at h
   ·exact nomatch h
   ·cases hd2:Nat.beq o o'<;>rw[hd2]at h<;>simp only[cond_true,cond_false]at h
    ·exact nomatch h
    ·cases h;rw[Sk.fill,Dc hd,Dc hd2,hf (j,.tok x) DF];rfl
  ·exact nomatch h
 |.agg l,v,ps,h,hf=>by
  simp only[Sk.mt]at h;split at h
  ·rw[Sk.fill,j6 l h hf]
  ·exact nomatch h
 |.tup l,v,ps,h,hf=>by
  simp only[Sk.mt]at h;split at h
  ·rw[Sk.fill,j6 l h hf]
  ·exact nomatch h
 |.fn g a b,v,ps,h,hf=>by
  simp only[Sk.mt]at h;split at h
  ·rename_i g' a' b';cases hd:Nat.beq g g'<;>rw[hd]at h<;>simp only[cond_true,cond_false]at h
   ·exact nomatch h
   ·simp only[An,Da]at h;obtain⟨p,hp,q,hq,rfl⟩:=h;rw[Sk.fill,Dc hd,j6 a hp hf.left,j6 b hq hf.right]
  ·exact nomatch h
 |.dc d js,v,ps,h,hf=>by
  simp only[Sk.mt]at h;split at h
  ·rename_i d' cs;cases hd:eqL d d'<;>rw[hd]at h<;>simp only[cond_true,cond_false]at h
   ·exact nomatch h
   ·rw[Sk.fill,pQ hd,wv h hf]
  ·exact nomatch h
theorem j6 {f:Nat->R}:(s:List Sk)->{v:List SV}->{ps:Ps}->mtL s v=some ps->dY f ps->fF f s=v
 |[],v,ps,h,hf=>by
  simp only[mtL]at h;split at h
  ·rfl
  ·exact nomatch h
 |s::m,v,ps,h,hf=>by
  simp only[mtL]at h;split at h
  ·simp only[An,Da]at h;obtain⟨p,hp,q,hq,rfl⟩:=h;rw[fF,Sk.tZ s hp hf.left,j6 m hq hf.right]
  ·exact nomatch h
end
theorem SkB.tZ {f:Nat->R} (s:SkB) {b:Blk} {ps:Ps} (h:s.mt b=some ps) (hf:dY f ps):s.fill f=b:=by
 cases s with
 |box l=>
  simp only[SkB.mt]at h;split at h
  ·rw[SkB.fill,j6 l h hf]
  ·exact nomatch h
 |arr sh t j=>
  simp only[SkB.mt]at h;split at h
  ·rename_i sh' t' xs;cases hd:B5 sh sh'<;>rw[hd]at h<;>simp only[cond_true,cond_false]at h
   ·exact nomatch h
   ·by_cases c:t'=t
    ·subst c;rw[decide_eq_true rfl]at h;cases h;rw[SkB.fill,zZ hd,hf (j,.sl t' xs) DF];simp[R.ls,R.asL]
    ·rw[decide_eq_false c]at h;exact nomatch h
  ·exact nomatch h
theorem pR {f:Nat->R}:(s:List SkB)->{v:List Blk}->{ps:Ps}->mtB s v=some ps->dY f ps->iU f s=v
 |[],v,ps,h,hf=>by
  simp only[mtB]at h;split at h
  ·rfl
  ·exact nomatch h
 |s::m,v,ps,h,hf=>by
  simp only[mtB]at h;split at h
  ·simp only[An,Da]at h;obtain⟨p,hp,q,hq,rfl⟩:=h;rw[iU,SkB.tZ s hp hf.left,pR m hq hf.right]
  ·exact nomatch h
def ord (ps:Ps):Nat->Nat->Option (List R)
 |_,0=>some []
 |j,n+1=>(look ps j).bind λr=>(ord ps (j+1) n).bind λl=>some (r::l)
theorem yY {ps:Ps}:∀{n j:Nat} {rs:List R},ord ps j n=some rs->∀i,i<n->look ps (j+i)=some (at0 rs i)
 |0,_,_,_,i,hi=>absurd hi (Nat.not_lt_zero _)
 |n+1,j,rs,h,i,hi=>by
  simp only[ord,An,Da]at h;obtain⟨r,hr,l,hl,rfl⟩:=h
  cases i with
  |zero=>exact hr
  |succ i=>have:=yY hl i (by omega);rwa [show j+1+i=j+(i+1)from by omega]at this
def wx (n:Nat):Ps->Bool
 |[]=>true
 |(j,_)::l=>cond (Nat.ble (j+1) n) (cond (wu (look l j)) false (wx n l)) false
theorem mT {n:Nat}:∀{ps:Ps},wx n ps=true->∀p∈ps,p.1<n/\look ps p.1=some p.2
  |[],_,_,h=>nomatch h
  | (j, r) :: l, h, p, hp => by
    simp only[wx]at h;cases h1:Nat.ble (j+1) n<;>rw[h1]at h<;>simp only[cond_true,cond_false]at h
    · exact nomatch h
    · cases h2:wu (look l j)<;>rw[h2]at h<;>simp only[cond_true,cond_false]at h
      · rcases Dt.1 hp with rfl|hp
        · exact⟨Dl h1,by simp[look]⟩
        · obtain⟨g1,g2⟩:=mT h p hp;refine⟨g1,?_⟩;rw[look_cons];by_cases c:j=p.1
          · subst c;rw[g2]at h2;exact nomatch h2
          · rw[if_neg c];exact g2
      · exact nomatch h
def rd {α:Type} (c:Cd α) (ps:Ps):Option α:=cond (wx c.n ps) ((ord ps 0 c.n).bind c.of) none
theorem n9 {α:Type} {c:Cd α} {ps:Ps} {a:α} (h:rd c ps=some a):dY (at0 (c.to a)) ps:=by
 unfold rd at h;cases hk:wx c.n ps<;>rw[hk]at h<;>simp only[cond_true,cond_false]at h
 ·exact nomatch h
 ·rw[An]at h;obtain⟨rs,hrs,ha⟩:=h;intro p hp;obtain⟨g1,g2⟩:=mT hk p hp;have:=yY hrs p.1 g1;rw[Di,g2]at this;rw[c.h _ _ ha];exact(D2 this).symm
end
section
variable [Tok]
structure SkI where
 a:List Sk
 b:List SkB
structure SkO where
 v:Sk
 kept:List (Option SkB)
 news:List SkB
def SkI.wY {A:Type} (i:SkI) (c:Cd A) (l:List SV) (b:List Blk):Option A:=(mtL i.a l).bind λp=>(mtB i.b b).bind λq=>rd c (p++q)
theorem SkI.z0 {A:Type} {i:SkI} {c:Cd A} {l:List SV} {b:List Blk} {a:A} (h:i.wY c l b=some a):l=fF (at0 (c.to a)) i.a/\b=iU (at0 (c.to a)) i.b:=by
 simp only[SkI.wY,An]at h;obtain⟨p,hp,q,hq,h⟩:=h;have:=n9 h;exact⟨(j6 _ hp this.left).symm,(pR _ hq this.right).symm⟩
def rn (f:Nat->R):List (Option SkB)->List (Option Blk)
 |[]=>[]
 |none::l=>none::rn f l
 |some b::l=>some (b.fill f)::rn f l
def mtK:List (Option SkB)->List (Option Blk)->Option Ps
 |[],l=>match l with
  |[]=>some []
  |_=>none
 |none::m,l=>match l with
  |none::l=>mtK m l
  |_=>none
 |some s::m,l=>match l with
  |some b::l=>(s.mt b).bind λp=>(mtK m l).bind λq=>some (p++q)
  |_=>none
theorem wy {f:Nat->R}:(s:List (Option SkB))->{v:List (Option Blk)}->{ps:Ps}->mtK s v=some ps->dY f ps->rn f s=v
 |[],v,ps,h,hf=>by
  simp only[mtK]at h;split at h
  ·rfl
  ·exact nomatch h
 |none::m,v,ps,h,hf=>by
  simp only[mtK]at h;split at h
  ·rw[rn,wy m h hf]
  ·exact nomatch h
 |some s::m,v,ps,h,hf=>by
  simp only[mtK]at h;split at h
  ·simp only[An,Da]at h;obtain⟨p,hp,q,hq,rfl⟩:=h;rw[rn,SkB.tZ s hp hf.left,wy m hq hf.right]
  ·exact nomatch h
theorem gn {f:Nat->R}:(s:List (Option SkB))->(rn f s).length=s.length
 |[]=>rfl
 |none::l=>congrArg (·+1) (gn l)
 |some _::l=>congrArg (·+1) (gn l)
theorem j7 {f:Nat->R}:(s:List SkB)->(iU f s).length=s.length
 |[]=>rfl
 |_::l=>congrArg (·+1) (j7 l)
def S.dec:(s:S)->DecidableEq s.E
 |.shape=>(inferInstance:DecidableEq Shape)|.ax=>(inferInstance:DecidableEq aa)|.fH=>(inferInstance:DecidableEq dx)|.model=>(inferInstance:DecidableEq Model)|.task=>(inferInstance:DecidableEq Task)|.request=>(inferInstance:DecidableEq Request)
 |.step=>(inferInstance:DecidableEq Step)|.event=>(inferInstance:DecidableEq Event)|.entry=>(inferInstance:DecidableEq Entry)|.rO=>(inferInstance:DecidableEq zg)|.kz=>(inferInstance:DecidableEq uE)|.cg=>(inferInstance:DecidableEq iw)
def Ty.dec:(t:Ty)->DecidableEq t.El
 |.int _=>(inferInstance:DecidableEq Int)
 |.bool=>(inferInstance:DecidableEq Bool)
 |.str=>(inferInstance:DecidableEq (List UInt8))
 |.sl t=>@instDecidableEqList _ t.dec
 |.st s=>s.dec
 |.tok=>(inferInstance:DecidableEq Nat)
 |.ho s=>letI:=s.dec;(inferInstance:DecidableEq (Option s.E))
 |.hl t=>letI:=t.dec;(inferInstance:DecidableEq (Option (List t.El)))
def z4 {α:Type} (z e:R) (K:Option α):Option α:=
 match z,e with
 |.int k a,.int k' b=>cond (decide (k=k')) (cond (rl a b) K none) none
 |.bool a,.bool b=>cond (rl a b) K none
 |.str a,.str b=>cond (rl a b) K none
 |.tok a,.tok b=>cond (rl a b) K none
 |.sl t a,.sl t' b=>if h:t'=t then cond (@rl _ (@instDecidableEqList _ t.dec) a (h▸b)) K none else none
 |_,_=>none
theorem xP {α:Type} {z e:R} {K:Option α} {x:α} (h:z4 z e K=some x):z=e/\K=some x:=by
 unfold z4 at h
 have go:∀{β:Type} [DecidableEq β] {a b:β} {K:Option α},cond (rl a b) K none=some x->a=b/\K=some x:=λ{β} _ {a b K} h=>by
  unfold rl at h;by_cases c:a=b
  ·rw[decide_eq_true c]at h;exact⟨c,h⟩
  ·rw[decide_eq_false c]at h;exact nomatch h
 split at h
 ·rename_i k a k' b;by_cases c:k=k'
  ·rw[decide_eq_true c]at h;obtain⟨h1,h2⟩:=go h;exact⟨by rw[c,h1],h2⟩
  ·rw[decide_eq_false c]at h;exact nomatch h
 ·obtain⟨h1,h2⟩:=go h;exact⟨by rw[h1],h2⟩
 ·obtain⟨h1,h2⟩:=go h;exact⟨by rw[h1],h2⟩
 ·obtain⟨h1,h2⟩:=go h;exact⟨by rw[h1],h2⟩
 ·split at h
  ·rename_i t a t' b c;subst c;obtain⟨h1,h2⟩:=@go _ (@instDecidableEqList _ (Ty.dec _)) _ _ _ h;exact⟨by rw[h1],h2⟩
  ·exact nomatch h
 ·exact nomatch h
def Bc {α:Type} (n:Nat) (f:Nat->R):Ps->(Ps->Option α)->Option α
 |[],K=>K []
 |(j,z)::l,K=>cond (Nat.ble (j+1) n) (z4 z (f j) (Bc n f l K)) (Bc n f l λq=>K ((j-n,z)::q))
theorem rp {α:Type} {n:Nat} {f:Nat->R} {x:α}:∀{ps:Ps} {K:Ps->Option α},Bc n f ps K=some x->∃q,K q=some x/\∀p∈ps,(p.1<n/\f p.1=p.2)\/(n<=p.1/\(p.1-n,p.2)∈q)
  |[],K,h=>⟨[],h,λ_ hp=>nomatch hp⟩
  | (j, z) :: l, K, h => by
    simp only[Bc]at h;cases hb:Nat.ble (j+1) n<;>rw[hb]at h<;>simp only[cond_true,cond_false]at h
    · obtain⟨q,hq,hp⟩:=rp h;refine⟨_,hq,λp h=>?_⟩
      rcases Dt.1 h with rfl|h
      · have:¬j+1<=n:=λc=>by rw[DT c]at hb;exact nomatch hb
        exact .inr ⟨by simp only;omega,DF⟩
      · rcases hp p h with h|⟨h1,h2⟩
        · exact .inl h
        · exact .inr ⟨h1,DJ _ h2⟩
    · obtain⟨h1,h2⟩:=xP h;obtain⟨q,hq,hp⟩:=rp h2;refine⟨q,hq,λp h=>?_⟩
      rcases Dt.1 h with rfl|h
      · exact .inl ⟨Dl hb,h1.symm⟩
      · exact hp p h
theorem wz:∀(l m:List R) (j:Nat),at0 (l++m) j=if j<l.length then at0 l j else at0 m (j-l.length)
 |[],m,j=>by simp
 |r::l,m,0=>by simp[at0]
 |r::l,m,j+1=>by
  rw[D0,at0,wz l m j];by_cases c:j<l.length
  ·rw[if_pos c,if_pos (by simpa using c),at0]
  ·rw[if_neg c,if_neg (by simpa using c),DP,Nat.add_sub_add_right]
def Bd {A B:Type} (cA:Cd A) (cB:Cd B) (a:A) (b:B):Nat->R:=at0 (cA.to a++cB.to b)
def SkO.enc {A B:Type} (o:SkO) (cA:Cd A) (cB:Cd B) (a:A) (b:B):iu:=⟨o.v.fill (Bd cA cB a b),rn (Bd cA cB a b) o.kept,iU (Bd cA cB a b) o.news⟩
def SkO.dec {A B:Type} (o:SkO) (cA:Cd A) (cB:Cd B) (a:A) (m:iu):Option B:=
  (o.v.mt m.v).bind λp=>(mtK o.kept m.kept).bind λq=>(mtB o.news m.news).bind λr=>
    cond (Nat.beq (cA.to a).length cA.n) (Bc cA.n (at0 (cA.to a)) (p++(q++r)) (rd cB)) none
theorem SkO.pS {A B:Type} {o:SkO} {cA:Cd A} {cB:Cd B} {a:A} {m:iu} {b:B} (h:o.dec cA cB a m=some b):m=o.enc cA cB a b:=by
 simp only[SkO.dec,An]at h;obtain⟨p,hp,q,hq,r,hr,h⟩:=h;cases hb:Nat.beq (cA.to a).length cA.n<;>rw[hb]at h<;>simp only[cond_true,cond_false]at h
 ·exact nomatch h
 have hn:=Dc hb;obtain⟨s,hs,hf⟩:=rp h;have hr':=n9 hs
 have hF:dY (Bd cA cB a b) (p++(q++r)):=λx hx=>by
  unfold Bd;rw[wz,hn]
  rcases hf x hx with⟨h1,h2⟩|⟨h1,h2⟩
  ·rw[if_pos h1,h2]
  ·rw[if_neg (by omega)];exact hr' _ h2
 cases m;simp only[SkO.enc,Sk.tZ _ hp hF.left,wy _ hq hF.right.left,pR _ hr hF.right.right]
def gM {A B:Type} (i:SkI) (cA:Cd A) (o:SkO) (cB:Cd B) (F:A->Option B):MG:=λ_ l b K=>(i.wY cA l b).bind λa=>(F a).bind λr=>K (o.enc cA cB a r)
def oM {A B:Type} (pr:List Pr) (i:SkI) (cA:Cd A) (o:SkO) (cB:Cd B) (F:A->Option B):Orc:=v9 pr (gM i cA o cB F)
theorem Cv {A B:Type} {E:Env} (hE:ek E) {LP:Nat->Ev B->Ev B} {g:FuncId} {fn:Func} (hf:E.P.funcs[g]? =some fn) (hc:fn.body.isSome=true) (hnm:(fn.name== "runtime.NumGoroutine")=false)
  {i:SkI} {cA:Cd A} {o:SkO} {cB:Cd B} {F:A->Option B} (hn:Nat.ble i.a.length fn.ntmps=true) (hl:Nat.beq o.kept.length i.b.length=true)
  (hLP:cG E LP 0 (fn.body.getD .skip)) (rt:RT) (ks:List KD)
  (h:∀a,ev E LP 0 (fn.body.getD .skip) (wX fn (fF (at0 (cA.to a)) i.a) (iU (at0 (cA.to a)) i.b)) (xJ E.P fn rt ks (o.dec cA cB a))=F a):
  vY E.P g (gM i cA o cB F):=by
 have hln:∀(f:Nat->R) (l:List Sk),(fF f l).length=l.length:=λf l=>by
  induction l with
  |nil=>rfl
  |cons s l ih=>rw[fF,DP,ih];rfl
 exact rk hE hf hc hnm (λa=>fF (at0 (cA.to a)) i.a) (λa=>iU (at0 (cA.to a)) i.b) (i.wY cA) (λl b a h=>SkI.z0 h)
  (λa=>by rw[hln];exact hn) hLP (enc:=o.enc cA cB) (λa r=>by simp only[SkO.enc,gn,j7];exact Dc hl) (λa m r h=>SkO.pS h) h
def gp:List Sh->List Nat->List R->List Arg
 |.one _::l,fs,r::rs=>.one r::gp l fs rs
 |.agg ts::l,fs,rs=>.agg (rs.take ts.length)::gp l fs (rs.drop ts.length)
 |.fn::l,f::fs,rs=>.fn (.func f) [] []::gp l fs rs
 |_,_,_=>[]
def rsP:List Sh->List Nat->List Arg->Option (List R)
 |[],_,l=>match l with
  |[]=>some []
  |_=>none
 |.one _::m,fs,l=>match l with
  |.one r::l=>(rsP m fs l).bind λq=>some (r::q)
  |_=>none
 |.agg ts::m,fs,l=>match l with
  |.agg rs::l=>cond (Nat.beq rs.length ts.length) ((rsP m fs l).bind λq=>some (rs++q)) none
  |_=>none
 |.fn::m,fs,l=>match fs,l with
  |f::fs,.fn (.func g) [] []::l=>cond (Nat.beq g f) (rsP m fs l) none
  |_,_=>none
theorem pT:∀{sh:List Sh} {fs:List Nat} {l:List Arg} {rs:List R},rsP sh fs l=some rs->gp sh fs rs=l
 |[],fs,l,rs,h=>by
  simp only[rsP]at h;split at h
  ·cases fs<;>rfl
  ·exact nomatch h
 |.one t::m,fs,l,rs,h=>by
  simp only[rsP]at h;split at h
  ·simp only[An,Da]at h;obtain⟨q,hq,rfl⟩:=h;rw[gp,pT hq]
  ·exact nomatch h
 |.agg ts::m,fs,l,rs,h=>by
  simp only[rsP]at h;split at h
  ·rename_i rs' l';cases hb:Nat.beq rs'.length ts.length<;>rw[hb]at h<;>simp only[cond_true,cond_false]at h
   ·exact nomatch h
   ·simp only[An,Da]at h;obtain⟨q,hq,rfl⟩:=h;have e:=Dc hb;rw[gp,<-e,List.take_left,List.drop_left,pT hq]
  ·exact nomatch h
 |.fn::m,fs,l,rs,h=>by
  simp only[rsP]at h;split at h
  ·rename_i f fs g l';cases hb:Nat.beq g f<;>rw[hb]at h<;>simp only[cond_true,cond_false]at h
   ·exact nomatch h
   ·rw[gp,pT h,Dc hb]
  ·exact nomatch h
theorem dZ:∀(sh:List Sh) (fs:List Nat) (rs:List R),(gp sh fs rs).length<=sh.length
 |[],fs,rs=>by simp[gp]
 |.one _::l,fs,r::rs=>Nat.succ_le_succ (dZ l fs rs)
 |.one _::_,_,[]=>by simp[gp]
 |.agg ts::l,fs,rs=>Nat.succ_le_succ (dZ l fs _)
 |.fn::l,f::fs,rs=>Nat.succ_le_succ (dZ l fs rs)
 |.fn::_,[],_=>by simp[gp]
structure SkP where
 v:Sk
 news:List SkB:=[]
def SkP.enc {B:Type} (o:SkP) (cB:Cd B) (b:B):Out:=(o.v.fill (at0 (cB.to b)),iU (at0 (cB.to b)) o.news)
def SkP.dec {B:Type} (o:SkP) (cB:Cd B) (m:Out):Option B:=(o.v.mt m.1).bind λp=>(mtB o.news m.2).bind λr=>rd cB (p++r)
theorem SkP.pS {B:Type} {o:SkP} {cB:Cd B} {m:Out} {b:B} (h:o.dec cB m=some b):m=o.enc cB b:=by
 simp only[SkP.dec,An]at h;obtain⟨p,hp,r,hr,h⟩:=h;have hF:=n9 h;cases m;simp only[SkP.enc,Sk.tZ _ hp hF.left,pR _ hr hF.right]
def oP {A B:Type} (sh:List Sh) (fs:List Nat) (cA:Cd A) (o:SkP) (cB:Cd B) (F:A->Option B):Orc:=rb sh λ_ l K=>((rsP sh fs l).bind cA.of).bind λa=>(F a).bind λr=>K (o.enc cB r)
theorem okP {A B:Type} {E:Env} (hE:ek E) {LP:Nat->Ev B->Ev B} {g:FuncId} {fn:Func} (hf:E.P.funcs[g]? =some fn) (hc:fn.body.isSome=true) (hnm:(fn.name== "runtime.NumGoroutine")=false)
  {sh:List Sh} {fs:List Nat} {cA:Cd A} {o:SkP} {cB:Cd B} {F:A->Option B} (hn:Nat.ble sh.length fn.ntmps=true)
  (hLP:cG E LP 0 (fn.body.getD .skip)) (rt:RT)
  (h:∀a,ev E LP 0 (fn.body.getD .skip) (st0 fn (gp sh fs (cA.to a))) (fin E.P fn rt (o.dec cB))=F a):
  OrcOk E.P g (oP sh fs cA o cB F):=
 mK (j5 hE hf hc hnm (λa=>gp sh fs (cA.to a)) (λl=>(rsP sh fs l).bind cA.of) (λl a h=>by
  rw[An]at h;obtain⟨rs,h1,h2⟩:=h
  rw[cA.h _ _ h2,pT h1]) (λa=>DT (Es (dZ _ _ _) (Dl hn))) hLP (λm r h=>SkP.pS h) h)
end
section
variable [Tok]
structure O (P:Program) (g:FuncId) where
 o:Orc
 ok:OrcOk P g o
abbrev OL (P:Program):=List (Sigma λg=>O P g)
def B6 {P:Program}:OL P->FuncId->Orc
 |[],_=>Ax
 |⟨n,x⟩::l,g=>cond (Nat.beq g n) x.o (B6 l g)
theorem rq {P:Program}:∀(l:OL P) (g:FuncId),OrcOk P g (B6 l g)
 |[],g=>xp P g
 |⟨_,x⟩::l,g=>xM x.ok (rq l g)
def mU {P:Program} (tt:TT) (l:OL P):Env:={P:=P,tt:=tt,orc:=B6 l}
structure wA where
 f:Env->Env
 hP:∀E,(f E).P=E.P:=by exactλ_=>rfl
 hO:∀E,(f E).orc=E.orc:=by exactλ_=>rfl
def wA.id:wA:={f:=λE=>E}
def wA.w (l:List Nat):wA:={f:=λE=>{E with wr:=λg=>mem g l,wt:=true}}
theorem im {P:Program} (tt:TT) (l:OL P) (m:wA):ek (m.f (mU tt l)):=by
 intro g;rw[m.hO,m.hP];exact rq l g
def O.inn {P:Program} {g:FuncId} (a:O P g):O P g:=⟨wm a.o,wo a.ok⟩
def yZ (fn:Func) (n:Nat):Bool:=fn.body.isSome&&(!(fn.name== "runtime.NumGoroutine")&&Nat.ble n fn.ntmps)
theorem iV {fn:Func} {n:Nat} (h:yZ fn n=true):fn.body.isSome=true/\(fn.name== "runtime.NumGoroutine")=false/\Nat.ble n fn.ntmps=true:=by
 simp only[yZ,De,Bool.not_eq_true']at h;exact⟨h.1,h.2.1,h.2.2⟩
def ua (ρ:Type):Nat->Ev ρ->Ev ρ:=λ_ _ _ _=>none
def ov {A B:Type} {P:Program} (tt:TT) (l:OL P) (m:wA) {g:FuncId} {fn:Func} (hf:P.funcs[g]? =some fn) (sh:List Sh) (cA:Cd A) (o:SkP) (cB:Cd B) (rt:RT) (F:A->Option B) (fs:List Nat:=[])
    (hk:(yZ fn sh.length&&isNil (bK 0 (fn.body.getD .skip)))=true:=by kernel_rfl)
    (h:∀a,ev (m.f (mU tt l)) (ua B) 0 (fn.body.getD .skip) (st0 fn (gp sh fs (cA.to a))) (fin P fn rt (o.dec cB))=F a:=by intro a;kernel_rfl):O P g:=
  ⟨oP sh fs cA o cB F,by
    rw[De]at hk;obtain⟨h1,h2,h3⟩:=iV hk.1;have e:(m.f (mU tt l)).P=P:=m.hP _;have:=okP (E:=m.f (mU tt l)) (sh:=sh) (fs:=fs) (cA:=cA) (o:=o) (cB:=cB) (F:=F) (g:=g) (fn:=fn) (im tt l m) (by rw[e];exact hf) h1 h2 h3 (bL (ba hk.2)) rt (λa=>by rw[e];exact h a)
    rwa [e]at this⟩
theorem B7 {A B:Type} {P:Program} (tt:TT) (l:OL P) (m:wA) {g:FuncId} {fn:Func} (hf:P.funcs[g]? =some fn) {i:SkI} {cA:Cd A} {o:SkO} {cB:Cd B} (rt:RT) (ks:List KD) {F:A->Option B}
  (hk:(yZ fn i.a.length&&(Nat.beq o.kept.length i.b.length&&isNil (bK 0 (fn.body.getD .skip))))=true:=by kernel_rfl)
  (h:∀a,ev (m.f (mU tt l)) (ua B) 0 (fn.body.getD .skip) (wX fn (fF (at0 (cA.to a)) i.a) (iU (at0 (cA.to a)) i.b)) (xJ P fn rt ks (o.dec cA cB a))=F a:=by intro a;kernel_rfl):vY P g (gM i cA o cB F):=by
 obtain⟨k1,k2⟩:=Er.1 hk;obtain⟨k3,k4⟩:=Er.1 k2;obtain⟨h1,h2,h3⟩:=iV k1;have e:(m.f (mU tt l)).P=P:=m.hP _;have:=Cv (E:=m.f (mU tt l)) (i:=i) (cA:=cA) (o:=o) (cB:=cB) (F:=F) (g:=g) (fn:=fn) (im tt l m) (by rw[e];exact hf) h1 h2 h3 k3 (bL (ba k4)) rt ks (λa=>by rw[e];exact h a);rwa [e]at this
def C0 {A B:Type} {P:Program} (tt:TT) (l:OL P) (m:wA) {g:FuncId} {fn:Func} (hf:P.funcs[g]? =some fn) (pr:List Pr) (i:SkI) (cA:Cd A) (o:SkO) (cB:Cd B) (rt:RT) (ks:List KD) (F:A->Option B)
  (hk:(yZ fn i.a.length&&(Nat.beq o.kept.length i.b.length&&isNil (bK 0 (fn.body.getD .skip))))=true:=by kernel_rfl)
  (h:∀a,ev (m.f (mU tt l)) (ua B) 0 (fn.body.getD .skip) (wX fn (fF (at0 (cA.to a)) i.a) (iU (at0 (cA.to a)) i.b)) (xJ P fn rt ks (o.dec cA cB a))=F a:=by intro a;kernel_rfl):O P g:=
 ⟨oM pr i cA o cB F,pF (B7 tt l m hf rt ks hk h)⟩
end
section
variable [Tok]
structure SkS where
 s:List Sk
 b:List SkB:=[]
 gh:List (Option Nat):=[]
def SkS.fill (q:SkS) (f:Nat->R):NF:=(fF f q.s,iU f q.b,q.gh)
def SkS.dec {T:Type} (q:SkS) (c:Cd T) (nf:NF):Option T:=
 (mtL q.s nf.1).bind λp=>(mtB q.b nf.2.1).bind λr=>cond (decide (nf.2.2=q.gh)) (rd c (p++r)) none
theorem SkS.pS {T:Type} {q:SkS} {c:Cd T} {nf:NF} {t:T} (h:q.dec c nf=some t):nf=q.fill (at0 (c.to t)):=by
 simp only[SkS.dec,An]at h;obtain⟨p,hp,r,hr,h⟩:=h;by_cases e:nf.2.2=q.gh
 ·rw[decide_eq_true e]at h;have hf:=n9 h;obtain⟨a,b,g⟩:=nf;simp only at hp hr e;simp only[SkS.fill,j6 _ hp hf.left,pR _ hr hf.right,e]
 ·rw[decide_eq_false e]at h;exact nomatch h
abbrev XS:=List (Nat× (List Nat× List (b6× Co)))
def exN:Ex->Nat
 |.normal=>0
 |.ret=>1
 |.exit j=>j+2
def exL:XS->Nat->List Nat× List (b6× Co)
 |[],_=>([],[])
 |(j,x)::l,n=>cond (Nat.beq j n) x (exL l n)
structure LX (Y:Type) where
 j:Nat
 aY:List Nat
 co:List (b6× Co)
 c:Cd Y
 s:SkS
def LX.e {Y:Type} (x:LX Y):Ex:=match x.j with
 |0=>.normal
 |1=>.ret
 |j+2=>.exit j
def LX.x {Y:Type} (x:LX Y):Nat× (List Nat× List (b6× Co)):=(x.j,x.aY,x.co)
def LX.k {Y P B:Type} (x:LX Y) (n:Nat) (c:Cd P) (K:Ex->St->Option B) (p:P):Y->Option B:=λy=>K x.e (bW x.aY n (x.s.fill (at0 (c.to p++x.c.to y))))
structure Lp (B:Type) where
 i:Nat
 pl:Bool
 aY:List Nat
 co:List (b6× Co)
 P:Type
 V:Type
 cP:Cd P
 cV:Cd V
 s:SkS
 xs:XS
 G:Nat->P->V->(V->Option B)->(Ex->St->Option B)->Option B
def L1 {B P V X:Type} (i:Nat) (pl:Bool) (aY:List Nat) (co:List (b6× Co)) (cP:Cd P) (cV:Cd V) (s:SkS) (x:LX X) (F:P->V->(V->Option B)->(X->Option B)->Option B):Lp B:=
 ⟨i,pl,aY,co,P,V,cP,cV,s,[x.x],λn p v m K=>F p v m (x.k n cP K p)⟩
def L2 {B P V X Y:Type} (i:Nat) (pl:Bool) (aY:List Nat) (co:List (b6× Co)) (cP:Cd P) (cV:Cd V) (s:SkS) (x:LX X) (y:LX Y) (F:P->V->(V->Option B)->(X->Option B)->(Y->Option B)->Option B):Lp B:=
 ⟨i,pl,aY,co,P,V,cP,cV,s,[x.x,y.x],λn p v m K=>F p v m (x.k n cP K p) (y.k n cP K p)⟩
section
variable {B:Type}
def Lp.tm (l:Lp B) (n:Nat) (q:l.P× l.V):St:=bW l.aY n (l.s.fill (at0 (l.cP.to q.1++l.cV.to q.2)))
def Lp.orc (l:Lp B) (k n:Nat) (f:Ev B):Ev B:=
 let o:Ev B:=jL l.aY l.co (λm nf=>cond (Nat.beq m n) (l.s.dec (l.cP.p l.cV) nf) none) λpv K=>iter (λv next=>l.G n pv.1 v next K) k pv.2
 cond l.pl (Cu f o) o
def lpF (i:Nat):List (Lp B)->Option (Lp B)
 |[]=>none
 |l::ls=>cond (Nat.beq l.i i) (some l) (lpF i ls)
def ub (k n:Nat) (ls:List (Lp B)) (i:Nat) (f:Ev B):Ev B:=match lpF i ls with
 |some l=>l.orc k n f
 |none=>λ_ _=>none
def Lp.Step (E:Env) (LP:Nat->Ev B->Ev B) (n:Nat) (c:Code) (l:Lp B):Prop:=
 ∀(p:l.P) (v:l.V) (K K1:Ex->St->Option B),ev E LP l.i c (l.tm n (p,v)) (λe st'=>match e with
  |.normal=>(jK l.aY l.co st').bind λnf=>K1 .normal (bW l.aY st'.n nf)
  |e=>(jK (exL l.xs (exN e)).1 (exL l.xs (exN e)).2 st').bind λnf=>K e (bW (exL l.xs (exN e)).1 st'.n nf))=l.G n p v (λv'=>K1 .normal (l.tm n (p,v'))) K
def bM:Nat->Code->List (Nat× Code)
 |cb,.seq a b=>bM cb a++bM cb b
 |cb,.cond _ a b=>bM cb a++bM cb b
 |_,.block id c=>bM id c
 |cb,.scope c=>bM cb c
 |cb,.loop c=>bM cb c++[(cb,c)]
 |_,_=>[]
def Steps (E:Env) (LP:Nat->Ev B->Ev B) (n:Nat) (cs:List (Nat× Code)):Nat->List (Lp B)->Prop
 |_,[]=>True
 |j,l::ls=>l.Step E LP n (cs.getD j (0,.skip)).2/\Steps E LP n cs (j+1) ls
theorem sS {E:Env} {LP:Nat->Ev B->Ev B} {n:Nat} {cs:List (Nat× Code)}:∀(ls:List (Lp B)) (j:Nat),Steps E LP n cs j ls->∀(i:Nat) (l:Lp B),ls[i]? =some l->l.Step E LP n (cs.getD (j+i) (0,.skip)).2
 |[],_,_,i,l,h=>by simp at h
 |l::ls,j,hs,i,l',h=>by
  cases i with
  |zero=>simp at h;subst h;exact hs.1
  |succ i=>have:=sS ls (j+1) hs.2 i l' (by simpa using h);rwa [show j+1+i=j+(i+1)from by omega]at this
theorem za:∀{ls:List (Lp B)} {i:Nat} {l:Lp B},(ls.map (·.i)).Nodup->ls[i]? =some l->lpF l.i ls=some l
 |[],i,_,_,h=>by simp at h
 |m::ls,i,l,hn,h=>by
  rw[DQ,Ea]at hn
  cases i with
  |zero=>simp at h;subst h;simp[lpF]
  |succ i=>
   have h:ls[i]? =some l:=by simpa using h
   have hne:¬m.i=l.i:=λe=>hn.1 (e▸List.mem_map.2 ⟨l,Dp h,rfl⟩);rw[lpF];cases hb:Nat.beq m.i l.i
   ·exact za hn.2 h
   ·exact(hne (Dc hb)).elim
theorem gq {E:Env} (hE:ek E) {k n:Nat} {ls:List (Lp B)}:∀(c:Code) (cb:Nat),(∀x∈bM cb c,∃l,lpF x.1 ls=some l/\l.i=x.1/\l.Step E (ub k n ls) n x.2)->cG E (ub k n ls) cb c
 |.seq a b,cb,h=>⟨gq hE a cb λx hx=>h x (by simp[bM,hx]),gq hE b cb λx hx=>h x (by simp[bM,hx])⟩
 |.cond _ a b,cb,h=>⟨gq hE a cb λx hx=>h x (by simp[bM,hx]),gq hE b cb λx hx=>h x (by simp[bM,hx])⟩
 |.block id c,_,h=>gq hE c id h
 |.scope c,cb,h=>gq hE c cb h
 |.loop c,cb,h=>by
  obtain⟨l,h1,h2,h3⟩:=h (cb,c) (by simp[bM]);simp only at h1 h2 h3;subst h2;have hs:=bC hE c l.i (gq hE c l.i λx hx=>h x (by simp[bM,hx]))
  have hd:∀m nf v,cond (Nat.beq m n) (l.s.dec (l.cP.p l.cV) nf) none=some v->bW l.aY m nf=l.tm n v:=
   Bb λnf v e=>by rw[SkS.pS e];rfl
  show Sound E.P (.loop c) (ub k n ls l.i λst K=>ev E (ub k n ls) l.i c st K);unfold ub;rw[h1];simp only[Lp.orc];cases l.pl
  ·exact zX hs (λe=>(exL l.xs (exN e)).1) (λe=>(exL l.xs (exN e)).2) k hd h3
  ·exact zY hs (λe=>(exL l.xs (exN e)).1) (λe=>(exL l.xs (exN e)).2) k hd h3
 |.skip,_,_=>trivial
 |.label _,_,_=>trivial
 |.region _ _ _,_,_=>trivial
 |.exit _,_,_=>trivial
 |.ret,_,_=>trivial
 |.rangeFunc _ _ _ _,_,_=>trivial
 |.goto _,_,_=>trivial
 |.refuse _,_,_=>trivial
def lpB (cs:List (Nat× Code)) (ls:List (Lp B)):Bool:=eqL (cs.map (·.1)) (ls.map (·.i))&&nodup (ls.map (·.i))
theorem mV {E:Env} (hE:ek E) {k n:Nat} {ls:List (Lp B)} {c:Code} (hb:lpB (bM 0 c) ls=true) (hs:Steps E (ub k n ls) n (bM 0 c) 0 ls):cG E (ub k n ls) 0 c:=by
 unfold lpB at hb;rw[De]at hb;have hm:=pQ hb.1;refine gq hE c 0 λx hx=>?_;obtain⟨i,hi⟩:=List.mem_iff_getElem?.1 hx
 have e:((bM 0 c).map (·.1))[i]? =some x.1:=by rw[DE,hi];rfl
 rw[hm,DE]at e
 cases hl:ls[i]? with
 |none=>rw[hl]at e;exact nomatch e
 |some l=>
  rw[hl]at e;have hi':l.i=x.1:=D2 e;refine⟨l,hi'▸za (bo hb.2) hl,hi',?_⟩;have:=sS ls 0 hs i l hl;rwa [Di,List.getD,hi]at this
end
def xQ {A B:Type} {P:Program} (tt:TT) (l:OL P) (m:wA) {g:FuncId} {fn:Func} (hf:P.funcs[g]? =some fn) (k:Nat) (ls:List (Lp B)) (sh:List Sh) (cA:Cd A) (o:SkP) (cB:Cd B) (rt:RT) (F:A->Option B) (fs:List Nat:=[])
    (hk:(yZ fn sh.length&&lpB (bM 0 (fn.body.getD .skip)) ls)=true:=by kernel_rfl) (hs:Steps (m.f (mU tt l)) (ub k fn.ntmps ls) fn.ntmps (bM 0 (fn.body.getD .skip)) 0 ls:=by(repeat refine⟨λp v K K1=>by kernel_rfl,?_⟩);exact trivial)
    (h:∀a,ev (m.f (mU tt l)) (ub k fn.ntmps ls) 0 (fn.body.getD .skip) (st0 fn (gp sh fs (cA.to a))) (fin P fn rt (o.dec cB))=F a:=by intro a;kernel_rfl):O P g:=
  ⟨oP sh fs cA o cB F,by
    rw[De]at hk;obtain⟨h1,h2,h3⟩:=iV hk.1;have e:(m.f (mU tt l)).P=P:=m.hP _;have:=okP (E:=m.f (mU tt l)) (sh:=sh) (fs:=fs) (cA:=cA) (o:=o) (cB:=cB) (F:=F) (g:=g) (fn:=fn) (im tt l m) (by rw[e];exact hf) h1 h2 h3 (mV (im tt l m) hk.2 hs) rt (λa=>by rw[e];exact h a)
    rwa [e]at this⟩
theorem B8 {A B:Type} {P:Program} (tt:TT) (l:OL P) (m:wA) {g:FuncId} {fn:Func} (hf:P.funcs[g]? =some fn) (k:Nat) (ls:List (Lp B)) {i:SkI} {cA:Cd A} {o:SkO} {cB:Cd B} (rt:RT) (ks:List KD) {F:A->Option B}
  (hk:(yZ fn i.a.length&&(Nat.beq o.kept.length i.b.length&&lpB (bM 0 (fn.body.getD .skip)) ls))=true:=by kernel_rfl) (hs:Steps (m.f (mU tt l)) (ub k fn.ntmps ls) fn.ntmps (bM 0 (fn.body.getD .skip)) 0 ls:=by(repeat refine⟨λp v K K1=>by kernel_rfl,?_⟩);exact trivial)
  (h:∀a,ev (m.f (mU tt l)) (ub k fn.ntmps ls) 0 (fn.body.getD .skip) (wX fn (fF (at0 (cA.to a)) i.a) (iU (at0 (cA.to a)) i.b)) (xJ P fn rt ks (o.dec cA cB a))=F a:=by intro a;kernel_rfl):vY P g (gM i cA o cB F):=by
 obtain⟨k1,k2⟩:=Er.1 hk;obtain⟨k3,k4⟩:=Er.1 k2;obtain⟨h1,h2,h3⟩:=iV k1;have e:(m.f (mU tt l)).P=P:=m.hP _;have:=Cv (E:=m.f (mU tt l)) (i:=i) (cA:=cA) (o:=o) (cB:=cB) (F:=F) (g:=g) (fn:=fn) (im tt l m) (by rw[e];exact hf) h1 h2 h3 k3 (mV (im tt l m) k4 hs) rt ks (λa=>by rw[e];exact h a);rwa [e]at this
def Cw {A B:Type} {P:Program} (tt:TT) (l:OL P) (m:wA) {g:FuncId} {fn:Func} (hf:P.funcs[g]? =some fn) (k:Nat) (ls:List (Lp B)) (pr:List Pr) (i:SkI) (cA:Cd A) (o:SkO) (cB:Cd B) (rt:RT) (ks:List KD) (F:A->Option B)
  (hk:(yZ fn i.a.length&&(Nat.beq o.kept.length i.b.length&&lpB (bM 0 (fn.body.getD .skip)) ls))=true:=by kernel_rfl) (hs:Steps (m.f (mU tt l)) (ub k fn.ntmps ls) fn.ntmps (bM 0 (fn.body.getD .skip)) 0 ls:=by(repeat refine⟨λp v K K1=>by kernel_rfl,?_⟩);exact trivial)
  (h:∀a,ev (m.f (mU tt l)) (ub k fn.ntmps ls) 0 (fn.body.getD .skip) (wX fn (fF (at0 (cA.to a)) i.a) (iU (at0 (cA.to a)) i.b)) (xJ P fn rt ks (o.dec cA cB a))=F a:=by intro a;kernel_rfl):O P g:=
 ⟨oM pr i cA o cB F,pF (B8 tt l m hf k ls rt ks hk hs h)⟩
end
section
open Go.RowKit (Below)
variable [Tok]
def okH {A B:Type} {P:Program} {g:FuncId} (sh:List Sh) (fs:List Nat) (cA:Cd A) (o:SkP) (cB:Cd B) (F:A->Option B)
    (h:∀a b,F a=some b->dG P g (gp sh fs (cA.to a)) (o.enc cB b)):O P g:=
  ⟨oP sh fs cA o cB F,mK (λρ l K out hG=>by
    rw[An]at hG;obtain⟨a,h1,hG⟩:=hG;rw[An]at hG h1;obtain⟨b,h2,hG⟩:=hG;obtain⟨rs,h3,h4⟩:=h1;refine⟨_,hG,?_⟩
    have e:l=gp sh fs (cA.to a):=by rw[cA.h _ _ h4,pT h3]
    rw[e]
    exact h a b h2)⟩
theorem Below.at_ {w w':World} (h:Below w.heap.size w w') {p:Cell} {x:Value} (hx:w.at? p=some x):w'.at? p=some x/\w'.aU p=w.aU p:=by
 have hlt:p.1<w.heap.size:=by
  unfold World.at? World.cell? at hx
  cases hb:w.heap[p.1]? with
  |none=>simp[hb]at hx
  |some o=>exact(Dk.1 hb).1
 have hb:=h.block p.1 hlt;exact⟨by unfold World.at? World.cell? at*;rw[hb];exact hx,by unfold World.aU;rw[hb]⟩
end
section
open Go
open Go.RowKit (Below)
variable [Tok]
def sT:Op->Bool
 |.defer _=>false
 |_=>true
def jQ:List Oper->Bool
 |[]=>true
 |o::l=>sT o.op&&jQ l
section
variable {P:Program} {ops:Array Oper} {Q:Exit->Act->World->Prop} {l n:Nat}
theorem B9 {Q:Exit->Act->World->Prop} (hQ:∀a w,¬Q .outgrown a w):¬LetsOut Q:=λ⟨a,w,h⟩=>hQ a w h
theorem z5 {row:String} {args:Array Value} {w:World} {R:Value->World->Prop} (h:Rows P row args w R):RowsIn (Fence.wide.inRound l) n P row args w R:=λc cs _=>by
 obtain⟨v,w',h1,h2⟩:=h c cs;exact⟨v,w',h1,stepsIn_wide.2 h2⟩
theorem wB {o:Oper} {a:Act} {w:World} {K K':Act->World->Prop} (hc:sT o.op=true) (hK:∀a w,K a w->K' a w) (h:o.wp P a w K Q):o.wpIn (Fence.wide.inRound l) n P a w K' Q:=by
 refine⟨λ_ _=>trivial,?_⟩
 have e:o.semAt (Fence.wide.inRound l).round a.eval=execOp a.eval o:=Oper.semAt_some l a.eval o λc hq=>by rw[hq]at hc;exact nomatch hc
 rw[e];unfold Oper.wp at h;generalize (execOp a.eval o).run P w=r at h
 cases r with
 |ok x w'=>
  cases x with
  |value v=>exact hK _ _ h
  |skip=>exact hK _ _ h
  |defer d=>exact hK _ _ h
  |enter f args=>
   refine⟨(λq=>nomatch q),CallsIn.inRound l (callsIn_wide.2 (Calls.mono h λe w'' he=>?_))⟩
   cases e with
   |returned v=>exact hK _ _ he
   |panicked ch=>exact he
   |outgrown=>exact he
  |row r args=>exact⟨(λq=>nomatch q),z5 (Rows.mono h λ_ _ he=>hK _ _ he)⟩
  |_=>exact h.elim
 |halt x w'=>
  cases x with
  |panic v=>exact h
  |_=>exact h.elim
theorem sU:∀{l:List Oper} {i:Nat} {o:Oper},jQ l=true->l[i]? =some o->sT o.op=true
 |[],i,o,_,h=>by simp at h
 |x::l,i,o,hc,h=>by
  rw[jQ,De]at hc
  cases i with
  |zero=>simp at h;subst h;exact hc.1
  |succ i=>exact sU hc.2 (by simpa using h)
theorem sV (hc:jQ ops.toList=true) (hQ:∀a w,¬Q .outgrown a w):∀(fuel:Nat) (ay:Array Bool) (a:Act) (w:World),wpAny P .any ops Q fuel ay a w->wpAnyIn (Fence.wide.inRound l) n P .any ops Q fuel ay a w
 |0,ay,a,w,h=>h
 |fuel+1,ay,a,w,h=>by
  refine⟨h.1,λi hi=>?_⟩;have h2:=h.2 i hi;unfold wpOp at h2;unfold wpOpIn
  cases ho:ops[i]? with
  |none=>rw[ho]at h2;exact sV hc hQ fuel _ a w h2
  |some o=>
   rw[ho]at h2;have hco:sT o.op=true:=sU hc (i:=i) (by rw[DK];exact ho);simp only at h2⊢;split
   ·rename_i hw;rw[if_pos hw]at h2
    rcases h2 with h2|h2
    ·exact wB hco (λa w=>sV hc hQ fuel _ a w) h2
    ·exact(B9 hQ h2.2).elim
   ·rename_i hw;rw[if_neg hw]at h2;exact⟨λ_ _=>trivial,sV hc hQ fuel _ _ w h2⟩
theorem xR {ρ:Type} {E:Env} {w0:World} {fp0:G0} {bs:Cell->Prop} (hE:ek E) {id m:Nat} {st:St} {a:Act} {w:World} {K:St->Option ρ} {out:ρ} (hc:jQ ops.toList=true) (hQ:∀a w,¬Q .outgrown a w)
  (hR:Rl w0 fp0 bs m st a w) (h:jl E ops.toList st K=some out) (hK:∀st' a' w',K st'=some out->Rl w0 fp0 bs m st' a' w'->Q .normal a' w'):(Code.region id ops true).wpIn (Fence.wide.inRound l) n E.P Q a w:=
 let⟨h1,h2⟩:=ph hE hR h hK
 wpIn_region_any h1 (sV hc hQ _ _ _ _ h2)
end
def Alike (w w':World):Prop:=∀p u,w.at? p=some u->w'.at? p=some u/\w'.aU p=w.aU p
theorem oa {w w':World} {row:Option Nat} (hg:w.grownBy w' row) (hr:∀r,row=some r->∃o:Obj,w.heap[r]? =some o/\o.isCells=false):Alike w w':=by
 intro p u hu;obtain⟨o,ho,hc⟩:=cells_of_cell (a:=⟨p.1,p.2,none⟩) (show w.cell? ⟨p.1,p.2,none⟩=some u from hu);have hb:=grownBy_keeps_cells hg hr ho hc;simp only at hb;exact⟨by unfold World.at? World.cell? at*;simp only[hb];exact hu,by unfold World.aU;rw[hb]⟩
theorem pU {w w':World} {row:Option Nat} (hg:w.grownBy w' row) {w0:World} (h0:aM w0 w) (hr:∀r,row=some r->w0.heap.size<=r):aM w0 w':=by
 obtain⟨h1,h2,h3⟩:=h0;refine⟨hg.os.trans h1,hg.output.trans h2,λi hi=>?_⟩;have:=h3 i hi
 have hw:i<w.heap.size:=by
  cases ha:w0.heap[i]? with
  |none=>rw[Dg hi]at ha;exact nomatch ha
  |some x=>
   cases hb:w.heap[i]? with
   |none=>rw[ha,hb]at this;cases x<;>exact nomatch this
   |some y=>exact(Dk.1 hb).1
 rw[hg.block i hw λe=>by have:=hr i e.symm;omega];exact this
theorem ew {w w':World} (h:aM w w'):KeepsOthers w w':=by
 obtain⟨_,_,h3⟩:=h
 have key:∀(k:Nat) (o:Obj),w.heap[k]? =some o->∃o',w'.heap[k]? =some o'/\(o.isCells=false->o'=o):=λk o ho=>by
  have:=h3 k (Dk.1 ho).1;rw[ho]at this
  cases ho':w'.heap[k]? with
  |none=>rw[ho']at this;cases o<;>exact nomatch this
  |some o'=>
   rw[ho']at this;refine⟨o',rfl,λhc=>?_⟩
   cases o<;>first|(simp[Obj.isCells]at hc;done)|exact D2 this
 refine⟨?_,λk o ho hc=>?_⟩
 ·cases hs:w.heap.size with
  |zero=>omega
  |succ m=>
   obtain⟨o',h1,_⟩:=key m _ (Dg (by omega));have:=(Dk.1 h1).1;omega
 ·obtain⟨o',h1,h2⟩:=key k o ho;rw[h1,h2 hc]
theorem Be {fn:Func} {args:List Arg} {w:World} {us:Array Value} {ok:Cell->Prop} (hn:args.length<=fn.ntmps) (hlen:args.length=us.size) (fD:∀(j:Nat) (x:Arg) (u:Value),args[j]? =some x->us[j]? =some u->gU w ok x u):
  Rl w ⟨λ_=>False,λ_=>undef,λ_=>.box [],[]⟩ (λp=>ok p\/w.at? p=none) fn.ntmps (st0 fn args) {tmps:=us++Array.replicate (fn.ntmps-us.size) undef,defers:=[]} w:=by
 refine⟨⟨λ_=>undef,λ_ _=>False,λp=>ok p\/w.at? p=none⟩,⟨⟨λi B hB=>by simp[st0,look]at hB,λi j B B' p hB=>by simp[st0,look]at hB,λi B p hB=>by simp[st0,look]at hB,λp hp=>.inr hp⟩,λt v hv=>?_,by simp[st0];omega,rfl,λi _=>rfl,aM.refl w,λp u hp _=>⟨λi B hB=>by simp[st0,look]at hB,hp,rfl⟩,λk i hk=>by simp[st0]at hk⟩,rfl,rfl⟩;simp only[st0]at hv;rw[lk,if_pos (DC _),DD]at hv;obtain⟨x,hx,rfl⟩:=Df.1 hv
 have ht:t<us.size:=by rw[<-hlen];exact(Db.1 hx).1
 have hg:(us++Array.replicate (fn.ntmps-us.size) undef).getD t undef=us[t]:=by
  rw[Dj,DW ht,Dg ht];rfl
 rw[hg];exact vS (λp hp=>Or.inl hp) (fD t x _ hx (Dg ht))
theorem sW {P:Program} {fn:Func} {rt:RT} {st:St} {pl:Pl} {a:Act} {w:World} {v:SV} {out:Out} (hr:aF st.heap pl w) (hs:bJ w st.heap pl st.aB a) (hv:vP P fn st=some v) (hc:canon rt st.heap v=some out):
  ∃u pl',(results fn a.tmps).run P w=.ok u w/\aF (newsH 0 out.2) pl' w/\SVRep w (newsH 0 out.2) pl' out.1 u/\pl'.base=pl.base/\∀i B p,look (newsH 0 out.2) i=some B->pl'.fp i p->∃j B',look st.heap j=some B'/\pl.fp j p:=by
 obtain⟨u,hu,hvr⟩:=nP (P:=P) hr hs hv;simp only[canon,An]at hc;obtain⟨S,hS,hc⟩:=hc;cases hnd:nodup (cE S)<;>simp only[hnd,cond_true,cond_false,An,Da]at hc
 ·cases hc
 ·obtain⟨bs,hbs,⟨v',k'⟩,hv',rfl⟩:=hc;refine⟨u,pl.res S,hu,sG hr hnd hbs,(vR hr hbs rt hS (λj x hx=>by rw[Di];exact hx) hv' hvr).1,rfl,λi B p hB hf=>?_⟩;obtain⟨⟨b,t,o⟩,g1,g2⟩:=fh hbs hB
  cases o with
  |none=>simp[Pl.res,g1]at hf
  |some i'=>
   simp only[Pl.res,g1]at hf;obtain⟨_,_,hl,_⟩:=aC g2;exact⟨i',_,hl,hf⟩
theorem lA {H:Heap} {pl:Pl} {w w':World} (ha:Alike w w'):dd ([],[]) w H pl w' H pl:=⟨λi B hB _=>⟨B,hB,B.aE,rfl⟩,λd p u _ h hp=>⟨h,(ha p u hp).1⟩⟩
theorem mW {H:Heap} {pl:Pl} {w w':World} (hr:aF H pl w) (ha:Alike w w'):aF H pl w':=
  ⟨λi B hB=>(hr.blk i B hB).aY (lA ha) rfl (λ_=>EF) (λp u _ hu=>ha p u hu) B.aO,hr.dis,hr.ob,λp hp=>hr.nb p (by
    cases hq:w.at? p with
    |none=>rfl
    |some u=>rw[(ha p u hq).1]at hp;exact nomatch hp)⟩
theorem xS {w:World} {ok:Cell->Prop} {t:Ty} {xs:List t.El} {b o n cap i c:Nat} (h:cr w ok (.sl t xs) (.slice (some ⟨b,o,none⟩) n cap)) (hc:i+c<=xs.length):cr w ok (.sl t ((xs.drop i).take c)) (.slice (some ⟨b,o+i*t.sz,none⟩) c c):=by
 have hl:((xs.drop i).take c).length=c:=by rw[Dz,D6];omega
 cases h with
 |sl _ _ a cf b' o' vs hcap ha hcc hrr=>
  have key:∀j l r,ae t ((xs.drop i).take c) j l r->ae t xs (i+j) l r:=λj l r ⟨x,h1,h2⟩=>by
   have hj:j<c:=by have:=(Db.1 h1).1;omega
   rw[Du,if_pos hj,Dr]at h1;exact⟨x,h1,h2⟩
  have:=cr.sl (w:=w) (ok:=ok) t ((xs.drop i).take c) (some ⟨b,o+i*t.sz,none⟩) c b (o+i*t.sz) (λj l=>vs (i+j) l) (by omega) (.inr rfl) (λj l r hr=>by
    rcases ha with ha|ha
    ·subst ha;have:=(aj (key j l r hr)).1;simp at this
    ·cases ha;have:=hcc _ _ _ (key j l r hr);rw[DH]at this
     rw[show o+i*t.sz+(j*t.sz+l)=o+(i*t.sz+j*t.sz+l) by omega];exact this) λj l r hr=>hrr _ _ _ (key j l r hr)
  rw[hl]at this;exact this
end
section
variable [Tok]
def R.ty:R->Ty
 |.int k _=>.int k
 |.bool _=>.bool
 |.str _=>.str
 |.sl t _=>.sl t
 |.tok _=>.tok
 |.eT=>.st .shape
inductive R.Wf:R->Prop
 |int (k:IntKind) (n:Int) (h:(Lit.int k n).wf=true):R.Wf (.int k n)
 |bool (b:Bool):R.Wf (.bool b)
 |str (l:List UInt8) (h:l.length<=maxLen):R.Wf (.str l)
 |sl (t:Ty) (xs:List t.El) (h:∀i j r,ae t xs i j r->R.Wf r) (hl:xs.length<=maxLen):R.Wf (.sl t xs)
theorem da (t:Ty) (r:R) (h:r.ty=t) (hs:∀s,t≠.st s):∃x,t.jV r=some x:=by
 subst h
 cases r with
 |int k n=>exact⟨n,by simp[Ty.jV,R.ty]⟩
 |bool b=>exact⟨b,by simp[Ty.jV,R.ty]⟩
 |str l=>exact⟨l,by simp[Ty.jV,R.ty]⟩
 |sl t xs=>exact⟨xs,by simp[Ty.jV,R.ty]⟩
 |tok n=>exact⟨n,by simp[Ty.jV,R.ty]⟩
 |eT=>exact(hs .shape rfl).elim
theorem z6 {r:R} (h:r.ty=.tok):∃n,r=.tok n:=by cases r<;>simp_all [R.ty]
theorem aD {r:R} {k:IntKind} (h:r.ty=.int k):∃n,r=.int k n:=by cases r<;>simp_all [R.ty]
theorem Ca {r:R} (h:r.ty=.bool):∃n,r=.bool n:=by cases r<;>simp_all [R.ty]
theorem jR {r:R} {t:Ty} (h:r.ty=.sl t):∃xs,r=.sl t xs:=by
 cases r with
 |sl t' xs=>cases h;exact⟨xs,rfl⟩
 |_=>cases h
theorem rr:(rs:List R)->rs.map R.ty=S.tys .shape->∃x,oB rs=some x
 |[x0,x1,x2],h=>by
  simp only[S.tys,DQ,D7,DY,and_true]at h;obtain⟨h0,h1,h2⟩:=h;obtain⟨_,rfl⟩:=aD h0;obtain⟨_,rfl⟩:=aD h1;obtain⟨_,rfl⟩:=aD h2
  simp[oB,R.asI,R.asB,R.asL]
 |[],h=>by have:=congrArg List.length h;simp[S.tys]at this
 |[_],h=>by have:=congrArg List.length h;simp[S.tys]at this
 |[_,_],h=>by have:=congrArg List.length h;simp[S.tys]at this
 |_::_::_::_::_,h=>by have:=congrArg List.length h;simp[S.tys]at this
theorem pV:(rs:List R)->rs.map R.ty=S.tys .ax->∃x,kB rs=some x
 |[x0,x1,x2,x3],h=>by
  simp only[S.tys,DQ,D7,DY,and_true]at h;obtain⟨h0,h1,h2,h3⟩:=h;obtain⟨_,rfl⟩:=aD h0;obtain⟨_,rfl⟩:=aD h1;obtain⟨_,rfl⟩:=aD h2;obtain⟨_,rfl⟩:=jR h3
  simp[kB,R.asI,R.asB,R.asL]
 |[],h=>by have:=congrArg List.length h;simp[S.tys]at this
 |[_],h=>by have:=congrArg List.length h;simp[S.tys]at this
 |[_,_],h=>by have:=congrArg List.length h;simp[S.tys]at this
 |[_,_,_],h=>by have:=congrArg List.length h;simp[S.tys]at this
 |_::_::_::_::_::_,h=>by have:=congrArg List.length h;simp[S.tys]at this
theorem ru:(rs:List R)->rs.map R.ty=S.tys .fH->∃x,oD rs=some x
 |[x0,x1,x2,x3,x4,x5,x6,x7,x8],h=>by
  simp only[S.tys,DQ,D7,DY,and_true]at h;obtain⟨h0,h1,h2,h3,h4,h5,h6,h7,h8⟩:=h;obtain⟨_,rfl⟩:=aD h0;obtain⟨_,rfl⟩:=aD h1;obtain⟨_,rfl⟩:=aD h2;obtain⟨_,rfl⟩:=aD h3;obtain⟨_,rfl⟩:=aD h4;obtain⟨_,rfl⟩:=aD h5;obtain⟨_,rfl⟩:=aD h6;obtain⟨_,rfl⟩:=jR h7;obtain⟨_,rfl⟩:=jR h8
  simp[oD,R.asI,R.asB,R.asL]
 |[],h=>by have:=congrArg List.length h;simp[S.tys]at this
 |[_],h=>by have:=congrArg List.length h;simp[S.tys]at this
 |[_,_],h=>by have:=congrArg List.length h;simp[S.tys]at this
 |[_,_,_],h=>by have:=congrArg List.length h;simp[S.tys]at this
 |[_,_,_,_],h=>by have:=congrArg List.length h;simp[S.tys]at this
 |[_,_,_,_,_],h=>by have:=congrArg List.length h;simp[S.tys]at this
 |[_,_,_,_,_,_],h=>by have:=congrArg List.length h;simp[S.tys]at this
 |[_,_,_,_,_,_,_],h=>by have:=congrArg List.length h;simp[S.tys]at this
 |[_,_,_,_,_,_,_,_],h=>by have:=congrArg List.length h;simp[S.tys]at this
 |_::_::_::_::_::_::_::_::_::_::_,h=>by have:=congrArg List.length h;simp[S.tys]at this
theorem rv:(rs:List R)->rs.map R.ty=S.tys .model->∃x,oE rs=some x
 |[x0,x1,x2,x3],h=>by
  simp only[S.tys,DQ,D7,DY,and_true]at h;obtain⟨h0,h1,h2,h3⟩:=h;obtain⟨_,rfl⟩:=aD h0;obtain⟨_,rfl⟩:=aD h1;obtain⟨_,rfl⟩:=aD h2;obtain⟨_,rfl⟩:=jR h3
  simp[oE,R.asI,R.asB,R.asL]
 |[],h=>by have:=congrArg List.length h;simp[S.tys]at this
 |[_],h=>by have:=congrArg List.length h;simp[S.tys]at this
 |[_,_],h=>by have:=congrArg List.length h;simp[S.tys]at this
 |[_,_,_],h=>by have:=congrArg List.length h;simp[S.tys]at this
 |_::_::_::_::_::_,h=>by have:=congrArg List.length h;simp[S.tys]at this
theorem uc:(rs:List R)->rs.map R.ty=S.tys .task->∃x,uH rs=some x
 |[x0,x1,x2,x3,x4],h=>by
  simp only[S.tys,DQ,D7,DY,and_true]at h;obtain⟨h0,h1,h2,h3,h4⟩:=h;obtain⟨_,rfl⟩:=aD h0;obtain⟨_,rfl⟩:=jR h1;obtain⟨_,rfl⟩:=aD h2;obtain⟨_,rfl⟩:=aD h3;obtain⟨_,rfl⟩:=aD h4
  simp[uH,R.asI,R.asB,R.asL]
 |[],h=>by have:=congrArg List.length h;simp[S.tys]at this
 |[_],h=>by have:=congrArg List.length h;simp[S.tys]at this
 |[_,_],h=>by have:=congrArg List.length h;simp[S.tys]at this
 |[_,_,_],h=>by have:=congrArg List.length h;simp[S.tys]at this
 |[_,_,_,_],h=>by have:=congrArg List.length h;simp[S.tys]at this
 |_::_::_::_::_::_::_,h=>by have:=congrArg List.length h;simp[S.tys]at this
theorem oc:(rs:List R)->rs.map R.ty=S.tys .request->∃x,ix rs=some x
 |[x0,x1,x2,x3,x4,x5,x6,x7,x8,x9,x10,x11,x12],h=>by
  simp only[S.tys,DQ,D7,DY,and_true]at h;obtain⟨h0,h1,h2,h3,h4,h5,h6,h7,h8,h9,h10,h11,h12⟩:=h;obtain⟨_,rfl⟩:=aD h0;obtain⟨_,rfl⟩:=aD h1;obtain⟨_,rfl⟩:=aD h2;obtain⟨_,rfl⟩:=aD h3;obtain⟨_,rfl⟩:=aD h4;obtain⟨_,rfl⟩:=jR h5;obtain⟨_,rfl⟩:=aD h6;obtain⟨_,rfl⟩:=aD h7;obtain⟨_,rfl⟩:=aD h8;obtain⟨_,rfl⟩:=aD h9;obtain⟨_,rfl⟩:=jR h10;obtain⟨_,rfl⟩:=aD h11;obtain⟨_,rfl⟩:=aD h12
  simp[ix,R.asI,R.asB,R.asL]
 |[],h=>by have:=congrArg List.length h;simp[S.tys]at this
 |[_],h=>by have:=congrArg List.length h;simp[S.tys]at this
 |[_,_],h=>by have:=congrArg List.length h;simp[S.tys]at this
 |[_,_,_],h=>by have:=congrArg List.length h;simp[S.tys]at this
 |[_,_,_,_],h=>by have:=congrArg List.length h;simp[S.tys]at this
 |[_,_,_,_,_],h=>by have:=congrArg List.length h;simp[S.tys]at this
 |[_,_,_,_,_,_],h=>by have:=congrArg List.length h;simp[S.tys]at this
 |[_,_,_,_,_,_,_],h=>by have:=congrArg List.length h;simp[S.tys]at this
 |[_,_,_,_,_,_,_,_],h=>by have:=congrArg List.length h;simp[S.tys]at this
 |[_,_,_,_,_,_,_,_,_],h=>by have:=congrArg List.length h;simp[S.tys]at this
 |[_,_,_,_,_,_,_,_,_,_],h=>by have:=congrArg List.length h;simp[S.tys]at this
 |[_,_,_,_,_,_,_,_,_,_,_],h=>by have:=congrArg List.length h;simp[S.tys]at this
 |[_,_,_,_,_,_,_,_,_,_,_,_],h=>by have:=congrArg List.length h;simp[S.tys]at this
 |_::_::_::_::_::_::_::_::_::_::_::_::_::_::_,h=>by have:=congrArg List.length h;simp[S.tys]at this
theorem ud:(rs:List R)->rs.map R.ty=S.tys .step->∃x,uI rs=some x
 |[x0,x1,x2,x3,x4,x5,x6,x7],h=>by
  simp only[S.tys,DQ,D7,DY,and_true]at h;obtain⟨h0,h1,h2,h3,h4,h5,h6,h7⟩:=h;obtain⟨_,rfl⟩:=aD h0;obtain⟨_,rfl⟩:=aD h1;obtain⟨_,rfl⟩:=aD h2;obtain⟨_,rfl⟩:=jR h3;obtain⟨_,rfl⟩:=aD h4;obtain⟨_,rfl⟩:=aD h5;obtain⟨_,rfl⟩:=aD h6;obtain⟨_,rfl⟩:=jR h7
  simp[uI,R.asI,R.asB,R.asL]
 |[],h=>by have:=congrArg List.length h;simp[S.tys]at this
 |[_],h=>by have:=congrArg List.length h;simp[S.tys]at this
 |[_,_],h=>by have:=congrArg List.length h;simp[S.tys]at this
 |[_,_,_],h=>by have:=congrArg List.length h;simp[S.tys]at this
 |[_,_,_,_],h=>by have:=congrArg List.length h;simp[S.tys]at this
 |[_,_,_,_,_],h=>by have:=congrArg List.length h;simp[S.tys]at this
 |[_,_,_,_,_,_],h=>by have:=congrArg List.length h;simp[S.tys]at this
 |[_,_,_,_,_,_,_],h=>by have:=congrArg List.length h;simp[S.tys]at this
 |_::_::_::_::_::_::_::_::_::_,h=>by have:=congrArg List.length h;simp[S.tys]at this
theorem ry:(rs:List R)->rs.map R.ty=S.tys .event->∃x,oF rs=some x
 |[x0,x1,x2,x3,x4,x5,x6],h=>by
  simp only[S.tys,DQ,D7,DY,and_true]at h;obtain⟨h0,h1,h2,h3,h4,h5,h6⟩:=h;obtain⟨_,rfl⟩:=aD h0;obtain⟨_,rfl⟩:=aD h1;obtain⟨_,rfl⟩:=aD h2;obtain⟨_,rfl⟩:=aD h3;obtain⟨_,rfl⟩:=aD h4;obtain⟨_,rfl⟩:=aD h5;obtain⟨_,rfl⟩:=jR h6
  simp[oF,R.asI,R.asB,R.asL]
 |[],h=>by have:=congrArg List.length h;simp[S.tys]at this
 |[_],h=>by have:=congrArg List.length h;simp[S.tys]at this
 |[_,_],h=>by have:=congrArg List.length h;simp[S.tys]at this
 |[_,_,_],h=>by have:=congrArg List.length h;simp[S.tys]at this
 |[_,_,_,_],h=>by have:=congrArg List.length h;simp[S.tys]at this
 |[_,_,_,_,_],h=>by have:=congrArg List.length h;simp[S.tys]at this
 |[_,_,_,_,_,_],h=>by have:=congrArg List.length h;simp[S.tys]at this
 |_::_::_::_::_::_::_::_::_,h=>by have:=congrArg List.length h;simp[S.tys]at this
theorem rz:(rs:List R)->rs.map R.ty=S.tys .entry->∃x,oG rs=some x
 |[x0,x1,x2,x3,x4,x5,x6,x7,x8,x9,x10,x11,x12],h=>by
  simp only[S.tys,DQ,D7,DY,and_true]at h;obtain⟨h0,h1,h2,h3,h4,h5,h6,h7,h8,h9,h10,h11,h12⟩:=h;obtain⟨_,rfl⟩:=aD h0;obtain⟨_,rfl⟩:=aD h1;obtain⟨_,rfl⟩:=aD h2;obtain⟨_,rfl⟩:=aD h3;obtain⟨_,rfl⟩:=jR h4;obtain⟨_,rfl⟩:=aD h5;obtain⟨_,rfl⟩:=aD h6;obtain⟨_,rfl⟩:=aD h7;obtain⟨_,rfl⟩:=jR h8;obtain⟨_,rfl⟩:=aD h9;obtain⟨_,rfl⟩:=aD h10;obtain⟨_,rfl⟩:=aD h11;obtain⟨_,rfl⟩:=Ca h12
  simp[oG,R.asI,R.asB,R.asL]
 |[],h=>by have:=congrArg List.length h;simp[S.tys]at this
 |[_],h=>by have:=congrArg List.length h;simp[S.tys]at this
 |[_,_],h=>by have:=congrArg List.length h;simp[S.tys]at this
 |[_,_,_],h=>by have:=congrArg List.length h;simp[S.tys]at this
 |[_,_,_,_],h=>by have:=congrArg List.length h;simp[S.tys]at this
 |[_,_,_,_,_],h=>by have:=congrArg List.length h;simp[S.tys]at this
 |[_,_,_,_,_,_],h=>by have:=congrArg List.length h;simp[S.tys]at this
 |[_,_,_,_,_,_,_],h=>by have:=congrArg List.length h;simp[S.tys]at this
 |[_,_,_,_,_,_,_,_],h=>by have:=congrArg List.length h;simp[S.tys]at this
 |[_,_,_,_,_,_,_,_,_],h=>by have:=congrArg List.length h;simp[S.tys]at this
 |[_,_,_,_,_,_,_,_,_,_],h=>by have:=congrArg List.length h;simp[S.tys]at this
 |[_,_,_,_,_,_,_,_,_,_,_],h=>by have:=congrArg List.length h;simp[S.tys]at this
 |[_,_,_,_,_,_,_,_,_,_,_,_],h=>by have:=congrArg List.length h;simp[S.tys]at this
 |_::_::_::_::_::_::_::_::_::_::_::_::_::_::_,h=>by have:=congrArg List.length h;simp[S.tys]at this
theorem ue:(rs:List R)->rs.map R.ty=S.tys .rO->∃x,uJ rs=some x
 |[x0,x1,x2],h=>by
  simp only[S.tys,DQ,D7,DY,and_true]at h;obtain⟨h0,h1,h2⟩:=h;obtain⟨_,rfl⟩:=aD h0;obtain⟨_,rfl⟩:=aD h1;obtain⟨_,rfl⟩:=aD h2
  simp[uJ,R.asI,R.asB,R.asL]
 |[],h=>by have:=congrArg List.length h;simp[S.tys]at this
 |[_],h=>by have:=congrArg List.length h;simp[S.tys]at this
 |[_,_],h=>by have:=congrArg List.length h;simp[S.tys]at this
 |_::_::_::_::_,h=>by have:=congrArg List.length h;simp[S.tys]at this
theorem ar {α β:Type} {f:α->β} {rs:List α} {t:β} {ts:List β} (h:rs.map f=t::ts):∃r rs',rs=r::rs'/\f r=t/\rs'.map f=ts:=by
 cases rs with
 |nil=>cases h
 |cons r rs=>grind
theorem rA (rs:List R) (h:rs.map R.ty=S.tys .kz):∃x,rQ rs=some x:=by
 obtain⟨a0,rs,rfl,g0,h⟩:=ar h;obtain⟨a1,rs,rfl,g1,h⟩:=ar h;obtain⟨a2,rs,rfl,g2,h⟩:=ar h;obtain⟨a3,rs,rfl,g3,h⟩:=ar h;obtain⟨a4,rs,rfl,g4,h⟩:=ar h;rw[List.map_eq_nil_iff]at h;subst h;obtain⟨x0,rfl⟩:=aD g0;obtain⟨x1,rfl⟩:=z6 g1;obtain⟨x2,rfl⟩:=aD g2;obtain⟨x3,rfl⟩:=aD g3;obtain⟨x4,rfl⟩:=aD g4;exact⟨_,rfl⟩
theorem l6 (rs:List R) (h:rs.map R.ty=S.tys .cg):∃x,iy rs=some x:=by
 obtain⟨a0,rs,rfl,g0,h⟩:=ar h;obtain⟨a1,rs,rfl,g1,h⟩:=ar h;obtain⟨a2,rs,rfl,g2,h⟩:=ar h;obtain⟨a3,rs,rfl,g3,h⟩:=ar h;obtain⟨a4,rs,rfl,g4,h⟩:=ar h;obtain⟨a5,rs,rfl,g5,h⟩:=ar h;obtain⟨a6,rs,rfl,g6,h⟩:=ar h;obtain⟨a7,rs,rfl,g7,h⟩:=ar h;obtain⟨a8,rs,rfl,g8,h⟩:=ar h;obtain⟨a9,rs,rfl,g9,h⟩:=ar h;obtain⟨a10,rs,rfl,g10,h⟩:=ar h;obtain⟨a11,rs,rfl,g11,h⟩:=ar h;obtain⟨a12,rs,rfl,g12,h⟩:=ar h;rw[List.map_eq_nil_iff]at h;subst h;obtain⟨x0,rfl⟩:=aD g0;obtain⟨x1,rfl⟩:=aD g1;obtain⟨x2,rfl⟩:=aD g2;obtain⟨x3,rfl⟩:=aD g3;obtain⟨x4,rfl⟩:=aD g4;obtain⟨x5,rfl⟩:=z6 g5;obtain⟨x6,rfl⟩:=aD g6;obtain⟨x7,rfl⟩:=aD g7;obtain⟨x8,rfl⟩:=aD g8;obtain⟨x9,rfl⟩:=aD g9;obtain⟨x10,rfl⟩:=z6 g10;obtain⟨x11,rfl⟩:=aD g11;obtain⟨x12,rfl⟩:=aD g12;exact⟨_,rfl⟩
theorem iW (t:Ty) (rs:List R) (h:rs.map R.ty=t.tys):∃x,t.bF rs=some x:=by
 have single:∀{t:Ty},(∀s,t≠.st s)->t.tys=[t]->rs.map R.ty=t.tys->∃r,rs=[r]/\r.ty=t:=λ{t} _ e h=>by
  rw[e]at h
  match rs,h with
  |[r],h=>grind
 have key:∀s:S,rs.map R.ty=s.tys->∃x,s.bF rs=some x:=λs h=>by
  cases s with
  |shape=>exact rr rs h
  |ax=>exact pV rs h
  |fH=>exact ru rs h
  |model=>exact rv rs h
  |task=>exact uc rs h
  |request=>exact oc rs h
  |step=>exact ud rs h
  |event=>exact ry rs h
  |entry=>exact rz rs h
  |rO=>exact ue rs h
  |kz=>exact rA rs h
  |cg=>exact l6 rs h
 cases t with
 |st s=>exact key s h
 |ho s=>
  obtain⟨x,hx⟩:=key s h
  exact⟨some x,by show(s.bF rs).bind _=_;rw[hx];rfl⟩
 |hl t=>
  have h:rs.map R.ty=[.sl t]:=h;obtain⟨r,rs',rfl,hr,h⟩:=List.map_eq_cons_iff.1 h;rw[List.map_eq_nil_iff]at h;subst h;obtain⟨xs,rfl⟩:=jR hr
  exact⟨some xs,by show(if h:t=t then some (some (h▸xs))else none)=_;rw[dif_pos rfl];rfl⟩
 |tok=>obtain⟨r,rfl,e⟩:=single (t:=.tok) (λs h=>nomatch h) rfl h;exact da _ r e (λs h=>nomatch h)
 |int k=>obtain⟨r,rfl,e⟩:=single (t:=.int k) (λs h=>nomatch h) rfl h;exact da _ r e (λs h=>nomatch h)
 |bool=>obtain⟨r,rfl,e⟩:=single (t:=.bool) (λs h=>nomatch h) rfl h;exact da _ r e (λs h=>nomatch h)
 |str=>obtain⟨r,rfl,e⟩:=single (t:=.str) (λs h=>nomatch h) rfl h;exact da _ r e (λs h=>nomatch h)
 |sl t=>obtain⟨r,rfl,e⟩:=single (t:=.sl t) (λs h=>nomatch h) rfl h;exact da _ r e (λs h=>nomatch h)
def sX (P:Program) (g:TypeId->Option (List Ty)):Nat->List Field->Option (List Ty)
 |_,[]=>some []
 |off,f::l=>cond (Nat.beq f.offset off) ((g f.type).bind λts=>cond (Nat.beq (P.cellsOf f.type) ts.length) ((sX P g (off+ts.length) l).bind λus=>some (ts++us)) none) none
def lB (P:Program) (tt:TT):Nat->TypeId->Option (List Ty)
 |0,_=>none
 |n+1,T=>match P.underlying T with
  |some (.int k)=>some [.int k]
  |some .bool=>some [.bool]
  |some .string=>some [.str]
  |some (.slice e)=>(tt e).bind λt=>(lB P tt n e).bind λts=>if ts=t.tys/\P.cellsOf e=ts.length then some [.sl t]else none
  |some (.struct fs)=>(sX P (lB P tt n) 0 fs.toList).bind λts=>cond (Nat.beq (P.cellsOf T) ts.length) (some ts) none
  |_=>none
def ea (w:World) (ts:List Ty) (cs:List Value):Prop:=
 ∃rs:List R,rs.map R.ty=ts/\rs.length=cs.length/\∀(j:Nat) (r:R) (v:Value),rs[j]? =some r->cs[j]? =some v->cr w (λ_=>True) r v/\r.Wf
theorem ea.one {w:World} {r:R} {v:Value} (h:cr w (λ_=>True) r v) (hw:r.Wf):ea w [r.ty] [v]:=
  ⟨[r],rfl,rfl,λj r' v' h1 h2=>by
    cases j with
    |zero=>grind
    |succ j=>simp at h1⟩
theorem ea.append {w:World} {ts us:List Ty} {cs ds:List Value} (h:ea w ts cs) (g:ea w us ds):ea w (ts++us) (cs++ds):=by
 obtain⟨rs,h1,h2,h3⟩:=h;obtain⟨qs,g1,g2,g3⟩:=g;refine⟨rs++qs,by simp[h1,g1],by simp[h2,g2],λj r v hr hv=>?_⟩;grind
section
variable {H:Type} {enc:TypeId× Value->H} {P:Program} {tt:TT} {w:World} {base:Nat} {sp:Nat->Bool} {held:Bool}
theorem lC {g:TypeId->Option (List Ty)} {F:TypeId->List Value->Option (DataW H× List MemPlace)} (hg:∀T cs x ts,F T cs=some x->g T=some ts->cs.length=P.cellsOf T->ea w ts cs) (cs:List Value):
  ∀(fs:List Field) (off:Nat) (ts:List Ty) (xs:List (DataW H× List MemPlace)),sX P g off fs=some ts->fs.mapM (λf=>F f.type ((cs.drop f.offset).take (P.cellsOf f.type)))=some xs->off+ts.length=cs.length->ea w ts (cs.drop off)
 |[],off,ts,xs,h,_,hl=>by
  cases h;have:cs.drop off=[]:=List.drop_eq_nil_of_le (by simp at hl;omega)
  rw[this];exact⟨[],rfl,rfl,λj r v hr _=>by simp at hr⟩
 |f::fs,off,ts,xs,h,hm,hl=>by
  simp only[sX]at h;cases ho:Nat.beq f.offset off<;>simp only[ho,cond_true,cond_false,An]at h
  ·cases h
  have ho:=Dc ho;obtain⟨us,hu,h⟩:=h;cases hc:Nat.beq (P.cellsOf f.type) us.length<;>simp only[hc,cond_true,cond_false,An,Da]at h
  ·cases h
  have hc:=Dc hc;obtain⟨vs,hv,rfl⟩:=h;rw[List.mapM_cons]at hm
  cases hF:F f.type ((cs.drop f.offset).take (P.cellsOf f.type))with
  |none=>grind
  |some y=>
   cases hR:fs.mapM (λf=>F f.type ((cs.drop f.offset).take (P.cellsOf f.type)))with
   |none=>grind
   |some ys=>
    rw[Ej]at hl;have h1:=hg _ _ _ _ hF hu (by rw[Dz,D6];omega);have h2:=lC hg cs fs (off+us.length) vs ys hv hR (by omega);rw[ho,hc]at h1;have:=h1.append h2;rwa [<-List.drop_drop,DZ]at this
theorem trod_int {fuel:Nat} {T:TypeId} {cs:List Value} {x:DataW H× List MemPlace} {k:IntKind} (hu:P.underlying T=some (.int k)) (h:DataW.trod enc P w base sp held fuel T cs=some x):∃n,cs=[.int k n]/\(Lit.int k n).wf=true:=by
 cases fuel with
 |zero=>cases h
 |succ fuel=>
  unfold DataW.trod at h;grind
theorem trod_bool {fuel:Nat} {T:TypeId} {cs:List Value} {x:DataW H× List MemPlace} (hu:P.underlying T=some .bool) (h:DataW.trod enc P w base sp held fuel T cs=some x):∃b,cs=[.bool b]:=by
 cases fuel with
 |zero=>cases h
 |succ fuel=>
  unfold DataW.trod at h;grind
theorem xT {fuel:Nat} {T:TypeId} {cs:List Value} {x:DataW H× List MemPlace} (hu:P.underlying T=some .string) (h:DataW.trod enc P w base sp held fuel T cs=some x):∃s,cs=[.string s]/\s.size<=maxLen:=by
 cases fuel with
 |zero=>cases h
 |succ fuel=>
  unfold DataW.trod at h;grind
theorem rB {fuel:Nat} {T:TypeId} {cs:List Value} {x:DataW H× List MemPlace} {fs:Array Field} (hu:P.underlying T=some (.struct fs)) (h:DataW.trod enc P w base sp held fuel T cs=some x):
  ∃fuel' xs,cs.length=P.cellsOf T/\fs.toList.mapM (λf=>DataW.trod enc P w base sp held fuel' f.type ((cs.drop f.offset).take (P.cellsOf f.type)))=some xs:=by
 cases fuel with
 |zero=>cases h
 |succ fuel=>
  unfold DataW.trod at h;simp only[hu]at h;split at h
  ·rename_i hl;obtain⟨xs,hx,_⟩:=Df.1 h;exact⟨fuel,xs,hl,hx⟩
  ·cases h
theorem lD {α:Type} {Q:Nat->α->Prop}:∀(n:Nat),(∀i,i<n->∃x,Q i x)->∃l:List α,l.length=n/\∀(i:Nat) (x:α),l[i]? =some x->Q i x
 |0,_=>⟨[],rfl,λi x h=>by simp at h⟩
 |n+1,h=>by
  obtain⟨l,h1,h2⟩:=lD n λi hi=>h i (by omega);obtain⟨x,hx⟩:=h n (by omega);refine⟨l++[x],by simp[h1],λi y hy=>?_⟩;grind
theorem wC {a:Addr} {v:Value} (h:w.cell? a=some v):a.spot=none:=by
 unfold World.cell? at h
 cases hs:a.spot with
 |none=>rfl
 |some s=>grind
theorem mX {n j:Nat} (h:j<n):(List.range n)[j]? =some j:=by rw[Dd (by simpa using h)];simp
theorem jS:∀(n fuel:Nat) (T:TypeId) (cs:List Value) (x:DataW H× List MemPlace) (ts:List Ty),DataW.trod enc P w base sp held fuel T cs=some x->lB P tt n T=some ts->ea w ts cs
 |0,_,_,_,_,_,_,h=>nomatch h
 |n+1,fuel,T,cs,x,ts,h,hf=>by
  unfold lB at hf;split at hf
  ·rename_i k hu;cases hf;obtain⟨m,rfl,hw⟩:=trod_int hu h;exact ea.one (.int k m) (.int k m hw)
  ·rename_i hu;cases hf;obtain⟨b,rfl⟩:=trod_bool hu h;exact ea.one (.bool b) (.bool b)
  ·rename_i hu;cases hf;obtain⟨s,rfl,hsl⟩:=xT hu h
   have:s=⟨s.data.toList.toArray⟩:=by simp
   rw[this];exact ea.one (.str s.data.toList) (.str _ (by simpa using hsl))
  ·rename_i e hu;simp only[An]at hf;obtain⟨t,ht,us,hus,hf⟩:=hf;split at hf
   ·rename_i hc;obtain⟨rfl,hsz⟩:=hc;cases hf;rw[Ty.jv]at hsz
    rcases DataW.trod_slice hu h with⟨rfl,_⟩|⟨a,len,cap,elems,rest,n',_,rfl,_,hb,hlc,hcap,hlen,hel,_⟩
    ·exact ea.one (.sl t [] none 0 0 0 (λ_ _=>undef) (DA _) (.inl rfl) (λi j r ⟨x,hx,_⟩=>by simp at hx) (λi j r ⟨x,hx,_⟩=>by simp at hx)) (.sl t [] (λi j r ⟨x,hx,_⟩=>by simp at hx) (DC _))
    ·subst hlen
     have C3:∀i,i<elems.length->∃x:t.El,∃ds,w.cells? base (a.add (i*P.cellsOf e)) (P.cellsOf e)=some ds/\(t.cells x).length=ds.length/\
       ∀(j:Nat) (r:R) (v:Value),(t.cells x)[j]? =some r->ds[j]? =some v->cr w (λ_=>True) r v/\r.Wf:=λi hi=>by
      have:=hel i hi;rw[Dd hi]at this;obtain⟨ds,h1,h2⟩:=An.1 this;obtain⟨rs,g1,g2,g3⟩:=jS n n' e ds _ _ h2 hus;obtain⟨x,hx⟩:=iW t rs g1;have hc:=Ty.aI t rs x hx;grind
     obtain⟨xs,hxl,hxs⟩:=lD elems.length C3
     have key:∀i j r,ae t xs i j r->a.spot=none/\∃v,w.at? (a.block,a.off+(i*t.sz+j))=some v/\cr w (λ_=>True) r v/\r.Wf:=λi j r ⟨x,hx,hr⟩=>by
      obtain⟨ds,h1,h2,h3⟩:=hxs i x hx
      have hj:j<ds.length:=by rw[<-h2];exact(Db.1 hr).1
      unfold World.cells? at h1;rw[if_pos (by unfold Addr.add;split<;>exact hb)]at h1;have hl:=mapM_some_length h1;rw[List.length_range]at hl;have hg:=mapM_some_get h1 j j (mX (by omega));rw[Dd hj]at hg
      have hsp:a.spot=none:=by
       have hi:i<xs.length:=(Db.1 hx).1;obtain⟨es,q1,q2,_⟩:=hxs 0 _ (Dd (by omega));have wV:=t.cj;rw[Ty.aH]at q2;unfold World.cells? at q1;rw[if_pos (by unfold Addr.add;split<;>exact hb)]at q1;have h0:=mapM_some_get q1 0 0 (mX (by omega));rw[Dd (by omega)]at h0;have hs:=wC h0;simpa[Addr.add]using hs
      refine⟨hsp,ds[j],?_,h3 j r _ hr (Dd hj)⟩
      have:(a.add (i*P.cellsOf e)).add j=⟨a.block,a.off+(i*t.sz+j),none⟩:=by
       obtain⟨b0,o0,s0⟩:=a;simp only at hsp;subst hsp;rw[hsz];simp only[Addr.add];grind
      rw[this]at hg;exact hg
     rw[<-hxl]
     have hrep:cr w (λ_=>True) (.sl t xs) (.slice (some a) xs.length cap):=by
      refine .sl t xs (some a) cap a.block a.off (λi j=>(w.at? (a.block,a.off+(i*t.sz+j))).getD undef) (by omega) ?_ (λi j r hc=>?_) (λi j r hc=>?_)
      ·cases xs with
       |nil=>exact .inl rfl
       |cons x l=>
        right;obtain⟨r,hr⟩:=aZ (t:=t) (xs:=x::l) (i:=0) (j:=0) (by simp) t.cj;have:=(key 0 0 r hr).1;obtain⟨b0,o0,s0⟩:=a;grind
      ·grind
      ·grind
     exact ea.one hrep (.sl t xs (λi j r hc=>by obtain⟨_,v,_,_,hw⟩:=key i j r hc;exact hw) (by omega))
   ·cases hf
  ·rename_i fs hu;simp only[An]at hf;obtain⟨us,hus,hf⟩:=hf;cases hc:Nat.beq (P.cellsOf T) us.length<;>simp only[hc,cond_true,cond_false]at hf
   ·cases hf
   cases hf;have hc:=Dc hc;obtain⟨fuel',xs,hl,hx⟩:=rB hu h;have:=lC (F:=DataW.trod enc P w base sp held fuel') (λT cs x ts h1 h2 _=>jS n fuel' T cs x ts h1 h2) cs fs.toList 0 _ xs hus hx (by omega);grind
  ·cases hf
end
end
section
variable [Tok]
open Go.ChangeShapes Go.WideShapes Go.ChangeAt Go.RowKit
def xU (P:Program) (tt:TT) (T:TypeId) (a:Arg):Prop:=
 ∃ts,lB P tt 8 T=some ts/\((∃fs,P.underlying T=some (.struct fs))->∃rs:List R,a=.agg rs/\rs.map R.ty=ts/\∀r∈rs,r.Wf)/\
  ((∀fs,P.underlying T≠some (.struct fs))->∃r:R,a=.one r/\[r.ty]=ts/\r.Wf)
def lE (P:Program) (tt:TT):List TypeId->List Arg->Prop
 |[],[]=>True
 |T::Ts,a::as=>xU P tt T a/\lE P tt Ts as
 |_,_=>False
section
variable {H:Type} {enc:TypeId× Value->H} {P:Program} {tt:TT} {w:World} {base:Nat} {sp:Nat->Bool} {held:Bool}
theorem xV {b0:Nat} {T:TypeId} {v:Value} {d:DataW H} {p:List MemPlace} {ts:List Ty} (hd:DataW.Trod enc P w base sp held T v d p) (hv:Value.okWide P w .any b0 T v) (hf:lB P tt 8 T=some ts):
  ∃a,xU P tt T a/\gU w (λ_=>True) a v:=by
 obtain⟨fuel,hd⟩:=hd;obtain⟨rs,h1,h2,h3⟩:=jS 8 fuel T _ _ ts hd hf;by_cases hs:∃fs,P.underlying T=some (.struct fs)
 ·obtain⟨fs,hfs⟩:=hs;simp only[Value.okWide,hfs]at hv;obtain⟨cs,rfl,hsz,_⟩:=hv;refine⟨.agg rs,⟨ts,hf,λ_=>⟨rs,rfl,h1,λr hr=>?_⟩,λh=>(h fs hfs).elim⟩,cs,rfl,by simpa[Value.cells]using h2,λj r u hr hu=>?_⟩
  ·obtain⟨j,hj⟩:=DI hr
   have hlt:j<cs.size:=by
    have:=(Db.1 hj).1;simp[Value.cells]at h2;omega
   exact(h3 j r cs[j] hj (by simp[Value.cells,hlt])).2
  ·exact(h3 j r u hr (by simpa[Value.cells]using hu)).1
 ·have one1:∀{t},rs.map R.ty=[t]->∃r,rs=[r]:=λh=>List.length_eq_one_iff.1 (by simpa using congrArg List.length h)
  have mg:∃r,rs=[r]:=by
   unfold lB at hf;split at hf
   ·cases hf;exact one1 h1
   ·cases hf;exact one1 h1
   ·cases hf;exact one1 h1
   ·simp only[An]at hf;obtain⟨t,_,us,_,hf⟩:=hf;split at hf
    ·cases hf;exact one1 h1
    ·exact nomatch hf
   ·rename_i fs hu;exact(hs ⟨fs,hu⟩).elim
   ·exact nomatch hf
  obtain⟨r,rfl⟩:=mg
  have Bf:v.cells.toList=[v]:=by
   have C4:∀cs,v≠.agg cs:=λcs e=>by
    subst e;unfold lB at hf;split at hf
    ·rename_i k hu;obtain⟨n,e⟩:=okWide_int hu hv;exact nomatch e
    ·rename_i hu;obtain⟨n,e⟩:=okWide_bool hu hv;exact nomatch e
    ·rename_i hu;obtain⟨n,e⟩:=okWide_string hu hv;exact nomatch e
    ·rename_i e hu;obtain⟨a,l,c,e⟩:=okWide_slice hu hv;exact nomatch e
    ·rename_i fs hu;exact(hs ⟨fs,hu⟩).elim
    ·exact nomatch hf
   cases v<;>first|rfl|exact(C4 _ rfl).elim
  rw[Bf]at h3;have:=h3 0 r v rfl rfl;exact⟨.one r,⟨ts,hf,λh=>(hs h).elim,λ_=>⟨r,rfl,by simpa using h1,this.2⟩⟩,this.1⟩
theorem pW {b0:Nat}:∀{Ts:List TypeId} {vs:List Value} {ds:List (DataW H)} {ps:List MemPlace},DataW.TrodAll enc P w base sp held Ts vs ds ps->
  (∀(j:Nat) t v,Ts[j]? =some t->vs[j]? =some v->Value.okWide P w .any b0 t v)->(Ts.all λT=>(lB P tt 8 T).isSome)=true->
  ∃as,lE P tt Ts as/\as.length=vs.length/\ds.length=Ts.length/\∀(j:Nat) (x:Arg) (u:Value),as[j]? =some x->vs[j]? =some u->gU w (λ_=>True) x u
 |[],[],[],_,_,_,_=>⟨[],trivial,rfl,rfl,λj x u h=>by simp at h⟩
 |T::Ts,v::vs,d::ds,ps,⟨p,q,h1,h2,_⟩,hv,hf=>by
  simp only[List.all_cons,De]at hf;obtain⟨ts,hts⟩:=Option.isSome_iff_exists.1 hf.1;obtain⟨a,g1,g2⟩:=xV h1 (hv 0 T v rfl rfl) hts;obtain⟨as,g3,g4,g5,g6⟩:=pW h2 (λj t v ht hw=>hv (j+1) t v (by simpa using ht) (by simpa using hw)) hf.2;refine⟨a::as,⟨g1,g3⟩,by simp[g4],by simp[g5],λj x u hx hu=>?_⟩
  cases j with
  |zero=>simp at hx hu;subst hx hu;exact g2
  |succ j=>exact g6 j x u (by simpa using hx) (by simpa using hu)
 |[],_::_,_,_,h,_,_=>nomatch h
 |[],[],_::_,_,h,_,_=>nomatch h
 |_::_,[],_,_,h,_,_=>nomatch h
 |_::_,_::_,[],_,h,_,_=>nomatch h
variable {w':World}
theorem rC (hg:aM w w') (hc:∀(p:Cell) x,w.at? p=some x->w'.at? p=some x/\w'.aU p=w.aU p) (may:MemPlace->Prop):w.keptBut w' may:=by
 obtain⟨h1,h2,h3⟩:=hg;refine⟨h1,h2,λi hi=>?_⟩;have:=h3 i hi;split at this
 ·rename_i c t fr c' t' fr' e1 e2;obtain⟨q1,q2,q3⟩:=this;rw[e1,e2];refine⟨q1,?_,q3,λj _=>?_⟩
  ·rcases q2 with q2|q2
   ·exact q2
   ·have h0:w.at? (i,0)=some c[0]:=by simp[World.at?,World.cell?,e1,q2]
    have:=(hc _ _ h0).2;simp only[World.aU,e1,e2,Dq]at this;exact Prod.ext this.1 this.2.1
  ·by_cases hj:j<c.size
   ·have:w.at? (i,j)=some c[j]:=by simp[World.at?,World.cell?,e1,hj]
    have:=(hc _ _ this).1;simp only[World.at?,World.cell?,e2,Ez,D5,if_false]at this;rw[this,Dg hj]
   ·rw[Array.getElem?_eq_none (by omega),Array.getElem?_eq_none (by omega)]
 ·rename_i x y h4;rw[this];split
  ·rename_i e1 e2;rw[e1]at e2;cases e2;exact⟨rfl,rfl,rfl,λ_ _=>rfl⟩
  ·rename_i e1 e2;rw[e1]at e2;cases e2;exact .inr ⟨rfl,rfl⟩
  ·rfl
theorem wD {may:MemPlace->Prop} (h:w.keptBut w' may) {a:Addr} (ha:a.block<w.heap.size):w'.frozen? a=w.frozen? a:=by
 have:=h.2.2 a.block ha;unfold World.frozen?;split at this
 ·rename_i e1 e2;obtain⟨_,q2,_⟩:=this;rw[e1,e2,q2]
 ·rename_i e1 e2;rw[e1,e2]
 ·rw[this]
theorem z7 (hg:aM w w') (hc:∀(p:Cell) x,w.at? p=some x->w'.at? p=some x/\w'.aU p=w.aU p) {p:MemPlace} (hp:p.block<w.heap.size):w.sameAt w' p:=by
 obtain⟨_,_,h3⟩:=rC hg hc λ_=>False
 cases p with
 |cell b o=>
  have:=h3 b hp;show w'.cell? ⟨b,o,none⟩=w.cell? ⟨b,o,none⟩;split at this
  ·rename_i c t fr c' t' fr' e1 e2;obtain⟨q1,q2,q3,q4⟩:=this;simp only[World.cell?,e1,e2,Ez,D5,if_false];exact q4 o (λh=>h)
  ·rename_i es ck es' ck' e1 e2;simp[World.cell?,e1,e2]
  ·simp only[World.cell?,this]
 |map b=>
  have:=h3 b hp;show w'.heap[b]? =w.heap[b]?;split at this
  ·rename_i c t fr c' t' fr' e1 e2;obtain⟨rfl,rfl,q3,q4⟩:=this;rw[e1,e2];have:c'=c:=Array.ext_getElem? λj=>q4 j (λh=>h);rw[this]
  ·rename_i es ck es' ck' e1 e2
   rcases this with h|⟨rfl,rfl⟩
   ·exact h.elim
   ·rw[e1,e2]
  ·exact this
theorem iX (hl:laidOutB P=true):∀{Ts:List TypeId} {vs:List Value} {ds:List (DataW H)} {ps:List MemPlace},(∀t∈Ts,P.readableRec t=true/\t<P.types.size)->
    DataW.TrodAll enc P w 0 (λ_=>true) true Ts vs ds ps->(∀p∈ps,w.sameAt w' p)->(∀p∈ps,sp p.block=true)->DataW.TrodAll enc P w' 0 sp true Ts vs ds ps
  |[],[],[],_,_,h,_,_=>h
  | T :: Ts, v :: vs, d :: ds, ps, hT, ⟨p, q, h1, h2, e⟩, hs, hp =>
    ⟨p,q,WideElems.Trod_stays hl (hT T (by simp)).1 (hT T (by simp)).2 h1 (λx hx=>hs x (by rw[e];exact List.mem_append_left _ hx)) (λx hx=>hp x (by rw[e];exact List.mem_append_left _ hx)),
      iX hl (λt ht=>hT t (by simp[ht])) h2 (λx hx=>hs x (by rw[e];exact List.mem_append_right _ hx)) (λx hx=>hp x (by rw[e];exact List.mem_append_right _ hx)),e⟩
  |[],_::_,_,_,_,h,_,_=>nomatch h
  |[],[],_::_,_,_,h,_,_=>nomatch h
  |_::_,[],_,_,_,h,_,_=>nomatch h
  |_::_,_::_,[],_,_,h,_,_=>nomatch h
end
theorem wE {H:Type} {enc:TypeId× Value->H} {P:Program} {f:Func} {s:ChangeSpec} {apart fresh handsOn again:Bool} {W W':World} {args:Array Value} {v:Value} {ds gs:List (DataW H)} {before pa pv:List MemPlace}
  (hW:DataW.Whole enc P f.params.toList s.vars apart W args.toList ds gs before)
  (yW:∀(b:Nat) (sp:Nat->Bool) (hd:Bool),DataW.TrodAll enc P W' b sp hd f.resultTypes.toList (v.resultList f.resultTypes.size) (s.fn H (ds++gs)).results [])
  (fD:∀sp:Nat->Bool,(∀p∈before,sp p.block=true)->DataW.TrodAll enc P W' 0 sp true f.params.toList args.toList (s.fn H (ds++gs)).args pa)
  (wF:∀sp:Nat->Bool,(∀p∈before,sp p.block=true)->DataW.TrodVars enc P W' sp s.vars (s.fn H (ds++gs)).vars pv)
  (hps:before=pa++pv) (hk:W.keptBut W' (·∈before)) (hfz:∀b off,MemPlace.cell b off∈before->W'.frozen? ⟨b,off,none⟩=W.frozen? ⟨b,off,none⟩)
  (hok:∀(j:Nat) (t:TypeId) (r:Value),f.resultTypes[j]? =some t->(v.resultList f.resultTypes.size)[j]? =some r->Value.okWide P W' .any 0 t r):s.post enc P f apart fresh handsOn again W args v W':=by
 have hin:∀p∈before,(decide (p.block<W.heap.size))=true:=λp hp=>decide_eq_true (hW.lt p hp);subst hps;refine⟨ds,gs,_,[],pa,pv,hW,yW _ _ _,fD (λb=>decide (b<W.heap.size)) hin,wF _ hin,World.keptBut_mono (λp hp=>⟨hp,.inr (List.mem_append.1 hp)⟩) hk,λ_=>?_⟩;obtain⟨_,_,_,_,_,hz,hn⟩:=id hW;refine⟨hok,_,_,([]++pa)++pv,⟨[]++pa,pv,trodAll_append (fD _ λ_ _=>rfl) (yW _ _ _),wF _ λ_ _=>rfl,rfl,λb off hp=>?_,λha=>?_⟩,λp hp _=>?_⟩
 ·have hp:MemPlace.cell b off∈pa++pv:=by simpa using hp
  rw[hfz b off hp];exact hz b off hp
 ·simpa using hn ha
 ·simpa using hp
theorem uf {C:Checked} {os:Os} {g:FuncId} {fn:Func} {s:ChangeSpec} {tt:TT} {H:Type} {enc:TypeId× Value->H} {conds:List PathCond} {apart fresh handsOn again:Bool}
    (own:ownKnob C.prog.godebug=none) (started:os.Started) (noInit:C.prog.inits.idxOf? g=none) (hfn:C.prog.funcs[g]? =some fn)
    (witness:∃(w:World) (tape:Tape) (i:Input),w.os=os/\(w.forCall tape i).Shaped C.prog/\i.vars=[]/\Input.okWide C.prog (w.forCall tape i) .any w.heap.size g i/\
      s.pre6 enc C.prog fn conds apart (w.forCall tape i).memory i.args/\Assume.holds {} C.prog (lone (Frame.enter C.prog g i.args .normal) [] (w.forCall tape i)))
    (Cb:laidOutB C.prog=true) (Cc:∀t∈fn.params.toList,C.prog.readableRec t=true/\t<C.prog.types.size) (Ce:(fn.params.toList.all λT=>(lB C.prog tt 8 T).isSome)=true)
    (wF:s.vars=[]) (z8:∀ds:List (DataW H),ds.length=fn.params.toList.length->s.fn H (ds++[])={results:=[.lit (.bool true)],args:=ds,vars:=[]})
    {bt:TypeId} (yW:fn.resultTypes=#[bt]) (hbt:C.prog.underlying bt=some .bool)
    (C5:∀as:List Arg,lE C.prog tt fn.params.toList as->dG C.prog g as (.b true,[])):
    ReturnsInHanded {} C os g .any (s.pre6 enc C.prog fn conds apart) (s.post enc C.prog fn apart fresh handsOn again):=by
  refine returnsInHanded_of_change (C:=C) own started noInit hfn witness ?_;intro W base args ds gs before hval hW _ _;have hW':=hW;obtain⟨p,q,hA,hV,rfl,hfz,_⟩:=hW;rw[wF]at hV;obtain⟨rfl,rfl⟩:=trodVars_none hV;obtain⟨as,g1,g2,g3,g4⟩:=pW hA (λj t v ht hv=>hval j t v (by simpa using ht) (by simpa using hv)) Ce;obtain⟨_,hc⟩:=C5 as g1;refine(hc W args (λ_=>True) (by simpa using g2) (λj x u hx hu=>g4 j x u hx (by simpa using hu))).mono λe W' ⟨u,pl,he,_,hu,_,gN,_,hgr⟩=>?_
  have hu:u=.bool true:=by
    cases hu with
    |r _ _ _ h=>cases h;rfl
  subst hu he;have hc':∀(p:Cell) x,W.at? p=some x->W'.at? p=some x/\W'.aU p=W.aU p:=gN;have hlt:∀x∈p,x.block<W.heap.size:=λx hx=>hW'.lt x (by simpa using hx);refine⟨_,rfl,wE (pa:=p) (pv:=[]) hW' (λ_ _ _=>?_) (λsp hsp=>?_) (λ_ _=>?_) rfl (rC hgr hc' _) (λb off hp=>wD (rC hgr hc' λ_=>False) (hW'.lt _ hp)) (ok_one yW rfl (okWide_bool_mk hbt true))⟩
  · rw[z8 ds g3,yW];exact trodAll_mk1 (shut_bool hbt true)
  · rw[z8 ds g3];exact iX Cb Cc hA (λx hx=>z7 hgr hc' (hlt x hx)) (λx hx=>hsp x (by simpa using hx))
  · rw[z8 ds g3,wF];exact rfl
end
end Go.Proofs.Ev
