/- The evaluator over the model's code, and that it is sound: part 7. -/
import Derived.Test.YtimmojehndbiiaaGreatEvK6
import Derived.KernelRfl
import Derived.Below
import Derived.RangeFuncFrom
import Derived.RangeFuncCalls
import Derived.RangeFuncLeaves
import Derived.OrdersIn
import Derived.TacticsIn
import GoSem.ClaimChange
import Derived.Deep.Slices
import Derived.DataReads
import Derived.ProofKit
import Derived.WideKeyArgs
import Derived.IntWalk
set_option linter.unusedVariables false
set_option linter.unusedSimpArgs false
set_option linter.unusedSectionVars false
namespace Go.Proofs.Ev
open IntKind(i64 u8 u64)
section
variable [Tok]
def tj:SV->Bool
 |.r _ (.int _ _)=>true
 |.r _ (.bool _)=>true
 |.r _ (.str _)=>true
 |_=>false
def wB:List SV->Bool
 |[]=>true
 |v::l=>cond (tj v) (wB l) false
theorem tl:∀{l:List SV},wB l=true->∀v∈l,tj v=true
 |[],_,v,hv=>nomatch hv
 |x::l,h,v,hv=>by
  simp only[wB]at h;cases hx:tj x<;>simp only[hx,cond_true,cond_false]at h
  ·exact nomatch h
  ·rcases Kq.1 hv with rfl|hv
   ·exact hx
   ·exact tl h v hv
theorem wC {w w':World} {H H':Heap} {pl pl':Pl} {v:SV} {u:Value} (h:tj v=true) (hv:SVRep w H pl v u):SVRep w' H' pl' v u:=by
 cases hv with
 |r d x _ hx=>cases hx with
  |int=>exact .r _ _ _ (.int _ _)
  |bool=>exact .r _ _ _ (.bool _)
  |str=>exact .r _ _ _ (.str _)
  |tok=>first|exact .r _ _ _ (.tok _)|exact nomatch h
  |jI=>exact nomatch h
  |sl=>exact nomatch h
 |_=>exact nomatch h
def DA (o:Orc):Orc:=λρ nid vs h K=>match vs with
 |.inn i x c::rest=>cond (wB rest) (match look h i with
  |some (.arr none t xs)=>(xs[x]?).bind λe=>match(t.cells e)[c]? with
   |some (.sl t' ys)=>o ρ nid (.own i::rest) [(i,.arr none t' ys)] λq=>
    cond (tj q.v&&(isNil q.news&&isNil q.gone)) (match q.upd with
     |[(_,.arr none t2 zs)]=>if he:t2=t' then(t.cT ((t.cells e).take c++[.sl t' (he▸zs)]++(t.cells e).drop (c+1))).bind λy=>K {v:=q.v,upd:=[(i,.arr none t (xs.set x y))],gL:=[i]}else none
     |_=>none) none
   |_=>none
  |_=>none) none
 |_=>o ρ nid vs h K
section
variable {w w':World} {H H':Heap} {pl:Pl}
theorem Fi {i x c cap b o:Nat} {t t':Ty} {xs:List t.El} {e y:t.El} {ys zs:List t'.El} {vs:Nat->Nat->Value} {fs:Nat->Nat->Cell->Prop} {T2:Kil} {pl2 pl2':Pl}
  (hr:bj H pl w) (hli:look H i=some (.arr none t xs)) (hx:xs[x]? =some e) (hc:(t.cells e)[c]? =some (.sl t' ys)) (hy:t.cells y=(t.cells e).take c++[.sl t' zs]++(t.cells e).drop (c+1))
  (hh:pl.hdr i=.slice (some ⟨b,o,none⟩) xs.length cap) (h2:xs.length<=cap) (h4:∀j,j<cap*t.sz->(∃v,w.at? (b,o+j)=some v)/\whole (w.bQ (b,o+j)) o (cap*t.sz)=true)
  (h5:∀i j r,aq t xs i j r->w.at? (b,o+(i*t.sz+j))=some (vs i j)) (h6:∀i j r,aq t xs i j r->cS w r (vs i j) (fs i j))
  (h7:∀i j r p,aq t xs i j r->fs i j p->¬reg b o (cap*t.sz) p) (h8:∀i j r i' j' r' p,aq t xs i j r->aq t xs i' j' r'->fs i j p->fs i' j' p->i=i'/\j=j')
  (h9:∀p,pl.fp i p↔reg b o (cap*t.sz) p\/∃i j r,aq t xs i j r/\fs i j p)
  (hb2:pl2.base=pl.base) (hf2:pl2.fp i=fs x c) (hd2:pl2.hdr i=vs x c) (hg2:mem i T2.1=false) (hst:br [(i,.arr none t' ys)] [(i,.arr none t' zs)] T2 pl2 pl2' w w')
  (ht:jc H H' ([],[i]) i (.arr none t (xs.set x y))):∃pl',br H H' ([],[i]) pl pl' w w':=by
 have hxl:x<xs.length:=(J5.1 hx).1
 have hcl:c<t.sz:=by rw[<-Ty.bp t e];exact(J5.1 hc).1
 have hcell:aq t xs x c (.sl t' ys):=⟨e,hx,hc⟩
 have hl1:∀{t':Ty} {ys:List t'.El} {j B},look [(i,Blk.arr none t' ys)] j=some B->j=i/\B=.arr none t' ys:=λ{t' ys j B} h=>by
  rw[look_cons]at h;by_cases e:i=j
  ·rw[if_pos e]at h;cases h;exact⟨e.symm,rfl⟩
  ·rw[if_neg e]at h;exact nomatch h
 have ov:∀p u,w.at? p=some u->¬fs x c p->¬pl2'.fp i p/\w'.at? p=some u/\w'.bQ p=w.bQ p:=λp u hp hn=>by
  obtain⟨g1,g2⟩:=hst.fr p u hp λj B hB hf=>by
   obtain⟨rfl,_⟩:=hl1 hB;rw[hf2]at hf;exact hn hf
  exact⟨g1 i _ (by rw[look_cons,if_pos rfl]),g2⟩
 have sa:∀p,fs x c p->pl.fp i p:=λp hp=>(h9 p).2 (.inr ⟨_,_,_,hcell,hp⟩)
 have Jt:∀j,mem j [i]=true->j=i:=λj hj=>by
  simp only[mem]at hj;cases hb:Nat.beq i j<;>simp only[hb,cond_true,cond_false]at hj
  ·exact nomatch hj
  ·exact(J6 hb).symm
 have hmi:mem i [i]=true:=by simp[mem]
 have xr:∀p,pl2'.fp i p->∃u,w'.at? p=some u:=λp hp=>hst.hr.dB i _ p (by rw[look_cons,if_pos rfl]) hp
 refine⟨_,fB (hdr:=pl.hdr i) (fp:=λp=>(pl.fp i p/\¬fs x c p)\/pl2'.fp i p) hst.gr hr ht (λj hj=>nomatch hj) (λj hj=>.inr (Jt j hj)) (.inr ⟨_,hli,hmi,⟨rfl,by simp⟩,rfl⟩)
  (λp u hp hno=>(ov p u hp λhf=>hno i _ hmi hli (sa p hf)).2) (λp hp=>?_) (λp hp=>?_) λhk=>?_⟩
 ·have:=hst.hr.nb p hp;rw[hst.bs,hb2]at this;exact this
 ·rcases hp with hp|hp
  ·exact .inr ⟨i,_,hmi,hli,hp.1⟩
  ·cases hq:w.at? p with
   |none=>exact .inl rfl
   |some u=>
    by_cases hf:fs x c p
    ·exact .inr ⟨i,_,hmi,hli,sa p hf⟩
    ·exact((ov p u hq hf).1 hp).elim
 ·have mg:∀{i' j r},aq t (xs.set x y) i' j r->(i'=x/\j=c/\r=.sl t' zs)\/(¬(i'=x/\j=c)/\aq t xs i' j r):=λ{i' j r} h=>by
   obtain⟨z,hz,hzj⟩:=h;by_cases e1:i'=x
   ·subst e1;rw[List.getElem?_set_self hxl]at hz;cases hz;rw[hy]at hzj
    have hto:((t.cells e).take c).length=c:=by rw[KC,Ty.bp];omega
    by_cases c1:j<c
    ·rw[Ko,Ke (by omega),Kv,if_pos c1]at hzj;exact .inr ⟨λh=>by omega,e,hx,hzj⟩
    ·by_cases c2:j=c
     ·subst c2;rw[Ko,Kb (by omega),hto,Nat.sub_self]at hzj;cases hzj;exact .inl ⟨rfl,rfl,rfl⟩
     ·rw[Ko,Kb (by omega),hto,Kb (by simp;omega),Kn]at hzj;simp only[List.length_singleton]at hzj;rw[show c+1+(j-c-1)=j from by omega]at hzj;exact .inr ⟨λh=>c2 h.2,e,hx,hzj⟩
   ·rw[List.getElem?_set_ne (λe=>e1 e.symm)]at hz;exact .inr ⟨λh=>e1 h.1,z,hz,hzj⟩
  have mJ:∀{i' j r},aq t xs i' j r->∃r',aq t (xs.set x y) i' j r':=λ{i' j r} h=>by
   obtain⟨a1,a2⟩:=aB h;exact bZ (by simpa using a1) a2
  have hreg0:∀p,reg b o (cap*t.sz) p->¬fs x c p:=λp hp hf=>h7 _ _ _ p hcell hf hp
  have hsl:cS w' (.sl t' zs) (vs x c) (pl2'.fp i):=by
   have h1:=hst.hr.blk i _ (by rw[look_cons,if_pos rfl]:look [(i,Blk.arr none t' zs)] i=some (.arr none t' zs));obtain⟨_,_,_,h3⟩:=hst.kp.k1 i _ (by rw[look_cons,if_pos rfl]) hg2;rw[<-hd2,<-h3];obtain⟨R⟩:=h1;exact R.Is
  have e1:(pl.set i (pl.hdr i) λp=>(pl.fp i p/\¬fs x c p)\/pl2'.fp i p).hdr i=pl.hdr i:=by simp[Pl.set]
  have e2:(pl.set i (pl.hdr i) λp=>(pl.fp i p/\¬fs x c p)\/pl2'.fp i p).fp i=λp=>(pl.fp i p/\¬fs x c p)\/pl2'.fp i p:=by simp[Pl.set]
  show Nonempty (Row w' (cS w') t (xs.set x y) ((pl.set i (pl.hdr i) λp=>(pl.fp i p/\¬fs x c p)\/pl2'.fp i p).hdr i) ((pl.set i (pl.hdr i) λp=>(pl.fp i p/\¬fs x c p)\/pl2'.fp i p).fp i));rw[e1,e2];refine⟨⟨some ⟨b,o,none⟩,cap,b,o,vs,λi' j=>if i'=x/\j=c then pl2'.fp i else fs i' j,by rw[hh,Lz],by rw[Lz];exact h2,.inr rfl,λj hj=>?_,λi' j r h=>?_,λi' j r h=>?_,λi' j r p h hf=>?_,λi' j r i'' j' r' p h h' hf hf'=>?_,λp=>?_⟩⟩
  ·obtain⟨⟨v,hv⟩,hi⟩:=h4 j hj;obtain⟨_,g1,g2⟩:=ov _ v hv (hreg0 _ ⟨rfl,by simp,by simp;omega⟩);exact⟨⟨v,g1⟩,by rw[g2];exact hi⟩
  ·obtain⟨a1,a2⟩:=aB h;rw[Lz]at a1;obtain⟨r0,hr0⟩:=bZ a1 a2;exact(ov _ _ (h5 _ _ _ hr0) (hreg0 _ ⟨rfl,by simp,by have:=kR a1 a2 h2;simp;omega⟩)).2.1
  ·rcases mg h with⟨rfl,rfl,rfl⟩|⟨hne,h⟩
   ·rw[if_pos ⟨rfl,rfl⟩];exact hsl
   ·rw[if_neg hne];refine(h6 _ _ _ h).frame λp u hp hu=>(ov p u hu λhf=>hne ?_).2;exact h8 _ _ _ _ _ _ p h hcell hp hf
  ·rcases mg h with⟨rfl,rfl,rfl⟩|⟨hne,h⟩
   ·rw[if_pos ⟨rfl,rfl⟩]at hf;intro hre;obtain⟨p1,p2⟩:=p;obtain⟨q1,q2,q3⟩:=hre;simp only at q1 q2 q3;subst q1;obtain⟨⟨v,hv⟩,_⟩:=h4 (p2-o) (by omega);rw[show o+(p2-o)=p2 from by omega]at hv;exact(ov _ v hv (hreg0 _ ⟨rfl,q2,q3⟩)).1 hf
   ·rw[if_neg hne]at hf;exact h7 _ _ _ p h hf
  ·have cross:∀{i' j r},¬(i'=x/\j=c)->aq t xs i' j r->fs i' j p->pl2'.fp i p->False:=λ{i' j r} hne h hf hf'=>by
    obtain⟨u,hu⟩:=(h6 _ _ _ h).there p hf;exact(ov p u hu λhq=>hne (h8 _ _ _ _ _ _ p h hcell hf hq)).1 hf'
   rcases mg h with⟨rfl,rfl,rfl⟩|⟨hne,hc1⟩<;>rcases mg h' with⟨rfl,rfl,rfl⟩|⟨I3,hc2⟩
   ·exact⟨rfl,rfl⟩
   ·rw[if_pos ⟨rfl,rfl⟩]at hf;rw[if_neg I3]at hf';exact(cross I3 hc2 hf' hf).elim
   ·rw[if_pos ⟨rfl,rfl⟩]at hf';rw[if_neg hne]at hf;exact(cross hne hc1 hf hf').elim
   ·rw[if_neg hne]at hf;rw[if_neg I3]at hf';exact h8 _ _ _ _ _ _ p hc1 hc2 hf hf'
  ·constructor
   ·rintro (⟨hp,hn⟩|hp)
    ·rcases(h9 p).1 hp with hp|⟨i',j,r,h,hf⟩
     ·exact .inl hp
     ·have hne:¬(i'=x/\j=c):=λ⟨q1,q2⟩=>by subst q1 q2;exact hn hf
      obtain⟨r',h'⟩:=mJ h;exact .inr ⟨i',j,r',h',by rw[if_neg hne];exact hf⟩
    ·obtain⟨r',h'⟩:=mJ hcell;exact .inr ⟨x,c,r',h',by rw[if_pos ⟨rfl,rfl⟩];exact hp⟩
   ·rintro (hp|⟨i',j,r,h,hf⟩)
    ·exact .inl ⟨(h9 p).2 (.inl hp),hreg0 p hp⟩
    ·rcases mg h with⟨rfl,rfl,rfl⟩|⟨hne,h⟩
     ·rw[if_pos ⟨rfl,rfl⟩]at hf;exact .inr hf
     ·rw[if_neg hne]at hf;exact .inl ⟨(h9 p).2 (.inr ⟨_,_,_,h,hf⟩),λhq=>hne (h8 _ _ _ _ _ _ p h hcell hf hq)⟩
end
theorem DB {P:Program} {g:FuncId} {o:Orc} (ho:OrcOk P g o):OrcOk P g (DA o):=by
 intro ρ nid vs H K out hK;unfold DA at hK;split at hK
 case h_2=>exact ho ρ nid _ H K _ hK
 rename_i i x c rest;cases hpl:wB rest<;>simp only[hpl,cond_true,cond_false]at hK
 ·exact nomatch hK
 split at hK
 case h_2=>exact nomatch hK
 rename_i t xs hli;simp only[An]at hK;obtain⟨e,hx,hK⟩:=hK;split at hK
 case h_2=>exact nomatch hK
 rename_i t' ys hc;obtain⟨q,hq,hen,hup,Gz⟩:=ho ρ nid _ _ _ _ hK;cases hpv:(tj q.v&&(isNil q.news&&isNil q.gone))<;>simp only[hpv,cond_true,cond_false]at hq
 ·exact nomatch hq
 simp only[J8]at hpv;obtain⟨hpv,hnw,hgn⟩:=hpv;have hnw:=b5 hnw;have hgn:=b5 hgn;split at hq
 case h_2=>exact nomatch hq
 rename_i i' t2 zs hqu;split at hq
 case isFalse=>exact nomatch hq
 rename_i het;subst het;simp only[An]at hq;obtain⟨y,hy,hK⟩:=hq;have hy:=Ty.bE _ _ _ hy
 have hii:i'=i:=by
  obtain⟨B',hB'⟩:=hup i' _ (by rw[hqu,look_cons,if_pos rfl]);rw[look_cons]at hB';by_cases e:i=i'
  ·exact e.symm
  ·rw[if_neg e]at hB';exact nomatch hB'
 subst hii;refine⟨_,hK,hen,λj B hB=>?_,λH1 pl w us he hr hn hl hp H' ha=>?_⟩
 ·rw[look_cons]at hB;by_cases e:i'=j
  ·subst e;exact⟨_,hli⟩
  ·rw[if_neg e]at hB;exact nomatch hB
 have hli1:=he _ _ hli;obtain⟨u0,hu0⟩:∃u0,us[0]? =some u0:=⟨us[0]'(by rw[<-hl];simp),by simp⟩;have hi0:=hp 0 _ u0 rfl hu0
 cases hi0 with
 |inn _ _ _ sh t1 xs1 b o n cap _ hl1 hx1 hc1 hh hok hat sI=>
  rw[hli1]at hl1;cases hl1;obtain⟨⟨a',er,b',o',vs,fs,h1,h2,h3,h4,h5,h6,h7,h8,h9⟩⟩:=hr.blk _ _ hli1;rw[hh]at h1;cases h1;have h3:=h3.resolve_left (by omega);cases h3;have hcell:aq t xs x c (.sl t2 ys):=⟨e,hx,hc⟩
  have hu:u0=vs x c:=by rw[h5 _ _ _ hcell]at hat;cases hat;rfl
  subst hu
  let pl2:Pl:=⟨λ_=>vs x c,λ_=>fs x c,pl.base⟩
  have hl1:∀{j B},look [(i',Blk.arr none t2 ys)] j=some B->j=i'/\B=.arr none t2 ys:=λ{j B} h=>by
   rw[look_cons]at h;by_cases e:i'=j
   ·rw[if_pos e]at h;cases h;exact⟨e.symm,rfl⟩
   ·rw[if_neg e]at h;exact nomatch h
  have hr2:bj [(i',.arr none t2 ys)] pl2 w:=by
   refine⟨λj B hB=>?_,λj k B B' p q1 q2 _ _=>?_,λj B p hB hf=>?_,hr.nb⟩
   ·obtain⟨rfl,rfl⟩:=hl1 hB;exact(h6 _ _ _ hcell).row
   ·rw[(hl1 q1).1,(hl1 q2).1]
   ·exact hr.ob _ _ p hli1 ((h9 p).2 (.inr ⟨_,_,_,hcell,hf⟩))
  have haf:after [(i',.arr none t2 ys)] nid q=some [(i',.arr none t2 zs)]:=by
   unfold after;rw[hqu,hnw]
   have:upds [(i',Blk.arr none t2 zs)] [(i',Blk.arr none t2 ys)]=[(i',.arr none t2 zs)]:=by simp[upds,put]
   rw[this]
   have:ey q.kil [(i',Blk.arr none t2 zs)]=some [(i',.arr none t2 zs)]:=by
    unfold ey;split
    ·rfl
    ·simp[qn,CR.kil,hgn,mem,Blk.ay]
   rw[this];simp[newsH]
  refine(Gz _ pl2 w us .rfl' hr2 (λk hk=>by rw[hnw]at hk;exact nomatch hk) (by simpa using hl) (λj v u hv hu=>?_) _ haf).mono λe' w' ⟨u,pl2',he',hst,hv'⟩=>?_
  ·cases j with
   |zero=>
    rw[hu0]at hu;cases hu;cases hv
    exact SVRep.own (pl:=pl2) i' none t2 ys (by rw[look_cons,if_pos rfl])
   |succ j=>exact wC (tl hpl v (Kk (by simpa using hv))) (hp (j+1) v u (by simpa using hv) hu)
  ·obtain⟨ht,_⟩:=ny (c:={v:=q.v,upd:=[(i',.arr none t (xs.set x y))],gL:=[i']}) hli1 rfl rfl rfl ha;obtain⟨pl',JX⟩:=Fi hr hli1 hx hc hy hh h2 h4 h5 h6 h7 h8 h9 (pl2:=pl2) rfl rfl rfl (by show mem i' q.gone=false;rw[hgn];rfl) hst ht;exact⟨u,pl',he',JX,wC hpv hv'⟩
end
section
variable [Tok]
section
variable {ρ:Type}
def cZ:Nat->Code->List (Nat× Code)
 |cb,.seq a b=>cZ cb a++cZ cb b
 |cb,.cond _ a b=>cZ cb a++cZ cb b
 |_,.block id c=>cZ id c
 |cb,.scope c=>cZ cb c
 |cb,.loop c=>[(cb,c)]
 |_,_=>[]
theorem dT {E:Env} {LP:Nat->Ev ρ->Ev ρ}:∀(c:Code) (cb:Nat),(∀x∈cZ cb c,Sound E.P (.loop x.2) (LP x.1 λst K=>ev E LP x.1 x.2 st K))->eX E LP cb c
 |.seq a b,cb,h=>⟨dT a cb λx hx=>h x (by simp[cZ,hx]),dT b cb λx hx=>h x (by simp[cZ,hx])⟩
 |.cond _ a b,cb,h=>⟨dT a cb λx hx=>h x (by simp[cZ,hx]),dT b cb λx hx=>h x (by simp[cZ,hx])⟩
 |.block id c,_,h=>dT c id h
 |.scope c,cb,h=>dT c cb h
 |.loop c,cb,h=>h (cb,c) (by simp[cZ])
 |.skip,_,_=>trivial
 |.label _,_,_=>trivial
 |.region _ _ _,_,_=>trivial
 |.exit _,_,_=>trivial
 |.ret,_,_=>trivial
 |.rangeFunc _ _ _ _,_,_=>trivial
 |.goto _,_,_=>trivial
 |.refuse _,_,_=>trivial
def GV (p:Nat× Code->Prop):List (Nat× Code)->Prop
 |[]=>True
 |x::l=>p x/\GV p l
theorem wD {p:Nat× Code->Prop}:∀{l:List (Nat× Code)},GV p l->∀x∈l,p x
 |y::l,h,x,hx=>by
  rcases Kq.1 hx with rfl|hx
  ·exact h.1
  ·exact wD h.2 x hx
theorem DC {E:Env} {LP:Nat->Ev ρ->Ev ρ} {c:Code} {cb:Nat} {l:List (Nat× Code)} (hl:cZ cb c=l)
  (h:GV (λx=>Sound E.P (.loop x.2) (LP x.1 λst K=>ev E LP x.1 x.2 st K)) l):eX E LP cb c:=
 dT c cb (by rw[hl];exact wD h)
theorem da {E:Env} {LP:Nat->Ev ρ->Ev ρ} {c:Code} {cb:Nat} (hl:cZ cb c=[]):eX E LP cb c:=DC hl trivial
theorem Fj {P:Program} {n g:Nat} {o o':Orc} (h:OrcOk P n o) (h':OrcOk P g o'):OrcOk P g (cond (Nat.beq g n) o o'):=by
 cases hb:Nat.beq g n
 ·exact h'
 ·have:g=n:=J6 hb;subst this;exact h
theorem GW {P:Program} {c:Code} {f:Ev ρ} {p V:Type} (hf:Sound P c f) {bK:List Nat} {co:List (dQ× Co)} (kx:Ex->List Nat) (cx:Ex->List (dQ× Co)) (k:Nat) {dec:Nat->NF->Option (p× V)} {tm:p× V->St}
  {g:p->V->(V->Option ρ)->(Ex->St->Option ρ)->Option ρ} (hd:∀n nf v,dec n nf=some v->dx bK n nf=tm v)
  (hg:∀(q:p) (v:V) (K K1:Ex->St->Option ρ),f (tm (q,v)) (λe st'=>match e with
    |.normal=>(o7 bK co st').bind λnf=>K1 .normal (dx bK st'.n nf)
    |e=>(o7 (kx e) (cx e) st').bind λnf=>K e (dx (kx e) st'.n nf))=g q v (λv'=>K1 .normal (tm (q,v'))) K):
  Sound P (.loop c) (o8 bK co dec λpv K=>iter (λv next=>g pv.1 v next K) k pv.2):=
 uI hf kx cx k hd λpv K=>(o9 (tm:=λv=>tm (pv.1,v)) (g:=λv next K=>g pv.1 v next K) (λv K K1 next hn=>by
  have:next=λv'=>K1 .normal (tm (pv.1,v')):=funext λv'=>(hn v').symm
  rw[this];exact hg pv.1 v K K1) K k pv.2).symm
theorem H6 {T:Type} {bK:List Nat} {N:Nat} {d:NF->Option T} {tm:T->St} (h:∀nf v,d nf=some v->dx bK N nf=tm v) (n:Nat) (nf:NF) (v:T)
  (e:cond (Nat.beq n N) (d nf) none=some v):dx bK n nf=tm v:=by
 cases hb:Nat.beq n N<;>simp only[hb,cond_true,cond_false]at e
 ·exact nomatch e
 ·have:n=N:=J6 hb;subst this;exact h nf v e
theorem pG {A R:Type} {E:Env} (hE:iL E) {LP:Nat->Ev R->Ev R} {g:FuncId} {fn:Func} (hf:E.P.funcs[g]? =some fn) (hc:fn.body.isSome=true)
  (hnm:(fn.name== "runtime.NumGoroutine")=false) (ri:A->List Arg) (EA:List Arg->Option A) (hA:∀l a,EA l=some a->l=ri a)
  (hn:∀a,Nat.ble (ri a).length fn.ntmps=true) (hLP:eX E LP 0 (fn.body.getD .skip)) {rt:RT} {dec:Out->Option R} {enc:R->Out} (hd:∀o r,dec o=some r->o=enc r)
  {F:A->Option R} (h:∀a,ev E LP 0 (fn.body.getD .skip) (st0 fn (ri a)) (fin E.P fn rt dec)=F a):
  Ae E.P g λ_ l K=>(EA l).bind λa=>(F a).bind λr=>K (enc r):=by
 intro ρ l K out hK;simp only[An]at hK;obtain⟨a,ha,r,hr,hK⟩:=hK;obtain⟨c,hcb⟩:=Option.isSome_iff_exists.1 hc
 have hgc:fn.body.getD .skip=c:=by rw[hcb];rfl
 rw[hA l a ha];exact⟨enc r,hK,Bt hE hd hf hcb hnm (hn a) (hgc▸hLP) (by rw[<-hgc,h a];exact hr)⟩
theorem yY {A R:Type} {E:Env} (hE:iL E) {LP:Nat->Ev R->Ev R} {g:FuncId} {fn:Func} (hf:E.P.funcs[g]? =some fn) (hc:fn.body.isSome=true)
  (hnm:(fn.name== "runtime.NumGoroutine")=false) (ri:A->List SV) (blksOf:A->List Blk) (EA:List SV->List Blk->Option A) (hA:∀l b a,EA l b=some a->l=ri a/\b=blksOf a)
  (hn:∀a,Nat.ble (ri a).length fn.ntmps=true) (hLP:eX E LP 0 (fn.body.getD .skip)) {rt:RT} {ks:List KD} {dec:A->nh->Option R} {enc:A->R->nh}
  (hlen:∀a r,(enc a r).kept.length=(blksOf a).length) (hd:∀a o r,dec a o=some r->o=enc a r)
  {F:A->Option R} (h:∀a,ev E LP 0 (fn.body.getD .skip) (Ez fn (ri a) (blksOf a)) (Fg E.P fn rt ks (dec a))=F a):
  Dn E.P g λ_ l b K=>(EA l b).bind λa=>(F a).bind λr=>K (enc a r):=by
 intro ρ l b K out hK;simp only[An]at hK;obtain⟨a,ha,r,hr,hK⟩:=hK;obtain⟨c,hcb⟩:=Option.isSome_iff_exists.1 hc
 have hgc:fn.body.getD .skip=c:=by rw[hcb];rfl
 obtain⟨rfl,rfl⟩:=hA l b a ha;exact⟨enc a r,hK,Dz hE (hd a) (hlen a r) hf hcb hnm (hn a) (hgc▸hLP) (by rw[<-hgc,h a];exact hr)⟩
def DD {α:Type}:Option α->Bool
 |some _=>true
 |none=>false
def yZ {α:Type} [DecidableEq α] (x y:α):Bool:=decide (x=y)
end
end
section
variable [Tok]
section
variable {ρ:Type}
def Ju (f g:Ev ρ):Ev ρ:=λst K=>f st λe st'=>match e with
 |.normal=>g st' K
 |e=>K e st'
theorem wE {P:Program} {c:Code} {f:Ev ρ} (hf:Sound P c f) (bK:List Nat) (co:List (dQ× Co)) (kx:Ex->List Nat) (cx:Ex->List (dQ× Co)) (k:Nat) {w0:World} {fp0:G0} {bs:Cell->Prop} {n:Nat} {st:St} {a:Act} {w:World} {K:Ex->St->Option ρ} {out:ρ} {Q:Exit->Act->World->Prop}
  (hr:Rl w0 fp0 bs n st a w) (h:yU f bK co kx cx k st K=some out) (hK:∀e st' a' w',K e st'=some out->Rl w0 fp0 bs n st' a' w'->Q e.up a' w'):Code.rounds P c Q k a w:=by
 induction k generalizing st a w with
 |zero=>exact nomatch h
 |succ k ih=>
  rw[rounds_succ]
  exact hf w0 fp0 bs n st a w _ out _ hr h λe st' a' w' h' hr'=>by
   have hn:=hr'.Iy
   cases e with
   |normal=>
    simp only[An]at h';obtain⟨nf,h1,h2⟩:=h';rw[hn]at h2
    exact ih (im hr' h1) h2
   |exit j=>
    simp only[An]at h';obtain⟨nf,h1,h2⟩:=h';rw[hn]at h2
    exact hK (.exit j) _ a' w' h2 (im hr' h1)
   |ret=>
    simp only[An]at h';obtain⟨nf,h1,h2⟩:=h';rw[hn]at h2;exact hK .ret _ a' w' h2 (im hr' h1)
theorem GX {P:Program} {c:Code} {f:Ev ρ} {p V:Type} (hf:Sound P c f) {bK:List Nat} {co:List (dQ× Co)} (kx:Ex->List Nat) (cx:Ex->List (dQ× Co)) (k:Nat) {dec:Nat->NF->Option (p× V)} {tm:p× V->St}
  {g:p->V->(V->Option ρ)->(Ex->St->Option ρ)->Option ρ} (hd:∀n nf v,dec n nf=some v->dx bK n nf=tm v)
  (hg:∀(q:p) (v:V) (K K1:Ex->St->Option ρ),f (tm (q,v)) (λe st'=>match e with
    |.normal=>(o7 bK co st').bind λnf=>K1 .normal (dx bK st'.n nf)
    |e=>(o7 (kx e) (cx e) st').bind λnf=>K e (dx (kx e) st'.n nf))=g q v (λv'=>K1 .normal (tm (q,v'))) K):
  Sound P (.loop c) (Ju f (o8 bK co dec λpv K=>iter (λv next=>g pv.1 v next K) k pv.2)):=by
 have jJ:∀(pv:p× V) (K:Ex->St->Option ρ),iter (λv next=>g pv.1 v next K) k pv.2=yU f bK co kx cx k (tm pv) K:=λpv K=>(o9 (tm:=λv=>tm (pv.1,v)) (g:=λv next K=>g pv.1 v next K) (λv K K1 next hn=>by
  have:next=λv'=>K1 .normal (tm (pv.1,v')):=funext λv'=>(hn v').symm
  rw[this];exact hg pv.1 v K K1) K k pv.2).symm
 intro w0 fp0 bs n st a w K out Q hr h hK;refine wp_loop_rounds (k+1) ?_;rw[rounds_succ];refine hf w0 fp0 bs n st a w _ out _ hr h λe st' a' w' h' hr'=>?_
 cases e with
 |normal=>
  simp only[o8,An]at h';obtain⟨nf,h1,v,h2,h3⟩:=h';have hn:=hr'.Iy;rw[hn]at h2;rw[jJ v K,<-hd n nf v h2]at h3
  exact wE hf bK co kx cx k (im hr' h1) h3 hK
 |exit j=>exact hK (.exit j) st' a' w' h' hr'
 |ret=>exact hK .ret st' a' w' h' hr'
end
end
section
def Ty.plain:Ty->Bool
 |.tok=>false
 |.st .qk|.st .et=>false
 |.sl t=>t.plain
 |.ho _|.hl _=>false
 |_=>true
def R.plain:R->Bool
 |.tok _=>false
 |.sl t _=>t.plain
 |_=>true
def rj:List R->Bool
 |[]=>true
 |r::l=>cond r.plain (rj l) false
def tn (i:Nat):List Nat->Bool
 |[]=>true
 |k::l=>cond (Nat.beq k i) false (tn i l)
mutual
def SV.less (k:Nat):SV->Bool
 |.r d x=>x.plain&&tn k d
 |.fU d cs=>rj cs&&tn k d
 |.inn _ _ _=>false
 |.agg cs=>sj k cs
 |.tup cs=>sj k cs
 |.fn _ a b=>sj k a&&sj k b
 |_=>true
def sj (k:Nat):List SV->Bool
 |[]=>true
 |v::l=>v.less k&&sj k l
end
def Blk.less (k:Nat):Blk->Bool
 |.box cs=>sj k cs
 |.arr none t _=>t.plain
 |.arr (some d) t _=>t.plain&&tn k d
variable {ρ:Type}
section
variable [Tok]
theorem j9 {k:Nat}:∀{d:List Nat},tn k d=true->mem k d=false
 |[],_=>rfl
 |x::l,h=>by
  simp only[tn]at h;cases hb:Nat.beq x k<;>simp only[hb,cond_true,cond_false]at h
  ·simp only[mem,hb,cond_false];exact j9 h
  ·cases h
theorem lj:∀{l:List R},rj l=true->∀(j:Nat) (r:R),l[j]? =some r->r.plain=true
 |[],_,j,r,h=>by simp at h
 |x::l,h,j,r,hj=>by
  simp only[rj]at h;cases hx:x.plain<;>simp only[hx,cond_true,cond_false]at h
  ·cases h
  ·cases j with
   |zero=>grind
   |succ j=>exact lj h j r (by simpa using hj)
theorem ka {t:Ty} (h:t.plain=true) {xs:List t.El} {i j:Nat} {r:R} (hc:aq t xs i j r):r.plain=true:=by
 obtain⟨x,_,hr⟩:=hc;have hm:=Kk hr
 cases t with
 |tok=>cases h
 |ho s=>cases h
 |hl t=>cases h
 |sl t=>simp[Ty.cells]at hm;subst hm;exact h
 |int k=>simp[Ty.cells]at hm;subst hm;rfl
 |bool=>simp[Ty.cells]at hm;subst hm;rfl
 |str=>simp[Ty.cells]at hm;subst hm;rfl
 |st s=>
  have key:∀l:List R,rj l=true->r∈l->r.plain=true:=λl hl hrl=>by
   obtain⟨j,hj⟩:=KQ hrl;exact lj hl j r hj
  cases s<;>first|(refine key _ ?_ hm;rfl)|exact nomatch h
theorem jm {k:Nat}:∀{l:List SV},sj k l=true->∀(j:Nat) (x:SV),l[j]? =some x->x.less k=true
 |[],_,j,x,h=>by simp at h
 |v::l,h,j,x,hj=>by
  simp only[sj,J8]at h
  cases j with
  |zero=>grind
  |succ j=>exact jm h.2 j x (by simpa using hj)
end
theorem pd {T T':Tok} {w:World} {ok:Cell->Prop} {r:R} {v:Value} (h:@eC T w ok r v):r.plain=true->@eC T' w ok r v:=by
 induction h with
 |int=>exactλ_=>.int _ _
 |bool=>exactλ_=>.bool _
 |str=>exactλ_=>.str _
 |tok=>exactλh=>nomatch h
 |jI v h=>exactλ_=>.jI v h
 |sl t xs a cap b o vs hcap ha hc _ ih=>exactλh=>.sl t xs a cap b o vs hcap ha hc λi j r hr=>ih i j r hr (ka h hr)
theorem Bx {T T':Tok} {w:World} {r:R} {v:Value} {fp:Cell->Prop} (h:@cS T w r v fp):r.plain=true->@cS T' w r v fp:=by
 induction h with
 |int=>exactλ_=>.int _ _
 |bool=>exactλ_=>.bool _
 |str=>exactλ_=>.str _
 |tok=>exactλh=>nomatch h
 |jI v h=>exactλ_=>.jI v h
 |sl t xs a cap b o vs fs fp hcap ha ic hc _ hd1 hd2 hfp ih=>exactλh=>.sl t xs a cap b o vs fs fp hcap ha ic hc (λi j r hr=>ih i j r hr (ka h hr)) hd1 hd2 hfp
def Blk.sim:Blk->Blk->Prop
 |.box _,.box _=>True
 |.arr _ t xs,.arr _ t' ys=>t.sz=t'.sz/\xs.length=ys.length
 |_,_=>False
theorem za {sh:Option (List Nat)} {t:Ty} {xs:List t.El} {B:Blk} (h:(Blk.arr sh t xs).sim B):∃sh' t' xs',B=.arr sh' t' xs'/\t.sz=t'.sz/\xs.length=xs'.length:=by
 cases B with
 |box=>exact h.elim
 |arr sh' t' xs'=>exact⟨sh',t',xs',rfl,h.1,h.2⟩
theorem F1 {cs:List SV} {B:Blk} (h:(Blk.box cs).sim B):∃cs',B=.box cs':=by
 cases B with
 |box cs'=>grind
 |arr=>exact h.elim
theorem SVRep.move {T T':Tok} {w:World} {H H':Heap} {pl pl':Pl} {k:Nat} (hH:∀i B,look H i=some B->∃B',look H' i=some B'/\B.sim B') (hh:∀i,pl'.hdr i=pl.hdr i)
  (ho:∀d p,mem k d=false->okd H pl d p->okd H' pl' d p) {v:SV} {u:Value} (h:@SVRep T w H pl v u):v.less k=true->@SVRep T' w H' pl' v u:=by
 induction h with
 |r d x v hx=>
  intro hl;simp only[SV.less,J8]at hl
  exact .r d x v ((pd hx hl.1).frame λp u hp hu=>⟨ho d p (j9 hl.2) hp,hu⟩)
 |bq=>exactλ_=>.bq
 |kK=>exactλ_=>.kK
 |own i sh t xs hi=>
  intro _;obtain⟨B',h1,h2⟩:=hH i _ hi;obtain⟨sh',t',xs',rfl,h3,h4⟩:=za h2;rw[<-hh i]
  exact .own i sh' t' xs' h1
 |sub i o n sh t xs a a' cap er hi hhd hn hc hc' ha=>
  intro _;obtain⟨B',h1,h2⟩:=hH i _ hi;obtain⟨sh',t',xs',rfl,h3,h4⟩:=za h2
  exact .sub i o n sh' t' xs' a a' cap er h1 (by rw[hh i,hhd,h4]) (by omega) hc hc' (by rw[<-h3];exact ha)
 |bsl i n cs a hi hhd=>
  intro _;obtain⟨B',h1,h2⟩:=hH i _ hi;obtain⟨cs',rfl⟩:=F1 h2
  exact .bsl i n cs' a h1 ((hh i).trans hhd)
 |ptrB i o cs b m hi hhd=>
  intro _;obtain⟨B',h1,h2⟩:=hH i _ hi;obtain⟨cs',rfl⟩:=F1 h2
  exact .ptrB i o cs' b m h1 ((hh i).trans hhd)
 |mG i x o sh t xs b m n cap hi hx hhd=>
  intro _;obtain⟨B',h1,h2⟩:=hH i _ hi;obtain⟨sh',t',xs',rfl,h3,h4⟩:=za h2;rw[h3]
  exact .mG i x o sh' t' xs' b m n cap h1 (by omega) ((hh i).trans hhd)
 |inn=>exactλh=>nomatch h
 |fU d cs b o vs hc hr=>
  intro hl;simp only[SV.less,J8]at hl;have hk:=j9 hl.2
  exact .fU d cs b o vs (λj r hj=>⟨ho d _ hk (hc j r hj).1,(hc j r hj).2⟩) λj r hj=>(pd (hr j r hj) (lj hl.1 j r hj)).frame λp u hp hu=>⟨ho d p hk hp,hu⟩
 |agg cs vs h1 h2 _ ih=>exactλhl=>.agg cs vs h1 h2 λj x v hx hv=>ih j x v hx hv (jm hl j x hx)
 |tup cs vs h1 _ ih=>exactλhl=>.tup cs vs h1 λj x v hx hv=>ih j x v hx hv (jm hl j x hx)
 |fn f as bs us vs h1 _ h2 _ ih1 ih2=>
  intro hl;have hl:(sj k as&&sj k bs)=true:=hl;rw[J8]at hl
  exact .fn f as bs us vs h1 (λj x v hx hv=>ih1 j x v hx hv (jm hl.1 j x hx)) h2 λj x v hx hv=>ih2 j x v hx hv (jm hl.2 j x hx)
 |undef v=>exactλ_=>.undef v
theorem cd.move {T T':Tok} {w:World} {H H':Heap} {pl pl':Pl} {k i:Nat} (hH:∀i B,look H i=some B->∃B',look H' i=some B'/\B.sim B') (hh:∀i,pl'.hdr i=pl.hdr i)
  (ho:∀d p,mem k d=false->okd H pl d p->okd H' pl' d p) {B:Blk} (hf:pl'.fp i=pl.fp i) (h:@cd T w H pl i B) (hl:B.less k=true):@cd T' w H' pl' i B:=by
 cases B with
 |box cs=>
  obtain⟨b,o,h1,h2,h3⟩:=h;refine⟨b,o,(hh i).trans h1,λp=>by rw[hf];exact h2 p,λj v hv=>?_⟩;obtain⟨u,g1,g2,g3,g4⟩:=h3 j v hv
  exact⟨u,g1,g2,g3,g4.move hH hh ho (jm hl j v hv)⟩
 |arr sh t xs=>
  cases sh with
  |none=>
   obtain⟨⟨a,cap,b,o,vs,fs,q1,q2,q3,q4,q5,q6,q7,q8,q9⟩⟩:=h
   exact⟨⟨a,cap,b,o,vs,fs,(hh i).trans q1,q2,q3,q4,q5,λi j r hc=>Bx (q6 i j r hc) (ka hl hc),q7,q8,λp=>by rw[hf];exact q9 p⟩⟩
  |some d=>
   simp only[Blk.less,J8]at hl;obtain⟨⟨a,cap,b,o,vs,fs,q1,q2,q3,q4,q5,q6,q7,q8,q9⟩⟩:=h;exact⟨⟨a,cap,b,o,vs,fs,(hh i).trans q1,q2,q3,q4,q5,λi j r hc=>⟨(pd (q6 i j r hc).1 (ka hl.1 hc)).frame λp u hp hu=>⟨ho d p (j9 hl.2) hp,hu⟩,(q6 i j r hc).2⟩,q7,q8,λp=>by rw[hf];exact q9 p⟩⟩
section
variable [Tok]
end
end
section
variable [Tok]
structure Cd (α:Type) where
 n:Nat
 to:α->List R
 of:List R->Option α
 h:∀rs a,of rs=some a->to a=rs
def R.one (k:IntKind):R->Option Int
 |.int k' n=>cond (decide (k'=k)) (some n) none
 |_=>none
def cdI (k:IntKind):Cd Int:=⟨1,λn=>[.int k n],λ
 |[.int k' n]=>cond (decide (k'=k)) (some n) none
 |_=>none,λrs a h=>by
  split at h
  ·rename_i k' n;by_cases c:k'=k
   ·rw[decide_eq_true c]at h;cases h;rw[c]
   ·rw[decide_eq_false c]at h;exact nomatch h
  ·exact nomatch h⟩
def cdZ:Cd Int:=cdI .i64
def cdB:Cd Bool:=⟨1,λb=>[.bool b],λ
 |[.bool b]=>some b
 |_=>none,λrs a h=>by
  split at h
  ·cases h;rfl
  ·exact nomatch h⟩
def cdL (t:Ty):Cd (List t.El):=⟨1,λxs=>[.sl t xs],λ
 |[r]=>r.asL t
 |_=>none,λrs a h=>by
  split at h
  ·rw[R.cN h]
  ·exact nomatch h⟩
def cdS (s:S):Cd s.E:=⟨s.sz,s.cells,λrs=>(Ty.st s).cT rs,λrs a h=>Ty.bE (.st s) rs a h⟩
def cdU:Cd Unit:=⟨0,λ_=>[],λ
 |[]=>some ()
 |_=>none,λrs a h=>by
  split at h
  ·rfl
  ·exact nomatch h⟩
def Cd.p {α β:Type} (A:Cd α) (B:Cd β):Cd (α× β):=⟨A.n+B.n,λx=>A.to x.1++B.to x.2,λrs=>(A.of (rs.take A.n)).bind λa=>(B.of (rs.drop A.n)).bind λb=>some (a,b),λrs x h=>by
 simp only[An,It]at h;obtain⟨a,ha,b,hb,rfl⟩:=h
 rw[A.h _ _ ha,B.h _ _ hb,K0]⟩
def Cd.m {α β:Type} (A:Cd α) (f:α->β) (g:β->α) (e:∀x,g (f x)=x):Cd β:=⟨A.n,λx=>A.to (g x),λrs=>(A.of rs).bind λa=>some (f a),λrs x h=>by
 simp only[An,It]at h;obtain⟨a,ha,rfl⟩:=h
 rw[e,A.h _ _ ha]⟩
inductive Sk where
 |r (d:List Nat) (j:Nat)
 |v (x:SV)
 |sub (i j l:Nat)
 |ptr (i j o:Nat)
 |agg (l:List Sk)
 |tup (l:List Sk)
 |fn (f:Nat) (a b:List Sk)
 |fU (d js:List Nat)
inductive SkB where
 |box (l:List Sk)
 |arr (sh:Option (List Nat)) (t:Ty) (j:Nat)
abbrev Sk.h (j:Nat):Sk:=.r [] j
def hs (j:Nat):Nat->List Sk
 |0=>[]
 |n+1=>.r [] j::hs (j+1) n
abbrev Sk.own (i:Nat):Sk:=.v (.own i)
def R.tk:R->Nat
 |.tok n=>n
 |_=>0
def R.ls (t:Ty) (r:R):List t.El:=(r.asL t).getD []
def at0:List R->Nat->R
 |[],_=>.tok 0
 |r::_,0=>r
 |_::l,j+1=>at0 l j
def atL (f:Nat->R):List Nat->List R
 |[]=>[]
 |j::l=>f j::atL f l
mutual
def Sk.fill (f:Nat->R):Sk->SV
 |.r d j=>.r d (f j)
 |.v x=>x
 |.sub i j l=>.sub i (f j).tk (f l).tk
 |.ptr i j o=>.ptr i (f j).tk o
 |.agg l=>.agg (kI f l)
 |.tup l=>.tup (kI f l)
 |.fn g a b=>.fn (.func g) (kI f a) (kI f b)
 |.fU d js=>.fU d (atL f js)
def kI (f:Nat->R):List Sk->List SV
 |[]=>[]
 |s::l=>s.fill f::kI f l
end
def SkB.fill (f:Nat->R):SkB->Blk
 |.box l=>.box (kI f l)
 |.arr sh t j=>.arr sh t ((f j).ls t)
def nM (f:Nat->R):List SkB->List Blk
 |[]=>[]
 |b::l=>b.fill f::nM f l
abbrev Ps:=List (Nat× R)
def eqL:List Nat->List Nat->Bool
 |[],[]=>true
 |a::l,b::m=>cond (Nat.beq a b) (eqL l m) false
 |_,_=>false
def Fk:SV->SV->Bool
 |.own i,.own j=>Nat.beq i j
 |.bq,.bq=>true
 |.kK,.kK=>true
 |.undef,.undef=>true
 |.ptr i x o,.ptr i' x' o'=>cond (Nat.beq i i') (cond (Nat.beq x x') (Nat.beq o o') false) false
 |.bsl i n,.bsl i' n'=>cond (Nat.beq i i') (Nat.beq n n') false
 |_,_=>false
def Iz:List Nat->List R->Option Ps
 |[],[]=>some []
 |j::l,r::m=>(Iz l m).bind λq=>some ((j,r)::q)
 |_,_=>none
mutual
def Sk.mt:Sk->SV->Option Ps
 |.r d j,v=>match v with
  |.r d' x=>cond (eqL d d') (some [(j,x)]) none
  |_=>none
 |.v x,v=>cond (Fk x v) (some []) none
 |.sub i j l,v=>match v with
  |.sub i' o n=>cond (Nat.beq i i') (some [(j,.tok o),(l,.tok n)]) none
  |_=>none
 |.ptr i j o,v=>match v with
  |.ptr i' x o'=>cond (Nat.beq i i') (cond (Nat.beq o o') (some [(j,.tok x)]) none) none
  |_=>none
 |.agg l,v=>match v with
  |.agg cs=>mtL l cs
  |_=>none
 |.tup l,v=>match v with
  |.tup cs=>mtL l cs
  |_=>none
 |.fn g a b,v=>match v with
  |.fn (.func g') a' b'=>cond (Nat.beq g g') ((mtL a a').bind λp=>(mtL b b').bind λq=>some (p++q)) none
  |_=>none
 |.fU d js,v=>match v with
  |.fU d' cs=>cond (eqL d d') (Iz js cs) none
  |_=>none
def mtL:List Sk->List SV->Option Ps
 |[],l=>match l with
  |[]=>some []
  |_=>none
 |s::m,l=>match l with
  |v::l=>(s.mt v).bind λp=>(mtL m l).bind λq=>some (p++q)
  |_=>none
end
def I4:Option (List Nat)->Option (List Nat)->Bool
 |none,none=>true
 |some a,some b=>eqL a b
 |_,_=>false
def SkB.mt:SkB->Blk->Option Ps
 |.box l,b=>match b with
  |.box cs=>mtL l cs
  |_=>none
 |.arr sh t j,b=>match b with
  |.arr sh' t' xs=>cond (I4 sh sh') (cond (decide (t'=t)) (some [(j,.sl t' xs)]) none) none
  |_=>none
def mtB:List SkB->List Blk->Option Ps
 |[],l=>match l with
  |[]=>some []
  |_=>none
 |s::m,l=>match l with
  |v::l=>(s.mt v).bind λp=>(mtB m l).bind λq=>some (p++q)
  |_=>none
theorem wF:∀{a b:List Nat},eqL a b=true->a=b
 |[],[],_=>rfl
 |[],_::_,h=>nomatch h
 |_::_,[],h=>nomatch h
 |a::l,b::m,h=>by
  simp only[eqL]at h;cases hb:Nat.beq a b<;>rw[hb]at h<;>simp only[cond_true,cond_false]at h
  ·exact nomatch h
  ·rw[J6 hb,wF h]
theorem GY {a b:Option (List Nat)} (h:I4 a b=true):a=b:=by
 cases a with
 |none=>cases b with
  |none=>rfl
  |some _=>exact nomatch h
 |some x=>cases b with
  |none=>exact nomatch h
  |some y=>exact congrArg some (wF h)
theorem Fl {a b:SV} (h:Fk a b=true):a=b:=by
 unfold Fk at h;split at h
 ·rw[J6 h]
 ·rfl
 ·rfl
 ·rfl
 ·rename_i i x o i' x' o';cases h1:Nat.beq i i'<;>rw[h1]at h<;>simp only[cond_true,cond_false]at h
  ·exact nomatch h
  ·cases h2:Nat.beq x x'<;>rw[h2]at h<;>simp only[cond_true,cond_false]at h
   ·exact nomatch h
   ·rw[J6 h1,J6 h2,J6 h]
 ·rename_i i n i' n';cases h1:Nat.beq i i'<;>rw[h1]at h<;>simp only[cond_true,cond_false]at h
  ·exact nomatch h
  ·rw[J6 h1,J6 h]
 ·exact nomatch h
def iu (f:Nat->R) (ps:Ps):Prop:=∀p∈ps,f p.1=p.2
theorem iu.left {f:Nat->R} {p q:Ps} (h:iu f (p++q)):iu f p:=λx hx=>h x (LG _ hx)
theorem iu.right {f:Nat->R} {p q:Ps} (h:iu f (p++q)):iu f q:=λx hx=>h x (LD _ hx)
theorem DE {f:Nat->R}:∀{js:List Nat} {cs:List R} {ps:Ps},Iz js cs=some ps->iu f ps->atL f js=cs
 |[],[],_,_,_=>rfl
 |[],_::_,_,h,_=>nomatch h
 |_::_,[],_,h,_=>nomatch h
 |j::l,r::m,ps,h,hf=>by
  simp only[Iz,An,It]at h;obtain⟨q,hq,rfl⟩:=h;rw[atL,DE hq λp hp=>hf p (Ks _ hp),hf (j,r) Kx]
mutual
theorem Sk.Bz {f:Nat->R}:(s:Sk)->{v:SV}->{ps:Ps}->s.mt v=some ps->iu f ps->s.fill f=v
 |.r d j,v,ps,h,hf=>by
  simp only[Sk.mt]at h;split at h
  ·rename_i d' x;cases hd:eqL d d'<;>rw[hd]at h<;>simp only[cond_true,cond_false]at h
   ·exact nomatch h
   ·cases h;rw[Sk.fill,wF hd,hf (j,x) Kx]
  ·exact nomatch h
 |.v x,v,ps,h,hf=>by
  simp only[Sk.mt]at h;cases hd:Fk x v<;>rw[hd]at h<;>simp only[cond_true,cond_false]at h
  ·exact nomatch h
  ·rw[Sk.fill,Fl hd]
 |.sub i j l,v,ps,h,hf=>by
  simp only[Sk.mt]at h;split at h
  ·rename_i i' o n;cases hd:Nat.beq i i'<;>rw[hd]at h<;>simp only[cond_true,cond_false]at h
   ·exact nomatch h
   ·cases h;rw[Sk.fill,J6 hd,hf (j,.tok o) Kx,hf (l,.tok n) (Ks _ Kx)];rfl
  ·exact nomatch h
 |.ptr i j o,v,ps,h,hf=>by
  simp only[Sk.mt]at h;split at h
  ·rename_i i' x o';cases hd:Nat.beq i i'<;>rw[hd]at h<;>simp only[cond_true,cond_false]at h
   ·exact nomatch h
   ·cases hd2:Nat.beq o o'<;>rw[hd2]at h<;>simp only[cond_true,cond_false]at h
    ·exact nomatch h
    ·cases h;rw[Sk.fill,J6 hd,J6 hd2,hf (j,.tok x) Kx];rfl
  ·exact nomatch h
 |.agg l,v,ps,h,hf=>by
  simp only[Sk.mt]at h;split at h
  ·rw[Sk.fill,pH l h hf]
  ·exact nomatch h
 |.tup l,v,ps,h,hf=>by
  simp only[Sk.mt]at h;split at h
  ·rw[Sk.fill,pH l h hf]
  ·exact nomatch h
 |.fn g a b,v,ps,h,hf=>by
  simp only[Sk.mt]at h;split at h
  ·rename_i g' a' b';cases hd:Nat.beq g g'<;>rw[hd]at h<;>simp only[cond_true,cond_false]at h
   ·exact nomatch h
   ·simp only[An,It]at h;obtain⟨p,hp,q,hq,rfl⟩:=h;rw[Sk.fill,J6 hd,pH a hp hf.left,pH b hq hf.right]
  ·exact nomatch h
 |.fU d js,v,ps,h,hf=>by
  simp only[Sk.mt]at h;split at h
  ·rename_i d' cs;cases hd:eqL d d'<;>rw[hd]at h<;>simp only[cond_true,cond_false]at h
   ·exact nomatch h
   ·rw[Sk.fill,wF hd,DE h hf]
  ·exact nomatch h
theorem pH {f:Nat->R}:(s:List Sk)->{v:List SV}->{ps:Ps}->mtL s v=some ps->iu f ps->kI f s=v
 |[],v,ps,h,hf=>by
  simp only[mtL]at h;split at h
  ·rfl
  ·exact nomatch h
 |s::m,v,ps,h,hf=>by
  simp only[mtL]at h;split at h
  ·simp only[An,It]at h;obtain⟨p,hp,q,hq,rfl⟩:=h;rw[kI,Sk.Bz s hp hf.left,pH m hq hf.right]
  ·exact nomatch h
end
theorem SkB.Bz {f:Nat->R} (s:SkB) {b:Blk} {ps:Ps} (h:s.mt b=some ps) (hf:iu f ps):s.fill f=b:=by
 cases s with
 |box l=>
  simp only[SkB.mt]at h;split at h
  ·rw[SkB.fill,pH l h hf]
  ·exact nomatch h
 |arr sh t j=>
  simp only[SkB.mt]at h;split at h
  ·rename_i sh' t' xs;cases hd:I4 sh sh'<;>rw[hd]at h<;>simp only[cond_true,cond_false]at h
   ·exact nomatch h
   ·by_cases c:t'=t
    ·subst c;rw[decide_eq_true rfl]at h;cases h;rw[SkB.fill,GY hd,hf (j,.sl t' xs) Kx];simp[R.ls,R.asL]
    ·rw[decide_eq_false c]at h;exact nomatch h
  ·exact nomatch h
theorem wG {f:Nat->R}:(s:List SkB)->{v:List Blk}->{ps:Ps}->mtB s v=some ps->iu f ps->nM f s=v
 |[],v,ps,h,hf=>by
  simp only[mtB]at h;split at h
  ·rfl
  ·exact nomatch h
 |s::m,v,ps,h,hf=>by
  simp only[mtB]at h;split at h
  ·simp only[An,It]at h;obtain⟨p,hp,q,hq,rfl⟩:=h;rw[nM,SkB.Bz s hp hf.left,wG m hq hf.right]
  ·exact nomatch h
def ord (ps:Ps):Nat->Nat->Option (List R)
 |_,0=>some []
 |j,n+1=>(look ps j).bind λr=>(ord ps (j+1) n).bind λl=>some (r::l)
theorem F2 {ps:Ps}:∀{n j:Nat} {rs:List R},ord ps j n=some rs->∀i,i<n->look ps (j+i)=some (at0 rs i)
 |0,_,_,_,i,hi=>absurd hi (Nat.not_lt_zero _)
 |n+1,j,rs,h,i,hi=>by
  simp only[ord,An,It]at h;obtain⟨r,hr,l,hl,rfl⟩:=h
  cases i with
  |zero=>exact hr
  |succ i=>have:=F2 hl i (by omega);rwa [show j+1+i=j+(i+1)from by omega]at this
def DF (n:Nat):Ps->Bool
 |[]=>true
 |(j,_)::l=>cond (Nat.ble (j+1) n) (cond (DD (look l j)) false (DF n l)) false
theorem tp {n:Nat}:∀{ps:Ps},DF n ps=true->∀p∈ps,p.1<n/\look ps p.1=some p.2
  |[],_,_,h=>nomatch h
  | (j, r) :: l, h, p, hp => by
    simp only[DF]at h;cases h1:Nat.ble (j+1) n<;>rw[h1]at h<;>simp only[cond_true,cond_false]at h
    · exact nomatch h
    · cases h2:DD (look l j)<;>rw[h2]at h<;>simp only[cond_true,cond_false]at h
      · rcases Kq.1 hp with rfl|hp
        · exact⟨Kg h1,by simp[look]⟩
        · obtain⟨g1,g2⟩:=tp h p hp;refine⟨g1,?_⟩;rw[look_cons];by_cases c:j=p.1
          · subst c;rw[g2]at h2;exact nomatch h2
          · rw[if_neg c];exact g2
      · exact nomatch h
def rd {α:Type} (c:Cd α) (ps:Ps):Option α:=cond (DF c.n ps) ((ord ps 0 c.n).bind c.of) none
theorem uM {α:Type} {c:Cd α} {ps:Ps} {a:α} (h:rd c ps=some a):iu (at0 (c.to a)) ps:=by
 unfold rd at h;cases hk:DF c.n ps<;>rw[hk]at h<;>simp only[cond_true,cond_false]at h
 ·exact nomatch h
 ·rw[An]at h;obtain⟨rs,hrs,ha⟩:=h;intro p hp;obtain⟨g1,g2⟩:=tp hk p hp;have:=F2 hrs p.1 g1;rw[Kc,g2]at this;rw[c.h _ _ ha];exact(Lc this).symm
end
section
variable [Tok]
structure SkI where
 a:List Sk
 b:List SkB
structure SkO where
 v:Sk
 kept:List (Option SkB)
 news:List SkB
def SkI.EA {A:Type} (i:SkI) (c:Cd A) (l:List SV) (b:List Blk):Option A:=(mtL i.a l).bind λp=>(mtB i.b b).bind λq=>rd c (p++q)
theorem SkI.GZ {A:Type} {i:SkI} {c:Cd A} {l:List SV} {b:List Blk} {a:A} (h:i.EA c l b=some a):l=kI (at0 (c.to a)) i.a/\b=nM (at0 (c.to a)) i.b:=by
 simp only[SkI.EA,An]at h;obtain⟨p,hp,q,hq,h⟩:=h;have:=uM h;exact⟨(pH _ hp this.left).symm,(wG _ hq this.right).symm⟩
def zb (f:Nat->R):List (Option SkB)->List (Option Blk)
 |[]=>[]
 |none::l=>none::zb f l
 |some b::l=>some (b.fill f)::zb f l
def mtK:List (Option SkB)->List (Option Blk)->Option Ps
 |[],l=>match l with
  |[]=>some []
  |_=>none
 |none::m,l=>match l with
  |none::l=>mtK m l
  |_=>none
 |some s::m,l=>match l with
  |some b::l=>(s.mt b).bind λp=>(mtK m l).bind λq=>some (p++q)
  |_=>none
theorem DG {f:Nat->R}:(s:List (Option SkB))->{v:List (Option Blk)}->{ps:Ps}->mtK s v=some ps->iu f ps->zb f s=v
 |[],v,ps,h,hf=>by
  simp only[mtK]at h;split at h
  ·rfl
  ·exact nomatch h
 |none::m,v,ps,h,hf=>by
  simp only[mtK]at h;split at h
  ·rw[zb,DG m h hf]
  ·exact nomatch h
 |some s::m,v,ps,h,hf=>by
  simp only[mtK]at h;split at h
  ·simp only[An,It]at h;obtain⟨p,hp,q,hq,rfl⟩:=h;rw[zb,SkB.Bz s hp hf.left,DG m hq hf.right]
  ·exact nomatch h
theorem lk {f:Nat->R}:(s:List (Option SkB))->(zb f s).length=s.length
 |[]=>rfl
 |none::l=>congrArg (·+1) (lk l)
 |some _::l=>congrArg (·+1) (lk l)
theorem pI {f:Nat->R}:(s:List SkB)->(nM f s).length=s.length
 |[]=>rfl
 |_::l=>congrArg (·+1) (pI l)
def S.dec:(s:S)->DecidableEq s.E
 |.shape=>(inferInstance:DecidableEq Shape)|.av=>(inferInstance:DecidableEq ab)|.aM=>(inferInstance:DecidableEq al)|.model=>(inferInstance:DecidableEq Model)|.task=>(inferInstance:DecidableEq Task)|.request=>(inferInstance:DecidableEq Request)
 |.step=>(inferInstance:DecidableEq Step)|.event=>(inferInstance:DecidableEq Event)|.entry=>(inferInstance:DecidableEq Entry)|.Er=>(inferInstance:DecidableEq B8)|.qk=>(inferInstance:DecidableEq B9)|.et=>(inferInstance:DecidableEq nj)
def Ty.dec:(t:Ty)->DecidableEq t.El
 |.int _=>(inferInstance:DecidableEq Int)
 |.bool=>(inferInstance:DecidableEq Bool)
 |.str=>(inferInstance:DecidableEq (List UInt8))
 |.sl t=>@instDecidableEqList _ t.dec
 |.st s=>s.dec
 |.tok=>(inferInstance:DecidableEq Nat)
 |.ho s=>letI:=s.dec;(inferInstance:DecidableEq (Option s.E))
 |.hl t=>letI:=t.dec;(inferInstance:DecidableEq (Option (List t.El)))
def G1 {α:Type} (z e:R) (K:Option α):Option α:=
 match z,e with
 |.int k a,.int k' b=>cond (decide (k=k')) (cond (yZ a b) K none) none
 |.bool a,.bool b=>cond (yZ a b) K none
 |.str a,.str b=>cond (yZ a b) K none
 |.tok a,.tok b=>cond (yZ a b) K none
 |.sl t a,.sl t' b=>if h:t'=t then cond (@yZ _ (@instDecidableEqList _ t.dec) a (h▸b)) K none else none
 |_,_=>none
theorem Fm {α:Type} {z e:R} {K:Option α} {x:α} (h:G1 z e K=some x):z=e/\K=some x:=by
 unfold G1 at h
 have go:∀{β:Type} [DecidableEq β] {a b:β} {K:Option α},cond (yZ a b) K none=some x->a=b/\K=some x:=λ{β} _ {a b K} h=>by
  unfold yZ at h;by_cases c:a=b
  ·rw[decide_eq_true c]at h;exact⟨c,h⟩
  ·rw[decide_eq_false c]at h;exact nomatch h
 split at h
 ·rename_i k a k' b;by_cases c:k=k'
  ·rw[decide_eq_true c]at h;obtain⟨h1,h2⟩:=go h;exact⟨by rw[c,h1],h2⟩
  ·rw[decide_eq_false c]at h;exact nomatch h
 ·obtain⟨h1,h2⟩:=go h;exact⟨by rw[h1],h2⟩
 ·obtain⟨h1,h2⟩:=go h;exact⟨by rw[h1],h2⟩
 ·obtain⟨h1,h2⟩:=go h;exact⟨by rw[h1],h2⟩
 ·split at h
  ·rename_i t a t' b c;subst c;obtain⟨h1,h2⟩:=@go _ (@instDecidableEqList _ (Ty.dec _)) _ _ _ h;exact⟨by rw[h1],h2⟩
  ·exact nomatch h
 ·exact nomatch h
def H7 {α:Type} (n:Nat) (f:Nat->R):Ps->(Ps->Option α)->Option α
 |[],K=>K []
 |(j,z)::l,K=>cond (Nat.ble (j+1) n) (G1 z (f j) (H7 n f l K)) (H7 n f l λq=>K ((j-n,z)::q))
theorem zc {α:Type} {n:Nat} {f:Nat->R} {x:α}:∀{ps:Ps} {K:Ps->Option α},H7 n f ps K=some x->∃q,K q=some x/\∀p∈ps,(p.1<n/\f p.1=p.2)\/(n<=p.1/\(p.1-n,p.2)∈q)
  |[],K,h=>⟨[],h,λ_ hp=>nomatch hp⟩
  | (j, z) :: l, K, h => by
    simp only[H7]at h;cases hb:Nat.ble (j+1) n<;>rw[hb]at h<;>simp only[cond_true,cond_false]at h
    · obtain⟨q,hq,hp⟩:=zc h;refine⟨_,hq,λp h=>?_⟩
      rcases Kq.1 h with rfl|h
      · have:¬j+1<=n:=λc=>by rw[K2 c]at hb;exact nomatch hb
        exact .inr ⟨by simp only;omega,Kx⟩
      · rcases hp p h with h|⟨h1,h2⟩
        · exact .inl h
        · exact .inr ⟨h1,Ks _ h2⟩
    · obtain⟨h1,h2⟩:=Fm h;obtain⟨q,hq,hp⟩:=zc h2;refine⟨q,hq,λp h=>?_⟩
      rcases Kq.1 h with rfl|h
      · exact .inl ⟨Kg hb,h1.symm⟩
      · exact hp p h
theorem DH:∀(l m:List R) (j:Nat),at0 (l++m) j=if j<l.length then at0 l j else at0 m (j-l.length)
 |[],m,j=>by simp
 |r::l,m,0=>by simp[at0]
 |r::l,m,j+1=>by
  rw[K8,at0,DH l m j];by_cases c:j<l.length
  ·rw[if_pos c,if_pos (by simpa using c),at0]
  ·rw[if_neg c,if_neg (by simpa using c),Kl,Nat.add_sub_add_right]
def H8 {A B:Type} (cA:Cd A) (cB:Cd B) (a:A) (b:B):Nat->R:=at0 (cA.to a++cB.to b)
def SkO.enc {A B:Type} (o:SkO) (cA:Cd A) (cB:Cd B) (a:A) (b:B):nh:=⟨o.v.fill (H8 cA cB a b),zb (H8 cA cB a b) o.kept,nM (H8 cA cB a b) o.news⟩
def SkO.dec {A B:Type} (o:SkO) (cA:Cd A) (cB:Cd B) (a:A) (m:nh):Option B:=
  (o.v.mt m.v).bind λp=>(mtK o.kept m.kept).bind λq=>(mtB o.news m.news).bind λr=>
    cond (Nat.beq (cA.to a).length cA.n) (H7 cA.n (at0 (cA.to a)) (p++(q++r)) (rd cB)) none
theorem SkO.wH {A B:Type} {o:SkO} {cA:Cd A} {cB:Cd B} {a:A} {m:nh} {b:B} (h:o.dec cA cB a m=some b):m=o.enc cA cB a b:=by
 simp only[SkO.dec,An]at h;obtain⟨p,hp,q,hq,r,hr,h⟩:=h;cases hb:Nat.beq (cA.to a).length cA.n<;>rw[hb]at h<;>simp only[cond_true,cond_false]at h
 ·exact nomatch h
 have hn:=J6 hb;obtain⟨s,hs,hf⟩:=zc h;have hr':=uM hs
 have hF:iu (H8 cA cB a b) (p++(q++r)):=λx hx=>by
  unfold H8;rw[DH,hn]
  rcases hf x hx with⟨h1,h2⟩|⟨h1,h2⟩
  ·rw[if_pos h1,h2]
  ·rw[if_neg (by omega)];exact hr' _ h2
 cases m;simp only[SkO.enc,Sk.Bz _ hp hF.left,DG _ hq hF.right.left,wG _ hr hF.right.right]
def gM {A B:Type} (i:SkI) (cA:Cd A) (o:SkO) (cB:Cd B) (F:A->Option B):MG:=λ_ l b K=>(i.EA cA l b).bind λa=>(F a).bind λr=>K (o.enc cA cB a r)
def oM {A B:Type} (pr:List Pr) (i:SkI) (cA:Cd A) (o:SkO) (cB:Cd B) (F:A->Option B):Orc:=Du pr (gM i cA o cB F)
theorem Jv {A B:Type} {E:Env} (hE:iL E) {LP:Nat->Ev B->Ev B} {g:FuncId} {fn:Func} (hf:E.P.funcs[g]? =some fn) (hc:fn.body.isSome=true) (hnm:(fn.name== "runtime.NumGoroutine")=false)
  {i:SkI} {cA:Cd A} {o:SkO} {cB:Cd B} {F:A->Option B} (hn:Nat.ble i.a.length fn.ntmps=true) (hl:Nat.beq o.kept.length i.b.length=true)
  (hLP:eX E LP 0 (fn.body.getD .skip)) (rt:RT) (ks:List KD)
  (h:∀a,ev E LP 0 (fn.body.getD .skip) (Ez fn (kI (at0 (cA.to a)) i.a) (nM (at0 (cA.to a)) i.b)) (Fg E.P fn rt ks (o.dec cA cB a))=F a):
  Dn E.P g (gM i cA o cB F):=by
 have hln:∀(f:Nat->R) (l:List Sk),(kI f l).length=l.length:=λf l=>by
  induction l with
  |nil=>rfl
  |cons s l ih=>rw[kI,Kl,ih];rfl
 exact yY hE hf hc hnm (λa=>kI (at0 (cA.to a)) i.a) (λa=>nM (at0 (cA.to a)) i.b) (i.EA cA) (λl b a h=>SkI.GZ h)
  (λa=>by rw[hln];exact hn) hLP (enc:=o.enc cA cB) (λa r=>by simp only[SkO.enc,lk,pI];exact J6 hl) (λa m r h=>SkO.wH h) h
def ln:List Sh->List Nat->List R->List Arg
 |.one _::l,fs,r::rs=>.one r::ln l fs rs
 |.agg ts::l,fs,rs=>.agg (rs.take ts.length)::ln l fs (rs.drop ts.length)
 |.fn::l,f::fs,rs=>.fn (.func f) [] []::ln l fs rs
 |_,_,_=>[]
def rsP:List Sh->List Nat->List Arg->Option (List R)
 |[],_,l=>match l with
  |[]=>some []
  |_=>none
 |.one _::m,fs,l=>match l with
  |.one r::l=>(rsP m fs l).bind λq=>some (r::q)
  |_=>none
 |.agg ts::m,fs,l=>match l with
  |.agg rs::l=>cond (Nat.beq rs.length ts.length) ((rsP m fs l).bind λq=>some (rs++q)) none
  |_=>none
 |.fn::m,fs,l=>match fs,l with
  |f::fs,.fn (.func g) [] []::l=>cond (Nat.beq g f) (rsP m fs l) none
  |_,_=>none
theorem wI:∀{sh:List Sh} {fs:List Nat} {l:List Arg} {rs:List R},rsP sh fs l=some rs->ln sh fs rs=l
 |[],fs,l,rs,h=>by
  simp only[rsP]at h;split at h
  ·cases fs<;>rfl
  ·exact nomatch h
 |.one t::m,fs,l,rs,h=>by
  simp only[rsP]at h;split at h
  ·simp only[An,It]at h;obtain⟨q,hq,rfl⟩:=h;rw[ln,wI hq]
  ·exact nomatch h
 |.agg ts::m,fs,l,rs,h=>by
  simp only[rsP]at h;split at h
  ·rename_i rs' l';cases hb:Nat.beq rs'.length ts.length<;>rw[hb]at h<;>simp only[cond_true,cond_false]at h
   ·exact nomatch h
   ·simp only[An,It]at h;obtain⟨q,hq,rfl⟩:=h;have e:=J6 hb;rw[ln,<-e,List.take_left,List.drop_left,wI hq]
  ·exact nomatch h
 |.fn::m,fs,l,rs,h=>by
  simp only[rsP]at h;split at h
  ·rename_i f fs g l';cases hb:Nat.beq g f<;>rw[hb]at h<;>simp only[cond_true,cond_false]at h
   ·exact nomatch h
   ·rw[ln,wI h,J6 hb]
  ·exact nomatch h
theorem iv:∀(sh:List Sh) (fs:List Nat) (rs:List R),(ln sh fs rs).length<=sh.length
 |[],fs,rs=>by simp[ln]
 |.one _::l,fs,r::rs=>Nat.succ_le_succ (iv l fs rs)
 |.one _::_,_,[]=>by simp[ln]
 |.agg ts::l,fs,rs=>Nat.succ_le_succ (iv l fs _)
 |.fn::l,f::fs,rs=>Nat.succ_le_succ (iv l fs rs)
 |.fn::_,[],_=>by simp[ln]
structure SkP where
 v:Sk
 news:List SkB:=[]
def SkP.enc {B:Type} (o:SkP) (cB:Cd B) (b:B):Out:=(o.v.fill (at0 (cB.to b)),nM (at0 (cB.to b)) o.news)
def SkP.dec {B:Type} (o:SkP) (cB:Cd B) (m:Out):Option B:=(o.v.mt m.1).bind λp=>(mtB o.news m.2).bind λr=>rd cB (p++r)
theorem SkP.wH {B:Type} {o:SkP} {cB:Cd B} {m:Out} {b:B} (h:o.dec cB m=some b):m=o.enc cB b:=by
 simp only[SkP.dec,An]at h;obtain⟨p,hp,r,hr,h⟩:=h;have hF:=uM h;cases m;simp only[SkP.enc,Sk.Bz _ hp hF.left,wG _ hr hF.right]
def oP {A B:Type} (sh:List Sh) (fs:List Nat) (cA:Cd A) (o:SkP) (cB:Cd B) (F:A->Option B):Orc:=yR sh λ_ l K=>((rsP sh fs l).bind cA.of).bind λa=>(F a).bind λr=>K (o.enc cB r)
theorem okP {A B:Type} {E:Env} (hE:iL E) {LP:Nat->Ev B->Ev B} {g:FuncId} {fn:Func} (hf:E.P.funcs[g]? =some fn) (hc:fn.body.isSome=true) (hnm:(fn.name== "runtime.NumGoroutine")=false)
  {sh:List Sh} {fs:List Nat} {cA:Cd A} {o:SkP} {cB:Cd B} {F:A->Option B} (hn:Nat.ble sh.length fn.ntmps=true)
  (hLP:eX E LP 0 (fn.body.getD .skip)) (rt:RT)
  (h:∀a,ev E LP 0 (fn.body.getD .skip) (st0 fn (ln sh fs (cA.to a))) (fin E.P fn rt (o.dec cB))=F a):
  OrcOk E.P g (oP sh fs cA o cB F):=
 s9 (pG hE hf hc hnm (λa=>ln sh fs (cA.to a)) (λl=>(rsP sh fs l).bind cA.of) (λl a h=>by
  rw[An]at h;obtain⟨rs,h1,h2⟩:=h
  rw[cA.h _ _ h2,wI h1]) (λa=>K2 (Lx (iv _ _ _) (Kg hn))) hLP (λm r h=>SkP.wH h) h)
end
section
variable [Tok]
structure O (P:Program) (g:FuncId) where
 o:Orc
 ok:OrcOk P g o
abbrev OL (P:Program):=List (Sigma λg=>O P g)
def I5 {P:Program}:OL P->FuncId->Orc
 |[],_=>Hx
 |⟨n,x⟩::l,g=>cond (Nat.beq g n) x.o (I5 l g)
theorem zd {P:Program}:∀(l:OL P) (g:FuncId),OrcOk P g (I5 l g)
 |[],g=>EW P g
 |⟨_,x⟩::l,g=>Fj x.ok (zd l g)
def tq {P:Program} (tt:TT) (l:OL P):Env:={P:=P,tt:=tt,orc:=I5 l}
structure DI where
 f:Env->Env
 hP:∀E,(f E).P=E.P:=by exactλ_=>rfl
 hO:∀E,(f E).orc=E.orc:=by exactλ_=>rfl
def DI.id:DI:={f:=λE=>E}
def DI.w (l:List Nat):DI:={f:=λE=>{E with wr:=λg=>mem g l,wt:=true}}
theorem mT {P:Program} (tt:TT) (l:OL P) (m:DI):iL (m.f (tq tt l)):=by
 intro g;rw[m.hO,m.hP];exact zd l g
def O.inn {P:Program} {g:FuncId} (a:O P g):O P g:=⟨DA a.o,DB a.ok⟩
def F3 (fn:Func) (n:Nat):Bool:=fn.body.isSome&&(!(fn.name== "runtime.NumGoroutine")&&Nat.ble n fn.ntmps)
theorem nN {fn:Func} {n:Nat} (h:F3 fn n=true):fn.body.isSome=true/\(fn.name== "runtime.NumGoroutine")=false/\Nat.ble n fn.ntmps=true:=by
 simp only[F3,J8,Bool.not_eq_true']at h;exact⟨h.1,h.2.1,h.2.2⟩
def BA (ρ:Type):Nat->Ev ρ->Ev ρ:=λ_ _ _ _=>none
def eY {A B:Type} {P:Program} (tt:TT) (l:OL P) (m:DI) {g:FuncId} {fn:Func} (hf:P.funcs[g]? =some fn) (sh:List Sh) (cA:Cd A) (o:SkP) (cB:Cd B) (rt:RT) (F:A->Option B) (fs:List Nat:=[])
    (hk:(F3 fn sh.length&&isNil (cZ 0 (fn.body.getD .skip)))=true:=by kernel_rfl)
    (h:∀a,ev (m.f (tq tt l)) (BA B) 0 (fn.body.getD .skip) (st0 fn (ln sh fs (cA.to a))) (fin P fn rt (o.dec cB))=F a:=by intro a;kernel_rfl):O P g:=
  ⟨oP sh fs cA o cB F,by
    rw[J8]at hk;obtain⟨h1,h2,h3⟩:=nN hk.1;have e:(m.f (tq tt l)).P=P:=m.hP _;have:=okP (E:=m.f (tq tt l)) (sh:=sh) (fs:=fs) (cA:=cA) (o:=o) (cB:=cB) (F:=F) (g:=g) (fn:=fn) (mT tt l m) (by rw[e];exact hf) h1 h2 h3 (da (b5 hk.2)) rt (λa=>by rw[e];exact h a)
    rwa [e]at this⟩
theorem I6 {A B:Type} {P:Program} (tt:TT) (l:OL P) (m:DI) {g:FuncId} {fn:Func} (hf:P.funcs[g]? =some fn) {i:SkI} {cA:Cd A} {o:SkO} {cB:Cd B} (rt:RT) (ks:List KD) {F:A->Option B}
  (hk:(F3 fn i.a.length&&(Nat.beq o.kept.length i.b.length&&isNil (cZ 0 (fn.body.getD .skip))))=true:=by kernel_rfl)
  (h:∀a,ev (m.f (tq tt l)) (BA B) 0 (fn.body.getD .skip) (Ez fn (kI (at0 (cA.to a)) i.a) (nM (at0 (cA.to a)) i.b)) (Fg P fn rt ks (o.dec cA cB a))=F a:=by intro a;kernel_rfl):Dn P g (gM i cA o cB F):=by
 obtain⟨k1,k2⟩:=LH.1 hk;obtain⟨k3,k4⟩:=LH.1 k2;obtain⟨h1,h2,h3⟩:=nN k1;have e:(m.f (tq tt l)).P=P:=m.hP _;have:=Jv (E:=m.f (tq tt l)) (i:=i) (cA:=cA) (o:=o) (cB:=cB) (F:=F) (g:=g) (fn:=fn) (mT tt l m) (by rw[e];exact hf) h1 h2 h3 k3 (da (b5 k4)) rt ks (λa=>by rw[e];exact h a);rwa [e]at this
def Fo {A B:Type} {P:Program} (tt:TT) (l:OL P) (m:DI) {g:FuncId} {fn:Func} (hf:P.funcs[g]? =some fn) (pr:List Pr) (i:SkI) (cA:Cd A) (o:SkO) (cB:Cd B) (rt:RT) (ks:List KD) (F:A->Option B)
  (hk:(F3 fn i.a.length&&(Nat.beq o.kept.length i.b.length&&isNil (cZ 0 (fn.body.getD .skip))))=true:=by kernel_rfl)
  (h:∀a,ev (m.f (tq tt l)) (BA B) 0 (fn.body.getD .skip) (Ez fn (kI (at0 (cA.to a)) i.a) (nM (at0 (cA.to a)) i.b)) (Fg P fn rt ks (o.dec cA cB a))=F a:=by intro a;kernel_rfl):O P g:=
 ⟨oM pr i cA o cB F,wq (I6 tt l m hf rt ks hk h)⟩
end
section
variable [Tok]
structure SkS where
 s:List Sk
 b:List SkB:=[]
 gh:List (Option Nat):=[]
def SkS.fill (q:SkS) (f:Nat->R):NF:=(kI f q.s,nM f q.b,q.gh)
def SkS.dec {T:Type} (q:SkS) (c:Cd T) (nf:NF):Option T:=
 (mtL q.s nf.1).bind λp=>(mtB q.b nf.2.1).bind λr=>cond (decide (nf.2.2=q.gh)) (rd c (p++r)) none
theorem SkS.wH {T:Type} {q:SkS} {c:Cd T} {nf:NF} {t:T} (h:q.dec c nf=some t):nf=q.fill (at0 (c.to t)):=by
 simp only[SkS.dec,An]at h;obtain⟨p,hp,r,hr,h⟩:=h;by_cases e:nf.2.2=q.gh
 ·rw[decide_eq_true e]at h;have hf:=uM h;obtain⟨a,b,g⟩:=nf;simp only at hp hr e;simp only[SkS.fill,pH _ hp hf.left,wG _ hr hf.right,e]
 ·rw[decide_eq_false e]at h;exact nomatch h
abbrev XS:=List (Nat× (List Nat× List (dQ× Co)))
def exN:Ex->Nat
 |.normal=>0
 |.ret=>1
 |.exit j=>j+2
def exL:XS->Nat->List Nat× List (dQ× Co)
 |[],_=>([],[])
 |(j,x)::l,n=>cond (Nat.beq j n) x (exL l n)
structure LX (Y:Type) where
 j:Nat
 bK:List Nat
 co:List (dQ× Co)
 c:Cd Y
 s:SkS
def LX.e {Y:Type} (x:LX Y):Ex:=match x.j with
 |0=>.normal
 |1=>.ret
 |j+2=>.exit j
def LX.x {Y:Type} (x:LX Y):Nat× (List Nat× List (dQ× Co)):=(x.j,x.bK,x.co)
def LX.k {Y P B:Type} (x:LX Y) (n:Nat) (c:Cd P) (K:Ex->St->Option B) (p:P):Y->Option B:=λy=>K x.e (dx x.bK n (x.s.fill (at0 (c.to p++x.c.to y))))
structure Lp (B:Type) where
 i:Nat
 pl:Bool
 bK:List Nat
 co:List (dQ× Co)
 P:Type
 V:Type
 cP:Cd P
 cV:Cd V
 s:SkS
 xs:XS
 G:Nat->P->V->(V->Option B)->(Ex->St->Option B)->Option B
def L1 {B P V X:Type} (i:Nat) (pl:Bool) (bK:List Nat) (co:List (dQ× Co)) (cP:Cd P) (cV:Cd V) (s:SkS) (x:LX X) (F:P->V->(V->Option B)->(X->Option B)->Option B):Lp B:=
 ⟨i,pl,bK,co,P,V,cP,cV,s,[x.x],λn p v m K=>F p v m (x.k n cP K p)⟩
def L2 {B P V X Y:Type} (i:Nat) (pl:Bool) (bK:List Nat) (co:List (dQ× Co)) (cP:Cd P) (cV:Cd V) (s:SkS) (x:LX X) (y:LX Y) (F:P->V->(V->Option B)->(X->Option B)->(Y->Option B)->Option B):Lp B:=
 ⟨i,pl,bK,co,P,V,cP,cV,s,[x.x,y.x],λn p v m K=>F p v m (x.k n cP K p) (y.k n cP K p)⟩
section
variable {B:Type}
def Lp.tm (l:Lp B) (n:Nat) (q:l.P× l.V):St:=dx l.bK n (l.s.fill (at0 (l.cP.to q.1++l.cV.to q.2)))
def Lp.orc (l:Lp B) (k n:Nat) (f:Ev B):Ev B:=
 let o:Ev B:=o8 l.bK l.co (λm nf=>cond (Nat.beq m n) (l.s.dec (l.cP.p l.cV) nf) none) λpv K=>iter (λv next=>l.G n pv.1 v next K) k pv.2
 cond l.pl (Ju f o) o
def lpF (i:Nat):List (Lp B)->Option (Lp B)
 |[]=>none
 |l::ls=>cond (Nat.beq l.i i) (some l) (lpF i ls)
def BB (k n:Nat) (ls:List (Lp B)) (i:Nat) (f:Ev B):Ev B:=match lpF i ls with
 |some l=>l.orc k n f
 |none=>λ_ _=>none
def Lp.Step (E:Env) (LP:Nat->Ev B->Ev B) (n:Nat) (c:Code) (l:Lp B):Prop:=
 ∀(p:l.P) (v:l.V) (K K1:Ex->St->Option B),ev E LP l.i c (l.tm n (p,v)) (λe st'=>match e with
  |.normal=>(o7 l.bK l.co st').bind λnf=>K1 .normal (dx l.bK st'.n nf)
  |e=>(o7 (exL l.xs (exN e)).1 (exL l.xs (exN e)).2 st').bind λnf=>K e (dx (exL l.xs (exN e)).1 st'.n nf))=l.G n p v (λv'=>K1 .normal (l.tm n (p,v'))) K
def db:Nat->Code->List (Nat× Code)
 |cb,.seq a b=>db cb a++db cb b
 |cb,.cond _ a b=>db cb a++db cb b
 |_,.block id c=>db id c
 |cb,.scope c=>db cb c
 |cb,.loop c=>db cb c++[(cb,c)]
 |_,_=>[]
def Steps (E:Env) (LP:Nat->Ev B->Ev B) (n:Nat) (cs:List (Nat× Code)):Nat->List (Lp B)->Prop
 |_,[]=>True
 |j,l::ls=>l.Step E LP n (cs.getD j (0,.skip)).2/\Steps E LP n cs (j+1) ls
theorem Aq {E:Env} {LP:Nat->Ev B->Ev B} {n:Nat} {cs:List (Nat× Code)}:∀(ls:List (Lp B)) (j:Nat),Steps E LP n cs j ls->∀(i:Nat) (l:Lp B),ls[i]? =some l->l.Step E LP n (cs.getD (j+i) (0,.skip)).2
 |[],_,_,i,l,h=>by simp at h
 |l::ls,j,hs,i,l',h=>by
  cases i with
  |zero=>simp at h;subst h;exact hs.1
  |succ i=>have:=Aq ls (j+1) hs.2 i l' (by simpa using h);rwa [show j+1+i=j+(i+1)from by omega]at this
theorem F4:∀{ls:List (Lp B)} {i:Nat} {l:Lp B},(ls.map (·.i)).Nodup->ls[i]? =some l->lpF l.i ls=some l
 |[],i,_,_,h=>by simp at h
 |m::ls,i,l,hn,h=>by
  rw[KT,Lo]at hn
  cases i with
  |zero=>simp at h;subst h;simp[lpF]
  |succ i=>
   have h:ls[i]? =some l:=by simpa using h
   have hne:¬m.i=l.i:=λe=>hn.1 (e▸Lu.2 ⟨l,Kk h,rfl⟩);rw[lpF];cases hb:Nat.beq m.i l.i
   ·exact F4 hn.2 h
   ·exact(hne (J6 hb)).elim
theorem lq {E:Env} (hE:iL E) {k n:Nat} {ls:List (Lp B)}:∀(c:Code) (cb:Nat),(∀x∈db cb c,∃l,lpF x.1 ls=some l/\l.i=x.1/\l.Step E (BB k n ls) n x.2)->eX E (BB k n ls) cb c
 |.seq a b,cb,h=>⟨lq hE a cb λx hx=>h x (by simp[db,hx]),lq hE b cb λx hx=>h x (by simp[db,hx])⟩
 |.cond _ a b,cb,h=>⟨lq hE a cb λx hx=>h x (by simp[db,hx]),lq hE b cb λx hx=>h x (by simp[db,hx])⟩
 |.block id c,_,h=>lq hE c id h
 |.scope c,cb,h=>lq hE c cb h
 |.loop c,cb,h=>by
  obtain⟨l,h1,h2,h3⟩:=h (cb,c) (by simp[db]);simp only at h1 h2 h3;subst h2;have hs:=cO hE c l.i (lq hE c l.i λx hx=>h x (by simp[db,hx]))
  have hd:∀m nf v,cond (Nat.beq m n) (l.s.dec (l.cP.p l.cV) nf) none=some v->dx l.bK m nf=l.tm n v:=
   H6 λnf v e=>by rw[SkS.wH e];rfl
  show Sound E.P (.loop c) (BB k n ls l.i λst K=>ev E (BB k n ls) l.i c st K);unfold BB;rw[h1];simp only[Lp.orc];cases l.pl
  ·exact GW hs (λe=>(exL l.xs (exN e)).1) (λe=>(exL l.xs (exN e)).2) k hd h3
  ·exact GX hs (λe=>(exL l.xs (exN e)).1) (λe=>(exL l.xs (exN e)).2) k hd h3
 |.skip,_,_=>trivial
 |.label _,_,_=>trivial
 |.region _ _ _,_,_=>trivial
 |.exit _,_,_=>trivial
 |.ret,_,_=>trivial
 |.rangeFunc _ _ _ _,_,_=>trivial
 |.goto _,_,_=>trivial
 |.refuse _,_,_=>trivial
def lpB (cs:List (Nat× Code)) (ls:List (Lp B)):Bool:=eqL (cs.map (·.1)) (ls.map (·.i))&&nodup (ls.map (·.i))
theorem tr {E:Env} (hE:iL E) {k n:Nat} {ls:List (Lp B)} {c:Code} (hb:lpB (db 0 c) ls=true) (hs:Steps E (BB k n ls) n (db 0 c) 0 ls):eX E (BB k n ls) 0 c:=by
 unfold lpB at hb;rw[J8]at hb;have hm:=wF hb.1;refine lq hE c 0 λx hx=>?_;obtain⟨i,hi⟩:=List.mem_iff_getElem?.1 hx
 have e:((db 0 c).map (·.1))[i]? =some x.1:=by rw[KB,hi];rfl
 rw[hm,KB]at e
 cases hl:ls[i]? with
 |none=>rw[hl]at e;exact nomatch e
 |some l=>
  rw[hl]at e;have hi':l.i=x.1:=Lc e;refine⟨l,hi'▸F4 (cp hb.2) hl,hi',?_⟩;have:=Aq ls 0 hs i l hl;rwa [Kc,List.getD,hi]at this
end
def mq {A B:Type} {P:Program} (tt:TT) (l:OL P) (m:DI) {g:FuncId} {fn:Func} (hf:P.funcs[g]? =some fn) (k:Nat) (ls:List (Lp B)) (sh:List Sh) (cA:Cd A) (o:SkP) (cB:Cd B) (rt:RT) (F:A->Option B) (fs:List Nat:=[])
    (hk:(F3 fn sh.length&&lpB (db 0 (fn.body.getD .skip)) ls)=true:=by kernel_rfl) (hs:Steps (m.f (tq tt l)) (BB k fn.ntmps ls) fn.ntmps (db 0 (fn.body.getD .skip)) 0 ls:=by(repeat refine⟨λp v K K1=>by kernel_rfl,?_⟩);exact trivial)
    (h:∀a,ev (m.f (tq tt l)) (BB k fn.ntmps ls) 0 (fn.body.getD .skip) (st0 fn (ln sh fs (cA.to a))) (fin P fn rt (o.dec cB))=F a:=by intro a;kernel_rfl):O P g:=
  ⟨oP sh fs cA o cB F,by
    rw[J8]at hk;obtain⟨h1,h2,h3⟩:=nN hk.1;have e:(m.f (tq tt l)).P=P:=m.hP _;have:=okP (E:=m.f (tq tt l)) (sh:=sh) (fs:=fs) (cA:=cA) (o:=o) (cB:=cB) (F:=F) (g:=g) (fn:=fn) (mT tt l m) (by rw[e];exact hf) h1 h2 h3 (tr (mT tt l m) hk.2 hs) rt (λa=>by rw[e];exact h a)
    rwa [e]at this⟩
theorem I7 {A B:Type} {P:Program} (tt:TT) (l:OL P) (m:DI) {g:FuncId} {fn:Func} (hf:P.funcs[g]? =some fn) (k:Nat) (ls:List (Lp B)) {i:SkI} {cA:Cd A} {o:SkO} {cB:Cd B} (rt:RT) (ks:List KD) {F:A->Option B}
  (hk:(F3 fn i.a.length&&(Nat.beq o.kept.length i.b.length&&lpB (db 0 (fn.body.getD .skip)) ls))=true:=by kernel_rfl) (hs:Steps (m.f (tq tt l)) (BB k fn.ntmps ls) fn.ntmps (db 0 (fn.body.getD .skip)) 0 ls:=by(repeat refine⟨λp v K K1=>by kernel_rfl,?_⟩);exact trivial)
  (h:∀a,ev (m.f (tq tt l)) (BB k fn.ntmps ls) 0 (fn.body.getD .skip) (Ez fn (kI (at0 (cA.to a)) i.a) (nM (at0 (cA.to a)) i.b)) (Fg P fn rt ks (o.dec cA cB a))=F a:=by intro a;kernel_rfl):Dn P g (gM i cA o cB F):=by
 obtain⟨k1,k2⟩:=LH.1 hk;obtain⟨k3,k4⟩:=LH.1 k2;obtain⟨h1,h2,h3⟩:=nN k1;have e:(m.f (tq tt l)).P=P:=m.hP _;have:=Jv (E:=m.f (tq tt l)) (i:=i) (cA:=cA) (o:=o) (cB:=cB) (F:=F) (g:=g) (fn:=fn) (mT tt l m) (by rw[e];exact hf) h1 h2 h3 k3 (tr (mT tt l m) k4 hs) rt ks (λa=>by rw[e];exact h a);rwa [e]at this
def Hr {A B:Type} {P:Program} (tt:TT) (l:OL P) (m:DI) {g:FuncId} {fn:Func} (hf:P.funcs[g]? =some fn) (k:Nat) (ls:List (Lp B)) (pr:List Pr) (i:SkI) (cA:Cd A) (o:SkO) (cB:Cd B) (rt:RT) (ks:List KD) (F:A->Option B)
  (hk:(F3 fn i.a.length&&(Nat.beq o.kept.length i.b.length&&lpB (db 0 (fn.body.getD .skip)) ls))=true:=by kernel_rfl) (hs:Steps (m.f (tq tt l)) (BB k fn.ntmps ls) fn.ntmps (db 0 (fn.body.getD .skip)) 0 ls:=by(repeat refine⟨λp v K K1=>by kernel_rfl,?_⟩);exact trivial)
  (h:∀a,ev (m.f (tq tt l)) (BB k fn.ntmps ls) 0 (fn.body.getD .skip) (Ez fn (kI (at0 (cA.to a)) i.a) (nM (at0 (cA.to a)) i.b)) (Fg P fn rt ks (o.dec cA cB a))=F a:=by intro a;kernel_rfl):O P g:=
 ⟨oM pr i cA o cB F,wq (I7 tt l m hf k ls rt ks hk hs h)⟩
end
section
open Go.RowKit (Below)
variable [Tok]
def okH {A B:Type} {P:Program} {g:FuncId} (sh:List Sh) (fs:List Nat) (cA:Cd A) (o:SkP) (cB:Cd B) (F:A->Option B)
    (h:∀a b,F a=some b->gS P g (ln sh fs (cA.to a)) (o.enc cB b)):O P g:=
  ⟨oP sh fs cA o cB F,s9 (λρ l K out hG=>by
    rw[An]at hG;obtain⟨a,h1,hG⟩:=hG;rw[An]at hG h1;obtain⟨b,h2,hG⟩:=hG;obtain⟨rs,h3,h4⟩:=h1;refine⟨_,hG,?_⟩
    have e:l=ln sh fs (cA.to a):=by rw[cA.h _ _ h4,wI h3]
    rw[e]
    exact h a b h2)⟩
theorem Below.at_ {w w':World} (h:Below w.heap.size w w') {p:Cell} {x:Value} (hx:w.at? p=some x):w'.at? p=some x/\w'.bQ p=w.bQ p:=by
 have hlt:p.1<w.heap.size:=by
  unfold World.at? World.cell? at hx
  cases hb:w.heap[p.1]? with
  |none=>simp[hb]at hx
  |some o=>exact(Kf.1 hb).1
 have hb:=h.block p.1 hlt;exact⟨by unfold World.at? World.cell? at*;rw[hb];exact hx,by unfold World.bQ;rw[hb]⟩
end
section
open Go
open Go.RowKit (Below)
variable [Tok]
def Ar:Op->Bool
 |.defer _=>false
 |_=>true
def pe:List Oper->Bool
 |[]=>true
 |o::l=>Ar o.op&&pe l
section
variable {P:Program} {ops:Array Oper} {Q:Exit->Act->World->Prop} {l n:Nat}
theorem I8 {Q:Exit->Act->World->Prop} (hQ:∀a w,¬Q .outgrown a w):¬LetsOut Q:=λ⟨a,w,h⟩=>hQ a w h
theorem G2 {row:String} {args:Array Value} {w:World} {R:Value->World->Prop} (h:Rows P row args w R):RowsIn (Fence.wide.inRound l) n P row args w R:=λc cs _=>by
 obtain⟨v,w',h1,h2⟩:=h c cs;exact⟨v,w',h1,stepsIn_wide.2 h2⟩
theorem DJ {o:Oper} {a:Act} {w:World} {K K':Act->World->Prop} (hc:Ar o.op=true) (hK:∀a w,K a w->K' a w) (h:o.wp P a w K Q):o.wpIn (Fence.wide.inRound l) n P a w K' Q:=by
 refine⟨λ_ _=>trivial,?_⟩
 have e:o.semAt (Fence.wide.inRound l).round a.eval=execOp a.eval o:=Oper.semAt_some l a.eval o λc hq=>by rw[hq]at hc;exact nomatch hc
 rw[e];unfold Oper.wp at h;generalize (execOp a.eval o).run P w=r at h
 cases r with
 |ok x w'=>
  cases x with
  |value v=>exact hK _ _ h
  |skip=>exact hK _ _ h
  |defer d=>exact hK _ _ h
  |enter f args=>
   refine⟨(λq=>nomatch q),CallsIn.inRound l (callsIn_wide.2 (Calls.mono h λe w'' he=>?_))⟩
   cases e with
   |returned v=>exact hK _ _ he
   |panicked ch=>exact he
   |outgrown=>exact he
  |row r args=>exact⟨(λq=>nomatch q),G2 (Rows.mono h λ_ _ he=>hK _ _ he)⟩
  |_=>exact h.elim
 |halt x w'=>
  cases x with
  |panic v=>exact h
  |_=>exact h.elim
theorem As:∀{l:List Oper} {i:Nat} {o:Oper},pe l=true->l[i]? =some o->Ar o.op=true
 |[],i,o,_,h=>by simp at h
 |x::l,i,o,hc,h=>by
  rw[pe,J8]at hc
  cases i with
  |zero=>simp at h;subst h;exact hc.1
  |succ i=>exact As hc.2 (by simpa using h)
theorem Au (hc:pe ops.toList=true) (hQ:∀a w,¬Q .outgrown a w):∀(fuel:Nat) (aS:Array Bool) (a:Act) (w:World),wpAny P .any ops Q fuel aS a w->wpAnyIn (Fence.wide.inRound l) n P .any ops Q fuel aS a w
 |0,aS,a,w,h=>h
 |fuel+1,aS,a,w,h=>by
  refine⟨h.1,λi hi=>?_⟩;have h2:=h.2 i hi;unfold wpOp at h2;unfold wpOpIn
  cases ho:ops[i]? with
  |none=>rw[ho]at h2;exact Au hc hQ fuel _ a w h2
  |some o=>
   rw[ho]at h2;have hco:Ar o.op=true:=As hc (i:=i) (by rw[KR];exact ho);simp only at h2⊢;split
   ·rename_i hw;rw[if_pos hw]at h2
    rcases h2 with h2|h2
    ·exact DJ hco (λa w=>Au hc hQ fuel _ a w) h2
    ·exact(I8 hQ h2.2).elim
   ·rename_i hw;rw[if_neg hw]at h2;exact⟨λ_ _=>trivial,Au hc hQ fuel _ _ w h2⟩
theorem Fp {ρ:Type} {E:Env} {w0:World} {fp0:G0} {bs:Cell->Prop} (hE:iL E) {id m:Nat} {st:St} {a:Act} {w:World} {K:St->Option ρ} {out:ρ} (hc:pe ops.toList=true) (hQ:∀a w,¬Q .outgrown a w)
  (hR:Rl w0 fp0 bs m st a w) (h:oF E ops.toList st K=some out) (hK:∀st' a' w',K st'=some out->Rl w0 fp0 bs m st' a' w'->Q .normal a' w'):(Code.region id ops true).wpIn (Fence.wide.inRound l) n E.P Q a w:=
 let⟨h1,h2⟩:=vV hE hR h hK
 wpIn_region_any h1 (Au hc hQ _ _ _ _ h2)
end
def Alike (w w':World):Prop:=∀p u,w.at? p=some u->w'.at? p=some u/\w'.bQ p=w.bQ p
theorem uN {w w':World} {row:Option Nat} (hg:w.grownBy w' row) (hr:∀r,row=some r->∃o:Obj,w.heap[r]? =some o/\o.isCells=false):Alike w w':=by
 intro p u hu;obtain⟨o,ho,hc⟩:=cells_of_cell (a:=⟨p.1,p.2,none⟩) (show w.cell? ⟨p.1,p.2,none⟩=some u from hu);have hb:=grownBy_keeps_cells hg hr ho hc;simp only at hb;exact⟨by unfold World.at? World.cell? at*;simp only[hb];exact hu,by unfold World.bQ;rw[hb]⟩
theorem wJ {w w':World} {row:Option Nat} (hg:w.grownBy w' row) {w0:World} (h0:bz w0 w) (hr:∀r,row=some r->w0.heap.size<=r):bz w0 w':=by
 obtain⟨h1,h2,h3⟩:=h0;refine⟨hg.os.trans h1,hg.output.trans h2,λi hi=>?_⟩;have:=h3 i hi
 have hw:i<w.heap.size:=by
  cases ha:w0.heap[i]? with
  |none=>rw[Ka hi]at ha;exact nomatch ha
  |some x=>
   cases hb:w.heap[i]? with
   |none=>rw[ha,hb]at this;cases x<;>exact nomatch this
   |some y=>exact(Kf.1 hb).1
 rw[hg.block i hw λe=>by have:=hr i e.symm;omega];exact this
theorem iS {w w':World} (h:bz w w'):KeepsOthers w w':=by
 obtain⟨_,_,h3⟩:=h
 have key:∀(k:Nat) (o:Obj),w.heap[k]? =some o->∃o',w'.heap[k]? =some o'/\(o.isCells=false->o'=o):=λk o ho=>by
  have:=h3 k (Kf.1 ho).1;rw[ho]at this
  cases ho':w'.heap[k]? with
  |none=>rw[ho']at this;cases o<;>exact nomatch this
  |some o'=>
   rw[ho']at this;refine⟨o',rfl,λhc=>?_⟩
   cases o<;>first|(simp[Obj.isCells]at hc;done)|exact Lc this
 refine⟨?_,λk o ho hc=>?_⟩
 ·cases hs:w.heap.size with
  |zero=>omega
  |succ m=>
   obtain⟨o',h1,_⟩:=key m _ (Ka (by omega));have:=(Kf.1 h1).1;omega
 ·obtain⟨o',h1,h2⟩:=key k o ho;rw[h1,h2 hc]
theorem H9 {fn:Func} {args:List Arg} {w:World} {us:Array Value} {ok:Cell->Prop} (hn:args.length<=fn.ntmps) (hlen:args.length=us.size) (kG:∀(j:Nat) (x:Arg) (u:Value),args[j]? =some x->us[j]? =some u->mo w ok x u):
  Rl w ⟨λ_=>False,λ_=>undef,λ_=>.box [],[]⟩ (λp=>ok p\/w.at? p=none) fn.ntmps (st0 fn args) {tmps:=us++Array.replicate (fn.ntmps-us.size) undef,defers:=[]} w:=by
 refine⟨⟨λ_=>undef,λ_ _=>False,λp=>ok p\/w.at? p=none⟩,⟨⟨λi B hB=>by simp[st0,look]at hB,λi j B B' p hB=>by simp[st0,look]at hB,λi B p hB=>by simp[st0,look]at hB,λp hp=>.inr hp⟩,λt v hv=>?_,by simp[st0];omega,rfl,λi _=>rfl,bz.refl w,λp u hp _=>⟨λi B hB=>by simp[st0,look]at hB,hp,rfl⟩,λk i hk=>by simp[st0]at hk⟩,rfl,rfl⟩;simp only[st0]at hv;rw[qZ,if_pos (Kw _),KK]at hv;obtain⟨x,hx,rfl⟩:=J9.1 hv
 have ht:t<us.size:=by rw[<-hlen];exact(J5.1 hx).1
 have hg:(us++Array.replicate (fn.ntmps-us.size) undef).getD t undef=us[t]:=by
  rw[Kd,K4 ht,Ka ht];rfl
 rw[hg];exact Dh (λp hp=>Or.inl hp) (kG t x _ hx (Ka ht))
theorem Av {P:Program} {fn:Func} {rt:RT} {st:St} {pl:Pl} {a:Act} {w:World} {v:SV} {out:Out} (hr:bj st.heap pl w) (hs:cY w st.heap pl st.aW a) (hv:De P fn st=some v) (hc:canon rt st.heap v=some out):
  ∃u pl',(results fn a.tmps).run P w=.ok u w/\bj (newsH 0 out.2) pl' w/\SVRep w (newsH 0 out.2) pl' out.1 u/\pl'.base=pl.base/\∀i B p,look (newsH 0 out.2) i=some B->pl'.fp i p->∃j B',look st.heap j=some B'/\pl.fp j p:=by
 obtain⟨u,hu,hvr⟩:=uB (P:=P) hr hs hv;simp only[canon,An]at hc;obtain⟨S,hS,hc⟩:=hc;cases hnd:nodup (eU S)<;>simp only[hnd,cond_true,cond_false,An,It]at hc
 ·cases hc
 ·obtain⟨bs,hbs,⟨v',k'⟩,hv',rfl⟩:=hc;refine⟨u,pl.res S,hu,Ad hr hnd hbs,(Dg hr hbs rt hS (λj x hx=>by rw[Kc];exact hx) hv' hvr).1,rfl,λi B p hB hf=>?_⟩;obtain⟨⟨b,t,o⟩,g1,g2⟩:=jY hbs hB
  cases o with
  |none=>simp[Pl.res,g1]at hf
  |some i'=>
   simp only[Pl.res,g1]at hf;obtain⟨_,_,hl,_⟩:=aX g2;exact⟨i',_,hl,hf⟩
theorem rk {H:Heap} {pl:Pl} {w w':World} (ha:Alike w w'):fV ([],[]) w H pl w' H pl:=⟨λi B hB _=>⟨B,hB,B.bg,rfl⟩,λd p u _ h hp=>⟨h,(ha p u hp).1⟩⟩
theorem tu {H:Heap} {pl:Pl} {w w':World} (hr:bj H pl w) (ha:Alike w w'):bj H pl w':=
  ⟨λi B hB=>(hr.blk i B hB).bK (rk ha) rfl (λ_=>LV) (λp u _ hu=>ha p u hu) B.bB,hr.dis,hr.ob,λp hp=>hr.nb p (by
    cases hq:w.at? p with
    |none=>rfl
    |some u=>rw[(ha p u hq).1]at hp;exact nomatch hp)⟩
theorem Fq {w:World} {ok:Cell->Prop} {t:Ty} {xs:List t.El} {b o n cap i c:Nat} (h:eC w ok (.sl t xs) (.slice (some ⟨b,o,none⟩) n cap)) (hc:i+c<=xs.length):eC w ok (.sl t ((xs.drop i).take c)) (.slice (some ⟨b,o+i*t.sz,none⟩) c c):=by
 have hl:((xs.drop i).take c).length=c:=by rw[KC,K9];omega
 cases h with
 |sl _ _ a er b' o' vs hcap ha hcc hrr=>
  have key:∀j l r,aq t ((xs.drop i).take c) j l r->aq t xs (i+j) l r:=λj l r ⟨x,h1,h2⟩=>by
   have hj:j<c:=by have:=(J5.1 h1).1;omega
   rw[Kv,if_pos hj,Kn]at h1;exact⟨x,h1,h2⟩
  have:=eC.sl (w:=w) (ok:=ok) t ((xs.drop i).take c) (some ⟨b,o+i*t.sz,none⟩) c b (o+i*t.sz) (λj l=>vs (i+j) l) (by omega) (.inr rfl) (λj l r hr=>by
    rcases ha with ha|ha
    ·subst ha;have:=(aB (key j l r hr)).1;simp at this
    ·cases ha;have:=hcc _ _ _ (key j l r hr);rw[Kp]at this
     rw[show o+i*t.sz+(j*t.sz+l)=o+(i*t.sz+j*t.sz+l) by omega];exact this) λj l r hr=>hrr _ _ _ (key j l r hr)
  rw[hl]at this;exact this
end
section
variable [Tok]
def R.ty:R->Ty
 |.int k _=>.int k
 |.bool _=>.bool
 |.str _=>.str
 |.sl t _=>.sl t
 |.tok _=>.tok
 |.jI=>.st .shape
inductive R.Wf:R->Prop
 |int (k:IntKind) (n:Int) (h:(Lit.int k n).wf=true):R.Wf (.int k n)
 |bool (b:Bool):R.Wf (.bool b)
 |str (l:List UInt8) (h:l.length<=maxLen):R.Wf (.str l)
 |sl (t:Ty) (xs:List t.El) (h:∀i j r,aq t xs i j r->R.Wf r) (hl:xs.length<=maxLen):R.Wf (.sl t xs)
theorem fI (t:Ty) (r:R) (h:r.ty=t) (hs:∀s,t≠.st s):∃x,t.py r=some x:=by
 subst h
 cases r with
 |int k n=>exact⟨n,by simp[Ty.py,R.ty]⟩
 |bool b=>exact⟨b,by simp[Ty.py,R.ty]⟩
 |str l=>exact⟨l,by simp[Ty.py,R.ty]⟩
 |sl t xs=>exact⟨xs,by simp[Ty.py,R.ty]⟩
 |tok n=>exact⟨n,by simp[Ty.py,R.ty]⟩
 |jI=>exact(hs .shape rfl).elim
theorem G3 {r:R} (h:r.ty=.tok):∃n,r=.tok n:=by cases r<;>simp_all [R.ty]
theorem aY {r:R} {k:IntKind} (h:r.ty=.int k):∃n,r=.int k n:=by cases r<;>simp_all [R.ty]
theorem I9 {r:R} (h:r.ty=.bool):∃n,r=.bool n:=by cases r<;>simp_all [R.ty]
theorem nO {r:R} {t:Ty} (h:r.ty=.sl t):∃xs,r=.sl t xs:=by
 cases r with
 |sl t' xs=>cases h;exact⟨xs,rfl⟩
 |_=>cases h
theorem ze:(rs:List R)->rs.map R.ty=S.tys .shape->∃x,vk rs=some x
 |[x0,x1,x2],h=>by
  simp only[S.tys,KT,Ll,K5,and_true]at h;obtain⟨h0,h1,h2⟩:=h;obtain⟨_,rfl⟩:=aY h0;obtain⟨_,rfl⟩:=aY h1;obtain⟨_,rfl⟩:=aY h2
  simp[vk,R.asI,R.asB,R.asL]
 |[],h=>by have:=congrArg List.length h;simp[S.tys]at this
 |[_],h=>by have:=congrArg List.length h;simp[S.tys]at this
 |[_,_],h=>by have:=congrArg List.length h;simp[S.tys]at this
 |_::_::_::_::_,h=>by have:=congrArg List.length h;simp[S.tys]at this
theorem wK:(rs:List R)->rs.map R.ty=S.tys .av->∃x,qm rs=some x
 |[x0,x1,x2,x3],h=>by
  simp only[S.tys,KT,Ll,K5,and_true]at h;obtain⟨h0,h1,h2,h3⟩:=h;obtain⟨_,rfl⟩:=aY h0;obtain⟨_,rfl⟩:=aY h1;obtain⟨_,rfl⟩:=aY h2;obtain⟨_,rfl⟩:=nO h3
  simp[qm,R.asI,R.asB,R.asL]
 |[],h=>by have:=congrArg List.length h;simp[S.tys]at this
 |[_],h=>by have:=congrArg List.length h;simp[S.tys]at this
 |[_,_],h=>by have:=congrArg List.length h;simp[S.tys]at this
 |[_,_,_],h=>by have:=congrArg List.length h;simp[S.tys]at this
 |_::_::_::_::_::_,h=>by have:=congrArg List.length h;simp[S.tys]at this
theorem zf:(rs:List R)->rs.map R.ty=S.tys .aM->∃x,vm rs=some x
 |[x0,x1,x2,x3,x4,x5,x6,x7,x8],h=>by
  simp only[S.tys,KT,Ll,K5,and_true]at h;obtain⟨h0,h1,h2,h3,h4,h5,h6,h7,h8⟩:=h;obtain⟨_,rfl⟩:=aY h0;obtain⟨_,rfl⟩:=aY h1;obtain⟨_,rfl⟩:=aY h2;obtain⟨_,rfl⟩:=aY h3;obtain⟨_,rfl⟩:=aY h4;obtain⟨_,rfl⟩:=aY h5;obtain⟨_,rfl⟩:=aY h6;obtain⟨_,rfl⟩:=nO h7;obtain⟨_,rfl⟩:=nO h8
  simp[vm,R.asI,R.asB,R.asL]
 |[],h=>by have:=congrArg List.length h;simp[S.tys]at this
 |[_],h=>by have:=congrArg List.length h;simp[S.tys]at this
 |[_,_],h=>by have:=congrArg List.length h;simp[S.tys]at this
 |[_,_,_],h=>by have:=congrArg List.length h;simp[S.tys]at this
 |[_,_,_,_],h=>by have:=congrArg List.length h;simp[S.tys]at this
 |[_,_,_,_,_],h=>by have:=congrArg List.length h;simp[S.tys]at this
 |[_,_,_,_,_,_],h=>by have:=congrArg List.length h;simp[S.tys]at this
 |[_,_,_,_,_,_,_],h=>by have:=congrArg List.length h;simp[S.tys]at this
 |[_,_,_,_,_,_,_,_],h=>by have:=congrArg List.length h;simp[S.tys]at this
 |_::_::_::_::_::_::_::_::_::_::_,h=>by have:=congrArg List.length h;simp[S.tys]at this
theorem zg:(rs:List R)->rs.map R.ty=S.tys .model->∃x,vn rs=some x
 |[x0,x1,x2,x3],h=>by
  simp only[S.tys,KT,Ll,K5,and_true]at h;obtain⟨h0,h1,h2,h3⟩:=h;obtain⟨_,rfl⟩:=aY h0;obtain⟨_,rfl⟩:=aY h1;obtain⟨_,rfl⟩:=aY h2;obtain⟨_,rfl⟩:=nO h3
  simp[vn,R.asI,R.asB,R.asL]
 |[],h=>by have:=congrArg List.length h;simp[S.tys]at this
 |[_],h=>by have:=congrArg List.length h;simp[S.tys]at this
 |[_,_],h=>by have:=congrArg List.length h;simp[S.tys]at this
 |[_,_,_],h=>by have:=congrArg List.length h;simp[S.tys]at this
 |_::_::_::_::_::_,h=>by have:=congrArg List.length h;simp[S.tys]at this
theorem BC:(rs:List R)->rs.map R.ty=S.tys .task->∃x,Ce rs=some x
 |[x0,x1,x2,x3,x4],h=>by
  simp only[S.tys,KT,Ll,K5,and_true]at h;obtain⟨h0,h1,h2,h3,h4⟩:=h;obtain⟨_,rfl⟩:=aY h0;obtain⟨_,rfl⟩:=nO h1;obtain⟨_,rfl⟩:=aY h2;obtain⟨_,rfl⟩:=aY h3;obtain⟨_,rfl⟩:=aY h4
  simp[Ce,R.asI,R.asB,R.asL]
 |[],h=>by have:=congrArg List.length h;simp[S.tys]at this
 |[_],h=>by have:=congrArg List.length h;simp[S.tys]at this
 |[_,_],h=>by have:=congrArg List.length h;simp[S.tys]at this
 |[_,_,_],h=>by have:=congrArg List.length h;simp[S.tys]at this
 |[_,_,_,_],h=>by have:=congrArg List.length h;simp[S.tys]at this
 |_::_::_::_::_::_::_,h=>by have:=congrArg List.length h;simp[S.tys]at this
theorem uO:(rs:List R)->rs.map R.ty=S.tys .request->∃x,nk rs=some x
 |[x0,x1,x2,x3,x4,x5,x6,x7,x8,x9,x10,x11,x12],h=>by
  simp only[S.tys,KT,Ll,K5,and_true]at h;obtain⟨h0,h1,h2,h3,h4,h5,h6,h7,h8,h9,h10,h11,h12⟩:=h;obtain⟨_,rfl⟩:=aY h0;obtain⟨_,rfl⟩:=aY h1;obtain⟨_,rfl⟩:=aY h2;obtain⟨_,rfl⟩:=aY h3;obtain⟨_,rfl⟩:=aY h4;obtain⟨_,rfl⟩:=nO h5;obtain⟨_,rfl⟩:=aY h6;obtain⟨_,rfl⟩:=aY h7;obtain⟨_,rfl⟩:=aY h8;obtain⟨_,rfl⟩:=aY h9;obtain⟨_,rfl⟩:=nO h10;obtain⟨_,rfl⟩:=aY h11;obtain⟨_,rfl⟩:=aY h12
  simp[nk,R.asI,R.asB,R.asL]
 |[],h=>by have:=congrArg List.length h;simp[S.tys]at this
 |[_],h=>by have:=congrArg List.length h;simp[S.tys]at this
 |[_,_],h=>by have:=congrArg List.length h;simp[S.tys]at this
 |[_,_,_],h=>by have:=congrArg List.length h;simp[S.tys]at this
 |[_,_,_,_],h=>by have:=congrArg List.length h;simp[S.tys]at this
 |[_,_,_,_,_],h=>by have:=congrArg List.length h;simp[S.tys]at this
 |[_,_,_,_,_,_],h=>by have:=congrArg List.length h;simp[S.tys]at this
 |[_,_,_,_,_,_,_],h=>by have:=congrArg List.length h;simp[S.tys]at this
 |[_,_,_,_,_,_,_,_],h=>by have:=congrArg List.length h;simp[S.tys]at this
 |[_,_,_,_,_,_,_,_,_],h=>by have:=congrArg List.length h;simp[S.tys]at this
 |[_,_,_,_,_,_,_,_,_,_],h=>by have:=congrArg List.length h;simp[S.tys]at this
 |[_,_,_,_,_,_,_,_,_,_,_],h=>by have:=congrArg List.length h;simp[S.tys]at this
 |[_,_,_,_,_,_,_,_,_,_,_,_],h=>by have:=congrArg List.length h;simp[S.tys]at this
 |_::_::_::_::_::_::_::_::_::_::_::_::_::_::_,h=>by have:=congrArg List.length h;simp[S.tys]at this
theorem BD:(rs:List R)->rs.map R.ty=S.tys .step->∃x,Cf rs=some x
 |[x0,x1,x2,x3,x4,x5,x6,x7],h=>by
  simp only[S.tys,KT,Ll,K5,and_true]at h;obtain⟨h0,h1,h2,h3,h4,h5,h6,h7⟩:=h;obtain⟨_,rfl⟩:=aY h0;obtain⟨_,rfl⟩:=aY h1;obtain⟨_,rfl⟩:=aY h2;obtain⟨_,rfl⟩:=nO h3;obtain⟨_,rfl⟩:=aY h4;obtain⟨_,rfl⟩:=aY h5;obtain⟨_,rfl⟩:=aY h6;obtain⟨_,rfl⟩:=nO h7
  simp[Cf,R.asI,R.asB,R.asL]
 |[],h=>by have:=congrArg List.length h;simp[S.tys]at this
 |[_],h=>by have:=congrArg List.length h;simp[S.tys]at this
 |[_,_],h=>by have:=congrArg List.length h;simp[S.tys]at this
 |[_,_,_],h=>by have:=congrArg List.length h;simp[S.tys]at this
 |[_,_,_,_],h=>by have:=congrArg List.length h;simp[S.tys]at this
 |[_,_,_,_,_],h=>by have:=congrArg List.length h;simp[S.tys]at this
 |[_,_,_,_,_,_],h=>by have:=congrArg List.length h;simp[S.tys]at this
 |[_,_,_,_,_,_,_],h=>by have:=congrArg List.length h;simp[S.tys]at this
 |_::_::_::_::_::_::_::_::_::_,h=>by have:=congrArg List.length h;simp[S.tys]at this
theorem zi:(rs:List R)->rs.map R.ty=S.tys .event->∃x,vo rs=some x
 |[x0,x1,x2,x3,x4,x5,x6],h=>by
  simp only[S.tys,KT,Ll,K5,and_true]at h;obtain⟨h0,h1,h2,h3,h4,h5,h6⟩:=h;obtain⟨_,rfl⟩:=aY h0;obtain⟨_,rfl⟩:=aY h1;obtain⟨_,rfl⟩:=aY h2;obtain⟨_,rfl⟩:=aY h3;obtain⟨_,rfl⟩:=aY h4;obtain⟨_,rfl⟩:=aY h5;obtain⟨_,rfl⟩:=nO h6
  simp[vo,R.asI,R.asB,R.asL]
 |[],h=>by have:=congrArg List.length h;simp[S.tys]at this
 |[_],h=>by have:=congrArg List.length h;simp[S.tys]at this
 |[_,_],h=>by have:=congrArg List.length h;simp[S.tys]at this
 |[_,_,_],h=>by have:=congrArg List.length h;simp[S.tys]at this
 |[_,_,_,_],h=>by have:=congrArg List.length h;simp[S.tys]at this
 |[_,_,_,_,_],h=>by have:=congrArg List.length h;simp[S.tys]at this
 |[_,_,_,_,_,_],h=>by have:=congrArg List.length h;simp[S.tys]at this
 |_::_::_::_::_::_::_::_::_,h=>by have:=congrArg List.length h;simp[S.tys]at this
theorem zj:(rs:List R)->rs.map R.ty=S.tys .entry->∃x,vp rs=some x
 |[x0,x1,x2,x3,x4,x5,x6,x7,x8,x9,x10,x11,x12],h=>by
  simp only[S.tys,KT,Ll,K5,and_true]at h;obtain⟨h0,h1,h2,h3,h4,h5,h6,h7,h8,h9,h10,h11,h12⟩:=h;obtain⟨_,rfl⟩:=aY h0;obtain⟨_,rfl⟩:=aY h1;obtain⟨_,rfl⟩:=aY h2;obtain⟨_,rfl⟩:=aY h3;obtain⟨_,rfl⟩:=nO h4;obtain⟨_,rfl⟩:=aY h5;obtain⟨_,rfl⟩:=aY h6;obtain⟨_,rfl⟩:=aY h7;obtain⟨_,rfl⟩:=nO h8;obtain⟨_,rfl⟩:=aY h9;obtain⟨_,rfl⟩:=aY h10;obtain⟨_,rfl⟩:=aY h11;obtain⟨_,rfl⟩:=I9 h12
  simp[vp,R.asI,R.asB,R.asL]
 |[],h=>by have:=congrArg List.length h;simp[S.tys]at this
 |[_],h=>by have:=congrArg List.length h;simp[S.tys]at this
 |[_,_],h=>by have:=congrArg List.length h;simp[S.tys]at this
 |[_,_,_],h=>by have:=congrArg List.length h;simp[S.tys]at this
 |[_,_,_,_],h=>by have:=congrArg List.length h;simp[S.tys]at this
 |[_,_,_,_,_],h=>by have:=congrArg List.length h;simp[S.tys]at this
 |[_,_,_,_,_,_],h=>by have:=congrArg List.length h;simp[S.tys]at this
 |[_,_,_,_,_,_,_],h=>by have:=congrArg List.length h;simp[S.tys]at this
 |[_,_,_,_,_,_,_,_],h=>by have:=congrArg List.length h;simp[S.tys]at this
 |[_,_,_,_,_,_,_,_,_],h=>by have:=congrArg List.length h;simp[S.tys]at this
 |[_,_,_,_,_,_,_,_,_,_],h=>by have:=congrArg List.length h;simp[S.tys]at this
 |[_,_,_,_,_,_,_,_,_,_,_],h=>by have:=congrArg List.length h;simp[S.tys]at this
 |[_,_,_,_,_,_,_,_,_,_,_,_],h=>by have:=congrArg List.length h;simp[S.tys]at this
 |_::_::_::_::_::_::_::_::_::_::_::_::_::_::_,h=>by have:=congrArg List.length h;simp[S.tys]at this
theorem BF:(rs:List R)->rs.map R.ty=S.tys .Er->∃x,Cg rs=some x
 |[x0,x1,x2],h=>by
  simp only[S.tys,KT,Ll,K5,and_true]at h;obtain⟨h0,h1,h2⟩:=h;obtain⟨_,rfl⟩:=aY h0;obtain⟨_,rfl⟩:=aY h1;obtain⟨_,rfl⟩:=aY h2
  simp[Cg,R.asI,R.asB,R.asL]
 |[],h=>by have:=congrArg List.length h;simp[S.tys]at this
 |[_],h=>by have:=congrArg List.length h;simp[S.tys]at this
 |[_,_],h=>by have:=congrArg List.length h;simp[S.tys]at this
 |_::_::_::_::_,h=>by have:=congrArg List.length h;simp[S.tys]at this
theorem aO {α β:Type} {f:α->β} {rs:List α} {t:β} {ts:List β} (h:rs.map f=t::ts):∃r rs',rs=r::rs'/\f r=t/\rs'.map f=ts:=by
 cases rs with
 |nil=>cases h
 |cons r rs=>grind
theorem zk (rs:List R) (h:rs.map R.ty=S.tys .qk):∃x,zB rs=some x:=by
 obtain⟨a0,rs,rfl,g0,h⟩:=aO h;obtain⟨a1,rs,rfl,g1,h⟩:=aO h;obtain⟨a2,rs,rfl,g2,h⟩:=aO h;obtain⟨a3,rs,rfl,g3,h⟩:=aO h;obtain⟨a4,rs,rfl,g4,h⟩:=aO h;rw[List.map_eq_nil_iff]at h;subst h;obtain⟨x0,rfl⟩:=aY g0;obtain⟨x1,rfl⟩:=G3 g1;obtain⟨x2,rfl⟩:=aY g2;obtain⟨x3,rfl⟩:=aY g3;obtain⟨x4,rfl⟩:=aY g4;exact⟨_,rfl⟩
theorem sk (rs:List R) (h:rs.map R.ty=S.tys .et):∃x,nm rs=some x:=by
 obtain⟨a0,rs,rfl,g0,h⟩:=aO h;obtain⟨a1,rs,rfl,g1,h⟩:=aO h;obtain⟨a2,rs,rfl,g2,h⟩:=aO h;obtain⟨a3,rs,rfl,g3,h⟩:=aO h;obtain⟨a4,rs,rfl,g4,h⟩:=aO h;obtain⟨a5,rs,rfl,g5,h⟩:=aO h;obtain⟨a6,rs,rfl,g6,h⟩:=aO h;obtain⟨a7,rs,rfl,g7,h⟩:=aO h;obtain⟨a8,rs,rfl,g8,h⟩:=aO h;obtain⟨a9,rs,rfl,g9,h⟩:=aO h;obtain⟨a10,rs,rfl,g10,h⟩:=aO h;obtain⟨a11,rs,rfl,g11,h⟩:=aO h;obtain⟨a12,rs,rfl,g12,h⟩:=aO h;rw[List.map_eq_nil_iff]at h;subst h;obtain⟨x0,rfl⟩:=aY g0;obtain⟨x1,rfl⟩:=aY g1;obtain⟨x2,rfl⟩:=aY g2;obtain⟨x3,rfl⟩:=aY g3;obtain⟨x4,rfl⟩:=aY g4;obtain⟨x5,rfl⟩:=G3 g5;obtain⟨x6,rfl⟩:=aY g6;obtain⟨x7,rfl⟩:=aY g7;obtain⟨x8,rfl⟩:=aY g8;obtain⟨x9,rfl⟩:=aY g9;obtain⟨x10,rfl⟩:=G3 g10;obtain⟨x11,rfl⟩:=aY g11;obtain⟨x12,rfl⟩:=aY g12;exact⟨_,rfl⟩
theorem uP (t:Ty) (rs:List R) (h:rs.map R.ty=t.tys):∃x,t.cT rs=some x:=by
 have single:∀{t:Ty},(∀s,t≠.st s)->t.tys=[t]->rs.map R.ty=t.tys->∃r,rs=[r]/\r.ty=t:=λ{t} _ e h=>by
  rw[e]at h
  match rs,h with
  |[r],h=>grind
 have key:∀s:S,rs.map R.ty=s.tys->∃x,s.cT rs=some x:=λs h=>by
  cases s with
  |shape=>exact ze rs h
  |av=>exact wK rs h
  |aM=>exact zf rs h
  |model=>exact zg rs h
  |task=>exact BC rs h
  |request=>exact uO rs h
  |step=>exact BD rs h
  |event=>exact zi rs h
  |entry=>exact zj rs h
  |Er=>exact BF rs h
  |qk=>exact zk rs h
  |et=>exact sk rs h
 cases t with
 |st s=>exact key s h
 |ho s=>
  obtain⟨x,hx⟩:=key s h
  exact⟨some x,by show(s.cT rs).bind _=_;rw[hx];rfl⟩
 |hl t=>
  have h:rs.map R.ty=[.sl t]:=h;obtain⟨r,rs',rfl,hr,h⟩:=List.map_eq_cons_iff.1 h;rw[List.map_eq_nil_iff]at h;subst h;obtain⟨xs,rfl⟩:=nO hr
  exact⟨some xs,by show(if h:t=t then some (some (h▸xs))else none)=_;rw[dif_pos rfl];rfl⟩
 |tok=>obtain⟨r,rfl,e⟩:=single (t:=.tok) (λs h=>nomatch h) rfl h;exact fI _ r e (λs h=>nomatch h)
 |int k=>obtain⟨r,rfl,e⟩:=single (t:=.int k) (λs h=>nomatch h) rfl h;exact fI _ r e (λs h=>nomatch h)
 |bool=>obtain⟨r,rfl,e⟩:=single (t:=.bool) (λs h=>nomatch h) rfl h;exact fI _ r e (λs h=>nomatch h)
 |str=>obtain⟨r,rfl,e⟩:=single (t:=.str) (λs h=>nomatch h) rfl h;exact fI _ r e (λs h=>nomatch h)
 |sl t=>obtain⟨r,rfl,e⟩:=single (t:=.sl t) (λs h=>nomatch h) rfl h;exact fI _ r e (λs h=>nomatch h)
def Aw (P:Program) (g:TypeId->Option (List Ty)):Nat->List Field->Option (List Ty)
 |_,[]=>some []
 |off,f::l=>cond (Nat.beq f.offset off) ((g f.type).bind λts=>cond (Nat.beq (P.cellsOf f.type) ts.length) ((Aw P g (off+ts.length) l).bind λus=>some (ts++us)) none) none
def pU (P:Program) (tt:TT):Nat->TypeId->Option (List Ty)
 |0,_=>none
 |n+1,T=>match P.underlying T with
  |some (.int k)=>some [.int k]
  |some .bool=>some [.bool]
  |some .string=>some [.str]
  |some (.slice e)=>(tt e).bind λt=>(pU P tt n e).bind λts=>if ts=t.tys/\P.cellsOf e=ts.length then some [.sl t]else none
  |some (.struct fs)=>(Aw P (pU P tt n) 0 fs.toList).bind λts=>cond (Nat.beq (P.cellsOf T) ts.length) (some ts) none
  |_=>none
def iw (w:World) (ts:List Ty) (cs:List Value):Prop:=
 ∃rs:List R,rs.map R.ty=ts/\rs.length=cs.length/\∀(j:Nat) (r:R) (v:Value),rs[j]? =some r->cs[j]? =some v->eC w (λ_=>True) r v/\r.Wf
theorem iw.one {w:World} {r:R} {v:Value} (h:eC w (λ_=>True) r v) (hw:r.Wf):iw w [r.ty] [v]:=
  ⟨[r],rfl,rfl,λj r' v' h1 h2=>by
    cases j with
    |zero=>grind
    |succ j=>simp at h1⟩
theorem iw.append {w:World} {ts us:List Ty} {cs ds:List Value} (h:iw w ts cs) (g:iw w us ds):iw w (ts++us) (cs++ds):=by
 obtain⟨rs,h1,h2,h3⟩:=h;obtain⟨qs,g1,g2,g3⟩:=g;refine⟨rs++qs,by simp[h1,g1],by simp[h2,g2],λj r v hr hv=>?_⟩;grind
section
variable {H:Type} {enc:TypeId× Value->H} {P:Program} {tt:TT} {w:World} {base:Nat} {sp:Nat->Bool} {held:Bool}
theorem rl {g:TypeId->Option (List Ty)} {F:TypeId->List Value->Option (DataW H× List MemPlace)} (hg:∀T cs x ts,F T cs=some x->g T=some ts->cs.length=P.cellsOf T->iw w ts cs) (cs:List Value):
  ∀(fs:List Field) (off:Nat) (ts:List Ty) (xs:List (DataW H× List MemPlace)),Aw P g off fs=some ts->fs.mapM (λf=>F f.type ((cs.drop f.offset).take (P.cellsOf f.type)))=some xs->off+ts.length=cs.length->iw w ts (cs.drop off)
 |[],off,ts,xs,h,_,hl=>by
  cases h;have:cs.drop off=[]:=List.drop_eq_nil_of_le (by simp at hl;omega)
  rw[this];exact⟨[],rfl,rfl,λj r v hr _=>by simp at hr⟩
 |f::fs,off,ts,xs,h,hm,hl=>by
  simp only[Aw]at h;cases ho:Nat.beq f.offset off<;>simp only[ho,cond_true,cond_false,An]at h
  ·cases h
  have ho:=J6 ho;obtain⟨us,hu,h⟩:=h;cases hc:Nat.beq (P.cellsOf f.type) us.length<;>simp only[hc,cond_true,cond_false,An,It]at h
  ·cases h
  have hc:=J6 hc;obtain⟨vs,hv,rfl⟩:=h;rw[List.mapM_cons]at hm
  cases hF:F f.type ((cs.drop f.offset).take (P.cellsOf f.type))with
  |none=>grind
  |some y=>
   cases hR:fs.mapM (λf=>F f.type ((cs.drop f.offset).take (P.cellsOf f.type)))with
   |none=>grind
   |some ys=>
    rw[Kt]at hl;have h1:=hg _ _ _ _ hF hu (by rw[KC,K9];omega);have h2:=rl hg cs fs (off+us.length) vs ys hv hR (by omega);rw[ho,hc]at h1;have:=h1.append h2;rwa [<-List.drop_drop,K0]at this
theorem trod_int {fuel:Nat} {T:TypeId} {cs:List Value} {x:DataW H× List MemPlace} {k:IntKind} (hu:P.underlying T=some (.int k)) (h:DataW.trod enc P w base sp held fuel T cs=some x):∃n,cs=[.int k n]/\(Lit.int k n).wf=true:=by
 cases fuel with
 |zero=>cases h
 |succ fuel=>
  unfold DataW.trod at h;grind
theorem trod_bool {fuel:Nat} {T:TypeId} {cs:List Value} {x:DataW H× List MemPlace} (hu:P.underlying T=some .bool) (h:DataW.trod enc P w base sp held fuel T cs=some x):∃b,cs=[.bool b]:=by
 cases fuel with
 |zero=>cases h
 |succ fuel=>
  unfold DataW.trod at h;grind
theorem Fs {fuel:Nat} {T:TypeId} {cs:List Value} {x:DataW H× List MemPlace} (hu:P.underlying T=some .string) (h:DataW.trod enc P w base sp held fuel T cs=some x):∃s,cs=[.string s]/\s.size<=maxLen:=by
 cases fuel with
 |zero=>cases h
 |succ fuel=>
  unfold DataW.trod at h;grind
theorem zl {fuel:Nat} {T:TypeId} {cs:List Value} {x:DataW H× List MemPlace} {fs:Array Field} (hu:P.underlying T=some (.struct fs)) (h:DataW.trod enc P w base sp held fuel T cs=some x):
  ∃fuel' xs,cs.length=P.cellsOf T/\fs.toList.mapM (λf=>DataW.trod enc P w base sp held fuel' f.type ((cs.drop f.offset).take (P.cellsOf f.type)))=some xs:=by
 cases fuel with
 |zero=>cases h
 |succ fuel=>
  unfold DataW.trod at h;simp only[hu]at h;split at h
  ·rename_i hl;obtain⟨xs,hx,_⟩:=J9.1 h;exact⟨fuel,xs,hl,hx⟩
  ·cases h
theorem rm {α:Type} {Q:Nat->α->Prop}:∀(n:Nat),(∀i,i<n->∃x,Q i x)->∃l:List α,l.length=n/\∀(i:Nat) (x:α),l[i]? =some x->Q i x
 |0,_=>⟨[],rfl,λi x h=>by simp at h⟩
 |n+1,h=>by
  obtain⟨l,h1,h2⟩:=rm n λi hi=>h i (by omega);obtain⟨x,hx⟩:=h n (by omega);refine⟨l++[x],by simp[h1],λi y hy=>?_⟩;grind
theorem DK {a:Addr} {v:Value} (h:w.cell? a=some v):a.spot=none:=by
 unfold World.cell? at h
 cases hs:a.spot with
 |none=>rfl
 |some s=>grind
theorem tv {n j:Nat} (h:j<n):(List.range n)[j]? =some j:=by rw[J7 (by simpa using h)];simp
theorem pf:∀(n fuel:Nat) (T:TypeId) (cs:List Value) (x:DataW H× List MemPlace) (ts:List Ty),DataW.trod enc P w base sp held fuel T cs=some x->pU P tt n T=some ts->iw w ts cs
 |0,_,_,_,_,_,_,h=>nomatch h
 |n+1,fuel,T,cs,x,ts,h,hf=>by
  unfold pU at hf;split at hf
  ·rename_i k hu;cases hf;obtain⟨m,rfl,hw⟩:=trod_int hu h;exact iw.one (.int k m) (.int k m hw)
  ·rename_i hu;cases hf;obtain⟨b,rfl⟩:=trod_bool hu h;exact iw.one (.bool b) (.bool b)
  ·rename_i hu;cases hf;obtain⟨s,rfl,hsl⟩:=Fs hu h
   have:s=⟨s.data.toList.toArray⟩:=by simp
   rw[this];exact iw.one (.str s.data.toList) (.str _ (by simpa using hsl))
  ·rename_i e hu;simp only[An]at hf;obtain⟨t,ht,us,hus,hf⟩:=hf;split at hf
   ·rename_i hc;obtain⟨rfl,hsz⟩:=hc;cases hf;rw[Ty.oO]at hsz
    rcases DataW.trod_slice hu h with⟨rfl,_⟩|⟨a,len,cap,elems,rest,n',_,rfl,_,hb,hlc,hcap,hlen,hel,_⟩
    ·exact iw.one (.sl t [] none 0 0 0 (λ_ _=>undef) (Kr _) (.inl rfl) (λi j r ⟨x,hx,_⟩=>by simp at hx) (λi j r ⟨x,hx,_⟩=>by simp at hx)) (.sl t [] (λi j r ⟨x,hx,_⟩=>by simp at hx) (Kw _))
    ·subst hlen
     have JY:∀i,i<elems.length->∃x:t.El,∃ds,w.cells? base (a.add (i*P.cellsOf e)) (P.cellsOf e)=some ds/\(t.cells x).length=ds.length/\
       ∀(j:Nat) (r:R) (v:Value),(t.cells x)[j]? =some r->ds[j]? =some v->eC w (λ_=>True) r v/\r.Wf:=λi hi=>by
      have:=hel i hi;rw[J7 hi]at this;obtain⟨ds,h1,h2⟩:=An.1 this;obtain⟨rs,g1,g2,g3⟩:=pf n n' e ds _ _ h2 hus;obtain⟨x,hx⟩:=uP t rs g1;have hc:=Ty.bE t rs x hx;grind
     obtain⟨xs,hxl,hxs⟩:=rm elems.length JY
     have key:∀i j r,aq t xs i j r->a.spot=none/\∃v,w.at? (a.block,a.off+(i*t.sz+j))=some v/\eC w (λ_=>True) r v/\r.Wf:=λi j r ⟨x,hx,hr⟩=>by
      obtain⟨ds,h1,h2,h3⟩:=hxs i x hx
      have hj:j<ds.length:=by rw[<-h2];exact(J5.1 hr).1
      unfold World.cells? at h1;rw[if_pos (by unfold Addr.add;split<;>exact hb)]at h1;have hl:=mapM_some_length h1;rw[List.length_range]at hl;have hg:=mapM_some_get h1 j j (tv (by omega));rw[J7 hj]at hg
      have hsp:a.spot=none:=by
       have hi:i<xs.length:=(J5.1 hx).1;obtain⟨es,q1,q2,_⟩:=hxs 0 _ (J7 (by omega));have Ew:=t.eu;rw[Ty.bp]at q2;unfold World.cells? at q1;rw[if_pos (by unfold Addr.add;split<;>exact hb)]at q1;have h0:=mapM_some_get q1 0 0 (tv (by omega));rw[J7 (by omega)]at h0;have hs:=DK h0;simpa[Addr.add]using hs
      refine⟨hsp,ds[j],?_,h3 j r _ hr (J7 hj)⟩
      have:(a.add (i*P.cellsOf e)).add j=⟨a.block,a.off+(i*t.sz+j),none⟩:=by
       obtain⟨b0,o0,s0⟩:=a;simp only at hsp;subst hsp;rw[hsz];simp only[Addr.add];grind
      rw[this]at hg;exact hg
     rw[<-hxl]
     have hrep:eC w (λ_=>True) (.sl t xs) (.slice (some a) xs.length cap):=by
      refine .sl t xs (some a) cap a.block a.off (λi j=>(w.at? (a.block,a.off+(i*t.sz+j))).getD undef) (by omega) ?_ (λi j r hc=>?_) (λi j r hc=>?_)
      ·cases xs with
       |nil=>exact .inl rfl
       |cons x l=>
        right;obtain⟨r,hr⟩:=bZ (t:=t) (xs:=x::l) (i:=0) (j:=0) (by simp) t.eu;have:=(key 0 0 r hr).1;obtain⟨b0,o0,s0⟩:=a;grind
      ·grind
      ·grind
     exact iw.one hrep (.sl t xs (λi j r hc=>by obtain⟨_,v,_,_,hw⟩:=key i j r hc;exact hw) (by omega))
   ·cases hf
  ·rename_i fs hu;simp only[An]at hf;obtain⟨us,hus,hf⟩:=hf;cases hc:Nat.beq (P.cellsOf T) us.length<;>simp only[hc,cond_true,cond_false]at hf
   ·cases hf
   cases hf;have hc:=J6 hc;obtain⟨fuel',xs,hl,hx⟩:=zl hu h;have:=rl (F:=DataW.trod enc P w base sp held fuel') (λT cs x ts h1 h2 _=>pf n fuel' T cs x ts h1 h2) cs fs.toList 0 _ xs hus hx (by omega);grind
  ·cases hf
end
end
section
variable [Tok]
open Go.ChangeShapes Go.WideShapes Go.ChangeAt Go.RowKit
def DL (P:Program) (tt:TT) (T:TypeId) (a:Arg):Prop:=
 ∃ts,pU P tt 8 T=some ts/\((∃fs,P.underlying T=some (.struct fs))->∃rs:List R,a=.agg rs/\rs.map R.ty=ts/\∀r∈rs,r.Wf)/\
  ((∀fs,P.underlying T≠some (.struct fs))->∃r:R,a=.one r/\[r.ty]=ts/\r.Wf)
def rn (P:Program) (tt:TT):List TypeId->List Arg->Prop
 |[],[]=>True
 |T::Ts,a::as=>DL P tt T a/\rn P tt Ts as
 |_,_=>False
section
variable {H:Type} {enc:TypeId× Value->H} {P:Program} {tt:TT} {w:World} {base:Nat} {sp:Nat->Bool} {held:Bool}
theorem Ft {b0:Nat} {T:TypeId} {v:Value} {d:DataW H} {p:List MemPlace} {ts:List Ty} (hd:DataW.Trod enc P w base sp held T v d p) (hv:Value.okWide P w .any b0 T v) (hf:pU P tt 8 T=some ts):
  ∃a,DL P tt T a/\mo w (λ_=>True) a v:=by
 obtain⟨fuel,hd⟩:=hd;obtain⟨rs,h1,h2,h3⟩:=pf 8 fuel T _ _ ts hd hf;by_cases hs:∃fs,P.underlying T=some (.struct fs)
 ·obtain⟨fs,hfs⟩:=hs;simp only[Value.okWide,hfs]at hv;obtain⟨cs,rfl,hsz,_⟩:=hv;refine⟨.agg rs,⟨ts,hf,λ_=>⟨rs,rfl,h1,λr hr=>?_⟩,λh=>(h fs hfs).elim⟩,cs,rfl,by simpa[Value.cells]using h2,λj r u hr hu=>?_⟩
  ·obtain⟨j,hj⟩:=KQ hr
   have hlt:j<cs.size:=by
    have:=(J5.1 hj).1;simp[Value.cells]at h2;omega
   exact(h3 j r cs[j] hj (by simp[Value.cells,hlt])).2
  ·exact(h3 j r u hr (by simpa[Value.cells]using hu)).1
 ·have one1:∀{t},rs.map R.ty=[t]->∃r,rs=[r]:=λh=>List.length_eq_one_iff.1 (by simpa using congrArg List.length h)
  have sI:∃r,rs=[r]:=by
   unfold pU at hf;split at hf
   ·cases hf;exact one1 h1
   ·cases hf;exact one1 h1
   ·cases hf;exact one1 h1
   ·simp only[An]at hf;obtain⟨t,_,us,_,hf⟩:=hf;split at hf
    ·cases hf;exact one1 h1
    ·exact nomatch hf
   ·rename_i fs hu;exact(hs ⟨fs,hu⟩).elim
   ·exact nomatch hf
  obtain⟨r,rfl⟩:=sI
  have Ia:v.cells.toList=[v]:=by
   have JZ:∀cs,v≠.agg cs:=λcs e=>by
    subst e;unfold pU at hf;split at hf
    ·rename_i k hu;obtain⟨n,e⟩:=okWide_int hu hv;exact nomatch e
    ·rename_i hu;obtain⟨n,e⟩:=okWide_bool hu hv;exact nomatch e
    ·rename_i hu;obtain⟨n,e⟩:=okWide_string hu hv;exact nomatch e
    ·rename_i e hu;obtain⟨a,l,c,e⟩:=okWide_slice hu hv;exact nomatch e
    ·rename_i fs hu;exact(hs ⟨fs,hu⟩).elim
    ·exact nomatch hf
   cases v<;>first|rfl|exact(JZ _ rfl).elim
  rw[Ia]at h3;have:=h3 0 r v rfl rfl;exact⟨.one r,⟨ts,hf,λh=>(hs h).elim,λ_=>⟨r,rfl,by simpa using h1,this.2⟩⟩,this.1⟩
theorem wL {b0:Nat}:∀{Ts:List TypeId} {vs:List Value} {ds:List (DataW H)} {ps:List MemPlace},DataW.TrodAll enc P w base sp held Ts vs ds ps->
  (∀(j:Nat) t v,Ts[j]? =some t->vs[j]? =some v->Value.okWide P w .any b0 t v)->(Ts.all λT=>(pU P tt 8 T).isSome)=true->
  ∃as,rn P tt Ts as/\as.length=vs.length/\ds.length=Ts.length/\∀(j:Nat) (x:Arg) (u:Value),as[j]? =some x->vs[j]? =some u->mo w (λ_=>True) x u
 |[],[],[],_,_,_,_=>⟨[],trivial,rfl,rfl,λj x u h=>by simp at h⟩
 |T::Ts,v::vs,d::ds,ps,⟨p,q,h1,h2,_⟩,hv,hf=>by
  simp only[List.all_cons,J8]at hf;obtain⟨ts,hts⟩:=Option.isSome_iff_exists.1 hf.1;obtain⟨a,g1,g2⟩:=Ft h1 (hv 0 T v rfl rfl) hts;obtain⟨as,g3,g4,g5,g6⟩:=wL h2 (λj t v ht hw=>hv (j+1) t v (by simpa using ht) (by simpa using hw)) hf.2;refine⟨a::as,⟨g1,g3⟩,by simp[g4],by simp[g5],λj x u hx hu=>?_⟩
  cases j with
  |zero=>simp at hx hu;subst hx hu;exact g2
  |succ j=>exact g6 j x u (by simpa using hx) (by simpa using hu)
 |[],_::_,_,_,h,_,_=>nomatch h
 |[],[],_::_,_,h,_,_=>nomatch h
 |_::_,[],_,_,h,_,_=>nomatch h
 |_::_,_::_,[],_,h,_,_=>nomatch h
variable {w':World}
theorem zm (hg:bz w w') (hc:∀(p:Cell) x,w.at? p=some x->w'.at? p=some x/\w'.bQ p=w.bQ p) (may:MemPlace->Prop):w.keptBut w' may:=by
 obtain⟨h1,h2,h3⟩:=hg;refine⟨h1,h2,λi hi=>?_⟩;have:=h3 i hi;split at this
 ·rename_i c t fr c' t' fr' e1 e2;obtain⟨q1,q2,q3⟩:=this;rw[e1,e2];refine⟨q1,?_,q3,λj _=>?_⟩
  ·rcases q2 with q2|q2
   ·exact q2
   ·have h0:w.at? (i,0)=some c[0]:=by simp[World.at?,World.cell?,e1,q2]
    have:=(hc _ _ h0).2;simp only[World.bQ,e1,e2,Kj]at this;exact Prod.ext this.1 this.2.1
  ·by_cases hj:j<c.size
   ·have:w.at? (i,j)=some c[j]:=by simp[World.at?,World.cell?,e1,hj]
    have:=(hc _ _ this).1;simp only[World.at?,World.cell?,e2,LM,Li,if_false]at this;rw[this,Ka hj]
   ·rw[Array.getElem?_eq_none (by omega),Array.getElem?_eq_none (by omega)]
 ·rename_i x y h4;rw[this];split
  ·rename_i e1 e2;rw[e1]at e2;cases e2;exact⟨rfl,rfl,rfl,λ_ _=>rfl⟩
  ·rename_i e1 e2;rw[e1]at e2;cases e2;exact .inr ⟨rfl,rfl⟩
  ·rfl
theorem DM {may:MemPlace->Prop} (h:w.keptBut w' may) {a:Addr} (ha:a.block<w.heap.size):w'.frozen? a=w.frozen? a:=by
 have:=h.2.2 a.block ha;unfold World.frozen?;split at this
 ·rename_i e1 e2;obtain⟨_,q2,_⟩:=this;rw[e1,e2,q2]
 ·rename_i e1 e2;rw[e1,e2]
 ·rw[this]
theorem G4 (hg:bz w w') (hc:∀(p:Cell) x,w.at? p=some x->w'.at? p=some x/\w'.bQ p=w.bQ p) {p:MemPlace} (hp:p.block<w.heap.size):w.sameAt w' p:=by
 obtain⟨_,_,h3⟩:=zm hg hc λ_=>False
 cases p with
 |cell b o=>
  have:=h3 b hp;show w'.cell? ⟨b,o,none⟩=w.cell? ⟨b,o,none⟩;split at this
  ·rename_i c t fr c' t' fr' e1 e2;obtain⟨q1,q2,q3,q4⟩:=this;simp only[World.cell?,e1,e2,LM,Li,if_false];exact q4 o (λh=>h)
  ·rename_i es ck es' ck' e1 e2;simp[World.cell?,e1,e2]
  ·simp only[World.cell?,this]
 |map b=>
  have:=h3 b hp;show w'.heap[b]? =w.heap[b]?;split at this
  ·rename_i c t fr c' t' fr' e1 e2;obtain⟨rfl,rfl,q3,q4⟩:=this;rw[e1,e2];have:c'=c:=Array.ext_getElem? λj=>q4 j (λh=>h);rw[this]
  ·rename_i es ck es' ck' e1 e2
   rcases this with h|⟨rfl,rfl⟩
   ·exact h.elim
   ·rw[e1,e2]
  ·exact this
theorem nP (hl:laidOutB P=true):∀{Ts:List TypeId} {vs:List Value} {ds:List (DataW H)} {ps:List MemPlace},(∀t∈Ts,P.readableRec t=true/\t<P.types.size)->
    DataW.TrodAll enc P w 0 (λ_=>true) true Ts vs ds ps->(∀p∈ps,w.sameAt w' p)->(∀p∈ps,sp p.block=true)->DataW.TrodAll enc P w' 0 sp true Ts vs ds ps
  |[],[],[],_,_,h,_,_=>h
  | T :: Ts, v :: vs, d :: ds, ps, hT, ⟨p, q, h1, h2, e⟩, hs, hp =>
    ⟨p,q,WideElems.Trod_stays hl (hT T (by simp)).1 (hT T (by simp)).2 h1 (λx hx=>hs x (by rw[e];exact LG _ hx)) (λx hx=>hp x (by rw[e];exact LG _ hx)),
      nP hl (λt ht=>hT t (by simp[ht])) h2 (λx hx=>hs x (by rw[e];exact LD _ hx)) (λx hx=>hp x (by rw[e];exact LD _ hx)),e⟩
  |[],_::_,_,_,_,h,_,_=>nomatch h
  |[],[],_::_,_,_,h,_,_=>nomatch h
  |_::_,[],_,_,_,h,_,_=>nomatch h
  |_::_,_::_,[],_,_,h,_,_=>nomatch h
end
theorem DN {H:Type} {enc:TypeId× Value->H} {P:Program} {f:Func} {s:ChangeSpec} {apart fresh handsOn again:Bool} {W W':World} {args:Array Value} {v:Value} {ds gs:List (DataW H)} {before pa pv:List MemPlace}
  (hW:DataW.Whole enc P f.params.toList s.vars apart W args.toList ds gs before)
  (F0:∀(b:Nat) (sp:Nat->Bool) (hd:Bool),DataW.TrodAll enc P W' b sp hd f.resultTypes.toList (v.resultList f.resultTypes.size) (s.fn H (ds++gs)).results [])
  (kG:∀sp:Nat->Bool,(∀p∈before,sp p.block=true)->DataW.TrodAll enc P W' 0 sp true f.params.toList args.toList (s.fn H (ds++gs)).args pa)
  (DP:∀sp:Nat->Bool,(∀p∈before,sp p.block=true)->DataW.TrodVars enc P W' sp s.vars (s.fn H (ds++gs)).vars pv)
  (hps:before=pa++pv) (hk:W.keptBut W' (·∈before)) (hfz:∀b off,MemPlace.cell b off∈before->W'.frozen? ⟨b,off,none⟩=W.frozen? ⟨b,off,none⟩)
  (hok:∀(j:Nat) (t:TypeId) (r:Value),f.resultTypes[j]? =some t->(v.resultList f.resultTypes.size)[j]? =some r->Value.okWide P W' .any 0 t r):s.post enc P f apart fresh handsOn again W args v W':=by
 have hin:∀p∈before,(decide (p.block<W.heap.size))=true:=λp hp=>decide_eq_true (hW.lt p hp);subst hps;refine⟨ds,gs,_,[],pa,pv,hW,F0 _ _ _,kG (λb=>decide (b<W.heap.size)) hin,DP _ hin,World.keptBut_mono (λp hp=>⟨hp,.inr (List.mem_append.1 hp)⟩) hk,λ_=>?_⟩;obtain⟨_,_,_,_,_,hz,hn⟩:=id hW;refine⟨hok,_,_,([]++pa)++pv,⟨[]++pa,pv,trodAll_append (kG _ λ_ _=>rfl) (F0 _ _ _),DP _ λ_ _=>rfl,rfl,λb off hp=>?_,λha=>?_⟩,λp hp _=>?_⟩
 ·have hp:MemPlace.cell b off∈pa++pv:=by simpa using hp
  rw[hfz b off hp];exact hz b off hp
 ·simpa using hn ha
 ·simpa using hp
theorem BG {C:Checked} {os:Os} {g:FuncId} {fn:Func} {s:ChangeSpec} {tt:TT} {H:Type} {enc:TypeId× Value->H} {conds:List PathCond} {apart fresh handsOn again:Bool}
    (own:ownKnob C.prog.godebug=none) (started:os.Started) (noInit:C.prog.inits.idxOf? g=none) (hfn:C.prog.funcs[g]? =some fn)
    (witness:∃(w:World) (tape:Tape) (i:Input),w.os=os/\(w.forCall tape i).Shaped C.prog/\i.vars=[]/\Input.okWide C.prog (w.forCall tape i) .any w.heap.size g i/\
      s.pre6 enc C.prog fn conds apart (w.forCall tape i).memory i.args/\Assume.holds {} C.prog (lone (Frame.enter C.prog g i.args .normal) [] (w.forCall tape i)))
    (Ja:laidOutB C.prog=true) (Jb:∀t∈fn.params.toList,C.prog.readableRec t=true/\t<C.prog.types.size) (Jc:(fn.params.toList.all λT=>(pU C.prog tt 8 T).isSome)=true)
    (DP:s.vars=[]) (G5:∀ds:List (DataW H),ds.length=fn.params.toList.length->s.fn H (ds++[])={results:=[.lit (.bool true)],args:=ds,vars:=[]})
    {bt:TypeId} (F0:fn.resultTypes=#[bt]) (hbt:C.prog.underlying bt=some .bool)
    (J0:∀as:List Arg,rn C.prog tt fn.params.toList as->gS C.prog g as (.b true,[])):
    ReturnsInHanded {} C os g .any (s.pre6 enc C.prog fn conds apart) (s.post enc C.prog fn apart fresh handsOn again):=by
  refine returnsInHanded_of_change (C:=C) own started noInit hfn witness ?_;intro W base args ds gs before hval hW _ _;have hW':=hW;obtain⟨p,q,hA,hV,rfl,hfz,_⟩:=hW;rw[DP]at hV;obtain⟨rfl,rfl⟩:=trodVars_none hV;obtain⟨as,g1,g2,g3,g4⟩:=wL hA (λj t v ht hv=>hval j t v (by simpa using ht) (by simpa using hv)) Jc;obtain⟨_,hc⟩:=J0 as g1;refine(hc W args (λ_=>True) (by simpa using g2) (λj x u hx hu=>g4 j x u hx (by simpa using hu))).mono λe W' ⟨u,pl,he,_,hu,_,md,_,hgr⟩=>?_
  have hu:u=.bool true:=by
    cases hu with
    |r _ _ _ h=>cases h;rfl
  subst hu he;have hc':∀(p:Cell) x,W.at? p=some x->W'.at? p=some x/\W'.bQ p=W.bQ p:=md;have hlt:∀x∈p,x.block<W.heap.size:=λx hx=>hW'.lt x (by simpa using hx);refine⟨_,rfl,DN (pa:=p) (pv:=[]) hW' (λ_ _ _=>?_) (λsp hsp=>?_) (λ_ _=>?_) rfl (zm hgr hc' _) (λb off hp=>DM (zm hgr hc' λ_=>False) (hW'.lt _ hp)) (ok_one F0 rfl (okWide_bool_mk hbt true))⟩
  · rw[G5 ds g3,F0];exact trodAll_mk1 (shut_bool hbt true)
  · rw[G5 ds g3];exact nP Ja Jb hA (λx hx=>G4 hgr hc' (hlt x hx)) (λx hx=>hsp x (by simpa using hx))
  · rw[G5 ds g3,DP];exact rfl
end
section
instance IA:Tok:=⟨λ_=>.slice none 0 0,λ_=>rfl,rfl⟩
theorem aH {n:Int} (h1:-9223372036854775808<=n) (h2:n<=9223372036854775807):i64.wrap n=n:=Go.IntWalk.i64_in n ⟨h1,h2⟩
theorem aC {n m:Nat} (h:n<m) (hm:m<=9223372036854775807):i64.wrap ((n:Int)+1)=((n+1:Nat):Int):=by
 rw[aH (by omega) (by omega)];omega
@[simp] theorem aR {α:Type} (xs:List α) (i:Nat):idx xs (i:Int)=xs[i]? :=by
 have:(0:Int)<=(i:Int):=by omega
 simp[idx,this]
theorem nQ {α:Type} (xs:List α):idx xs 0=xs[0]? :=rfl
theorem uQ {α:Type} (xs:List α) {i:Int} (h:0<=i):idx xs i=xs[i.toNat]? :=by simp[idx,h]
section
variable {R V:Type} {g:V->(V->Option R)->Option R}
theorem jn (k:Nat) (v:V):iter g (k+1) v=g v (iter g k):=rfl
theorem kb {st:Nat->V} {n:Nat} {P:Nat->Option R} (h:∀i,i<n->∀next:V->Option R,next (st (i+1))=P (i+1)->g (st i) next=P i)
  (hn:∀next,g (st n) next=P n):∀(k i:Nat),i<=n->n-i<k->iter g k (st i)=P i
 |0,i,hi,hk=>by omega
 |k+1,i,hi,hk=>by
  rw[jn];by_cases c:i<n
  ·exact h i c _ (kb h hn k (i+1) (by omega) (by omega))
  ·have:i=n:=by omega
   subst this;exact hn _
theorem eJ {st:Nat->V} {n:Nat} {r:Option R} (h:∀i,i<n->∀next:V->Option R,g (st i) next=next (st (i+1))) (hn:∀next,g (st n) next=r) {k:Nat} (hk:n<k):
  iter g k (st 0)=r:=kb (P:=λ_=>r) (λi hi next e=>(h i hi next).trans e) hn k 0 (Kw _) (by omega)
end
theorem ag {α:Type} {p:Prop} [Decidable p] (x y:α):cond (decide p) x y=if p then x else y:=by by_cases h:p<;>simp[h]
theorem lT {α:Type} (a b:Int) (x y:α):cond (a !=b) x y=if a=b then y else x:=by
 by_cases h:a=b
 ·simp[h]
 ·have:(a !=b)=true:=by simpa using h
  rw[this,if_neg h];rfl
theorem uR {α:Type} (a b:Int) (x y:α):cond (a==b) x y=if a=b then x else y:=by
 by_cases h:a=b
 ·simp[h]
 ·have:(a==b)=false:=by simpa using h
  rw[this,if_neg h];rfl
theorem cond_not {α:Type} (b:Bool) (x y:α):cond (!b) x y=cond b y x:=by cases b<;>rfl
theorem G6 (a b:Int):(a==b)=decide (a=b):=by
 by_cases h:a=b
 ·simp[h]
 ·rw[decide_eq_false h];simpa using h
theorem DQ (a b:Int):(a !=b)=decide (a≠b):=by
 by_cases h:a=b
 ·simp[h]
 ·rw[decide_eq_true h];simpa using h
theorem aA {α:Type} {xs:List α} {i:Nat} (h:i<xs.length):xs[i]? =some xs[i]:=J7 h
theorem fJ {α:Type} {xs:List α} {i:Nat} (h:i<xs.length):xs.drop i=xs[i]::xs.drop (i+1):=(List.getElem_cons_drop h).symm
theorem dC {α:Type} {xs:List α} {i:Nat} (h:i<xs.length):xs.take (i+1)=xs.take i++[xs[i]]:=(List.take_append_getElem h).symm
theorem DS {α R:Type} [DecidableEq α] (xs ys:List α) (hl:xs.length=ys.length) {g:Int->(Int->Option R)->Option R} {yes no:Option R}
  (h:∀(i:Nat) (hi:i<xs.length) (hi':i<ys.length) (next:Int->Option R),g (i:Int) next=if xs[i]=ys[i]then next ((i+1:Nat):Int)else no)
  (hn:∀next,g (xs.length:Int) next=yes) {k:Nat} (hk:xs.length<k):iter g k 0=if xs=ys then yes else no:=by
 have:=kb (g:=g) (st:=λi=>(i:Int)) (n:=xs.length) (P:=λi=>if xs.drop i=ys.drop i then yes else no) (λi hi next e=>by
  have hi':i<ys.length:=by omega
  rw[h i hi hi' next]
  have he:(xs.drop i=ys.drop i)↔(xs[i]=ys[i]/\xs.drop (i+1)=ys.drop (i+1)):=by rw[fJ hi,fJ hi',K5]
  by_cases c:xs[i]=ys[i]
  ·rw[if_pos c,e];simp only[he,c,true_and]
  ·rw[if_neg c,if_neg (λq=>c (he.1 q).1)]) (λnext=>by
  rw[Lr,List.drop_of_length_le (by omega)];simp;exact hn next) k 0 (Kw _) (by omega)
 simpa using this
end
end Go.Proofs.Ev
