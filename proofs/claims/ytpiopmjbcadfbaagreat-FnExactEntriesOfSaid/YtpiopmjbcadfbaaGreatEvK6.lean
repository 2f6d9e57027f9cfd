/- The evaluator over the model's code, and that it is sound: part 6. -/
import Derived.Test.YtpiopmjbcadfbaaGreatEvK5
set_option linter.unusedVariables false
set_option linter.unusedSimpArgs false
set_option linter.unusedSectionVars false
namespace Go.Proofs.Ev
section
variable [Tok]
def Nb (L:List Nat):List Nat->List Nat
 |[]=>[]
 |i::l=>match placeOf i L 0 with
  |some k=>k::Nb L l
  |none=>Nb L l
mutual
def SV.ren (L:List Nat):SV->Option SV
 |.r d x=>some (.r (Nb L d) x)
 |.cj=>some .cj
 |.o6=>some .o6
 |.own i=>(placeOf i L 0).bind λk=>some (.own k)
 |.sub i o n=>(placeOf i L 0).bind λk=>some (.sub k o n)
 |.bsl i n=>(placeOf i L 0).bind λk=>some (.bsl k n)
 |.ptr i x o=>(placeOf i L 0).bind λk=>some (.ptr k x o)
 |.inn _ _ _=>none
 |.ki d cs=>some (.ki (Nb L d) cs)
 |.agg cs=>(DY L cs).bind λl=>some (.agg l)
 |.tup cs=>(DY L cs).bind λl=>some (.tup l)
 |.fn f a b=>(DY L a).bind λa=>(DY L b).bind λb=>some (.fn f a b)
 |.undef=>some .undef
def DY (L:List Nat):List SV->Option (List SV)
 |[]=>some []
 |v::l=>(v.ren L).bind λv=>(DY L l).bind λl=>some (v::l)
end
def Blk.ren (L:List Nat):Blk->Option Blk
 |.box cs=>(DY L cs).bind λl=>some (.box l)
 |.arr none t xs=>some (.arr none t xs)
 |.arr (some d) t xs=>some (.arr (some (Nb L d)) t xs)
def ng (h:aI) (L:List Nat):List Nat->Option (List Blk)
 |[]=>some []
 |i::l=>(look h i).bind λb=>(b.ren L).bind λb=>(ng h L l).bind λl=>some (b::l)
def getAll (s:List (Nat× SV)):List Nat->Option (List SV)
 |[]=>some []
 |t::l=>(look s t).bind λv=>(getAll s l).bind λvs=>some (v::vs)
abbrev NF:=List SV× List Blk× List (Option Nat)
def K5 (h:aI):List (Option Nat)->List Nat
 |[]=>[]
 |none::l=>K5 h l
 |some i::l=>match look h i with
  |some _=>i::K5 h l
  |none=>K5 h l
def Ch (L:List Nat):List (Option Nat)->List (Option Nat)
 |[]=>[]
 |none::l=>none::Ch L l
 |some i::l=>placeOf i L 0::Ch L l
def norm (bz:List Nat) (st:St):Option NF:=
  (getAll st.cp bz).bind λvs=>
    let L:=reach st.heap 3 (oS (oS [] (IA vs)) (K5 st.heap st.gh))
    cond (nodup L) ((DY L vs).bind λvs'=>(ng st.heap L L).bind λbs=>some (vs',bs,Ch L st.gh)) none
def PI:List Nat->List SV->List (Nat× SV)
 |t::l,v::vs=>(t,v)::PI l vs
 |_,_=>[]
def gw (bz:List Nat) (n:Nat) (nf:NF):St:={cp:=PI bz nf.1,heap:=aK 0 nf.2.1,nid:=nf.2.1.length,n:=n,gh:=nf.2.2}
theorem nY {L:List Nat}:{cs l:List SV}->DY L cs=some l->l.length=cs.length
 |[],l,h=>by cases h;rfl
 |v::cs,l,h=>by
  simp only[DY,An,It]at h;obtain⟨v',hv,l',hl',rfl⟩:=h;simp[nY hl']
section
variable {w:World} {H:aI} {pl:Pl} {L:List Nat} {bs:List Blk}
theorem vK {i:Nat}:∀{L:List Nat} {n:Nat},placeOf i L n=none->i∉L
 |[],_,_=>λh=>nomatch h
 |j::l,n,h=>by
  simp only[placeOf]at h;cases hj:Nat.beq j i<;>simp only[hj,cond_true,cond_false]at h
  ·intro hm
   rcases RN.1 hm with rfl|hm
   ·simp at hj
   ·exact vK h hm
  ·exact nomatch h
theorem fR {h:aI} {L:List Nat}:∀{l:List Nat} {bs:List Blk},ng h L l=some bs->bs.length=l.length/\
  (∀(k:Nat) (b:Blk),bs[k]? =some b->∃i b0,l[k]? =some i/\look h i=some b0/\b0.ren L=some b)
 |[],bs,e=>by cases e;exact⟨rfl,λk b hb=>by simp at hb⟩
 |i::l,bs,e=>by
  simp only[ng,An,It]at e;obtain⟨b0,h1,b,h2,l',h3,rfl⟩:=e;obtain⟨g1,g2⟩:=fR h3;refine⟨by simp[g1],λk b' hb=>?_⟩
  cases k with
  |zero=>simp at hb;subst hb;exact⟨i,b0,rfl,h1,h2⟩
  |succ k=>simpa using g2 k b' (by simpa using hb)
theorem mN (hL:ng H L L=some bs) {i k:Nat} (hk:placeOf i L 0=some k) {B:Blk} (hB:look H i=some B):
  L.getD k 0=i/\∃B',look (aK 0 bs) k=some B'/\B.ren L=some B':=by
 obtain⟨_,h2⟩:=jI hk;rw[Sc]at h2
 have hlt:k<bs.length:=by rw[(fR hL).1];exact(Of.1 h2).1
 obtain⟨i',b0,e1,e2,e3⟩:=(fR hL).2 k _ (On hlt);rw[h2]at e1;cases e1;rw[hB]at e2;cases e2;exact⟨by simp[List.getD,h2],_,by rw[bn,if_pos (R9 _),Sc];exact On hlt,e3⟩
theorem fS (hL:ng H L L=some bs) {k:Nat} {B:Blk} (hB:look (aK 0 bs) k=some B):∃i b0,L[k]? =some i/\L.getD k 0=i/\look H i=some b0/\b0.ren L=some B:=by
 rw[bn,if_pos (R9 _),Sc]at hB;obtain⟨i,b0,h1,h2,h3⟩:=(fR hL).2 k B hB;exact⟨i,b0,h1,by simp[List.getD,h1],h2,h3⟩
theorem mO {L:List Nat} (hn:L.Nodup) {k i:Nat} (h:L[k]? =some i):placeOf i L 0=some k:=by
 cases hp:placeOf i L 0 with
 |none=>exact(vK hp (RH h)).elim
 |some k'=>
  obtain⟨_,h2⟩:=jI hp;rw[Sc]at h2;have hlt:=(Of.1 h).1;rw[(List.getElem?_inj hlt hn).1 (h.trans h2.symm)]
theorem HR {L d:List Nat} {k i:Nat} (h:placeOf i L 0=some k) (hd:mem i d=true):mem k (Nb L d)=true:=by
 induction d with
 |nil=>exact nomatch hd
 |cons j l ih=>
  simp only[Nb];simp only[mem]at hd;cases hj:Nat.beq j i<;>simp only[hj,cond_true,cond_false]at hd
  ·cases placeOf j L 0 with
   |none=>exact ih hd
   |some m=>simp only[mem];cases Nat.beq m k<;>simp[ih hd]
  ·have:j=i:=Rp hj;subst this;simp only[h,mem];simp
theorem Blk.K6 {b b':Blk} (h:b.ren L=some b'):b'.kn=b.kn:=by
 cases b with
 |box cs=>simp only[Blk.ren,An,It]at h;obtain⟨_,_,rfl⟩:=h;rfl
 |arr sh t xs=>cases sh<;>(cases h;rfl)
theorem Ci (hn:nodup L=true) (hL:ng H L L=some bs) {d:List Nat} {p:Cell} (h:okd H pl d p):okd (aK 0 bs) (pl.out L) (Nb L d) p:=by
 refine⟨h.1,λk B hB hm hf=>?_⟩;obtain⟨i,b0,h1,hi,h2,h3⟩:=fS hL hB;simp only[Pl.out,hi]at hf;refine h.2 i b0 h2 (λhd=>?_) hf;rw[<-Blk.K6 h3];exact hm (HR (mO (eK hn) h1) hd)
mutual
theorem Gc (hn:nodup L=true) (hL:ng H L L=some bs):(v:SV)->{v':SV}->{u:Value}->v.ren L=some v'->au w H pl v u->au w (aK 0 bs) (pl.out L) v' u
 |.r d x,v',u,h,hv=>by
  cases h
  cases hv with
  |r _ _ _ hx=>exact .r _ _ _ (hx.frame λp u hp hu=>⟨Ci hn hL hp,hu⟩)
 |.cj,v',u,h,hv=>by cases h;cases hv;exact .cj
 |.o6,v',u,h,hv=>by cases h;cases hv;exact .o6
 |.own i,v',u,h,hv=>by
  simp only[SV.ren,An,It]at h;obtain⟨k,hk,rfl⟩:=h
  cases hv with
  |own _ sh t xs hl=>
   obtain⟨hi,B',g1,g2⟩:=mN hL hk hl
   have e:(pl.out L).hdr k=pl.hdr i:=by simp only[Pl.out,hi]
   rw[<-e]
   cases sh with
   |none=>cases g2;exact .own k none t xs g1
   |some d=>cases g2;exact .own k _ t xs g1
 |.sub i o n,v',u,h,hv=>by
  simp only[SV.ren,An,It]at h;obtain⟨k,hk,rfl⟩:=h
  cases hv with
  |sub _ _ _ sh t xs a a' cap cap' hl hh h1 h2 h3 h4=>
   obtain⟨hi,B',g1,g2⟩:=mN hL hk hl
   have e:(pl.out L).hdr k=pl.hdr i:=by simp only[Pl.out,hi]
   cases sh with
   |none=>cases g2;exact .sub k o n none t xs a a' cap cap' g1 (e.trans hh) h1 h2 h3 h4
   |some d=>cases g2;exact .sub k o n _ t xs a a' cap cap' g1 (e.trans hh) h1 h2 h3 h4
 |.bsl i n,v',u,h,hv=>by
  simp only[SV.ren,An,It]at h;obtain⟨k,hk,rfl⟩:=h
  cases hv with
  |bsl _ _ cs a hl hh=>
   obtain⟨hi,B',g1,g2⟩:=mN hL hk hl
   have e:(pl.out L).hdr k=pl.hdr i:=by simp only[Pl.out,hi]
   simp only[Blk.ren,An,It]at g2;obtain⟨l,hl',rfl⟩:=g2
   exact .bsl k n l a g1 (e.trans hh)
 |.ptr i x o,v',u,h,hv=>by
  simp only[SV.ren,An,It]at h;obtain⟨k,hk,rfl⟩:=h
  cases hv with
  |uq _ _ cs b m hl hh=>
   obtain⟨hi,B',g1,g2⟩:=mN hL hk hl
   have e:(pl.out L).hdr k=pl.hdr i:=by simp only[Pl.out,hi]
   simp only[Blk.ren,An,It]at g2;obtain⟨l,hl',rfl⟩:=g2
   exact .uq k o l b m g1 (e.trans hh)
  |sD _ _ _ sh t xs b m n cap hl hx hh=>
   obtain⟨hi,B',g1,g2⟩:=mN hL hk hl
   have e:(pl.out L).hdr k=pl.hdr i:=by simp only[Pl.out,hi]
   cases sh with
   |none=>cases g2;exact .sD k x o none t xs b m n cap g1 hx (e.trans hh)
   |some d=>cases g2;exact .sD k x o _ t xs b m n cap g1 hx (e.trans hh)
 |.inn _ _ _,v',u,h,hv=>by cases h
 |.ki d cs,v',u,h,hv=>by
  cases h
  cases hv with
  |ki _ _ b o vs h1 h2=>exact .ki _ _ b o vs (λj r hj=>⟨Ci hn hL (h1 j r hj).1,(h1 j r hj).2⟩) λj r hj=>(h2 j r hj).frame λp u hp hu=>⟨Ci hn hL hp,hu⟩
 |.agg cs,v',u,h,hv=>by
  simp only[SV.ren,An,It]at h;obtain⟨l,hl,rfl⟩:=h
  cases hv with
  |agg _ vs h1 h2 h3=>
   obtain⟨g1,g2⟩:=s3 hn hL cs hl vs.toList (by simpa using h1) λj x u hx hu=>h3 j x u hx (by simpa using hu)
   exact .agg _ _ (by simpa using g1) h2 λj x u hx hu=>g2 j x u hx (by simpa using hu)
 |.tup cs,v',u,h,hv=>by
  simp only[SV.ren,An,It]at h;obtain⟨l,hl,rfl⟩:=h
  cases hv with
  |tup _ vs h1 h3=>
   obtain⟨g1,g2⟩:=s3 hn hL cs hl vs.toList (by simpa using h1) λj x u hx hu=>h3 j x u hx (by simpa using hu)
   exact .tup _ _ (by simpa using g1) λj x u hx hu=>g2 j x u hx (by simpa using hu)
 |.fn f as bs',v',u,h,hv=>by
  simp only[SV.ren,An,It]at h;obtain⟨l,hl,l',hl',rfl⟩:=h
  cases hv with
  |fn _ _ _ us vs h1 h3 h1' h3'=>
   obtain⟨g1,g2⟩:=s3 hn hL as hl us.toList (by simpa using h1) λj x u hx hu=>h3 j x u hx (by simpa using hu);obtain⟨g3,g4⟩:=s3 hn hL bs' hl' vs.toList (by simpa using h1') λj x u hx hu=>h3' j x u hx (by simpa using hu)
   exact .fn _ _ _ _ _ (by simpa using g1) (λj x u hx hu=>g2 j x u hx (by simpa using hu)) (by simpa using g3) λj x u hx hu=>g4 j x u hx (by simpa using hu)
 |.undef,v',u,h,hv=>by cases h;exact .undef _
theorem s3 (hn:nodup L=true) (hL:ng H L L=some bs):(cs:List SV)->{l:List SV}->DY L cs=some l->(us:List Value)->cs.length=us.length->
  (∀(j:Nat) (x:SV) (u:Value),cs[j]? =some x->us[j]? =some u->au w H pl x u)->
  l.length=us.length/\∀(j:Nat) (x:SV) (u:Value),l[j]? =some x->us[j]? =some u->au w (aK 0 bs) (pl.out L) x u
 |[],l,h,us,hl,_=>by cases h;exact⟨hl,λj x u hx _=>by simp at hx⟩
 |v::cs,l,h,u::us,hl,hp=>by
  simp only[DY,An,It]at h;obtain⟨v',hv,l',hl',rfl⟩:=h;obtain⟨g1,g2⟩:=s3 hn hL cs hl' us (by simpa using hl) λj x u hx hu=>hp (j+1) x u (by simpa using hx) (by simpa using hu);refine⟨by simp[g1],λj x u' hx hu=>?_⟩
  cases j with
  |zero=>simp at hx hu;subst hx hu;exact Gc hn hL v hv (hp 0 v u rfl rfl)
  |succ j=>exact g2 j x u' (by simpa using hx) (by simpa using hu)
end
theorem Cj {cs l:List SV} (h:DY L cs=some l):∀(j:Nat) (x:SV),l[j]? =some x->∃y,cs[j]? =some y/\y.ren L=some x:=by
 induction cs generalizing l with
 |nil=>cases h;intro j x hx;simp at hx
 |cons v cs ih=>
  simp only[DY,An,It]at h;obtain⟨v',hv,l',hl',rfl⟩:=h;intro j x hx
  cases j with
  |zero=>simp at hx;subst hx;exact⟨v,rfl,hv⟩
  |succ j=>simpa using ih hl' j x (by simpa using hx)
theorem Nc (hr:cH H pl w) (hn:nodup L=true) (hL:ng H L L=some bs):cH (aK 0 bs) (pl.out L) w:=by
 refine⟨λk B hB=>?_,λk k' B B' p h1 h2 f1 f2=>?_,λk B p hB hf=>?_,hr.nb⟩
 ·obtain⟨i,b0,h1,hi,h2,h3⟩:=fS hL hB;have hb:=hr.blk i b0 h2
  have eh:(pl.out L).hdr k=pl.hdr i:=by simp only[Pl.out,hi]
  have ef:(pl.out L).fp k=pl.fp i:=by simp only[Pl.out,hi]
  cases b0 with
  |box cs=>
   simp only[Blk.ren,An,It]at h3;obtain⟨l,hl,rfl⟩:=h3;obtain⟨b,o,q1,q2,q3⟩:=hb;refine⟨b,o,eh.trans q1,λp=>by rw[ef,q2,nY hl],λj v hv=>?_⟩;obtain⟨y,hy,hy2⟩:=Cj hl j v hv;obtain⟨u,g1,g2,g3,g4⟩:=q3 j y hy
   exact⟨u,g1,g2,g3,Gc hn hL y hy2 g4⟩
  |arr sh t xs=>
   cases sh with
   |none=>
    cases h3;show Nonempty (Row w (fj w) t xs ((pl.out L).hdr k) ((pl.out L).fp k))
    rw[eh,ef];exact hb
   |some d=>
    cases h3;obtain⟨⟨a,cap,b,o,vs,fs,q1,q2,q3,q4,q5,q6,q7,q8,q9⟩⟩:=hb;exact⟨⟨a,cap,b,o,vs,fs,eh.trans q1,q2,q3,q4,q5,λi j r hc=>⟨(q6 i j r hc).1.frame λp u hp hu=>⟨Ci hn hL hp,hu⟩,(q6 i j r hc).2⟩,q7,q8,λp=>by rw[ef];exact q9 p⟩⟩
 ·obtain⟨i,b0,g1,hi,g2,g3⟩:=fS hL h1;obtain⟨i',b0',g1',hi',g2',g3'⟩:=fS hL h2;simp only[Pl.out,hi]at f1;simp only[Pl.out,hi']at f2;have:=hr.dis i i' b0 b0' p g2 g2' f1 f2;subst this;exact(List.getElem?_inj (Of.1 g1).1 (eK hn)).1 (g1.trans g1'.symm)
 ·obtain⟨i,b0,g1,hi,g2,g3⟩:=fS hL hB;simp only[Pl.out,hi]at hf;exact hr.ob i b0 p g2 hf
theorem AO {s:List (Nat× SV)}:∀{l:List Nat} {vs:List SV},getAll s l=some vs->vs.length=l.length/\∀(j t:Nat),l[j]? =some t->∃v,vs[j]? =some v/\look s t=some v
 |[],vs,h=>by cases h;exact⟨rfl,λj t ht=>by simp at ht⟩
 |t::l,vs,h=>by
  simp only[getAll,An,It]at h;obtain⟨v,hv,vs',hvs,rfl⟩:=h;obtain⟨g1,g2⟩:=AO hvs;refine⟨by simp[g1],λj t' ht=>?_⟩
  cases j with
  |zero=>simp at ht;subst ht;exact⟨v,rfl,hv⟩
  |succ j=>simpa using g2 j t' (by simpa using ht)
theorem DZ:∀{l:List Nat} {vs:List SV} {t:Nat} {v:SV},look (PI l vs) t=some v->∃j:Nat,l[j]? =some t/\vs[j]? =some v
 |[],_,t,v,h=>by simp[PI,look]at h
 |_::_,[],t,v,h=>by simp[PI,look]at h
 |k::l,x::vs,t,v,h=>by
  rw[PI,aA]at h;by_cases e:k=t
  ·rw[if_pos e]at h;cases h;exact⟨0,by simp[e],rfl⟩
  ·rw[if_neg e]at h;obtain⟨j,h1,h2⟩:=DZ h;exact⟨j+1,by simpa using h1,by simpa using h2⟩
end
theorem Blk.Ck {L:List Nat} {b b':Blk} (h:b.ren L=some b'):b.lQ b':=by
 cases b with
 |box cs=>
  simp only[Blk.ren,An,It]at h;obtain⟨l,h1,rfl⟩:=h
  exact(nY h1).symm
 |arr sh t xs=>cases sh<;>(cases h;exact⟨rfl,rfl⟩)
theorem xJ {L:List Nat}:∀{gh:List (Option Nat)} {k i:Nat},(Ch L gh)[k]? =some (some i)->∃j,gh[k]? =some (some j)/\placeOf j L 0=some i
 |[],k,i,h=>by simp[Ch]at h
 |none::l,k,i,h=>by
  cases k with
  |zero=>simp[Ch]at h
  |succ k=>simpa using xJ (gh:=l) (by simpa[Ch]using h)
 |some j::l,k,i,h=>by
  cases k with
  |zero=>simp[Ch]at h;exact⟨j,rfl,h⟩
  |succ k=>simpa using xJ (gh:=l) (by simpa[Ch]using h)
theorem Gd {w0:World} {fp0:G0} {bs:Cell->Prop} {n:Nat} {bz:List Nat} {st:St} {nf:NF} {a:Act} {w:World} (h:Rl w0 fp0 bs n st a w) (hn:norm bz st=some nf):
  Rl w0 fp0 bs n (gw bz n nf) a w:=by
 obtain⟨pl,hr,hb,hnn⟩:=h;simp only[norm,An]at hn;obtain⟨vs,hvs,hn⟩:=hn;generalize reach st.heap 3 (oS (oS [] (IA vs)) (K5 st.heap st.gh))=L at hn;cases hnd:nodup L<;>simp only[hnd,cond_true,cond_false,An,It]at hn
 ·exact nomatch hn
 ·obtain⟨vs',hvs',bs',hbs,rfl⟩:=hn;refine⟨pl.out L,⟨Nc hr.hr hnd hbs,λt v hv=>?_,hr.sz.trans hnn,hr.df,λi hi=>?_,hr.gr,λp u hp hno=>?_,λk i hk=>?_⟩,hb,rfl⟩
  ·obtain⟨j,h1,h2⟩:=DZ hv;obtain⟨x,h3,h4⟩:=(AO hvs).2 j t h1;obtain⟨y,h5,h6⟩:=Cj hvs' j v h2;rw[h3]at h5;cases h5;exact Gc hnd hbs x h6 (hr.sl t x h4)
  ·show look (aK 0 bs') i=none;rw[bn,if_pos (R9 _),Sc];exact RR hi
  ·obtain⟨g1,g2,g3⟩:=hr.fr p u hp hno;refine⟨λk B hB hf=>?_,g2,g3⟩;obtain⟨i,b0,_,hi,e2,_⟩:=fS hbs hB;simp only[Pl.out,hi]at hf;exact g1 i b0 e2 hf
  ·obtain⟨j,h1,h2⟩:=xJ hk;obtain⟨q1,q2⟩:=hr.gk k j h1;obtain⟨p1,p2⟩:=jI h2;rw[Sc]at p2
   have hlt:i<bs'.length:=by rw[(fR hbs).1];exact(Of.1 p2).1
   refine⟨hlt,λB hB=>?_⟩;obtain⟨i',b0,g1,g2,g3,g4⟩:=fS hbs hB;rw[p2]at g1;cases g1;obtain⟨r1,r2⟩:=q2 b0 g3;exact⟨by simp only[Pl.out,g2];exact r1,Blk.eI r2 (Blk.Ck g4)⟩
def uN (bz:List Nat) (co:List (gK× Co)) (st:St):Option NF:=
 match co with
 |[]=>norm bz st
 |_=>(norm bz st).bind λnf=>norm bz (Kh co (gw bz st.n nf))
theorem lY {w0:World} {fp0:G0} {bs:Cell->Prop} {n:Nat} {bz:List Nat} {co:List (gK× Co)} {st:St} {nf:NF} {a:Act} {w:World} (h:Rl w0 fp0 bs n st a w) (hn:uN bz co st=some nf):
  Rl w0 fp0 bs n (gw bz n nf) a w:=by
 unfold uN at hn;split at hn
 ·exact Gd h hn
 ·simp only[An]at hn;obtain⟨nf1,h1,h2⟩:=hn;obtain⟨_,_,_,hnn⟩:=id h;rw[hnn]at h2;have:=wD co (Gd h h1);exact Gd this h2
section
variable {ρ:Type}
def Ge (body:Ev ρ) (bz:List Nat) (co:List (gK× Co)) (kx:Ex->List Nat) (cx:Ex->List (gK× Co)):Nat->Ev ρ
 |0,_,_=>none
 |k+1,st,K=>body st λe st'=>match e with
  |.normal=>(uN bz co st').bind λnf=>Ge body bz co kx cx k (gw bz st'.n nf) K
  |e=>(uN (kx e) (cx e) st').bind λnf=>K e (gw (kx e) st'.n nf)
theorem Rl.QH {w0:World} {fp0:G0} {bs:Cell->Prop} {n:Nat} {st:St} {a:Act} {w:World} (h:Rl w0 fp0 bs n st a w):st.n=n:=by
 obtain⟨_,_,_,h⟩:=h;exact h
theorem Gf {P:Program} {c:Code} {f:Ev ρ} (hf:Sound P c f) (bz:List Nat) (co:List (gK× Co)) (kx:Ex->List Nat) (cx:Ex->List (gK× Co)) (k:Nat):Sound P (.loop c) (Ge f bz co kx cx k):=by
 intro w0 fp0 bs n st a w K out Q hr h hK;refine wp_loop_rounds k ?_
 induction k generalizing st a w with
 |zero=>exact nomatch h
 |succ k ih=>
  rw[rounds_succ]
  exact hf w0 fp0 bs n st a w _ out _ hr h λe st' a' w' h' hr'=>by
   have hn:=hr'.QH
   cases e with
   |normal=>
    simp only[An]at h';obtain⟨nf,h1,h2⟩:=h';rw[hn]at h2
    exact ih _ a' w' (lY hr' h1) h2
   |exit j=>
    simp only[An]at h';obtain⟨nf,h1,h2⟩:=h';rw[hn]at h2
    exact hK (.exit j) _ a' w' h2 (lY hr' h1)
   |ret=>
    simp only[An]at h';obtain⟨nf,h1,h2⟩:=h';rw[hn]at h2;exact hK .ret _ a' w' h2 (lY hr' h1)
def iter {V R:Type} (g:V->(V->Option R)->Option R):Nat->V->Option R
 |0,_=>none
 |k+1,v=>g v (iter g k)
def uO {V:Type} (bz:List Nat) (co:List (gK× Co)) (dec:Nat->NF->Option V) (run:V->(Ex->St->Option ρ)->Option ρ):Ev ρ:=λst K=>
 (uN bz co st).bind λnf=>(dec st.n nf).bind λv=>run v K
theorem Cl {P:Program} {c:Code} {f:Ev ρ} {V:Type} (hf:Sound P c f) {bz:List Nat} {co:List (gK× Co)} (kx:Ex->List Nat) (cx:Ex->List (gK× Co)) {dec:Nat->NF->Option V} {run:V->(Ex->St->Option ρ)->Option ρ}
  {tm:V->St} (k:Nat) (hd:∀n nf v,dec n nf=some v->gw bz n nf=tm v)
  (hrun:∀v K,run v K=Ge f bz co kx cx k (tm v) K):Sound P (.loop c) (uO bz co dec run):=by
 intro w0 fp0 bs n st a w K out Q hr h hK;simp only[uO,An]at h;obtain⟨nf,h1,v,h2,h3⟩:=h;have hn:=hr.QH;rw[hn]at h2;rw[hrun v K,<-hd n nf v h2]at h3;exact Gf hf bz co kx cx k w0 fp0 bs n _ a w K out Q (lY hr h1) h3 hK
theorem uP {V:Type} {f:Ev ρ} {bz:List Nat} {co:List (gK× Co)} {kx:Ex->List Nat} {cx:Ex->List (gK× Co)} {tm:V->St} {g:V->(V->Option ρ)->(Ex->St->Option ρ)->Option ρ}
    (hg:∀(v:V) (K K1:Ex->St->Option ρ) (next:V->Option ρ),(∀v',(K1 .normal (tm v'))=next v')->
      f (tm v) (λe st'=>match e with
        |.normal=>(uN bz co st').bind λnf=>K1 .normal (gw bz st'.n nf)
        |e=>(uN (kx e) (cx e) st').bind λnf=>K e (gw (kx e) st'.n nf))=g v next K) (K:Ex->St->Option ρ):
    ∀(k:Nat) (v:V),Ge f bz co kx cx k (tm v) K=iter (λv next=>g v next K) k v
  |0,v=>rfl
  | k + 1, v => by
    show f (tm v) _=g v (iter (λv next=>g v next K) k) K;exact hg v K (λ_ st=>Ge f bz co kx cx k st K) _ λv'=>uP hg K k v'
end
end
section
variable [Tok]
structure kr where
 v:SV
 kept:List (Option Blk)
 news:List Blk
def nZ:Nat->List (Option Blk)->aI
 |_,[]=>[]
 |n,none::l=>nZ (n+1) l
 |n,some b::l=>(n,b)::nZ (n+1) l
def kr.heap (o:kr):aI:=nZ 0 o.kept++aK o.kept.length o.news
theorem qx:∀(l:List (Option Blk)) (n i:Nat),look (nZ n l) i=if n<=i then(l[i-n]?).bind id else none
 |[],n,i=>by simp[nZ,look]
 |none::l,n,i=>by
  rw[nZ,qx l (n+1) i];by_cases c:n+1<=i
  ·rw[if_pos c,if_pos (by omega),show i-n=(i-(n+1))+1 from by omega];rfl
  ·rw[if_neg c];by_cases c2:n<=i
   ·rw[if_pos c2,show i-n=0 from by omega];rfl
   ·rw[if_neg c2]
 |some b::l,n,i=>by
  rw[nZ,aA,qx l (n+1) i];by_cases c0:n=i
  ·subst c0;simp
  ·rw[if_neg c0];by_cases c:n+1<=i
   ·rw[if_pos c,if_pos (by omega),show i-n=(i-(n+1))+1 from by omega];rfl
   ·rw[if_neg c,if_neg (by omega)]
theorem kr.ky (o:kr) {k:Nat} (h:k<o.kept.length):look o.heap k=(o.kept[k]?).bind id:=by
 rw[kr.heap,aE,qx,if_pos (R9 _),Sc,bn,if_neg (by omega),Sx]
theorem kr.iw (o:kr) {k:Nat} (h:o.kept.length<=k):look o.heap k=o.news[k-o.kept.length]? :=by
 rw[kr.heap,aE,qx,if_pos (R9 _),Sc,bn,if_pos h,RR h];rfl
def HS (P:Program) (g:FuncId) (args:List SV) (bs:List Blk) (o:kr):Prop:=
 HE P g/\o.kept.length=bs.length/\∀(w:World) (us:Array Value) (pl:Pl),cH (aK 0 bs) pl w->args.length=us.size->
  (∀(j:Nat) (x:SV) (u:Value),args[j]? =some x->us[j]? =some u->au w (aK 0 bs) pl x u)->
  Calls P g us w λe w'=>∃u pl',e=.returned u/\cH o.heap pl' w'/\au w' o.heap pl' o.v u/\pl'.base=pl.base/\dJ w w'/\
   (∀(k:Nat) (B:Blk),o.kept[k]? =some (some B)->pl'.hdr k=pl.hdr k/\∃B0,bs[k]? =some B0/\B0.lQ B)/\
   (∀p u,w.at? p=some u->(∀k B,look (aK 0 bs) k=some B->¬pl.fp k p)->(∀k B,look o.heap k=some B->¬pl'.fp k p)/\w'.at? p=some u/\w'.ez p=w.ez p)
abbrev MG:=(ρ:Type)->List SV->List Blk->(kr->Option ρ)->Option ρ
def xK (P:Program) (g:FuncId) (G:MG):Prop:=
 ∀(ρ:Type) args bs (K:kr->Option ρ) (out:ρ),G ρ args bs K=some out->∃o,K o=some out/\HS P g args bs o
def zU (f:Blk->Blk):List Nat->List (Option Blk)->aI
 |i::L,some b::l=>(i,f b)::zU f L l
 |_::L,none::l=>zU f L l
 |_,_=>[]
def lu:List Nat->List (Option Blk)->List Nat
 |_::L,some _::l=>lu L l
 |i::L,none::l=>i::lu L l
 |_,_=>[]
def lZ:List Nat->List (Option Blk)->List Nat
 |i::L,some (.arr _ _ _)::l=>i::lZ L l
 |_::L,some (.box _)::l=>lZ L l
 |_::L,none::l=>lZ L l
 |_,_=>[]
def bk (L:List Nat) (nid m k:Nat):Nat:=cond (Nat.ble (k+1) m) (L.getD k 0) (nid+(k-m))
def bkL (L:List Nat) (nid m:Nat):List Nat->List Nat
 |[]=>[]
 |k::l=>bk L nid m k::bkL L nid m l
mutual
def SV.back (L:List Nat) (nid m:Nat) (D:List Nat):SV->SV
 |.r d x=>mkR (bkL L nid m d++D) x
 |.cj=>.cj
 |.o6=>.o6
 |.own k=>.own (bk L nid m k)
 |.ptr k 0 o=>.ptr (bk L nid m k) 0 o
 |.agg cs=>.agg (o4 L nid m D cs)
 |.tup cs=>.tup (o4 L nid m D cs)
 |.fn f a b=>.fn f (o4 L nid m D a) (o4 L nid m D b)
 |_=>.undef
def o4 (L:List Nat) (nid m:Nat) (D:List Nat):List SV->List SV
 |[]=>[]
 |v::l=>v.back L nid m D::o4 L nid m D l
end
def Blk.back (L:List Nat) (nid m:Nat) (D:List Nat):Blk->Blk
 |.box cs=>.box (o4 L nid m D cs)
 |.arr none t xs=>.arr none t xs
 |.arr (some d) t xs=>.arr (some (bkL L nid m d++D)) t xs
def xL (L:List Nat) (nid m:Nat) (D:List Nat):List Blk->List Blk
 |[]=>[]
 |b::l=>b.back L nid m D::xL L nid m D l
def PJ (L:List Nat):List Nat->List Nat
 |[]=>[]
 |i::l=>cond (mem i L) (PJ L l) (i::PJ L l)
mutual
def SV.Qf:SV->List Nat
 |.r d _=>d
 |.ki d _=>d
 |.agg cs=>rn cs
 |.tup cs=>rn cs
 |.fn _ a b=>rn a++rn b
 |_=>[]
def rn:List SV->List Nat
 |[]=>[]
 |v::l=>v.Qf++rn l
end
def K7:Blk->List Nat
 |.box cs=>rn cs
 |.arr none _ _=>[]
 |.arr (some d) _ _=>d
def uQ (h:aI):List Nat->List Nat
 |[]=>[]
 |i::l=>match look h i with
  |some b=>K7 b++uQ h l
  |none=>uQ h l
def zM (L D:List Nat):List Nat->Bool
 |[]=>true
 |i::l=>cond (mem i L||mem i D) (zM L D l) false
def cb (L:List Nat) (nid m c i:Nat):Option Nat:=
 match placeOf i L 0 with
 |some k=>some k
 |none=>if nid<=i/\i<nid+c then some (m+(i-nid))else none
def ud (H:aI) (pl:Pl) (L D:List Nat):Pl:=
 ⟨λk=>pl.hdr (L.getD k 0),λk=>pl.fp (L.getD k 0),λp=>pl.base p/\∀i B,look H i=some B->mem i L=false->(mem i D=true->B.kn=true)->¬pl.fp i p⟩
def fB (pl pl':Pl) (L:List Nat) (nid m c:Nat):Pl:=
 ⟨λi=>match cb L nid m c i with|some k=>pl'.hdr k|none=>pl.hdr i,λi=>match cb L nid m c i with|some k=>pl'.fp k|none=>pl.fp i,pl.base⟩
theorem Nd {L D:List Nat} {i:Nat} (h:mem i (PJ L D)=true):mem i L=false:=by
 induction D with
 |nil=>exact nomatch h
 |cons k l ih=>
  simp only[PJ]at h;cases hk:mem k L<;>simp only[hk,cond_true,cond_false]at h
  ·simp only[mem]at h;cases hb:Nat.beq k i<;>simp only[hb,cond_true,cond_false]at h
   ·exact ih h
   ·rw[<-Rp hb];exact hk
  ·exact ih h
theorem D0 {L D:List Nat}:∀{d:List Nat},zM L D d=true->∀i,mem i d=true->mem i L=true\/mem i D=true
 |[],_,i,h=>nomatch h
 |k::l,hs,i,h=>by
  simp only[zM]at hs;cases hk:(mem k L||mem k D)<;>simp only[hk,cond_true,cond_false]at hs
  ·exact nomatch hs
  ·simp only[mem]at h;cases hb:Nat.beq k i<;>simp only[hb,cond_true,cond_false]at h
   ·exact D0 hs i h
   ·rw[<-Rp hb];simpa using hk
theorem gL {L D:List Nat}:∀{a b:List Nat},zM L D (a++b)=true->zM L D a=true/\zM L D b=true
 |[],b,h=>⟨rfl,h⟩
 |k::l,b,h=>by
  simp only[SU,zM]at h;cases hk:(mem k L||mem k D)<;>simp only[hk,cond_true,cond_false]at h
  ·exact nomatch h
  ·obtain⟨h1,h2⟩:=gL h;exact⟨by simp only[zM,hk,cond_true];exact h1,h2⟩
theorem xM {L:List Nat} {i k:Nat} (h:placeOf i L 0=some k):mem i L=true:=(mem_iff i L).2 (RH (by have:=(jI h).2;simpa using this))
section
variable {w:World} {H:aI} {pl:Pl} {L D:List Nat} {bs:List Blk}
theorem wE (hn:nodup L=true) (hL:ng H L L=some bs) {d:List Nat} {p:Cell} (hd:zM L D d=true) (h:okd H pl d p):okd (aK 0 bs) (ud H pl L D) (Nb L d) p:=by
 refine⟨⟨h.1,λi B hB hm hf=>h.2 i B hB λhi=>?_⟩,λk B hB hm hf=>?_⟩
 ·rcases D0 hd i hi with h1|h1
  ·rw[hm]at h1;exact nomatch h1
  ·exact hf h1
 ·obtain⟨i,b0,h1,hi,h2,h3⟩:=fS hL hB;simp only[ud,hi]at hf;refine h.2 i b0 h2 (λhd=>?_) hf;rw[<-Blk.K6 h3];exact hm (HR (mO (eK hn) h1) hd)
mutual
theorem HT (hn:nodup L=true) (hL:ng H L L=some bs):(v:SV)->{v':SV}->{u:Value}->zM L D v.Qf=true->v.ren L=some v'->au w H pl v u->au w (aK 0 bs) (ud H pl L D) v' u
 |.r d x,v',u,hd,h,hv=>by
  cases h
  cases hv with
  |r _ _ _ hx=>exact .r _ _ _ (hx.frame λp u hp hu=>⟨wE hn hL hd hp,hu⟩)
 |.cj,v',u,hd,h,hv=>by cases h;cases hv;exact .cj
 |.o6,v',u,hd,h,hv=>by cases h;cases hv;exact .o6
 |.own i,v',u,hd,h,hv=>by
  simp only[SV.ren,An,It]at h;obtain⟨k,hk,rfl⟩:=h
  cases hv with
  |own _ sh t xs hl=>
   obtain⟨hi,B',g1,g2⟩:=mN hL hk hl
   have e:(ud H pl L D).hdr k=pl.hdr i:=by simp only[ud,hi]
   rw[<-e]
   cases sh with
   |none=>cases g2;exact .own k none t xs g1
   |some d=>cases g2;exact .own k _ t xs g1
 |.sub i o n,v',u,hd,h,hv=>by
  simp only[SV.ren,An,It]at h;obtain⟨k,hk,rfl⟩:=h
  cases hv with
  |sub _ _ _ sh t xs a a' cap cap' hl hh h1 h2 h3 h4=>
   obtain⟨hi,B',g1,g2⟩:=mN hL hk hl
   have e:(ud H pl L D).hdr k=pl.hdr i:=by simp only[ud,hi]
   cases sh with
   |none=>cases g2;exact .sub k o n none t xs a a' cap cap' g1 (e.trans hh) h1 h2 h3 h4
   |some d=>cases g2;exact .sub k o n _ t xs a a' cap cap' g1 (e.trans hh) h1 h2 h3 h4
 |.bsl i n,v',u,hd,h,hv=>by
  simp only[SV.ren,An,It]at h;obtain⟨k,hk,rfl⟩:=h
  cases hv with
  |bsl _ _ cs a hl hh=>
   obtain⟨hi,B',g1,g2⟩:=mN hL hk hl
   have e:(ud H pl L D).hdr k=pl.hdr i:=by simp only[ud,hi]
   simp only[Blk.ren,An,It]at g2;obtain⟨l,hl',rfl⟩:=g2
   exact .bsl k n l a g1 (e.trans hh)
 |.ptr i x o,v',u,hd,h,hv=>by
  simp only[SV.ren,An,It]at h;obtain⟨k,hk,rfl⟩:=h
  cases hv with
  |uq _ _ cs b m hl hh=>
   obtain⟨hi,B',g1,g2⟩:=mN hL hk hl
   have e:(ud H pl L D).hdr k=pl.hdr i:=by simp only[ud,hi]
   simp only[Blk.ren,An,It]at g2;obtain⟨l,hl',rfl⟩:=g2
   exact .uq k o l b m g1 (e.trans hh)
  |sD _ _ _ sh t xs b m n cap hl hx hh=>
   obtain⟨hi,B',g1,g2⟩:=mN hL hk hl
   have e:(ud H pl L D).hdr k=pl.hdr i:=by simp only[ud,hi]
   cases sh with
   |none=>cases g2;exact .sD k x o none t xs b m n cap g1 hx (e.trans hh)
   |some d=>cases g2;exact .sD k x o _ t xs b m n cap g1 hx (e.trans hh)
 |.inn _ _ _,v',u,hd,h,hv=>by cases h
 |.ki d cs,v',u,hd,h,hv=>by
  cases h
  cases hv with
  |ki _ _ b o vs h1 h2=>exact .ki _ _ b o vs (λj r hj=>⟨wE hn hL hd (h1 j r hj).1,(h1 j r hj).2⟩) λj r hj=>(h2 j r hj).frame λp u hp hu=>⟨wE hn hL hd hp,hu⟩
 |.agg cs,v',u,hd,h,hv=>by
  simp only[SV.ren,An,It]at h;obtain⟨l,hl,rfl⟩:=h
  cases hv with
  |agg _ vs h1 h2 h3=>
   obtain⟨g1,g2⟩:=nh hn hL cs hd hl vs.toList (by simpa using h1) λj x u hx hu=>h3 j x u hx (by simpa using hu)
   exact .agg _ _ (by simpa using g1) h2 λj x u hx hu=>g2 j x u hx (by simpa using hu)
 |.tup cs,v',u,hd,h,hv=>by
  simp only[SV.ren,An,It]at h;obtain⟨l,hl,rfl⟩:=h
  cases hv with
  |tup _ vs h1 h3=>
   obtain⟨g1,g2⟩:=nh hn hL cs hd hl vs.toList (by simpa using h1) λj x u hx hu=>h3 j x u hx (by simpa using hu)
   exact .tup _ _ (by simpa using g1) λj x u hx hu=>g2 j x u hx (by simpa using hu)
 |.fn f as bs',v',u,hd,h,hv=>by
  simp only[SV.ren,An,It]at h;obtain⟨l,hl,l',hl',rfl⟩:=h;obtain⟨hd1,hd2⟩:=gL (show zM L D (rn as++rn bs')=true from hd)
  cases hv with
  |fn _ _ _ us vs h1 h3 h1' h3'=>
   obtain⟨g1,g2⟩:=nh hn hL as hd1 hl us.toList (by simpa using h1) λj x u hx hu=>h3 j x u hx (by simpa using hu);obtain⟨g3,g4⟩:=nh hn hL bs' hd2 hl' vs.toList (by simpa using h1') λj x u hx hu=>h3' j x u hx (by simpa using hu)
   exact .fn _ _ _ _ _ (by simpa using g1) (λj x u hx hu=>g2 j x u hx (by simpa using hu)) (by simpa using g3) λj x u hx hu=>g4 j x u hx (by simpa using hu)
 |.undef,v',u,hd,h,hv=>by cases h;exact .undef _
theorem nh (hn:nodup L=true) (hL:ng H L L=some bs):(cs:List SV)->{l:List SV}->zM L D (rn cs)=true->DY L cs=some l->(us:List Value)->cs.length=us.length->
  (∀(j:Nat) (x:SV) (u:Value),cs[j]? =some x->us[j]? =some u->au w H pl x u)->
  l.length=us.length/\∀(j:Nat) (x:SV) (u:Value),l[j]? =some x->us[j]? =some u->au w (aK 0 bs) (ud H pl L D) x u
 |[],l,hd,h,us,hl,_=>by cases h;exact⟨hl,λj x u hx _=>by simp at hx⟩
 |v::cs,l,hd,h,u::us,hl,hp=>by
  simp only[DY,An,It]at h;obtain⟨v',hv,l',hl',rfl⟩:=h;obtain⟨hd1,hd2⟩:=gL (show zM L D (v.Qf++rn cs)=true from hd);obtain⟨g1,g2⟩:=nh hn hL cs hd2 hl' us (by simpa using hl) λj x u hx hu=>hp (j+1) x u (by simpa using hx) (by simpa using hu);refine⟨by simp[g1],λj x u' hx hu=>?_⟩
  cases j with
  |zero=>simp at hx hu;subst hx hu;exact HT hn hL v hd1 hv (hp 0 v u rfl rfl)
  |succ j=>exact g2 j x u' (by simpa using hx) (by simpa using hu)
end
theorem K8 {cs:List SV} {L D:List Nat} (h:zM L D (rn cs)=true):∀(j:Nat) (x:SV),cs[j]? =some x->zM L D x.Qf=true:=by
 induction cs with
 |nil=>intro j x hx;simp at hx
 |cons v l ih=>
  obtain⟨h1,h2⟩:=gL (show zM L D (v.Qf++rn l)=true from h);intro j x hx
  cases j with
  |zero=>simp at hx;subst hx;exact h1
  |succ j=>exact ih h2 j x (by simpa using hx)
theorem K9 {l:List Nat} (h:zM L D (uQ H l)=true):∀i∈l,∀B,look H i=some B->zM L D (K7 B)=true:=by
 induction l with
 |nil=>intro i hi;exact nomatch hi
 |cons k l ih=>
  intro i hi B hB;simp only[uQ]at h
  rcases RN.1 hi with rfl|hi
  ·simp only[hB]at h;exact(gL h).1
  ·split at h
   ·exact ih (gL h).2 i hi B hB
   ·exact ih h i hi B hB
theorem La (hr:cH H pl w) (hn:nodup L=true) (hL:ng H L L=some bs) (hd:zM L D (uQ H L)=true):cH (aK 0 bs) (ud H pl L D) w:=by
 have hown:=hr.gv;refine⟨λk B hB=>?_,λk k' B B' p h1 h2 f1 f2=>?_,λk B p hB hf=>?_,λp hp=>⟨hr.nb p hp,λi B hB _ _ hf=>?_⟩⟩
 ·obtain⟨i,b0,h1,hi,h2,h3⟩:=fS hL hB;have hb:=hr.blk i b0 h2;have hdb:=K9 hd i (RH h1) b0 h2
  have eh:(ud H pl L D).hdr k=pl.hdr i:=by simp only[ud,hi]
  have ef:(ud H pl L D).fp k=pl.fp i:=by simp only[ud,hi]
  cases b0 with
  |box cs=>
   simp only[Blk.ren,An,It]at h3;obtain⟨l,hl,rfl⟩:=h3;obtain⟨b,o,q1,q2,q3⟩:=hb;refine⟨b,o,eh.trans q1,λp=>by rw[ef,q2,nY hl],λj v hv=>?_⟩;obtain⟨y,hy,hy2⟩:=Cj hl j v hv;obtain⟨u,g1,g2,g3,g4⟩:=q3 j y hy
   exact⟨u,g1,g2,g3,HT hn hL y (K8 hdb j y hy) hy2 g4⟩
  |arr sh t xs=>
   cases sh with
   |none=>
    cases h3;show Nonempty (Row w (fj w) t xs ((ud H pl L D).hdr k) ((ud H pl L D).fp k))
    rw[eh,ef];exact hb
   |some d=>
    cases h3;obtain⟨⟨a,cap,b,o,vs,fs,q1,q2,q3,q4,q5,q6,q7,q8,q9⟩⟩:=hb;exact⟨⟨a,cap,b,o,vs,fs,eh.trans q1,q2,q3,q4,q5,λi j r hc=>⟨(q6 i j r hc).1.frame λp u hp hu=>⟨wE hn hL hdb hp,hu⟩,(q6 i j r hc).2⟩,q7,q8,λp=>by rw[ef];exact q9 p⟩⟩
 ·obtain⟨i,b0,g1,hi,g2,g3⟩:=fS hL h1;obtain⟨i',b0',g1',hi',g2',g3'⟩:=fS hL h2;simp only[ud,hi]at f1;simp only[ud,hi']at f2;have:=hr.dis i i' b0 b0' p g2 g2' f1 f2;subst this;exact(List.getElem?_inj (Of.1 g1).1 (eK hn)).1 (g1.trans g1'.symm)
 ·obtain⟨i,b0,g1,hi,g2,g3⟩:=fS hL hB;simp only[ud,hi]at hf;refine⟨hr.ob i b0 p g2 hf,λi' B' hB' hm _ hf'=>?_⟩;have:=hr.dis i i' b0 B' p g2 hB' hf hf';subst this;rw[(mem_iff i L).2 (RH g1)]at hm;exact nomatch hm
 ·obtain⟨u,hu⟩:=hown i B p hB hf;rw[hp]at hu;exact nomatch hu
end
end
section
variable [Tok]
theorem fT {f:Blk->Blk} {i:Nat}:∀{L:List Nat} {kept:List (Option Blk)} {H:aI},(∀(k:Nat) (b:Blk),L[k]? =some i->kept[k]? =some (some b)->False)->look (ru (zU f L kept) H) i=look H i
 |[],_,H,_=>by simp[zU,ru]
 |_::_,[],H,_=>by simp[zU,ru]
 |i0::L,none::l,H,h=>by
  rw[zU]
  exact fT λk b h1 h2=>h (k+1) b (by simpa using h1) (by simpa using h2)
 |i0::L,some b0::l,H,h=>by
  rw[zU,ru,fT λk b h1 h2=>h (k+1) b (by simpa using h1) (by simpa using h2),eF,if_neg];intro e;subst e;exact h 0 b0 rfl rfl
theorem pz {f:Blk->Blk} {i:Nat} {b:Blk}:∀{L:List Nat} {kept:List (Option Blk)} {H:aI} {k:Nat},L.Nodup->L[k]? =some i->kept[k]? =some (some b)->look (ru (zU f L kept) H) i=some (f b)
 |[],_,H,k,_,h,_=>by simp at h
 |_::_,[],H,k,_,_,h=>by simp at h
 |i0::L,ob::l,H,0,hn,h1,h2=>by
  simp at h1 h2;subst h1 h2
  rw[zU,ru,fT λk b h1 _=>(SA.1 hn).1 (RH h1),eF,if_pos rfl]
 |i0::L,none::l,H,k+1,hn,h1,h2=>by
  rw[zU]
  exact pz (SA.1 hn).2 (by simpa using h1) (by simpa using h2)
 |i0::L,some b0::l,H,k+1,hn,h1,h2=>by
  rw[zU,ru];exact pz (SA.1 hn).2 (by simpa using h1) (by simpa using h2)
theorem oa {f:Blk->Blk} {i:Nat} {B:Blk}:∀{L:List Nat} {kept:List (Option Blk)},look (zU f L kept) i=some B->i∈L
 |[],_,h=>by simp[zU,look]at h
 |_::_,[],h=>by simp[zU,look]at h
 |i0::L,none::l,h=>by rw[zU]at h;exact RK _ (oa h)
 |i0::L,some b0::l,h=>by
  rw[zU,aA]at h;by_cases e:i0=i
  ·subst e;exact RS ..
  ·rw[if_neg e]at h;exact RK _ (oa h)
theorem lx {i:Nat}:∀{L:List Nat} {kept:List (Option Blk)},mem i (lu L kept)=true↔∃k:Nat,L[k]? =some i/\kept[k]? =some none
 |[],_=>by simp[lu,mem]
 |_::_,[]=>by simp[lu,mem]
 |i0::L,some b0::l=>by
  rw[lu,lx]
  exact⟨λ⟨k,h1,h2⟩=>⟨k+1,by simpa using h1,by simpa using h2⟩,λ⟨k,h1,h2⟩=>by
   cases k with
   |zero=>simp at h2
   |succ k=>exact⟨k,by simpa using h1,by simpa using h2⟩⟩
 |i0::L,none::l=>by
  rw[lu,mem_iff,RN,<-mem_iff,lx]
  exact⟨λh=>h.elim (λe=>⟨0,by simp[e],rfl⟩) λ⟨k,h1,h2⟩=>⟨k+1,by simpa using h1,by simpa using h2⟩,λ⟨k,h1,h2⟩=>by
   cases k with
   |zero=>simp at h1;exact .inl h1.symm
   |succ k=>exact .inr ⟨k,by simpa using h1,by simpa using h2⟩⟩
theorem qy {i:Nat}:∀{L:List Nat} {kept:List (Option Blk)},mem i (lZ L kept)=true↔∃(k:Nat) (B:Blk),L[k]? =some i/\kept[k]? =some (some B)/\B.kn=false
 |[],_=>by simp[lZ,mem]
 |_::_,[]=>by simp[lZ,mem]
 |i0::L,some (.box cs)::l=>by
  rw[lZ,qy]
  exact⟨λ⟨k,B,h1,h2,h3⟩=>⟨k+1,B,by simpa using h1,by simpa using h2,h3⟩,λ⟨k,B,h1,h2,h3⟩=>by
   cases k with
   |zero=>simp at h2;subst h2;exact nomatch h3
   |succ k=>exact⟨k,B,by simpa using h1,by simpa using h2,h3⟩⟩
 |i0::L,none::l=>by
  rw[lZ,qy]
  exact⟨λ⟨k,B,h1,h2,h3⟩=>⟨k+1,B,by simpa using h1,by simpa using h2,h3⟩,λ⟨k,B,h1,h2,h3⟩=>by
   cases k with
   |zero=>simp at h2
   |succ k=>exact⟨k,B,by simpa using h1,by simpa using h2,h3⟩⟩
 |i0::L,some (.arr sh t xs)::l=>by
  rw[lZ,mem_iff,RN,<-mem_iff,qy]
  exact⟨λh=>h.elim (λe=>⟨0,_,by simp[e],rfl,rfl⟩) λ⟨k,B,h1,h2,h3⟩=>⟨k+1,B,by simpa using h1,by simpa using h2,h3⟩,λ⟨k,B,h1,h2,h3⟩=>by
   cases k with
   |zero=>simp at h1;exact .inl h1.symm
   |succ k=>exact .inr ⟨k,B,by simpa using h1,by simpa using h2,h3⟩⟩
theorem pA {L:List Nat} {nid m:Nat} {D:List Nat}:(cs:List SV)->(o4 L nid m D cs).length=cs.length
 |[]=>rfl
 |_::l=>by simp[o4,pA l]
theorem l3 {L:List Nat} {nid m:Nat} {D:List Nat}:(cs:List Blk)->(xL L nid m D cs).length=cs.length
 |[]=>rfl
 |_::l=>by simp[xL,l3 l]
theorem D1 {L:List Nat} {nid m:Nat} {D:List Nat}:(bs:List Blk)->(j:Nat)->(xL L nid m D bs)[j]? =(bs[j]?).map (Blk.back L nid m D)
 |[],j=>by simp[xL]
 |b::l,0=>by simp[xL]
 |b::l,j+1=>by simpa[xL]using D1 l j
theorem D2 {L:List Nat} {nid m:Nat} {D:List Nat}:(cs:List SV)->(j:Nat)->(o4 L nid m D cs)[j]? =(cs[j]?).map (SV.back L nid m D)
 |[],j=>by simp[o4]
 |b::l,0=>by simp[o4]
 |b::l,j+1=>by simpa[o4]using D2 l j
theorem Blk.s4 {L:List Nat} {nid m:Nat} {D:List Nat} (b:Blk):b.lQ (b.back L nid m D):=by
 cases b with
 |box cs=>simp[Blk.back,Blk.lQ,pA]
 |arr sh t xs=>cases sh<;>exact⟨rfl,rfl⟩
structure mP (w w':World) (H H':aI) (pl pl':Pl) (L D:List Nat) (bs:List Blk) (nid:Nat) (o:kr):Prop where
 hr:cH H pl w
 hn:nodup L=true
 hL:ng H L L=some bs
 hm:o.kept.length=L.length
 rQ:∀k,k<o.news.length->look H (nid+k)=none
 hD:∀i,mem i D=true->mem i L=false
 hro:cH o.heap pl' w'
 uB:pl'.base=(ud H pl L D).base
 hgr:dJ w w'
 Nf:∀(k:Nat) (B:Blk),o.kept[k]? =some (some B)->pl'.hdr k=pl.hdr (L.getD k 0)/\∃B0,bs[k]? =some B0/\B0.lQ B
 hfr:∀p u,w.at? p=some u->(∀i B,mem i L=true->look H i=some B->¬pl.fp i p)->(∀k B,look o.heap k=some B->¬pl'.fp k p)/\w'.at? p=some u/\w'.ez p=w.ez p
 ha:∃h1,ij (lu L o.kept,lu L o.kept++lZ L o.kept) (ru (zU (Blk.back L nid L.length D) L o.kept) H)=some h1/\H'=h1++aK nid (xL L nid L.length D o.news)
section
variable {w w':World} {H H':aI} {pl pl':Pl} {L D:List Nat} {bs:List Blk} {nid:Nat} {o:kr}
abbrev uR (L:List Nat) (kept:List (Option Blk)):Kil:=(lu L kept,lu L kept++lZ L kept)
theorem rV {L:List Nat} {kept:List (Option Blk)}:∀i,mem i (uR L kept).1=true->mem i (uR L kept).2=true:=λi h=>by
 show mem i (_++_)=true;rw[mem_append,h];rfl
theorem mP.inH (c:mP w w' H H' pl pl' L D bs nid o) {i:Nat} (h:mem i L=true):∃k B0 B,L[k]? =some i/\k<L.length/\look H i=some B0/\bs[k]? =some B/\B0.ren L=some B:=by
 obtain⟨k,hk⟩:=Sm ((mem_iff i L).1 h);have hlt:=(Of.1 hk).1
 have hbl:k<bs.length:=by rw[(fR c.hL).1];exact hlt
 obtain⟨i',b0,e1,e2,e3⟩:=(fR c.hL).2 k _ (On hbl);rw[hk]at e1;cases e1;exact⟨k,b0,_,hk,hlt,e2,On hbl,e3⟩
theorem mP.OZ (c:mP w w' H H' pl pl' L D bs nid o) {i k:Nat} (h:L[k]? =some i):cb L nid L.length o.news.length i=some k:=by
 unfold cb;rw[mO (eK c.hn) h]
theorem mP.Qg (c:mP w w' H H' pl pl' L D bs nid o) {j:Nat} (h:j<o.news.length):cb L nid L.length o.news.length (nid+j)=some (L.length+j):=by
 unfold cb
 cases hp:placeOf (nid+j) L 0 with
 |some k=>
  obtain⟨_,B0,_,_,_,h1,_⟩:=c.inH (xM hp)
  rw[c.rQ j h]at h1;exact nomatch h1
 |none=>
  simp only;rw[if_pos ⟨by omega,by omega⟩];congr 1;omega
theorem mP.Cm (c:mP w w' H H' pl pl' L D bs nid o) (i:Nat):(∃k,L[k]? =some i/\k<L.length/\cb L nid L.length o.news.length i=some k)\/(∃j,j<o.news.length/\i=nid+j/\mem i L=false/\cb L nid L.length o.news.length i=some (L.length+j))\/
  (mem i L=false/\¬(nid<=i/\i<nid+o.news.length)/\cb L nid L.length o.news.length i=none):=by
 cases hm:mem i L with
 |true=>
  obtain⟨k,_,_,hk,hlt,_⟩:=c.inH hm
  exact .inl ⟨k,hk,hlt,c.OZ hk⟩
 |false=>
  have hp:placeOf i L 0=none:=by
   cases hp:placeOf i L 0 with
   |none=>rfl
   |some k=>rw[xM hp]at hm;exact nomatch hm
  by_cases hr:nid<=i/\i<nid+o.news.length
  ·exact .inr (.inl ⟨i-nid,by omega,by omega,rfl,by unfold cb;rw[hp];simp only;rw[if_pos hr]⟩)
  ·exact .inr (.inr ⟨rfl,hr,by unfold cb;rw[hp];simp only;rw[if_neg hr]⟩)
theorem mP.Ng (c:mP w w' H H' pl pl' L D bs nid o) {i:Nat} (h:mem i L=false):mem i (lu L o.kept)=false:=by
 cases hg:mem i (lu L o.kept)with
 |false=>rfl
 |true=>
  obtain⟨k,h1,_⟩:=lx.1 hg;rw[(mem_iff i L).2 (RH h1)]at h;exact nomatch h
def O0 (T:Kil) (L:List Nat) (nid m:Nat) (D:List Nat) (B B':Blk):Prop:=(B.back L nid m D).aL T=some B'\/B.back L nid m D=B'
theorem mP.old (c:mP w w' H H' pl pl' L D bs nid o) {i:Nat} (h:mem i L=false) (hr:¬(nid<=i/\i<nid+o.news.length)):look H' i=(look H i).bind (Blk.aL (uR L o.kept)):=by
 obtain⟨h1,e1,rfl⟩:=c.ha
 have Fm:look (aK nid (xL L nid L.length D o.news)) i=none:=by
  rw[bn];by_cases q:nid<=i
  ·rw[if_pos q,RR];rw[l3];omega
  ·rw[if_neg q]
 rw[aE,Fm,Sx,cI rV e1 i,show mem i (lu L o.kept)=false from c.Ng h,cond_false,fT λk b h1 _=>by rw[(mem_iff i L).2 (RH h1)]at h;exact nomatch h]
theorem mP.uniq (c:mP w w' H H' pl pl' L D bs nid o) {i k k':Nat} (h:L[k]? =some i) (h':L[k']? =some i):k=k':=
 (List.getElem?_inj (Of.1 h).1 (eK c.hn)).1 (h.trans h'.symm)
theorem mP.Ob (c:mP w w' H H' pl pl' L D bs nid o) {i:Nat} (h:mem i L=true):look (aK nid (xL L nid L.length D o.news)) i=none:=by
 rw[bn];by_cases q:nid<=i
 ·rw[if_pos q];by_cases q2:i-nid<o.news.length
  ·obtain⟨_,_,_,_,_,h1,_⟩:=c.inH h;have:=c.rQ _ q2;rw[show nid+(i-nid)=i from by omega,h1]at this;exact nomatch this
  ·rw[RR];rw[l3];omega
 ·rw[if_neg q]
theorem mP.kept (c:mP w w' H H' pl pl' L D bs nid o) {i k:Nat} {B:Blk} (h:L[k]? =some i) (hB:o.kept[k]? =some (some B)):∃B',look H' i=some B'/\O0 (uR L o.kept) L nid L.length D B B':=by
 have hng:mem i (lu L o.kept)=false:=by
  cases hg:mem i (lu L o.kept)with
  |false=>rfl
  |true=>
   obtain⟨k',h1,h2⟩:=lx.1 hg;have:=c.uniq h h1;subst this;rw[hB]at h2;exact nomatch h2
 obtain⟨h1,e1,rfl⟩:=id c.ha;have hu:look (ru (zU (Blk.back L nid L.length D) L o.kept) H) i=some (B.back L nid L.length D):=pz (eK c.hn) h hB;obtain⟨B',hB'⟩:=jc rV e1 i _ hu hng;refine⟨B',?_,.inl hB'⟩;rw[aE,c.Ob ((mem_iff i L).2 (RH h)),Sx,cI rV e1 i,show mem i (lu L o.kept)=false from hng,cond_false,hu];exact hB'
theorem mP.gone (c:mP w w' H H' pl pl' L D bs nid o) {i k:Nat} (h:L[k]? =some i) (hB:o.kept[k]? =some none):look H' i=none:=by
 have hg:mem i (lu L o.kept)=true:=lx.2 ⟨k,h,hB⟩;obtain⟨h1,e1,rfl⟩:=id c.ha;rw[aE,c.Ob ((mem_iff i L).2 (RH h)),Sx,cI rV e1 i,show mem i (lu L o.kept)=true from hg,cond_true]
theorem mP.new (c:mP w w' H H' pl pl' L D bs nid o) {j:Nat} {B:Blk} (h:o.news[j]? =some B):look H' (nid+j)=some (B.back L nid L.length D):=by
 have hj:=(Of.1 h).1;obtain⟨h1,e1,rfl⟩:=id c.ha
 have hnm:mem (nid+j) L=false:=by
  cases hm:mem (nid+j) L with
  |false=>rfl
  |true=>
   obtain⟨_,_,_,_,_,h1,_⟩:=c.inH hm;rw[c.rQ j hj]at h1;exact nomatch h1
 have wg:look (ru (zU (Blk.back L nid L.length D) L o.kept) H) (nid+j)=look H (nid+j):=fT λk b h1 _=>by
  rw[(mem_iff _ L).2 (RH h1)]at hnm;cases hnm
 rw[aE,cI rV e1,wg,c.rQ j hj,bn,if_pos (by omega),RY,D1,h];cases mem (nid+j) (uR L o.kept).1<;>rfl
theorem mP.ju (c:mP w w' H H' pl pl' L D bs nid o) {i:Nat} {B':Blk} (h:look H' i=some B'):
  (∃k B,cb L nid L.length o.news.length i=some k/\look o.heap k=some B/\O0 (uR L o.kept) L nid L.length D B B'/\(mem i L=false->look H i=none))\/
  (cb L nid L.length o.news.length i=none/\mem i L=false/\∃B,look H i=some B/\B.aL (uR L o.kept)=some B'):=by
 rcases c.Cm i with⟨k,hk,hlt,hc⟩|⟨j,hj,rfl,hm,hc⟩|⟨hm,hno,hc⟩
 ·have hkl:k<o.kept.length:=by rw[c.hm];exact hlt
  cases hkp:o.kept[k]? with
  |none=>rw[On hkl]at hkp;exact nomatch hkp
  |some ob=>
   cases ob with
   |none=>rw[c.gone hk hkp]at h;exact nomatch h
   |some B=>
    obtain⟨B1,h1,h2⟩:=c.kept hk hkp;rw[h]at h1;cases h1;exact .inl ⟨k,B,hc,by rw[o.ky hkl,hkp];rfl,h2,λhm=>by rw[(mem_iff i L).2 (RH hk)]at hm;exact nomatch hm⟩
 ·obtain⟨B,hB⟩:∃B,o.news[j]? =some B:=⟨_,On hj⟩;rw[c.new hB]at h;cases h;exact .inl ⟨L.length+j,B,hc,by rw[o.iw (by rw[c.hm];omega),c.hm,RY];exact hB,.inr rfl,λ_=>c.rQ j hj⟩
 ·rw[c.old hm hno]at h;obtain⟨B,h1,h2⟩:=An.1 h;exact .inr ⟨hc,hm,B,h1,h2⟩
theorem mP.uL (c:mP w w' H H' pl pl' L D bs nid o) {k:Nat} {B:Blk} (h:look o.heap k=some B):
  cb L nid L.length o.news.length (bk L nid L.length k)=some k/\∃B',look H' (bk L nid L.length k)=some B'/\O0 (uR L o.kept) L nid L.length D B B':=by
 by_cases hk:k<L.length
 ·have hkl:k<o.kept.length:=by rw[c.hm];exact hk
  rw[o.ky hkl]at h;obtain⟨ob,h1,h2⟩:=An.1 h;have h2:ob=some B:=h2;subst h2
  have hb:bk L nid L.length k=L[k]:=by
   unfold bk;rw[show Nat.ble (k+1) L.length=true from SK hk,cond_true,RU,On hk];rfl
  rw[hb];have hL:L[k]? =some L[k]:=On hk;exact⟨c.OZ hL,c.kept hL h1⟩
 ·rw[o.iw (by rw[c.hm];omega),c.hm]at h
  have hb:bk L nid L.length k=nid+(k-L.length):=by
   unfold bk
   cases hq:Nat.ble (k+1) L.length with
   |false=>rfl
   |true=>exact(hk (RC hq)).elim
  rw[hb];have hj:=(Of.1 h).1;refine⟨?_,_,c.new h,.inr rfl⟩;rw[c.Qg hj];congr 1;omega
theorem O0.box {T:Kil} {nid m:Nat} {B B':Blk} (h:O0 T L nid m D B B'):B'.kn=B.kn:=by
 rcases h with h|h
 ·rw[<-Blk.jr (Blk.fP h),<-Blk.jr (Blk.s4 B)]
 ·rw[<-h,<-Blk.jr (Blk.s4 B)]
theorem O0.lQ {T:Kil} {nid m:Nat} {B B':Blk} (h:O0 T L nid m D B B'):B.lQ B':=by
 rcases h with h|h
 ·exact Blk.eI (Blk.s4 B) (Blk.fP h)
 ·rw[<-h];exact Blk.s4 B
theorem Lb {nid m k:Nat}:∀{d:List Nat},mem k d=true->mem (bk L nid m k) (bkL L nid m d)=true
 |[],h=>nomatch h
 |x::l,h=>by
  simp only[bkL];rw[mem_iff,RN,<-mem_iff];rw[mem_iff,RN,<-mem_iff]at h
  rcases h with rfl|h
  ·exact .inl rfl
  ·exact .inr (Lb h)
theorem mP.O1 (c:mP w w' H H' pl pl' L D bs nid o) {i k:Nat} (h:cb L nid L.length o.news.length i=some k):bk L nid L.length k=i:=by
 rcases c.Cm i with⟨k',hk,hlt,hc⟩|⟨j,hj,rfl,hm,hc⟩|⟨hm,hno,hc⟩<;>rw[hc]at h<;>cases h
 ·unfold bk;rw[show Nat.ble (k+1) L.length=true from SK hlt,cond_true,RU,hk];rfl
 ·unfold bk
  cases hq:Nat.ble (L.length+j+1) L.length with
  |false=>simp
  |true=>have:=RC hq;omega
theorem mP.okd (c:mP w w' H H' pl pl' L D bs nid o) {d:List Nat} {p:Cell} (h:okd o.heap pl' d p):okd H' (fB pl pl' L nid L.length o.news.length) (bkL L nid L.length d++D) p:=by
 have hb:(ud H pl L D).base p:=by rw[<-c.uB];exact h.1
 refine⟨hb.1,λi B' hB' hm hf=>?_⟩
 rcases c.ju hB' with⟨k,B,h1,h2,h3,_⟩|⟨h1,h2,B,h3,h4⟩
 ·simp only[fB,h1]at hf;refine h.2 k B h2 (λhk=>?_) hf;rw[<-h3.box];refine hm ?_;rw[mem_append,<-c.O1 h1,Lb hk];rfl
 ·simp only[fB,h1]at hf;refine hb.2 i B h3 h2 (λhk=>?_) hf;rw[Blk.jr (Blk.fP h4)];exact hm (by rw[mem_append,hk,S5])
mutual
theorem mP.rep (c:mP w w' H H' pl pl' L D bs nid o):(v:SV)->{u:Value}->au w' o.heap pl' v u->au w' H' (fB pl pl' L nid L.length o.news.length) (v.back L nid L.length D) u
 |.r d x,u,h=>by
  cases h with
  |r _ _ _ hx=>exact xm (hx.frame λp u hp hu=>⟨c.okd hp,hu⟩)
 |.cj,u,h=>by cases h;exact .cj
 |.o6,u,h=>by cases h;exact .o6
 |.own k,u,h=>by
  cases h with
  |own _ sh t xs hl=>
   obtain⟨h1,B',h2,h3⟩:=c.uL hl
   have e:(fB pl pl' L nid L.length o.news.length).hdr (bk L nid L.length k)=pl'.hdr k:=by simp only[fB,h1]
   rw[<-e]
   have:∃sh',B'=.arr sh' t xs:=by
    rcases h3 with h3|h3
    ·cases sh with
     |none=>cases h3;exact⟨_,rfl⟩
     |some d=>
      simp only[Blk.back,Blk.aL]at h3;cases hh:hit (uR L o.kept).2 (bkL L nid L.length d++D)<;>simp only[hh,cond_true,cond_false]at h3
      ·cases h3;exact⟨_,rfl⟩
      ·exact nomatch h3
    ·cases sh<;>exact⟨_,h3.symm⟩
   obtain⟨sh',rfl⟩:=this
   exact .own _ sh' t xs h2
 |.ptr k 0 off,u,h=>by
  cases h with
  |uq _ _ cs b q hl hh=>
   obtain⟨h1,B',h2,h3⟩:=c.uL hl
   have e:(fB pl pl' L nid L.length o.news.length).hdr (bk L nid L.length k)=pl'.hdr k:=by simp only[fB,h1]
   have:∃cs',B'=.box cs':=by
    rcases h3 with h3|h3
    ·cases h3;exact⟨_,rfl⟩
    ·exact⟨_,h3.symm⟩
   obtain⟨cs',rfl⟩:=this
   exact .uq _ off cs' b q h2 (e.trans hh)
  |sD _ _ _ sh t xs b q n cap hl hx hh=>
   obtain⟨h1,B',h2,h3⟩:=c.uL hl
   have e:(fB pl pl' L nid L.length o.news.length).hdr (bk L nid L.length k)=pl'.hdr k:=by simp only[fB,h1]
   have:∃sh',B'=.arr sh' t xs:=by
    rcases h3 with h3|h3
    ·cases sh with
     |none=>cases h3;exact⟨_,rfl⟩
     |some d=>
      simp only[Blk.back,Blk.aL]at h3;cases hh:hit (uR L o.kept).2 (bkL L nid L.length d++D)<;>simp only[hh,cond_true,cond_false]at h3
      ·cases h3;exact⟨_,rfl⟩
      ·exact nomatch h3
    ·cases sh<;>exact⟨_,h3.symm⟩
   obtain⟨sh',rfl⟩:=this
   exact .sD _ 0 off sh' t xs b q n cap h2 hx (e.trans hh)
 |.ptr k (x+1) off,u,h=>.undef _
 |.agg cs,u,h=>by
  cases h with
  |agg _ vs h1 h2 h3=>
   obtain⟨g1,g2⟩:=c.Qh cs vs.toList (by simpa using h1) λj x u hx hu=>h3 j x u hx (by simpa using hu)
   exact .agg _ _ (by simpa using g1) h2 λj x u hx hu=>g2 j x u hx (by simpa using hu)
 |.tup cs,u,h=>by
  cases h with
  |tup _ vs h1 h3=>
   obtain⟨g1,g2⟩:=c.Qh cs vs.toList (by simpa using h1) λj x u hx hu=>h3 j x u hx (by simpa using hu)
   exact .tup _ _ (by simpa using g1) λj x u hx hu=>g2 j x u hx (by simpa using hu)
 |.sub _ _ _,_,_=>.undef _
 |.bsl _ _,_,_=>.undef _
 |.inn _ _ _,_,_=>.undef _
 |.ki _ _,_,_=>.undef _
 |.fn f a b,u,h=>by
  cases h with
  |fn _ _ _ us vs h1 h3 h1' h3'=>
   obtain⟨g1,g2⟩:=c.Qh a us.toList (by simpa using h1) λj x u hx hu=>h3 j x u hx (by simpa using hu);obtain⟨q1,q2⟩:=c.Qh b vs.toList (by simpa using h1') λj x u hx hu=>h3' j x u hx (by simpa using hu)
   exact .fn _ _ _ _ _ (by simpa using g1) (λj x u hx hu=>g2 j x u hx (by simpa using hu)) (by simpa using q1) λj x u hx hu=>q2 j x u hx (by simpa using hu)
 |.undef,_,_=>.undef _
theorem mP.Qh (c:mP w w' H H' pl pl' L D bs nid o):(cs:List SV)->(us:List Value)->cs.length=us.length->(∀(j:Nat) (x:SV) (u:Value),cs[j]? =some x->us[j]? =some u->au w' o.heap pl' x u)->
  (o4 L nid L.length D cs).length=us.length/\∀(j:Nat) (x:SV) (u:Value),(o4 L nid L.length D cs)[j]? =some x->us[j]? =some u->au w' H' (fB pl pl' L nid L.length o.news.length) x u
 |[],us,hl,_=>⟨hl,λj x u hx _=>by simp[o4]at hx⟩
 |v::cs,u::us,hl,hp=>by
  obtain⟨g1,g2⟩:=c.Qh cs us (by simpa using hl) λj x u hx hu=>hp (j+1) x u (by simpa using hx) (by simpa using hu);refine⟨by simp[o4,g1],λj x u' hx hu=>?_⟩
  cases j with
  |zero=>simp[o4]at hx hu;subst hx hu;exact c.rep v (hp 0 v u rfl rfl)
  |succ j=>exact g2 j x u' (by simpa[o4]using hx) (by simpa using hu)
end
theorem mP.O2 (c:mP w w' H H' pl pl' L D bs nid o) {i k:Nat} {B:Blk} (h1:cb L nid L.length o.news.length i=some k) (h2:look o.heap k=some B):
  dS w' H' (fB pl pl' L nid L.length o.news.length) i (B.back L nid L.length D):=by
 have eh:(fB pl pl' L nid L.length o.news.length).hdr i=pl'.hdr k:=by simp only[fB,h1]
 have ef:(fB pl pl' L nid L.length o.news.length).fp i=pl'.fp k:=by simp only[fB,h1]
 have hb:=c.hro.blk k B h2
 cases B with
 |box cs=>
  obtain⟨b,q,q1,q2,q3⟩:=hb;refine⟨b,q,eh.trans q1,λp=>by rw[ef,q2,pA],λj v hv=>?_⟩;rw[D2]at hv;obtain⟨y,hy,rfl⟩:=Rv.1 hv;obtain⟨u,g1,g2,g3,g4⟩:=q3 j y hy
  exact⟨u,g1,g2,g3,c.rep y g4⟩
 |arr sh t xs=>
  cases sh with
  |none=>
   show Nonempty (Row w' (fj w') t xs _ _)
   rw[eh,ef];exact hb
  |some d=>
   obtain⟨⟨a,cap,b,q,vs,fs,q1,q2,q3,q4,q5,q6,q7,q8,q9⟩⟩:=hb;exact⟨⟨a,cap,b,q,vs,fs,eh.trans q1,q2,q3,q4,q5,λi j r hc=>⟨(q6 i j r hc).1.frame λp u hp hu=>⟨c.okd hp,hu⟩,(q6 i j r hc).2⟩,q7,q8,λp=>by rw[ef];exact q9 p⟩⟩
theorem Jh (T:Kil) {w:World} {H:aI} {pl:Pl}:lh T w H pl w H pl:=⟨λi B hB _=>⟨B,hB,B.dh,rfl⟩,λd p u _ h hp=>⟨h,hp⟩⟩
theorem mP.AP (c:mP w w' H H' pl pl' L D bs nid o) {i:Nat} {B:Blk} {p:Cell} (hB:look H i=some B) (hm:mem i L=false) (hf:pl.fp i p):∀i' B',mem i' L=true->look H i'=some B'->¬pl.fp i' p:=λi' B' hm' hB' hf'=>by
 have:=c.hr.dis i i' B B' p hB hB' hf hf';subst this;rw[hm]at hm';exact nomatch hm'
theorem mP.keeps (c:mP w w' H H' pl pl' L D bs nid o):lh (uR L o.kept) w H pl w' H' (fB pl pl' L nid L.length o.news.length):=by
 refine⟨λi B hB hg=>?_,λd p u hd ho hp=>?_⟩
 ·cases hm:mem i L with
  |true=>
   obtain⟨k,B0,B1,hk,hlt,e1,e2,e3⟩:=c.inH hm;rw[hB]at e1;cases e1
   have hkl:k<o.kept.length:=by rw[c.hm];exact hlt
   cases hkp:o.kept[k]? with
   |none=>rw[On hkl]at hkp;exact nomatch hkp
   |some ob=>
    cases ob with
    |none=>rw[show mem i (lu L o.kept)=true from lx.2 ⟨k,hk,hkp⟩]at hg;exact nomatch hg
    |some B2=>
     obtain⟨B',h1,h2⟩:=c.kept hk hkp;obtain⟨q1,B3,q2,q3⟩:=c.Nf k B2 hkp;rw[e2]at q2;cases q2;refine⟨B',h1,Blk.eI (Blk.Ck e3) (Blk.eI q3 h2.lQ),?_⟩;simp only[fB,c.OZ hk]
     rw[q1,RU,hk];rfl
  |false=>
   rcases c.Cm i with⟨k,hk,_⟩|⟨j,hj,rfl,_,_⟩|⟨_,hno,hc⟩
   ·rw[(mem_iff i L).2 (RH hk)]at hm;exact nomatch hm
   ·rw[c.rQ j hj]at hB;exact nomatch hB
   ·obtain⟨h1,e1,_⟩:=id c.ha
    have hu:look (ru (zU (Blk.back L nid L.length D) L o.kept) H) i=some B:=by
     rw[fT λk b h1 _=>by rw[(mem_iff i L).2 (RH h1)]at hm;exact nomatch hm];exact hB
    obtain⟨B',hB'⟩:=jc rV e1 i B hu hg;exact⟨B',by rw[c.old hm hno,hB];exact hB',Blk.fP hB',by simp only[fB,hc]⟩
 ·have hnp:∀i B,mem i L=true->look H i=some B->¬pl.fp i p:=λi B hm hB hf=>by
   refine ho.2 i B hB (λhdi=>?_) hf;have hT:=hd i hdi;obtain⟨k,B0,B1,hk,hlt,e1,e2,e3⟩:=c.inH hm;rw[hB]at e1;cases e1
   have hkl:k<o.kept.length:=by rw[c.hm];exact hlt
   cases hkp:o.kept[k]? with
   |none=>rw[On hkl]at hkp;exact nomatch hkp
   |some ob=>
    cases ob with
    |none=>
     have:mem i (uR L o.kept).2=true:=rV i (lx.2 ⟨k,hk,hkp⟩)
     rw[hT]at this;exact nomatch this
    |some B2=>
     obtain⟨_,B3,q2,q3⟩:=c.Nf k B2 hkp;rw[e2]at q2;cases q2
     have hbx:B2.kn=true:=by
      cases hx:B2.kn with
      |true=>rfl
      |false=>
       have:mem i (lu L o.kept++lZ L o.kept)=true:=by rw[mem_append,qy.2 ⟨k,B2,hk,hkp,hx⟩,S5]
       rw[show mem i (lu L o.kept++lZ L o.kept)=false from hT]at this;exact nomatch this
     rw[Blk.jr (Blk.Ck e3),Blk.jr q3,hbx]
  obtain⟨g1,g2,g3⟩:=c.hfr p u hp hnp;refine⟨⟨ho.1,λi B' hB' hm hf=>?_⟩,g2⟩
  rcases c.ju hB' with⟨k,B,h1,h2,_,_⟩|⟨h1,h2,B,h3,h4⟩
  ·simp only[fB,h1]at hf;exact g1 k B h2 hf
  ·simp only[fB,h1]at hf;refine ho.2 i B h3 (λhk=>?_) hf;rw[Blk.jr (Blk.fP h4)];exact hm hk
theorem mP.step (c:mP w w' H H' pl pl' L D bs nid o):cQ H H' (uR L o.kept) pl (fB pl pl' L nid L.length o.news.length) w w':=by
 have hown:=c.hr.gv;have hk:=c.keeps;refine⟨⟨λi B' hB'=>?_,λi j B B' p h1 h2 f1 f2=>?_,λi B p hB hf=>?_,λp hp=>?_⟩,hk,rfl,c.hgr,λp u hp hno=>?_⟩
 ·rcases c.ju hB' with⟨k,B,h1,h2,h3,_⟩|⟨h1,h2,B,h3,h4⟩
  ·have hb:=c.O2 h1 h2
   rcases h3 with h3|h3
   ·exact hb.bz (Jh _) rfl (λ_=>Uk) (λp u _ hu=>⟨hu,rfl⟩) h3
   ·rw[<-h3];exact hb
  ·exact(c.hr.blk i B h3).bz hk (by simp only[fB,h1]) (λp=>by simp only[fB,h1]) (λp u hf hu=>(c.hfr p u hu (c.AP h3 h2 hf)).2) h4
 ·have cross:∀{i j k:Nat} {B Bk:Blk},look H i=some B->mem i L=false->pl.fp i p->look o.heap k=some Bk->pl'.fp k p->False:=λ{i j k B Bk} hB hm hf hk hf'=>by
   obtain⟨u,hu⟩:=hown i B p hB hf;exact(c.hfr p u hu (c.AP hB hm hf)).1 k Bk hk hf'
  rcases c.ju h1 with⟨k,B1,a1,a2,_,_⟩|⟨a1,a2,B1,a3,_⟩<;>rcases c.ju h2 with⟨k',B2,b1,b2,_,_⟩|⟨b1,b2,B2,b3,_⟩
  ·simp only[fB,a1]at f1;simp only[fB,b1]at f2;have:=c.hro.dis k k' B1 B2 p a2 b2 f1 f2;subst this;rw[<-c.O1 a1,<-c.O1 b1]
  ·simp only[fB,a1]at f1;simp only[fB,b1]at f2;exact(cross (j:=j) b3 b2 f2 a2 f1).elim
  ·simp only[fB,a1]at f1;simp only[fB,b1]at f2;exact(cross (j:=j) a3 a2 f1 b2 f2).elim
  ·simp only[fB,a1]at f1;simp only[fB,b1]at f2;exact c.hr.dis i j B1 B2 p a3 b3 f1 f2
 ·rcases c.ju hB with⟨k,B1,a1,a2,_,_⟩|⟨a1,a2,B1,a3,_⟩
  ·simp only[fB,a1]at hf;have:=c.hro.ob k B1 p a2 hf;rw[c.uB]at this;exact this.1
  ·simp only[fB,a1]at hf;exact c.hr.ob i B1 p a3 hf
 ·have:=c.hro.nb p hp;rw[c.uB]at this;exact this.1
 ·obtain⟨g1,g2⟩:=c.hfr p u hp λi B _ hB=>hno i B hB;refine⟨λi B hB hf=>?_,g2⟩
  rcases c.ju hB with⟨k,B1,a1,a2,_,_⟩|⟨a1,a2,B1,a3,_⟩
  ·simp only[fB,a1]at hf;exact g1 k B1 a2 hf
  ·simp only[fB,a1]at hf;exact hno i B1 a3 hf
end
inductive Pr where
 |one (t:Ty)
 |agg (ts:List Ty)
 |bz
def Ji (h:aI):List Ty->List SV->Option (List SV)
 |[],[]=>some []
 |t::ts,v::vs=>(v.asR h t).bind λp=>(Ji h ts vs).bind λl=>some (.r p.1 p.2::l)
 |_,_=>none
def Gg (h:aI):Pr->SV->Option SV
 |.one t,v=>(v.asR h t).bind λp=>some (.r p.1 p.2)
 |.agg ts,.agg cs=>(Ji h ts cs).bind λl=>some (.agg l)
 |.agg _,_=>none
 |.bz,v=>some v
def O3 (h:aI):List Pr->List SV->Option (List SV)
 |[],[]=>some []
 |s::ss,v::vs=>(Gg h s v).bind λx=>(O3 h ss vs).bind λl=>some (x::l)
 |_,_=>none
def D3 (pr:List Pr) (G:MG):Orc:=λρ nid vs h K=>
  (O3 h pr vs).bind λvs1=>
    let L:=reach h 3 (oS [] (IA vs1))
    let D:=PJ L (rn vs1++uQ h L)
    cond (nodup L) (cond (zM L D (rn vs1++uQ h L)) ((DY L vs1).bind λargs=>(ng h L L).bind λbs=>
      G ρ args bs λo=>cond (Nat.beq o.kept.length L.length)
        (K {v:=o.v.back L nid L.length D,upd:=zU (Blk.back L nid L.length D) L o.kept,news:=xL L nid L.length D o.news,gone:=lu L o.kept,ld:=lZ L o.kept}) none) none) none
theorem HU {h h':aI} (hh:Ext h h'):(ts:List Ty)->(vs:List SV)->Le (Ji h ts vs) (Ji h' ts vs)
 |[],[]=>Le.refl _
 |t::ts,v::vs=>(Du hh _ _).bind λ_=>(HU hh ts vs).bind λ_=>Le.refl _
 |[],_::_=>Le.refl _
 |_::_,[]=>Le.refl _
theorem Nh {h h':aI} (hh:Ext h h') (s:Pr) (v:SV):Le (Gg h s v) (Gg h' s v):=by
 intro p hp;unfold Gg at hp;split at hp<;>simp only[Gg]
 ·exact((Du hh _ _).bind λ_=>Le.refl _) p hp
 ·exact((HU hh _ _).bind λ_=>Le.refl _) p hp
 ·exact nomatch hp
 ·exact hp
theorem Lc {h h':aI} (hh:Ext h h'):(ss:List Pr)->(vs:List SV)->Le (O3 h ss vs) (O3 h' ss vs)
 |[],[]=>Le.refl _
 |s::ss,v::vs=>(Nh hh s v).bind λ_=>(Lc hh ss vs).bind λ_=>Le.refl _
 |[],_::_=>Le.refl _
 |_::_,[]=>Le.refl _
theorem HV {h h':aI} (hh:Ext h h') {L:List Nat}:(l:List Nat)->Le (ng h L l) (ng h' L l)
 |[]=>Le.refl _
 |i::l=>λbs hb=>by
  simp only[ng,An,It]at hb⊢;obtain⟨b,h1,b',h2,l',h3,rfl⟩:=hb;exact⟨b,hh i b h1,b',h2,l',HV hh l _ h3,rfl⟩
theorem D4 {h h':aI} (hh:Ext h h'):(l:List Nat)->(∀i∈l,∃B,look h i=some B)->uQ h' l=uQ h l
 |[],_=>rfl
 |i::l,hl=>by
  obtain⟨B,hB⟩:=hl i (by simp);simp only[uQ,hB,hh i B hB,D4 hh l λk hk=>hl k (by simp[hk])]
section
variable {w:World} {H:aI} {pl:Pl} {P:Program}
theorem D5 (hr:cH H pl w):∀{ts:List Ty} {vs:List SV} {us:List Value} {l:List SV},Ji H ts vs=some l->vs.length=us.length->(∀(j:Nat) (x:SV) (u:Value),vs[j]? =some x->us[j]? =some u->au w H pl x u)->
  l.length=us.length/\∀(j:Nat) (x:SV) (u:Value),l[j]? =some x->us[j]? =some u->au w H pl x u
 |[],[],us,l,h,hl,_=>by cases h;exact⟨hl,λj x u hx _=>by simp at hx⟩
 |t::ts,v::vs,u::us,l,h,hl,hp=>by
  simp only[Ji,An,It]at h;obtain⟨⟨d,r⟩,h1,l',h2,rfl⟩:=h;obtain⟨g1,g2⟩:=D5 hr h2 (us:=us) (by simpa using hl) λj x u hx hu=>hp (j+1) x u (by simpa using hx) (by simpa using hu);refine⟨by simp[g1],λj x u' hx hu=>?_⟩
  cases j with
  |zero=>simp at hx hu;subst hx hu;exact .r _ _ _ (uu hr h1 (hp 0 v u rfl rfl))
  |succ j=>exact g2 j x u' (by simpa using hx) (by simpa using hu)
 |[],_::_,_,_,h,_,_=>nomatch h
 |_::_,[],_,_,h,_,_=>nomatch h
theorem Ld (hr:cH H pl w) {s:Pr} {v x:SV} {u:Value} (h:Gg H s v=some x) (hv:au w H pl v u):au w H pl x u:=by
 unfold Gg at h;split at h
 ·simp only[An,It]at h;obtain⟨⟨d,r⟩,h1,rfl⟩:=h;exact .r _ _ _ (uu hr h1 hv)
 ·simp only[An,It]at h;obtain⟨l,h1,rfl⟩:=h
  cases hv with
  |agg cs vs h2 h3 h4=>
   obtain⟨g1,g2⟩:=D5 hr h1 (us:=vs.toList) (by simpa using h2) λj x u hx hu=>h4 j x u hx (by simpa using hu);exact .agg _ _ (by simpa using g1) h3 λj x u hx hu=>g2 j x u hx (by simpa using hu)
 ·exact nomatch h
 ·cases h;exact hv
theorem HW (hr:cH H pl w):∀{ss:List Pr} {vs:List SV} {us:List Value} {l:List SV},O3 H ss vs=some l->vs.length=us.length->(∀(j:Nat) (x:SV) (u:Value),vs[j]? =some x->us[j]? =some u->au w H pl x u)->
  l.length=us.length/\∀(j:Nat) (x:SV) (u:Value),l[j]? =some x->us[j]? =some u->au w H pl x u
 |[],[],us,l,h,hl,_=>by cases h;exact⟨hl,λj x u hx _=>by simp at hx⟩
 |t::ts,v::vs,u::us,l,h,hl,hp=>by
  simp only[O3,An,It]at h;obtain⟨x0,h1,l',h2,rfl⟩:=h;obtain⟨g1,g2⟩:=HW hr h2 (us:=us) (by simpa using hl) λj x u hx hu=>hp (j+1) x u (by simpa using hx) (by simpa using hu);refine⟨by simp[g1],λj x u' hx hu=>?_⟩
  cases j with
  |zero=>simp at hx hu;subst hx hu;exact Ld hr h1 (hp 0 v u rfl rfl)
  |succ j=>exact g2 j x u' (by simpa using hx) (by simpa using hu)
 |[],_::_,_,_,h,_,_=>nomatch h
 |_::_,[],_,_,h,_,_=>nomatch h
theorem pB {g:FuncId} {pr:List Pr} {G:MG} (h:xK P g G):rm P g (D3 pr G):=by
 intro ρ nid vs H K out hK;simp only[D3,An]at hK;obtain⟨vs1,hpr,hK⟩:=hK;generalize hLe:reach H 3 (oS [] (IA vs1))=L at hK;cases hn:nodup L<;>simp only[hn,cond_true,cond_false]at hK
 ·exact nomatch hK
 generalize hDe:PJ L (rn vs1++uQ H L)=D at hK;cases hsub:zM L D (rn vs1++uQ H L)<;>simp only[hsub,cond_true,cond_false,An]at hK
 ·exact nomatch hK
 obtain⟨args,hargs,bs,hbs,hG⟩:=hK;obtain⟨o,ho,hen,hm,hcalls⟩:=h ρ args bs _ out hG;cases hbl:Nat.beq o.kept.length L.length<;>simp only[hbl,cond_true,cond_false]at ho
 ·exact nomatch ho
 have hbl:=Rp hbl
 have hin:∀i∈L,∃B,look H i=some B:=λi hi=>by
  obtain⟨k,hk⟩:=Sm hi;have hlt:=(Of.1 hk).1;obtain⟨i',b0,e1,e2,_⟩:=(fR hbs).2 k _ (On (show k<bs.length by rw[(fR hbs).1];exact hlt));rw[hk]at e1;cases e1;exact⟨b0,e2⟩
 refine⟨_,ho,hen,λi B hB=>hin i (oa hB),λH1 pl w us he hr hnw hl hp H' ha=>?_⟩;obtain⟨hs1,hs2⟩:=gL hsub;obtain⟨g1,g2⟩:=HW (us:=us.toList) hr (Lc he _ _ _ hpr) (by simpa using hl) λj x u hx hu=>hp j x u hx (by simpa using hu);have hbs1:=HV he L _ hbs
 have hd1:zM L D (uQ H1 L)=true:=by rw[D4 he L hin];exact hs2
 obtain⟨q1,q2⟩:=nh hn hbs1 vs1 hs1 hargs us.toList g1 g2;have rQ:∀k,k<o.news.length->look H1 (nid+k)=none:=λk hk=>hnw k (by rw[l3];exact hk);refine(hcalls w us (ud H1 pl L D) (La hr hn hbs1 hd1) (by simpa using q1) λj x u hx hu=>q2 j x u hx (by simpa using hu)).mono λe w' ⟨u,pl',he',h1,h2,h3,h4,h5,h6⟩=>?_
 have hc:mP w w' H1 H' pl pl' L D bs nid o:=by
  refine⟨hr,hn,hbs1,hbl,rQ,λi hi=>Nd (hDe▸hi),h1,h3,h4,h5,λp u hu hno=>h6 p u hu λk B hB hf=>?_,?_⟩
  ·obtain⟨i,b0,e1,e2,e3,_⟩:=fS hbs1 hB;simp only[ud,e2]at hf;exact hno i b0 ((mem_iff i L).2 (RH e1)) e3 hf
  ·simp only[after,An,It]at ha;obtain⟨h1',e1,e2⟩:=ha;exact⟨h1',e1,e2.symm⟩
 exact⟨u,_,he',hc.step,hc.rep o.v h2⟩
end
end
section
variable [Tok]
inductive KD where
 |gone
 |arr
 |box (l:List RT)
def eA:List (Option Nat)->List KD->List Nat
 |some _::g,.gone::l=>eA g l
 |some i::g,_::l=>i::eA g l
 |none::g,_::l=>eA g l
 |_,_=>[]
def pC (h:aI):List (Option Nat)->List KD->Option (List (Bool× Ty× Option Nat))
 |[],[]=>some []
 |_::g,.gone::ks=>pC h g ks
 |some _::g,.arr::ks=>pC h g ks
 |some i::g,.box l::ks=>match look h i with
  |some (.box cs)=>(Ce l cs).bind λa=>(pC h g ks).bind λb=>some (a++b)
  |_=>none
 |_,_=>none
def pD (h:aI) (LL:List Nat) (i:Nat):Option Blk:=
 match look h i with
 |some (.arr none t xs)=>some (.arr none t xs)
 |some (.arr (some d) t xs)=>cond (hit LL d) none (some (.arr (some []) t xs))
 |_=>none
def eL (h:aI) (LL:List Nat) (G:List (Option Nat)):List (Option Nat)->List KD->Nat->Option (List (Option Blk))
 |[],[],_=>some []
 |_::g,.gone::ks,k=>(eL h LL G g ks k).bind λq=>some (none::q)
 |some i::g,.arr::ks,k=>(pD h LL i).bind λb=>(eL h LL G g ks k).bind λq=>some (some b::q)
 |some i::g,.box l::ks,k=>match look h i with
  |some (.box cs)=>(Mw h LL G l k cs).bind λp=>(eL h LL G g ks p.2).bind λq=>some (some (.box p.1)::q)
  |_=>none
 |_,_,_=>none
def rW:List (Option Nat)->List KD->List (Option Nat)
 |[],_=>[]
 |_::g,.gone::ks=>none::rW g ks
 |og::g,.arr::ks=>og::rW g ks
 |og::g,.box _::ks=>og::rW g ks
 |_::g,[]=>none::rW g []
def Lf (rt:RT) (ks:List KD) (st:St) (v:SV):Option kr:=
  (rt.Jd v).bind λs0=>(pC st.heap st.gh ks).bind λs1=>
    let LL:=eA st.gh ks++jg (s0++s1)
    cond (nodup LL) ((mM st.heap LL (s0++s1)).bind λnews=>(rt.out st.heap LL (rW st.gh ks) st.gh.length v).bind λp=>(eL st.heap LL (rW st.gh ks) st.gh ks p.2).bind λq=>some ⟨p.1,q,news⟩) none
def Cn (ks:List KD) (v:SV) (gh:List (Option Nat)):List (Option Nat):=
 cond (Nat.beq ks.length (gh.length+1)) (match v with
  |.ptr i 0 _=>gh++[some i]
  |.tup (.ptr i 0 _::_)=>gh++[some i]
  |_=>gh) gh
def HX (m:Nat) (o:kr):Option kr:=match o.kept.drop m with
 |[]=>some o
 |[some b]=>some ⟨o.v,o.kept.take m,b::o.news⟩
 |_=>none
def D6 (rt:RT) (ks:List KD) (st:St) (v:SV):Option kr:=
 (Lf rt ks {st with gh:=Cn ks v st.gh} v).bind (HX st.gh.length)
def Cp (t:Nat) (st:St):Option St:=
 match look st.cp t with
 |some (.sub i 0 n)=>match look st.heap i with
  |some (.arr sh ty xs)=>cond (mem i (sh.getD [])) none (st.take (some t) {v:=.own st.nid,news:=[.arr sh ty (xs.take n)],gone:=[i]})
  |_=>some st
 |_=>some st
def HY (fn:Func) (rt:RT) (st:St):Option St:=
 match fn.results.toList,rt with
 |[.tmp t],.own _=>Cp t st
 |[.tmp t],.shl _=>Cp t st
 |_,_=>some st
def Lg {ρ:Type} (P:Program) (fn:Func) (rt:RT) (ks:List KD) (dec:kr->Option ρ):Ex->St->Option ρ
 |.exit _,_=>none
 |.normal,st=>(HY fn rt st).bind λst=>(Oa P fn st).bind λv=>(D6 rt ks st v).bind dec
 |.ret,st=>(HY fn rt st).bind λst=>(Oa P fn st).bind λv=>(D6 rt ks st v).bind dec
def D7:Nat->List SV->List (Nat× SV)
 |_,[]=>[]
 |n,a::l=>(n,a)::D7 (n+1) l
def AQ:Nat->Nat->List (Option Nat)
 |_,0=>[]
 |n,k+1=>some n::AQ (n+1) k
def J4 (fn:Func) (args:List SV) (bs:List Blk):St:={cp:=D7 0 args,heap:=aK 0 bs,nid:=bs.length,n:=fn.ntmps,gh:=AQ 0 bs.length}
theorem Gh (args:List SV) (n t:Nat):look (D7 n args) t=if n<=t then args[t-n]? else none:=by
 induction args generalizing n with
 |nil=>simp[D7,look]
 |cons a l ih=>
  rw[D7,aA,ih];by_cases h:n=t
  ·subst h;simp
  ·by_cases h2:n<=t
   ·rw[if_neg h,if_pos (by omega),if_pos h2,show t-n=(t-(n+1))+1 from by omega];rfl
   ·rw[if_neg h,if_neg (by omega),if_neg h2]
theorem AR:∀(c n k:Nat) {i:Nat},(AQ n c)[k]? =some (some i)->i=n+k/\k<c
 |0,n,k,i,h=>by simp[AQ]at h
 |c+1,n,0,i,h=>by simp[AQ]at h;omega
 |c+1,n,k+1,i,h=>by
  have:=AR c (n+1) k (by simpa[AQ]using h);omega
def Pl.HL (pl:Pl) (gh:List (Option Nat)) (S:List (Bool× Ty× Option Nat)):Pl:=
  ⟨λk=>if k<gh.length then(match gh[k]? with|some (some i)=>pl.hdr i|_=>undef)else(pl.res S).hdr (k-gh.length),
   λk=>if k<gh.length then(match gh[k]? with|some (some i)=>pl.fp i|_=>λ_=>False)else(pl.res S).fp (k-gh.length),pl.base⟩
section
variable {w:World} {H:aI} {pl:Pl} {gh G:List (Option Nat)} {ks:List KD} {S:List (Bool× Ty× Option Nat)} {LL:List Nat} {news:List Blk} {kept:List (Option Blk)} {v:SV}
theorem gZ:∀{gh:List (Option Nat)} {ks:List KD} {k0:Nat} {kept:List (Option Blk)},eL H LL G gh ks k0=some kept->kept.length=gh.length/\
  ∀(k:Nat) (B:Blk),kept[k]? =some (some B)->∃i,gh[k]? =some (some i)/\mem i (eA gh ks)=true/\((∃l cs cs' k1 k2,ks[k]? =some (.box l)/\look H i=some (.box cs)/\Mw H LL G l k1 cs=some (cs',k2)/\B=.box cs')\/(ks[k]? =some .arr/\pD H LL i=some B))
 |[],[],k0,kept,h=>by cases h;exact⟨rfl,λk B hB=>by simp at hB⟩
 |og::g,.gone::ks,k0,kept,h=>by
  simp only[eL,An,It]at h;obtain⟨q,h1,rfl⟩:=h;obtain⟨g1,g2⟩:=gZ h1;refine⟨by simp[g1],λk B hB=>?_⟩
  cases k with
  |zero=>simp at hB
  |succ k=>
   obtain⟨i,a1,a2,a3⟩:=g2 k B (by simpa using hB);refine⟨i,by simpa using a1,?_,by simpa using a3⟩
   cases og<;>simpa[eA]using a2
 |some i0::g,.arr::ks,k0,kept,h=>by
  simp only[eL,An,It]at h;obtain⟨b,h0,q,h1,rfl⟩:=h;obtain⟨g1,g2⟩:=gZ h1;refine⟨by simp[g1],λk B hB=>?_⟩
  cases k with
  |zero=>simp at hB;subst hB;exact⟨i0,rfl,by simp[eA,mem],.inr ⟨rfl,h0⟩⟩
  |succ k=>
   obtain⟨i,a1,a2,a3⟩:=g2 k B (by simpa using hB);refine⟨i,by simpa using a1,?_,by simpa using a3⟩
   rw[mem_iff]at a2⊢;simp[eA,a2]
 |some i0::g,.box l::ks,k0,kept,h=>by
  simp only[eL]at h;split at h
  ·rename_i cs hl;simp only[An,It]at h;obtain⟨p,h0,q,h1,rfl⟩:=h;obtain⟨g1,g2⟩:=gZ h1;refine⟨by simp[g1],λk B hB=>?_⟩
   cases k with
   |zero=>simp at hB;subst hB;exact⟨i0,rfl,by simp[eA,mem],.inl ⟨l,cs,p.1,k0,p.2,rfl,hl,h0,rfl⟩⟩
   |succ k=>
    obtain⟨i,a1,a2,a3⟩:=g2 k B (by simpa using hB);refine⟨i,by simpa using a1,?_,by simpa using a3⟩;rw[mem_iff]at a2⊢;simp[eA,a2]
  ·exact nomatch h
 |[],_::_,_,_,h=>by cases h
 |none::_,[],_,_,h=>by cases h
 |some _::_,[],_,_,h=>by cases h
 |none::_,.arr::_,_,_,h=>by cases h
 |none::_,.box _::_,_,_,h=>by cases h
theorem s5 (hr:cH H pl w) {H2:aI} {plR:Pl} {m:Nat} (hown:∀(k:Nat) (b:Bool) (t:Ty) (v:SV) (u:Value),au w H pl v u->((∃i,v=.own i/\S[k]? =some (b,t,some i))\/(v=.cj/\S[k]? =some (b,t,none)))->au w H2 plR (.own (m+k)) u)
    (hro:∀d p,hit LL d=false->okd H pl d p->okd H2 plR [] p) (hptr:∀i j o u,posOf i G 0=some j->au w H pl (.ptr i 0 o) u->au w H2 plR (.ptr j 0 o) u):∀{gh:List (Option Nat)} {ks:List KD} {j0:Nat} {kept:List (Option Blk)} {s:List (Bool× Ty× Option Nat)},
    pC H gh ks=some s->(∀(j:Nat) (x:Bool× Ty× Option Nat),s[j]? =some x->S[j0+j]? =some x)->eL H LL G gh ks (m+j0)=some kept->
    ∀ (k i : Nat) (cs cs' : List SV), gh[k]? = some (some i) -> look H i = some (.box cs) -> kept[k]? = some (some (.box cs')) -> ∀ us : List Value, cs.length = us.length -> (∀ (j : Nat) (x : SV) (u : Value), cs[j]? = some x -> us[j]? = some u -> au w H pl x u) ->
      cs'.length=us.length/\∀(j:Nat) (x:SV) (u:Value),cs'[j]? =some x->us[j]? =some u->au w H2 plR x u
  |[],[],j0,kept,s,hs,hS,h,k,i,cs,cs',hk,_,_,_,_,_=>by simp at hk
  | og :: g, .gone :: ks, j0, kept, s, hs, hS, h, k, i, cs, cs', hk, hl, hc, us, hu, hp => by
    simp only[eL,An,It]at h;obtain⟨q,h1,rfl⟩:=h
    have hs:pC H g ks=some s:=by cases og<;>exact hs
    cases k with
    |zero=>simp at hc
    |succ k=>exact s5 hr hown hro hptr hs hS h1 k i cs cs' (by simpa using hk) hl (by simpa using hc) us hu hp
  | some i0 :: g, .arr :: ks, j0, kept, s, hs, hS, h, k, i, cs, cs', hk, hl, hc, us, hu, hp => by
    simp only[eL,An,It]at h;obtain⟨b,h0,q,h1,rfl⟩:=h
    cases k with
    | zero =>
      simp at hk hc;subst hk hc;unfold pD at h0
      rw[hl]at h0;exact nomatch h0
    |succ k=>exact s5 hr hown hro hptr (show pC H g ks=some s from hs) hS h1 k i cs cs' (by simpa using hk) hl (by simpa using hc) us hu hp
  | some i0 :: g, .box l :: ks, j0, kept, s, hs, hS, h, k, i, cs, cs', hk, hl, hc, us, hu, hp => by
    simp only[eL]at h;simp only[pC]at hs
    cases hl0:look H i0 with
    |none=>rw[hl0]at h;exact nomatch h
    | some B0 =>
      cases B0 with
      |arr sh t xs=>rw[hl0]at h;exact nomatch h
      | box cs0 =>
        simp only[hl0,An,It]at h hs;obtain⟨p,h0,q,h1,rfl⟩:=h;obtain⟨s1,e1,s2,e2,rfl⟩:=hs;obtain⟨b,o,q1,q2,q3⟩:=hr.blk i0 _ hl0
        have key:∀us:List Value,cs0.length=us.length->(∀(j:Nat) (x:SV) (u:Value),cs0[j]? =some x->us[j]? =some u->au w H pl x u)->_:=λus hu hp=>
          nd hr hown hro hptr l e1 (λj x hx=>hS j x (by rw[Rt (Of.1 hx).1];exact hx)) (cs':=p.1) (k':=p.2) (by rw[h0]) us hu hp
        cases k with
        | zero =>
          simp at hk hc;subst hk hc;rw[hl0]at hl;cases hl;obtain⟨g1,g2,_⟩:=key us hu hp
          exact⟨g1,g2⟩
        | succ k =>
          have hk2:p.2=m+(j0+s1.length):=by
            have hus:∃us:List Value,cs0.length=us.length/\∀(j:Nat) (x:SV) (u:Value),cs0[j]? =some x->us[j]? =some u->au w H pl x u:=by
              have:∀n,n<=cs0.length->∃us:List Value,us.length=n/\∀(j:Nat) (x:SV) (u:Value),cs0[j]? =some x->us[j]? =some u->au w H pl x u:=λn=>by
                induction n with
                |zero=>exactλ_=>⟨[],rfl,λj x u _ h=>by simp at h⟩
                | succ n ih =>
                  intro hn;obtain⟨us,a1,a2⟩:=ih (by omega);obtain⟨u,_,_,_,b4⟩:=q3 n cs0[n] (On (by omega));refine⟨us++[u],by simp[a1],λj x u' hx hu'=>?_⟩;by_cases c:j<us.length
                  · rw[Rt c]at hu';exact a2 j x u' hx hu'
                  · rw[Rs (by omega)]at hu';have hlt:=(Of.1 hu').1;simp at hlt
                    have:j=n:=by omega
                    subst this;rw[show j-us.length=0 from by omega]at hu';simp at hu';subst hu';rw[On (by omega)]at hx;cases hx;exact b4
              obtain⟨us,a1,a2⟩:=this cs0.length (RJ _);exact⟨us,a1.symm,a2⟩
            obtain⟨us,a1,a2⟩:=hus;exact(key us a1 a2).2.2
          rw[hk2]at h1
          exact s5 hr hown hro hptr e2 (λj x hx=>by
            have:=hS (s1.length+j) x (by rw[Rs (by omega),RY];exact hx)
            rw[Sv];exact this) h1 k i cs cs' (by simpa using hk) hl (by simpa using hc) us hu hp
  |[],_::_,_,_,_,h,_,_,_,_,_,_,_,_,_,_,_,_=>by cases h
  |none::_,[],_,_,_,h,_,_,_,_,_,_,_,_,_,_,_,_=>by cases h
  |some _::_,[],_,_,_,h,_,_,_,_,_,_,_,_,_,_,_,_=>by cases h
  |none::_,.arr::_,_,_,_,h,_,_,_,_,_,_,_,_,_,_,_,_=>by cases h
  |none::_,.box _::_,_,_,_,h,_,_,_,_,_,_,_,_,_,_,_,_=>by cases h
theorem wF:∀{gh:List (Option Nat)} {ks:List KD} {k0 k0':Nat} {kept:List (Option Blk)},eL H LL G gh ks k0=some kept->(eA gh ks).Nodup->∀(k k':Nat) (B B':Blk) (i:Nat),
  kept[k]? =some (some B)->kept[k']? =some (some B')->gh[k]? =some (some i)->gh[k']? =some (some i)->k=k'
 |[],[],k0,k0',kept,h,hn,k,k',B,B',i,h1,h2,h3,h4=>by simp at h3
 |og::g,.gone::ks,k0,k0',kept,h,hn,k,k',B,B',i,h1,h2,h3,h4=>by
  simp only[eL,An,It]at h;obtain⟨q,e1,rfl⟩:=h
  have hn:(eA g ks).Nodup:=by cases og<;>simpa[eA]using hn
  cases k with
  |zero=>simp at h1
  |succ k=>cases k' with
   |zero=>simp at h2
   |succ k'=>rw[wF (k0':=k0') e1 hn k k' B B' i (by simpa using h1) (by simpa using h2) (by simpa using h3) (by simpa using h4)]
 |some i0::g,.arr::ks,k0,k0',kept,h,hn,k,k',B,B',i,h1,h2,h3,h4=>by
  simp only[eL,An,It]at h;obtain⟨b,e0,q,e1,rfl⟩:=h
  have hn:i0∉eA g ks/\(eA g ks).Nodup:=by simpa[eA]using hn
  have sub:∀{k B},q[k]? =some (some B)->g[k]? =some (some i0)->False:=λ{k B} q1 q2=>by
   obtain⟨i',a1,a2,_⟩:=(gZ e1).2 k B q1;rw[q2]at a1;cases a1;exact hn.1 ((mem_iff _ _).1 a2)
  cases k with
  |zero=>cases k' with
   |zero=>rfl
   |succ k'=>simp at h3;subst h3;exact(sub (by simpa using h2) (by simpa using h4)).elim
  |succ k=>cases k' with
   |zero=>simp at h4;subst h4;exact(sub (by simpa using h1) (by simpa using h3)).elim
   |succ k'=>rw[wF (k0':=k0') e1 hn.2 k k' B B' i (by simpa using h1) (by simpa using h2) (by simpa using h3) (by simpa using h4)]
 |some i0::g,.box l::ks,k0,k0',kept,h,hn,k,k',B,B',i,h1,h2,h3,h4=>by
  simp only[eL]at h;split at h
  ·simp only[An,It]at h;obtain⟨b,e0,q,e1,rfl⟩:=h
   have hn:i0∉eA g ks/\(eA g ks).Nodup:=by simpa[eA]using hn
   have sub:∀{k B},q[k]? =some (some B)->g[k]? =some (some i0)->False:=λ{k B} q1 q2=>by
    obtain⟨i',a1,a2,_⟩:=(gZ e1).2 k B q1;rw[q2]at a1;cases a1;exact hn.1 ((mem_iff _ _).1 a2)
   cases k with
   |zero=>cases k' with
    |zero=>rfl
    |succ k'=>simp at h3;subst h3;exact(sub (by simpa using h2) (by simpa using h4)).elim
   |succ k=>cases k' with
    |zero=>simp at h4;subst h4;exact(sub (by simpa using h1) (by simpa using h3)).elim
    |succ k'=>rw[wF (k0':=k0') e1 hn.2 k k' B B' i (by simpa using h1) (by simpa using h2) (by simpa using h3) (by simpa using h4)]
  ·exact nomatch h
 |[],_::_,_,_,_,h,_,_,_,_,_,_,_,_,_,_=>by cases h
 |none::_,[],_,_,_,h,_,_,_,_,_,_,_,_,_,_=>by cases h
 |some _::_,[],_,_,_,h,_,_,_,_,_,_,_,_,_,_=>by cases h
 |none::_,.arr::_,_,_,_,h,_,_,_,_,_,_,_,_,_,_=>by cases h
 |none::_,.box _::_,_,_,_,h,_,_,_,_,_,_,_,_,_,_=>by cases h
theorem l4:∀{gh:List (Option Nat)} {ks:List KD} {k0:Nat} {kept:List (Option Blk)} {j i:Nat},eL H LL G gh ks k0=some kept->(rW gh ks)[j]? =some (some i)->∃B,kept[j]? =some (some B)/\gh[j]? =some (some i)
 |[],_,_,_,j,i,_,h=>by simp[rW]at h
 |og::g,.gone::ks,k0,kept,j,i,h,hj=>by
  simp only[eL,An,It]at h;obtain⟨q,h1,rfl⟩:=h
  cases j with
  |zero=>simp[rW]at hj
  |succ j=>simpa using l4 h1 (by simpa[rW]using hj)
 |some i0::g,.arr::ks,k0,kept,j,i,h,hj=>by
  simp only[eL,An,It]at h;obtain⟨b,h0,q,h1,rfl⟩:=h
  cases j with
  |zero=>simp[rW]at hj;subst hj;exact⟨b,rfl,rfl⟩
  |succ j=>simpa using l4 h1 (by simpa[rW]using hj)
 |some i0::g,.box l::ks,k0,kept,j,i,h,hj=>by
  simp only[eL]at h;split at h
  ·simp only[An,It]at h;obtain⟨b,h0,q,h1,rfl⟩:=h
   cases j with
   |zero=>simp[rW]at hj;subst hj;exact⟨_,rfl,rfl⟩
   |succ j=>simpa using l4 h1 (by simpa[rW]using hj)
  ·exact nomatch h
 |none::_,[],_,_,_,_,h,_=>by cases h
 |some _::_,[],_,_,_,_,h,_=>by cases h
 |none::_,.arr::_,_,_,_,_,h,_=>by cases h
 |none::_,.box _::_,_,_,_,_,h,_=>by cases h
theorem uS {i:Nat}:∀{l:List (Option Nat)} {n k:Nat},posOf i l n=some k->n<=k/\l[k-n]? =some (some i)
 |none::l,n,k,h=>by
  obtain⟨h1,h2⟩:=uS (l:=l) (n:=n+1) h
  exact⟨by omega,by rw[show k-n=(k-(n+1))+1 from by omega];exact h2⟩
 |some j::l,n,k,h=>by
  simp only[posOf]at h;cases hj:Nat.beq j i<;>simp only[hj,cond_true,cond_false,It]at h
  ·obtain⟨h1,h2⟩:=uS h;exact⟨by omega,by rw[show k-n=(k-(n+1))+1 from by omega];exact h2⟩
  ·subst h;exact⟨RJ _,by simp[Rp hj]⟩
theorem D8 {st:St} {rt:RT} {o:kr} {u:Value} (hr:cH st.heap pl w) (h:Lf rt ks st v=some o) (hv:au w st.heap pl v u):
    ∃plM:Pl,cH o.heap plM w/\au w o.heap plM o.v u/\plM.base=pl.base/\o.kept.length=st.gh.length/\
      (∀(k:Nat) (B:Blk),o.kept[k]? =some (some B)->∃i B0,st.gh[k]? =some (some i)/\look st.heap i=some B0/\plM.hdr k=pl.hdr i/\B0.lQ B)/\
      (∀k B p,look o.heap k=some B->plM.fp k p->∃i B0,look st.heap i=some B0/\pl.fp i p):=by
  simp only[Lf,An]at h;obtain⟨s0,hs0,s1,hs1,h⟩:=h;generalize hS:s0++s1=S at h;generalize hLL:eA st.gh ks++jg S=LL at h;cases hnd:nodup LL<;>simp only[hnd,cond_true,cond_false,An,It]at h
  · exact nomatch h
  obtain⟨news,hnews,p,hp,q,hq,rfl⟩:=h;have hnd':=eK hnd;rw[<-hLL,List.nodup_append]at hnd';obtain⟨hk1,hk2⟩:=gZ hq;obtain⟨hb1,hb2⟩:=jJ hnews
  let o:kr:=⟨p.1,q,news⟩
  let plM:=pl.HL st.gh S
  have hm:o.kept.length=st.gh.length:=hk1
  have origin:∀k B,look o.heap k=some B->(k<st.gh.length/\q[k]? =some (some B)/\∃i,st.gh[k]? =some (some i)/\mem i (eA st.gh ks)=true/\plM.hdr k=pl.hdr i/\plM.fp k=pl.fp i)\/
      (st.gh.length<=k/\∃b t oi,S[k-st.gh.length]? =some (b,t,oi)/\sY st.heap LL (b,t,oi)=some B/\plM.hdr k=(pl.res S).hdr (k-st.gh.length)/\plM.fp k=(pl.res S).fp (k-st.gh.length)):=λk B hB=>by
    by_cases c:k<st.gh.length
    · rw[o.ky (by omega)]at hB;obtain⟨ob,e1,e2⟩:=An.1 hB;have e2:ob=some B:=e2;subst e2;obtain⟨i,a1,a2,_⟩:=hk2 k B e1;exact .inl ⟨c,e1,i,a1,a2,by simp only[plM,Pl.HL,if_pos c,a1],by simp only[plM,Pl.HL,if_pos c,a1]⟩
    · rw[o.iw (by omega),hm]at hB;obtain⟨⟨b,t,oi⟩,e1,e2⟩:=hb2 _ _ hB;exact .inr ⟨by omega,b,t,oi,e1,e2,by simp only[plM,Pl.HL,if_neg c],by simp only[plM,Pl.HL,if_neg c]⟩
  have srcIn:∀{k b t i},S[k]? =some (b,t,some i)->mem i LL=true:=λ{k b t i} h=>by
    rw[<-hLL,mem_append,(mem_iff i _).2 (nc h),S5]
  have hro:∀d p,hit LL d=false->okd st.heap pl d p->okd o.heap plM [] p:=λd p hd hok=>by
    refine⟨hok.1,λk B hB _ hf=>?_⟩
    have no:∀{i B0},look st.heap i=some B0->mem i LL=true->pl.fp i p->False:=λ{i B0} hl hi hf=>hok.2 i B0 hl (λhm=>by
      have:=fk LL d hd i hm;rw[hi]at this;exact nomatch this) hf
    rcases origin k B hB with⟨c,e1,i,a1,a2,_,a4⟩|⟨c,b,t,oi,e1,e2,_,a4⟩
    · rw[a4]at hf
      have hi:mem i LL=true:=by rw[<-hLL,mem_append,a2];rfl
      obtain⟨i',a1',_,hor⟩:=hk2 k B e1;rw[a1]at a1';cases a1'
      rcases hor with⟨l,cs,cs',k1,k2,_,hl,_⟩|⟨_,ho⟩
      · exact no hl hi hf
      · unfold pD at ho
        cases hl:look st.heap i with
        |none=>rw[hl]at ho;exact nomatch ho
        |some B0=>exact no hl hi hf
    · rw[a4]at hf
      cases oi with
      |none=>simp[Pl.res,e1]at hf
      | some i =>
        simp only[Pl.res,e1]at hf;obtain⟨sh,xs,hl,_⟩:=cq e2;exact no hl (srcIn e1) hf
  have hown:∀(k:Nat) (b:Bool) (t:Ty) (v:SV) (u:Value),au w st.heap pl v u->((∃i,v=.own i/\S[k]? =some (b,t,some i))\/(v=.cj/\S[k]? =some (b,t,none)))->au w o.heap plM (.own (st.gh.length+k)) u:=λk b t v u hv hc=>by
    have hget:∀{s},S[k]? =some s->∃B,look o.heap (st.gh.length+k)=some B/\sY st.heap LL s=some B:=λ{s} h=>by
      have hlt:k<news.length:=by rw[hb1];exact(Of.1 h).1
      obtain⟨s',h1,h2⟩:=hb2 k _ (On hlt);rw[h]at h1;cases h1;exact⟨_,by rw[o.iw (by omega),hm,RY];exact On hlt,h2⟩
    have eh:plM.hdr (st.gh.length+k)=(pl.res S).hdr k:=by simp only[plM,Pl.HL,if_neg (show¬st.gh.length+k<st.gh.length by omega),RY]
    rcases hc with⟨i,rfl,h⟩|⟨rfl,h⟩
    · obtain⟨B,h1,h2⟩:=hget h;obtain⟨sh,xs,hl,h3⟩:=cq h2
      have e:plM.hdr (st.gh.length+k)=pl.hdr i:=by rw[eh];simp only[Pl.res,h]
      cases hv with
      | own _ sh' t' ys hl' =>
        rw[<-e]
        rcases h3 with⟨_,rfl⟩|⟨d,_,_,rfl⟩
        · exact .own _ none t xs h1
        · exact .own _ (some []) t xs h1
    · obtain⟨B,h1,h2⟩:=hget h
      have e:plM.hdr (st.gh.length+k)=.slice none 0 0:=by rw[eh];simp only[Pl.res,h]
      cases hv with
      | cj =>
        rw[<-e]
        cases b with
        |false=>cases h2;exact .own _ none t [] h1
        |true=>cases h2;exact .own _ (some []) t [] h1
  have hptr:∀i j o' u,posOf i (rW st.gh ks) 0=some j->au w st.heap pl (.ptr i 0 o') u->au w o.heap plM (.ptr j 0 o') u:=λi j o' u hj hv=>by
    obtain⟨_,g1⟩:=uS hj;rw[Sc]at g1;obtain⟨B,g2,g3⟩:=l4 hq g1;have hlt:j<st.gh.length:=(Of.1 g3).1
    have eh:plM.hdr j=pl.hdr i:=by simp only[plM,Pl.HL,if_pos hlt,g3]
    have hl:look o.heap j=some B:=by rw[o.ky (by omega)];show(q[j]?).bind id=some B;rw[g2];rfl
    obtain⟨i',a1',_,hor⟩:=hk2 j B g2;rw[g3]at a1';cases a1'
    cases hv with
    | uq _ _ cs b m0 hlb hh =>
      rcases hor with⟨l,cs1,cs',k1,k2,_,hl1,_,rfl⟩|⟨_,ho⟩
      · exact .uq j o' cs' b m0 hl (eh.trans hh)
      · unfold pD at ho;rw[hlb]at ho;exact nomatch ho
    | sD _ _ _ sh t xs b m0 n cap hlb hx hh =>
      rcases hor with⟨l,cs1,cs',k1,k2,_,hl1,_,rfl⟩|⟨_,ho⟩
      · rw[hlb]at hl1;exact nomatch hl1
      · unfold pD at ho;rw[hlb]at ho
        cases sh with
        |none=>cases ho;exact .sD j 0 o' none t xs b m0 n cap hl hx (eh.trans hh)
        | some d =>
          simp only at ho;cases hd:hit LL d<;>simp only[hd,cond_true,cond_false]at ho
          · cases ho;exact .sD j 0 o' _ t xs b m0 n cap hl hx (eh.trans hh)
          · exact nomatch ho
  have hS0:∀(j:Nat) (x:Bool× Ty× Option Nat),s0[j]? =some x->S[0+j]? =some x:=λj x hx=>by
    rw[<-hS,Rz,Rt (Of.1 hx).1];exact hx
  obtain⟨r1,r2⟩:=Cf (m:=st.gh.length) hr hown hro hptr rt hs0 hS0 (k:=0) (by rw[RZ];exact hp) hv;rw[r2,Rz]at hq
  have hS1:∀(j:Nat) (x:Bool× Ty× Option Nat),s1[j]? =some x->S[s0.length+j]? =some x:=λj x hx=>by
    rw[<-hS,Rs (by omega),RY];exact hx
  have hbx:=s5 hr hown hro hptr hs1 hS1 hq;refine⟨plM,⟨λk B hB=>?_,λk k' B B' p h1 h2 f1 f2=>?_,λk B p hB hf=>?_,hr.nb⟩,r1,rfl,hk1,λk B hB=>?_,λk B p hB hf=>?_⟩
  · rcases origin k B hB with⟨c,e1,i,a1,a2,ah,af⟩|⟨c,b,t,oi,e1,e2,ah,af⟩
    · obtain ⟨i', a1', _, hor⟩ := hk2 k B e1;rw[a1]at a1';cases a1'
      rcases hor with⟨l,cs,cs',k1,k2,_,hl,hol,rfl⟩|⟨_,ho⟩
      · obtain⟨b,off,q1,q2,q3⟩:=hr.blk i _ hl
        have hus:∃us:List Value,cs.length=us.length/\(∀(j:Nat) (u:Value),us[j]? =some u->w.at? (b,off+j)=some u/\calm (w.ez (b,off+j))=true/\one u=true)/\∀(j:Nat) (x:SV) (u:Value),cs[j]? =some x->us[j]? =some u->au w st.heap pl x u:=by
          refine⟨(List.range cs.length).map λj=>(w.at? (b,off+j)).getD undef,by simp,λj u hu=>?_,λj x u hx hu=>?_⟩
          · have hj:j<cs.length:=by have:=(Of.1 hu).1;simpa using this
            obtain⟨u',g1,g2,g3,g4⟩:=q3 j _ (On hj)
            have:u=u':=by
              rw[Sa,On (by simpa using hj)]at hu;simp[g1]at hu;exact hu.symm
            subst this;exact⟨g1,g2,g3⟩
          · obtain⟨u',g1,g2,g3,g4⟩:=q3 j x hx;have hj:j<cs.length:=(Of.1 hx).1
            have:u=u':=by
              rw[Sa,On (by simpa using hj)]at hu;simp[g1]at hu;exact hu.symm
            subst this;exact g4
        obtain⟨us,u1,u2,u3⟩:=hus;obtain⟨g1,g2⟩:=hbx k i cs cs' a1 hl e1 us u1 u3;refine⟨b,off,ah.trans q1,λp=>by rw[af,q2,g1,u1],λj y hy=>?_⟩
        have hj:j<us.length:=by rw[<-g1];exact(Of.1 hy).1
        obtain⟨z1,z2,z3⟩:=u2 j us[j] (On hj);exact⟨us[j],z1,z2,z3,g2 j y _ hy (On hj)⟩
      · unfold pD at ho;split at ho
        · rename_i t xs hl;cases ho;show Nonempty (Row w (fj w) t xs (plM.hdr k) (plM.fp k));rw[ah,af];exact hr.blk i _ hl
        · rename_i d t xs hl;cases hd:hit LL d<;>simp only[hd,cond_true,cond_false]at ho
          · cases ho;obtain⟨⟨a,cap,b,q0,vs,fs,q1,q2,q3,q4,q5,q6,q7,q8,q9⟩⟩:=hr.blk i _ hl;exact⟨⟨a,cap,b,q0,vs,fs,ah.trans q1,q2,q3,q4,q5,λi j r hc=>⟨(q6 i j r hc).1.frame λp u hp hu=>⟨hro d p hd hp,hu⟩,(q6 i j r hc).2⟩,q7,q8,λp=>by rw[af];exact q9 p⟩⟩
          · exact nomatch ho
        · exact nomatch ho
    · cases oi with
      | none =>
        have e:plM.hdr k=.slice none 0 0:=by rw[ah];simp only[Pl.res,e1]
        have ef:plM.fp k=λ_=>False:=by rw[af];simp only[Pl.res,e1]
        have:=Row.nil (w:=w) (t:=t) (xt w o.heap plM (cond b (some []) none));rw[<-e,<-ef]at this
        cases b with
        |false=>cases e2;exact dS.mH this
        |true=>cases e2;exact dS.mH this
      | some i =>
        have e:plM.hdr k=pl.hdr i:=by rw[ah];simp only[Pl.res,e1]
        have ef:plM.fp k=pl.fp i:=by rw[af];simp only[Pl.res,e1]
        obtain⟨sh,xs,hl,h3⟩:=cq e2;have hb:=hr.blk i _ hl
        rcases h3 with⟨rfl,rfl⟩|⟨d,rfl,hd,rfl⟩
        · show Nonempty (Row w (fj w) t xs (plM.hdr k) (plM.fp k));rw[e,ef];exact hb
        · obtain⟨⟨a,cap,b',q0,vs,fs,q1,q2,q3,q4,q5,q6,q7,q8,q9⟩⟩:=hb;exact⟨⟨a,cap,b',q0,vs,fs,e.trans q1,q2,q3,q4,q5,λi j r hc=>⟨(q6 i j r hc).1.frame λp u hp hu=>⟨hro d p hd hp,hu⟩,(q6 i j r hc).2⟩,q7,q8,λp=>by rw[ef];exact q9 p⟩⟩
  · have there:∀{i k B},q[k]? =some (some B)->st.gh[k]? =some (some i)->∃B0,look st.heap i=some B0:=λ{i k B} e1 a1=>by
      obtain⟨i',a1',_,hor⟩:=hk2 k B e1;rw[a1]at a1';cases a1'
      rcases hor with⟨l,cs,cs',k1,k2,_,hl,_⟩|⟨_,ho⟩
      · exact⟨_,hl⟩
      · unfold pD at ho
        cases hl:look st.heap i with
        |none=>rw[hl]at ho;exact nomatch ho
        |some B0=>exact⟨_,rfl⟩
    rcases origin k B h1 with⟨c,e1,i,a1,a2,_,a4⟩|⟨c,b,t,oi,e1,e2,_,a4⟩<;>rcases origin k' B' h2 with⟨c',e1',i',a1',a2',_,a4'⟩|⟨c',b',t',oi',e1',e2',_,a4'⟩
    · rw[a4]at f1;rw[a4']at f2;obtain⟨B0,hl⟩:=there e1 a1;obtain⟨B0',hl'⟩:=there e1' a1';have:=hr.dis i i' _ _ p hl hl' f1 f2;subst this;exact wF (k0':=0) hq hnd'.1 k k' B B' i e1 e1' a1 a1'
    · rw[a4]at f1;rw[a4']at f2
      cases oi' with
      |none=>simp[Pl.res,e1']at f2
      | some i' =>
        simp only[Pl.res,e1']at f2;obtain⟨B0,hl⟩:=there e1 a1;obtain⟨sh,xs,hl',_⟩:=cq e2';have:=hr.dis i i' _ _ p hl hl' f1 f2;subst this;exact(hnd'.2.2 i ((mem_iff _ _).1 a2) i (nc e1') rfl).elim
    · rw[a4]at f1;rw[a4']at f2
      cases oi with
      |none=>simp[Pl.res,e1]at f1
      | some i =>
        simp only[Pl.res,e1]at f1;obtain⟨B0,hl⟩:=there e1' a1';obtain⟨sh,xs,hl',_⟩:=cq e2;have:=hr.dis i' i _ _ p hl hl' f2 f1;subst this;exact(hnd'.2.2 i' ((mem_iff _ _).1 a2') i' (nc e1) rfl).elim
    · rw [a4] at f1;rw[a4']at f2
      cases oi with
      |none=>simp[Pl.res,e1]at f1
      | some i =>
        cases oi' with
        |none=>simp[Pl.res,e1']at f2
        | some i' =>
          simp only[Pl.res,e1]at f1;simp only[Pl.res,e1']at f2;obtain⟨_,_,hl,_⟩:=cq e2;obtain⟨_,_,hl',_⟩:=cq e2';have:=hr.dis i i' _ _ p hl hl' f1 f2;subst this;have:=DU hnd'.2.1 e1 e1';omega
  · rcases origin k B hB with⟨c,e1,i,a1,a2,_,a4⟩|⟨c,b,t,oi,e1,e2,_,a4⟩
    · rw[a4]at hf;obtain⟨i',a1',_,hor⟩:=hk2 k B e1;rw[a1]at a1';cases a1'
      rcases hor with⟨l,cs,cs',k1,k2,_,hl,_⟩|⟨_,ho⟩
      · exact hr.ob i _ p hl hf
      · unfold pD at ho
        cases hl:look st.heap i with
        |none=>rw[hl]at ho;exact nomatch ho
        |some B0=>exact hr.ob i _ p hl hf
    · rw[a4]at hf
      cases oi with
      |none=>simp[Pl.res,e1]at hf
      | some i =>
        simp only[Pl.res,e1]at hf;obtain⟨_,_,hl,_⟩:=cq e2;exact hr.ob i _ p hl hf
  · have hB:q[k]? =some (some B):=hB;obtain⟨i,a1,a2,hor⟩:=hk2 k B hB;have hlt:k<st.gh.length:=(Of.1 a1).1
    have ah:plM.hdr k=pl.hdr i:=by simp only[plM,Pl.HL,if_pos hlt,a1]
    rcases hor with⟨l,cs,cs',k1,k2,_,hl,hol,rfl⟩|⟨_,ho⟩
    · obtain⟨b,off,q1,q2,q3⟩:=hr.blk i _ hl;refine⟨i,_,a1,hl,ah,?_⟩
      obtain⟨g1,_⟩:=hbx k i cs cs' a1 hl hB ((List.range cs.length).map λj=>(w.at? (b,off+j)).getD undef) (by simp) λj x u hx hu=>by
        obtain⟨u',g1,g2,g3,g4⟩:=q3 j x hx;have hj:j<cs.length:=(Of.1 hx).1
        have:u=u':=by
          rw[Sa,On (by simpa using hj)]at hu;simp[g1]at hu;exact hu.symm
        subst this;exact g4
      show cs.length=cs'.length;rw[g1];simp
    · unfold pD at ho;split at ho
      · rename_i t xs hl;cases ho;exact⟨i,_,a1,hl,ah,⟨rfl,rfl⟩⟩
      · rename_i d t xs hl;cases hd:hit LL d<;>simp only[hd,cond_true,cond_false]at ho
        · cases ho;exact⟨i,_,a1,hl,ah,⟨rfl,rfl⟩⟩
        · exact nomatch ho
      · exact nomatch ho
  · rcases origin k B hB with⟨c,e1,i,a1,a2,_,a4⟩|⟨c,b,t,oi,e1,e2,_,a4⟩
    · rw[a4]at hf;obtain⟨i',a1',_,hor⟩:=hk2 k B e1;rw[a1]at a1';cases a1'
      rcases hor with⟨l,cs,cs',k1,k2,_,hl,_⟩|⟨_,ho⟩
      · exact⟨i,_,hl,hf⟩
      · unfold pD at ho
        cases hl:look st.heap i with
        |none=>rw[hl]at ho;exact nomatch ho
        |some B0=>exact⟨i,_,hl,hf⟩
    · rw[a4]at hf
      cases oi with
      |none=>simp[Pl.res,e1]at hf
      | some i =>
        simp only[Pl.res,e1]at hf;obtain⟨_,_,hl,_⟩:=cq e2;exact⟨i,_,hl,hf⟩
end
theorem Act.Ni (a:Act) (t:Nat):a.put (some t) (a.tmps.getD t undef)=a:=by
 unfold Act.put
 have:a.tmps.setIfInBounds t (a.tmps.getD t undef)=a.tmps:=by
  apply Array.ext_getElem?;intro i;rw[Array.getElem?_setIfInBounds];by_cases e:t=i
  ·subst e;rw[if_pos rfl];by_cases h:t<a.tmps.size
   ·rw[if_pos h,RI,RB h];rfl
   ·rw[if_neg h,Tm (by omega)]
  ·rw[if_neg e]
 show({a with tmps:=a.tmps.setIfInBounds t (a.tmps.getD t undef)}:Act)=a;rw[this]
theorem AU {w0:World} {fp0:G0} {bs:Cell->Prop} {m:Nat} {st st':St} {a:Act} {w:World} {t:Nat} (h:Rl w0 fp0 bs m st a w) (ht:Cp t st=some st'):Rl w0 fp0 bs m st' a w:=by
  unfold Cp at ht;split at ht
  · rename_i i n hslot;split at ht
    · rename_i sh ty xs hl;cases hmi:mem i (sh.getD [])<;>rw[hmi]at ht
      rotate_left
      · exact nomatch ht
      rw[cond_false]at ht;obtain⟨pl,hR,hb,hn⟩:=h;have hv:=hR.sl t _ hslot;obtain⟨⟨a0,cap,b,o,vs,fs,q1,q2,q3,q4,q5,q6,q7,q8,q9⟩⟩:=(hR.hr.blk i _ hl).OJ
      have hu:∃a',a.tmps.getD t undef=.slice a' n cap/\(cap=0\/a'=some ⟨b,o,none⟩)/\n<=xs.length:=by
        generalize a.tmps.getD t undef=u at hv
        cases hv with
        | sub _ _ _ sh2 t2 xs2 a1 a2 cap1 cap2 hl2 hh hn1 hc hc' ha =>
          rw[hl]at hl2;cases hl2;rw[q1]at hh;cases hh
          have hcc:cap2=cap:=by omega
          subst hcc;refine⟨a2,rfl,?_,by omega⟩
          rcases ha with h|h
          · exact .inl h
          · rcases q3 with h'|h'
            · exact .inl h'
            · exact .inr (by rw[h,h'];simp[Addr.add])
      obtain⟨a',hu,ha',hnx⟩:=hu;have htake:=ht;simp only[St.take,An,It]at htake;obtain⟨h1,e1,s,h2,rfl⟩:=htake;have hfresh:look st.heap st.nid=none:=hR.fresh st.nid (RJ _)
      have hlen:(xs.take n).length=n:=by rw[R8];omega
      have hT:m7 st.heap (h1++aK st.nid [.arr sh ty (xs.take n)]) ([i],[i]) st.nid (.arr sh ty (xs.take n)):=
        Aq (T:=([i],[i])) (λk hk=>hk) e1 hfresh (jc (T:=([i],[i])) (λk hk=>hk) e1)
      have hmm:mem i [i]=true:=by simp[mem]
      have hin:∀{i' j r},az ty (xs.take n) i' j r->az ty xs i' j r:=λ{i' j r} hx=>by
        obtain⟨x,hx1,hx2⟩:=hx;have hlt:=(Of.1 hx1).1;rw[hlen]at hlt;exact⟨x,by rw[R3,if_pos hlt]at hx1;exact hx1,hx2⟩
      have hst:=jE (hdr:=a.tmps.getD t undef) (fp:=λp=>reg b o (cap*ty.sz) p\/∃i' j r,az ty (xs.take n) i' j r/\fs i' j p) (dJ.refl w) hR.hr hT (λk hk=>hk) (λk hk=>.inl hk) (.inl hfresh) (λp u hp _=>⟨hp,rfl⟩)
        (λp hp=>hR.hr.nb p hp) (λp hp=>.inr ⟨i,_,hmm,hl,(q9 p).2 (hp.elim .inl λ⟨i',j,r,hx,hf⟩=>.inr ⟨i',j,r,hin hx,hf⟩)⟩) (λhk=>dS.mH ⟨a',cap,b,o,vs,fs,by simp[Pl.set,hu,hlen],by rw[hlen];omega,ha',q4,λi' j r hx=>q5 i' j r (hin hx),λi' j r hx=>by
          have hI:=q6 i' j r (hin hx)
          cases sh with
          |none=>exact hI
          | some d =>
            refine⟨hI.1.frame λp u hp hu=>hk.k2 d p u (λx hx=>?_) hp hu,hI.2⟩;have hmi:mem i d=false:=hmi;show mem x [i]=false;simp only[mem];cases hb:Nat.beq i x
            · rfl
            · have:=Rp hb;subst this
              rw[hmi]at hx;exact(nomatch hx),λi' j r p hx hf=>q7 i' j r p (hin hx) hf,λi' j r i2 j2 r2 p hx hx' hf hf'=>q8 _ _ _ _ _ _ p (hin hx) (hin hx') hf hf',λp=>by simp[Pl.set]⟩)
      have hres:=Rel.take hR ht (λk B hB=>by simp[look]at hB) hst (u:=a.tmps.getD t undef) (by
        have:=au.own (w:=w) (H:=h1++aK st.nid [.arr sh ty (xs.take n)]) (pl:=pl.set st.nid (a.tmps.getD t undef) λp=>reg b o (cap*ty.sz) p\/∃i' j r,az ty (xs.take n) i' j r/\fs i' j p) st.nid sh ty (xs.take n) hT.P8
        simpa[Pl.set]using this)
      rw[Act.Ni]at hres;exact⟨_,hres,hb,hn⟩
    · cases ht;exact h
  · cases ht;exact h
theorem D9 {w0:World} {fp0:G0} {bs:Cell->Prop} {m:Nat} {fn:Func} {rt:RT} {st st':St} {a:Act} {w:World} (h:Rl w0 fp0 bs m st a w) (ht:HY fn rt st=some st'):Rl w0 fp0 bs m st' a w:=by
 unfold HY at ht;split at ht
 ·exact AU h ht
 ·exact AU h ht
 ·cases ht;exact h
theorem Ea (ks:List KD) (v:SV) (gh:List (Option Nat)) (k:Nat) (h:k<gh.length):(Cn ks v gh)[k]? =gh[k]? :=by
 unfold Cn;cases Nat.beq ks.length (gh.length+1)
 ·rfl
 ·simp only[cond_true];split
  ·rw[Rt h]
  ·rw[Rt h]
  ·rfl
theorem Lh (ks:List KD) (v:SV) (gh:List (Option Nat)):gh.length<=(Cn ks v gh).length:=by
 unfold Cn;cases Nat.beq ks.length (gh.length+1)
 ·exact RJ _
 ·simp only[cond_true];split
  ·simp
  ·simp
  ·exact RJ _
theorem pE:∀(a b:List (Option Blk)) (n:Nat),nZ n (a++b)=nZ n a++nZ (n+a.length) b
 |[],b,n=>rfl
 |none::a,b,n=>by
  rw[SU,nZ,nZ,pE a b (n+1),RA]
  congr 2;omega
 |some x::a,b,n=>by
  rw[SU,nZ,nZ,pE a b (n+1),RA,SU]
  congr 3;omega
theorem Eb {w:World} {pl:Pl} {ks:List KD} {v:SV} {st:St} {rt:RT} {o:kr} {u:Value} (hr:cH st.heap pl w) (h:D6 rt ks st v=some o) (hv:au w st.heap pl v u):
  ∃plM:Pl,cH o.heap plM w/\au w o.heap plM o.v u/\plM.base=pl.base/\o.kept.length=st.gh.length/\
   (∀(k:Nat) (B:Blk),o.kept[k]? =some (some B)->∃i B0,st.gh[k]? =some (some i)/\look st.heap i=some B0/\plM.hdr k=pl.hdr i/\B0.lQ B)/\
   (∀k B p,look o.heap k=some B->plM.fp k p->∃i B0,look st.heap i=some B0/\pl.fp i p):=by
 simp only[D6,An]at h;obtain⟨o1,h1,h2⟩:=h;obtain⟨plM,m1,m2,m3,m4,m5,m6⟩:=D8 (st:={st with gh:=Cn ks v st.gh}) hr h1 hv;have hal:=Lh ks v st.gh;have m4:o1.kept.length=(Cn ks v st.gh).length:=m4;unfold HX at h2;split at h2
 ·rename_i hd;have h2:=SP h2;subst h2
  have hl:o1.kept.length<=st.gh.length:=by
   have:=congrArg List.length hd;simp at this;omega
  exact⟨plM,m1,m2,m3,by omega,λk B hB=>by
   obtain⟨i,B0,a1,a2⟩:=m5 k B hB;have hk:k<o1.kept.length:=(Of.1 hB).1;have a1:(Cn ks v st.gh)[k]? =some (some i):=a1;rw[Ea ks v st.gh k (by omega)]at a1
   exact⟨i,B0,a1,a2⟩,m6⟩
 ·rename_i b hd;have h2:=SP h2;subst h2
  have hlen:o1.kept.length=st.gh.length+1:=by
   have:=congrArg List.length hd;simp at this;omega
  have hk:o1.kept=o1.kept.take st.gh.length++[some b]:=by
   rw[<-hd,SJ]
  have htl:(o1.kept.take st.gh.length).length=st.gh.length:=by simp;omega
  have hheap:(kr.heap ⟨o1.v,o1.kept.take st.gh.length,b::o1.news⟩)=o1.heap:=by
   unfold kr.heap;show nZ 0 (o1.kept.take st.gh.length)++aK (o1.kept.take st.gh.length).length (b::o1.news)=nZ 0 o1.kept++aK o1.kept.length o1.news
   have e:nZ 0 o1.kept=nZ 0 (o1.kept.take st.gh.length)++nZ (0+(o1.kept.take st.gh.length).length) [some b]:=by
    rw[<-pE,<-hk]
   rw[e,htl,hlen,RM,Rz];rfl
  refine⟨plM,by rw[hheap];exact m1,by rw[hheap];exact m2,m3,htl,λk B hB=>?_,λk B p hB hf=>?_⟩
  ·have hB:(o1.kept.take st.gh.length)[k]? =some (some B):=hB
   have hkl:k<st.gh.length:=by have:=(Of.1 hB).1;omega
   rw[R3,if_pos hkl]at hB;obtain⟨i,B0,a1,a2⟩:=m5 k B hB;have a1:(Cn ks v st.gh)[k]? =some (some i):=a1;rw[Ea ks v st.gh k hkl]at a1;exact⟨i,B0,a1,a2⟩
  ·rw[hheap]at hB;exact m6 k B p hB hf
 ·exact nomatch h2
theorem Li {ρ:Type} {E:Env} (hE:mJ E) {LP:Nat->Ev ρ->Ev ρ} {g:FuncId} {fn:Func} {c:Code} {args:List SV} {bs:List Blk} {r:ρ} {dec:kr->Option ρ} {enc:ρ->kr} (hd:∀o r,dec o=some r->o=enc r)
  (hlen:(enc r).kept.length=bs.length) (hf:E.P.funcs[g]? =some fn) (hc:fn.body=some c)
  (hnm:(fn.name== "runtime.NumGoroutine")=false) (hn:Nat.ble args.length fn.ntmps=true) (hLP:iv E LP 0 c) {rt:RT} {ks:List KD} (h:ev E LP 0 c (J4 fn args bs) (Lg E.P fn rt ks dec)=some r):HS E.P g args bs (enc r):=by
 generalize ho:enc r=out at hlen;refine⟨DF hf (by rw[hc];rfl) hnm,hlen,λw us pl hrel0 hl hargs=>?_⟩;have hn:=RC hn;refine calls_of_wp hf hc ?_
 let g0:G0:=⟨λp=>∃k B,look (aK 0 bs) k=some B/\pl.fp k p,pl.hdr,λk=>bs.getD k (.box [])⟩
 have Qb:Rl w g0 pl.base fn.ntmps (J4 fn args bs) {tmps:=us++Array.replicate (fn.ntmps-us.size) undef,defers:=[]} w:=by
  refine⟨pl,⟨hrel0,λt v hv=>?_,by simp[J4];omega,rfl,λi hi=>uJ (by show 0+bs.length<=i;have hi:bs.length<=i:=hi;omega),dJ.refl w,λp u hp hno=>⟨λi B hB hf=>hno ⟨i,B,hB,hf⟩,hp,rfl⟩,λk i hk=>?_⟩,rfl,rfl⟩
  ·simp only[J4]at hv;rw[Gh,if_pos (R9 _),Sc]at hv
   have ht:t<us.size:=by rw[<-hl];exact(Of.1 hv).1
   have hg:(us++Array.replicate (fn.ntmps-us.size) undef).getD t undef=us[t]:=by
    rw[RI,Ss ht,RB ht];rfl
   rw[hg];exact hargs t v _ hv (RB ht)
  ·obtain⟨rfl,h2⟩:=AR bs.length 0 k hk;rw[Rz];refine⟨h2,λB hB=>⟨rfl,?_⟩⟩;have hB:look (aK 0 bs) k=some B:=hB;rw[bn,if_pos (R9 _),Sc]at hB;show(bs.getD k (.box [])).lQ B;rw[RU,hB];exact B.dh
 refine jt hE c 0 hLP w g0 pl.base fn.ntmps _ _ w _ r _ Qb h λe st' a' w' hK hr''=>?_
 have key:∀st',Rl w g0 pl.base fn.ntmps st' a' w'->∀v,Oa E.P fn st'=some v->D6 rt ks st' v=some out->a'.defers=[]/\∃u,(results fn a'.tmps).run E.P w'=.ok u w'/\∃u' pl',Ending.returned u=.returned u'/\cH out.heap pl' w'/\au w' out.heap pl' out.v u'/\pl'.base=pl.base/\dJ w w'/\
   (∀(k:Nat) (B:Blk),out.kept[k]? =some (some B)->pl'.hdr k=pl.hdr k/\∃B0,bs[k]? =some B0/\B0.lQ B)/\
   (∀p u,w.at? p=some u->(∀k B,look (aK 0 bs) k=some B->¬pl.fp k p)->(∀k B,look out.heap k=some B->¬pl'.fp k p)/\w'.at? p=some u/\w'.ez p=w.ez p):=λst' hr' v hv hcn=>by
  obtain⟨pl1,hr,hb,_⟩:=hr';obtain⟨u,hu,hvr⟩:=HN (P:=E.P) hr.hr hr.sl hv;obtain⟨plM,m1,m2,m3,m4,m5,m6⟩:=Eb hr.hr hcn hvr;refine⟨hr.df,u,hu,u,plM,rfl,m1,m2,m3.trans hb,hr.gr,λk B hB=>?_,λp u hp hno=>?_⟩
  ·obtain⟨i,B0,a1,a2,a3,a4⟩:=m5 k B hB;obtain⟨_,t2⟩:=hr.gk k i a1;obtain⟨t3,t4⟩:=t2 B0 a2
   have hk:k<bs.length:=by rw[<-hlen];exact(Of.1 hB).1
   refine⟨a3.trans t3,bs[k],On hk,?_⟩;have t4:(bs.getD k (.box [])).lQ B0:=t4;rw[RU,On hk]at t4;exact Blk.eI t4 a4
  ·obtain⟨f1,f2,f3⟩:=hr.fr p u hp λ⟨k,B,hB,hf⟩=>hno k B hB hf
   exact⟨λk B hB hf=>by
    obtain⟨i,B0,q1,q2⟩:=m6 k B p hB hf
    exact f1 i B0 q1 q2,f2,f3⟩
 cases e with
 |exit j=>exact nomatch hK
 |normal=>
  simp only[Lg,An]at hK;obtain⟨st2,hst2,v,hv,o,hcn,hdec⟩:=hK
  exact key st2 (D9 hr'' hst2) v hv (hcn.trans (congrArg some ((hd o r hdec).trans ho)))
 |ret=>
  simp only[Lg,An]at hK;obtain⟨st2,hst2,v,hv,o,hcn,hdec⟩:=hK;exact key st2 (D9 hr'' hst2) v hv (hcn.trans (congrArg some ((hd o r hdec).trans ho)))
end
end Go.Proofs.Ev
