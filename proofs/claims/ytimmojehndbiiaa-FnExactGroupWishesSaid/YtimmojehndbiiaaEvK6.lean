/- The evaluator over the model's code, and that it is sound: part 6. -/
import Derived.Test.YtimmojehndbiiaaEvK5
set_option linter.unusedVariables false
set_option linter.unusedSimpArgs false
set_option linter.unusedSectionVars false
namespace Go.Proofs.Ev
section
variable [Tok]
def zO (L:List Nat):List Nat->List Nat
 |[]=>[]
 |i::l=>match placeOf i L 0 with
  |some k=>k::zO L l
  |none=>zO L l
mutual
def SV.ren (L:List Nat):SV->Option SV
 |.r d x=>some (.r (zO L d) x)
 |.cG=>some .cG
 |.gY=>some .gY
 |.own i=>(placeOf i L 0).bind λk=>some (.own k)
 |.sub i o n=>(placeOf i L 0).bind λk=>some (.sub k o n)
 |.bsl i n=>(placeOf i L 0).bind λk=>some (.bsl k n)
 |.ptr i x o=>(placeOf i L 0).bind λk=>some (.ptr k x o)
 |.inn _ _ _=>none
 |.ew d cs=>some (.ew (zO L d) cs)
 |.agg cs=>(rI L cs).bind λl=>some (.agg l)
 |.tup cs=>(rI L cs).bind λl=>some (.tup l)
 |.fn f a b=>(rI L a).bind λa=>(rI L b).bind λb=>some (.fn f a b)
 |.undef=>some .undef
def rI (L:List Nat):List SV->Option (List SV)
 |[]=>some []
 |v::l=>(v.ren L).bind λv=>(rI L l).bind λl=>some (v::l)
end
def Blk.ren (L:List Nat):Blk->Option Blk
 |.box cs=>(rI L cs).bind λl=>some (.box l)
 |.arr none t xs=>some (.arr none t xs)
 |.arr (some d) t xs=>some (.arr (some (zO L d)) t xs)
def gC (h:ar) (L:List Nat):List Nat->Option (List Blk)
 |[]=>some []
 |i::l=>(look h i).bind λb=>(b.ren L).bind λb=>(gC h L l).bind λl=>some (b::l)
def getAll (s:List (Nat× SV)):List Nat->Option (List SV)
 |[]=>some []
 |t::l=>(look s t).bind λv=>(getAll s l).bind λvs=>some (v::vs)
abbrev NF:=List SV× List Blk× List (Option Nat)
def xv (h:ar):List (Option Nat)->List Nat
 |[]=>[]
 |none::l=>xv h l
 |some i::l=>match look h i with
  |some _=>i::xv h l
  |none=>xv h l
def pD (L:List Nat):List (Option Nat)->List (Option Nat)
 |[]=>[]
 |none::l=>none::pD L l
 |some i::l=>placeOf i L 0::pD L l
def norm (bM:List Nat) (st:St):Option NF:=
  (getAll st.aZ bM).bind λvs=>
    let L:=reach st.heap 3 (gZ (gZ [] (vT vs)) (xv st.heap st.gh))
    cond (nodup L) ((rI L vs).bind λvs'=>(gC st.heap L L).bind λbs=>some (vs',bs,pD L st.gh)) none
def BU:List Nat->List SV->List (Nat× SV)
 |t::l,v::vs=>(t,v)::BU l vs
 |_,_=>[]
def bS (bM:List Nat) (n:Nat) (nf:NF):St:={aZ:=BU bM nf.1,heap:=aA 0 nf.2.1,nid:=nf.2.1.length,n:=n,gh:=nf.2.2}
theorem gD {L:List Nat}:{cs l:List SV}->rI L cs=some l->l.length=cs.length
 |[],l,h=>by cases h;rfl
 |v::cs,l,h=>by
  simp only[rI,An,EC]at h;obtain⟨v',hv,l',hl',rfl⟩:=h;simp[gD hl']
section
variable {w:World} {H:ar} {pl:Pl} {L:List Nat} {bs:List Blk}
theorem lC {i:Nat}:∀{L:List Nat} {n:Nat},placeOf i L n=none->i∉L
 |[],_,_=>λh=>nomatch h
 |j::l,n,h=>by
  simp only[placeOf]at h;cases hj:Nat.beq j i<;>simp only[hj,cond_true,cond_false]at h
  ·intro hm
   rcases EZ.1 hm with rfl|hm
   ·simp at hj
   ·exact lC h hm
  ·exact nomatch h
theorem dc {h:ar} {L:List Nat}:∀{l:List Nat} {bs:List Blk},gC h L l=some bs->bs.length=l.length/\
  (∀(k:Nat) (b:Blk),bs[k]? =some b->∃i b0,l[k]? =some i/\look h i=some b0/\b0.ren L=some b)
 |[],bs,e=>by cases e;exact⟨rfl,λk b hb=>by simp at hb⟩
 |i::l,bs,e=>by
  simp only[gC,An,EC]at e;obtain⟨b0,h1,b,h2,l',h3,rfl⟩:=e;obtain⟨g1,g2⟩:=dc h3;refine⟨by simp[g1],λk b' hb=>?_⟩
  cases k with
  |zero=>simp at hb;subst hb;exact⟨i,b0,rfl,h1,h2⟩
  |succ k=>simpa using g2 k b' (by simpa using hb)
theorem fG (hL:gC H L L=some bs) {i k:Nat} (hk:placeOf i L 0=some k) {B:Blk} (hB:look H i=some B):
  L.getD k 0=i/\∃B',look (aA 0 bs) k=some B'/\B.ren L=some B':=by
 obtain⟨_,h2⟩:=en hk;rw[Fg]at h2
 have hlt:k<bs.length:=by rw[(dc hL).1];exact(ED.1 h2).1
 obtain⟨i',b0,e1,e2,e3⟩:=(dc hL).2 k _ (EE hlt);rw[h2]at e1;cases e1;rw[hB]at e2;cases e2;exact⟨by simp[List.getD,h2],_,by rw[aO,if_pos (E9 _),Fg];exact EE hlt,e3⟩
theorem dd (hL:gC H L L=some bs) {k:Nat} {B:Blk} (hB:look (aA 0 bs) k=some B):∃i b0,L[k]? =some i/\L.getD k 0=i/\look H i=some b0/\b0.ren L=some B:=by
 rw[aO,if_pos (E9 _),Fg]at hB;obtain⟨i,b0,h1,h2,h3⟩:=(dc hL).2 k B hB;exact⟨i,b0,h1,by simp[List.getD,h1],h2,h3⟩
theorem fH {L:List Nat} (hn:L.Nodup) {k i:Nat} (h:L[k]? =some i):placeOf i L 0=some k:=by
 cases hp:placeOf i L 0 with
 |none=>exact(lC hp (EP h)).elim
 |some k'=>
  obtain⟨_,h2⟩:=en hp;rw[Fg]at h2;have hlt:=(ED.1 h).1;rw[(List.getElem?_inj hlt hn).1 (h.trans h2.symm)]
theorem uq {L d:List Nat} {k i:Nat} (h:placeOf i L 0=some k) (hd:mem i d=true):mem k (zO L d)=true:=by
 induction d with
 |nil=>exact nomatch hd
 |cons j l ih=>
  simp only[zO];simp only[mem]at hd;cases hj:Nat.beq j i<;>simp only[hj,cond_true,cond_false]at hd
  ·cases placeOf j L 0 with
   |none=>exact ih hd
   |some m=>simp only[mem];cases Nat.beq m k<;>simp[ih hd]
  ·have:j=i:=EF hj;subst this;simp only[h,mem];simp
theorem Blk.xw {b b':Blk} (h:b.ren L=some b'):b'.eR=b.eR:=by
 cases b with
 |box cs=>simp only[Blk.ren,An,EC]at h;obtain⟨_,_,rfl⟩:=h;rfl
 |arr sh t xs=>cases sh<;>(cases h;rfl)
theorem pE (hn:nodup L=true) (hL:gC H L L=some bs) {d:List Nat} {p:Cell} (h:okd H pl d p):okd (aA 0 bs) (pl.out L) (zO L d) p:=by
 refine⟨h.1,λk B hB hm hf=>?_⟩;obtain⟨i,b0,h1,hi,h2,h3⟩:=dd hL hB;simp only[Pl.out,hi]at hf;refine h.2 i b0 h2 (λhd=>?_) hf;rw[<-Blk.xw h3];exact hm (uq (fH (cC hn) h1) hd)
mutual
theorem sT (hn:nodup L=true) (hL:gC H L L=some bs):(v:SV)->{v':SV}->{u:Value}->v.ren L=some v'->ab w H pl v u->ab w (aA 0 bs) (pl.out L) v' u
 |.r d x,v',u,h,hv=>by
  cases h
  cases hv with
  |r _ _ _ hx=>exact .r _ _ _ (hx.frame λp u hp hu=>⟨pE hn hL hp,hu⟩)
 |.cG,v',u,h,hv=>by cases h;cases hv;exact .cG
 |.gY,v',u,h,hv=>by cases h;cases hv;exact .gY
 |.own i,v',u,h,hv=>by
  simp only[SV.ren,An,EC]at h;obtain⟨k,hk,rfl⟩:=h
  cases hv with
  |own _ sh t xs hl=>
   obtain⟨hi,B',g1,g2⟩:=fG hL hk hl
   have e:(pl.out L).hdr k=pl.hdr i:=by simp only[Pl.out,hi]
   rw[<-e]
   cases sh with
   |none=>cases g2;exact .own k none t xs g1
   |some d=>cases g2;exact .own k _ t xs g1
 |.sub i o n,v',u,h,hv=>by
  simp only[SV.ren,An,EC]at h;obtain⟨k,hk,rfl⟩:=h
  cases hv with
  |sub _ _ _ sh t xs a a' cap dB hl hh h1 h2 h3 h4=>
   obtain⟨hi,B',g1,g2⟩:=fG hL hk hl
   have e:(pl.out L).hdr k=pl.hdr i:=by simp only[Pl.out,hi]
   cases sh with
   |none=>cases g2;exact .sub k o n none t xs a a' cap dB g1 (e.trans hh) h1 h2 h3 h4
   |some d=>cases g2;exact .sub k o n _ t xs a a' cap dB g1 (e.trans hh) h1 h2 h3 h4
 |.bsl i n,v',u,h,hv=>by
  simp only[SV.ren,An,EC]at h;obtain⟨k,hk,rfl⟩:=h
  cases hv with
  |bsl _ _ cs a hl hh=>
   obtain⟨hi,B',g1,g2⟩:=fG hL hk hl
   have e:(pl.out L).hdr k=pl.hdr i:=by simp only[Pl.out,hi]
   simp only[Blk.ren,An,EC]at g2;obtain⟨l,hl',rfl⟩:=g2
   exact .bsl k n l a g1 (e.trans hh)
 |.ptr i x o,v',u,h,hv=>by
  simp only[SV.ren,An,EC]at h;obtain⟨k,hk,rfl⟩:=h
  cases hv with
  |kK _ _ cs b m hl hh=>
   obtain⟨hi,B',g1,g2⟩:=fG hL hk hl
   have e:(pl.out L).hdr k=pl.hdr i:=by simp only[Pl.out,hi]
   simp only[Blk.ren,An,EC]at g2;obtain⟨l,hl',rfl⟩:=g2
   exact .kK k o l b m g1 (e.trans hh)
  |jJ _ _ _ sh t xs b m n cap hl hx hh=>
   obtain⟨hi,B',g1,g2⟩:=fG hL hk hl
   have e:(pl.out L).hdr k=pl.hdr i:=by simp only[Pl.out,hi]
   cases sh with
   |none=>cases g2;exact .jJ k x o none t xs b m n cap g1 hx (e.trans hh)
   |some d=>cases g2;exact .jJ k x o _ t xs b m n cap g1 hx (e.trans hh)
 |.inn _ _ _,v',u,h,hv=>by cases h
 |.ew d cs,v',u,h,hv=>by
  cases h
  cases hv with
  |ew _ _ b o vs h1 h2=>exact .ew _ _ b o vs (λj r hj=>⟨pE hn hL (h1 j r hj).1,(h1 j r hj).2⟩) λj r hj=>(h2 j r hj).frame λp u hp hu=>⟨pE hn hL hp,hu⟩
 |.agg cs,v',u,h,hv=>by
  simp only[SV.ren,An,EC]at h;obtain⟨l,hl,rfl⟩:=h
  cases hv with
  |agg _ vs h1 h2 h3=>
   obtain⟨g1,g2⟩:=j9 hn hL cs hl vs.toList (by simpa using h1) λj x u hx hu=>h3 j x u hx (by simpa using hu)
   exact .agg _ _ (by simpa using g1) h2 λj x u hx hu=>g2 j x u hx (by simpa using hu)
 |.tup cs,v',u,h,hv=>by
  simp only[SV.ren,An,EC]at h;obtain⟨l,hl,rfl⟩:=h
  cases hv with
  |tup _ vs h1 h3=>
   obtain⟨g1,g2⟩:=j9 hn hL cs hl vs.toList (by simpa using h1) λj x u hx hu=>h3 j x u hx (by simpa using hu)
   exact .tup _ _ (by simpa using g1) λj x u hx hu=>g2 j x u hx (by simpa using hu)
 |.fn f as bs',v',u,h,hv=>by
  simp only[SV.ren,An,EC]at h;obtain⟨l,hl,l',hl',rfl⟩:=h
  cases hv with
  |fn _ _ _ us vs h1 h3 h1' h3'=>
   obtain⟨g1,g2⟩:=j9 hn hL as hl us.toList (by simpa using h1) λj x u hx hu=>h3 j x u hx (by simpa using hu);obtain⟨g3,g4⟩:=j9 hn hL bs' hl' vs.toList (by simpa using h1') λj x u hx hu=>h3' j x u hx (by simpa using hu)
   exact .fn _ _ _ _ _ (by simpa using g1) (λj x u hx hu=>g2 j x u hx (by simpa using hu)) (by simpa using g3) λj x u hx hu=>g4 j x u hx (by simpa using hu)
 |.undef,v',u,h,hv=>by cases h;exact .undef _
theorem j9 (hn:nodup L=true) (hL:gC H L L=some bs):(cs:List SV)->{l:List SV}->rI L cs=some l->(us:List Value)->cs.length=us.length->
  (∀(j:Nat) (x:SV) (u:Value),cs[j]? =some x->us[j]? =some u->ab w H pl x u)->
  l.length=us.length/\∀(j:Nat) (x:SV) (u:Value),l[j]? =some x->us[j]? =some u->ab w (aA 0 bs) (pl.out L) x u
 |[],l,h,us,hl,_=>by cases h;exact⟨hl,λj x u hx _=>by simp at hx⟩
 |v::cs,l,h,u::us,hl,hp=>by
  simp only[rI,An,EC]at h;obtain⟨v',hv,l',hl',rfl⟩:=h;obtain⟨g1,g2⟩:=j9 hn hL cs hl' us (by simpa using hl) λj x u hx hu=>hp (j+1) x u (by simpa using hx) (by simpa using hu);refine⟨by simp[g1],λj x u' hx hu=>?_⟩
  cases j with
  |zero=>simp at hx hu;subst hx hu;exact sT hn hL v hv (hp 0 v u rfl rfl)
  |succ j=>exact g2 j x u' (by simpa using hx) (by simpa using hu)
end
theorem pF {cs l:List SV} (h:rI L cs=some l):∀(j:Nat) (x:SV),l[j]? =some x->∃y,cs[j]? =some y/\y.ren L=some x:=by
 induction cs generalizing l with
 |nil=>cases h;intro j x hx;simp at hx
 |cons v cs ih=>
  simp only[rI,An,EC]at h;obtain⟨v',hv,l',hl',rfl⟩:=h;intro j x hx
  cases j with
  |zero=>simp at hx;subst hx;exact⟨v,rfl,hv⟩
  |succ j=>simpa using ih hl' j x (by simpa using hx)
theorem zP (hr:bC H pl w) (hn:nodup L=true) (hL:gC H L L=some bs):bC (aA 0 bs) (pl.out L) w:=by
 refine⟨λk B hB=>?_,λk k' B B' p h1 h2 f1 f2=>?_,λk B p hB hf=>?_,hr.nb⟩
 ·obtain⟨i,b0,h1,hi,h2,h3⟩:=dd hL hB;have hb:=hr.blk i b0 h2
  have eh:(pl.out L).hdr k=pl.hdr i:=by simp only[Pl.out,hi]
  have ef:(pl.out L).fp k=pl.fp i:=by simp only[Pl.out,hi]
  cases b0 with
  |box cs=>
   simp only[Blk.ren,An,EC]at h3;obtain⟨l,hl,rfl⟩:=h3;obtain⟨b,o,q1,q2,q3⟩:=hb;refine⟨b,o,eh.trans q1,λp=>by rw[ef,q2,gD hl],λj v hv=>?_⟩;obtain⟨y,hy,hy2⟩:=pF hl j v hv;obtain⟨u,g1,g2,g3,g4⟩:=q3 j y hy
   exact⟨u,g1,g2,g3,sT hn hL y hy2 g4⟩
  |arr sh t xs=>
   cases sh with
   |none=>
    cases h3;show Nonempty (Row w (cS w) t xs ((pl.out L).hdr k) ((pl.out L).fp k))
    rw[eh,ef];exact hb
   |some d=>
    cases h3;obtain⟨⟨a,cap,b,o,vs,fs,q1,q2,q3,q4,q5,q6,q7,q8,q9⟩⟩:=hb;exact⟨⟨a,cap,b,o,vs,fs,eh.trans q1,q2,q3,q4,q5,λi j r hc=>⟨(q6 i j r hc).1.frame λp u hp hu=>⟨pE hn hL hp,hu⟩,(q6 i j r hc).2⟩,q7,q8,λp=>by rw[ef];exact q9 p⟩⟩
 ·obtain⟨i,b0,g1,hi,g2,g3⟩:=dd hL h1;obtain⟨i',b0',g1',hi',g2',g3'⟩:=dd hL h2;simp only[Pl.out,hi]at f1;simp only[Pl.out,hi']at f2;have:=hr.dis i i' b0 b0' p g2 g2' f1 f2;subst this;exact(List.getElem?_inj (ED.1 g1).1 (cC hn)).1 (g1.trans g1'.symm)
 ·obtain⟨i,b0,g1,hi,g2,g3⟩:=dd hL hB;simp only[Pl.out,hi]at hf;exact hr.ob i b0 p g2 hf
theorem oe {s:List (Nat× SV)}:∀{l:List Nat} {vs:List SV},getAll s l=some vs->vs.length=l.length/\∀(j t:Nat),l[j]? =some t->∃v,vs[j]? =some v/\look s t=some v
 |[],vs,h=>by cases h;exact⟨rfl,λj t ht=>by simp at ht⟩
 |t::l,vs,h=>by
  simp only[getAll,An,EC]at h;obtain⟨v,hv,vs',hvs,rfl⟩:=h;obtain⟨g1,g2⟩:=oe hvs;refine⟨by simp[g1],λj t' ht=>?_⟩
  cases j with
  |zero=>simp at ht;subst ht;exact⟨v,rfl,hv⟩
  |succ j=>simpa using g2 j t' (by simpa using ht)
theorem qM:∀{l:List Nat} {vs:List SV} {t:Nat} {v:SV},look (BU l vs) t=some v->∃j:Nat,l[j]? =some t/\vs[j]? =some v
 |[],_,t,v,h=>by simp[BU,look]at h
 |_::_,[],t,v,h=>by simp[BU,look]at h
 |k::l,x::vs,t,v,h=>by
  rw[BU,ag]at h;by_cases e:k=t
  ·rw[if_pos e]at h;cases h;exact⟨0,by simp[e],rfl⟩
  ·rw[if_neg e]at h;obtain⟨j,h1,h2⟩:=qM h;exact⟨j+1,by simpa using h1,by simpa using h2⟩
end
theorem Blk.pG {L:List Nat} {b b':Blk} (h:b.ren L=some b'):b.fg b':=by
 cases b with
 |box cs=>
  simp only[Blk.ren,An,EC]at h;obtain⟨l,h1,rfl⟩:=h
  exact(gD h1).symm
 |arr sh t xs=>cases sh<;>(cases h;exact⟨rfl,rfl⟩)
theorem mP {L:List Nat}:∀{gh:List (Option Nat)} {k i:Nat},(pD L gh)[k]? =some (some i)->∃j,gh[k]? =some (some j)/\placeOf j L 0=some i
 |[],k,i,h=>by simp[pD]at h
 |none::l,k,i,h=>by
  cases k with
  |zero=>simp[pD]at h
  |succ k=>simpa using mP (gh:=l) (by simpa[pD]using h)
 |some j::l,k,i,h=>by
  cases k with
  |zero=>simp[pD]at h;exact⟨j,rfl,h⟩
  |succ k=>simpa using mP (gh:=l) (by simpa[pD]using h)
theorem sX {w0:World} {fp0:G0} {bs:Cell->Prop} {n:Nat} {bM:List Nat} {st:St} {nf:NF} {a:Act} {w:World} (h:Rl w0 fp0 bs n st a w) (hn:norm bM st=some nf):
  Rl w0 fp0 bs n (bS bM n nf) a w:=by
 obtain⟨pl,hr,hb,hnn⟩:=h;simp only[norm,An]at hn;obtain⟨vs,hvs,hn⟩:=hn;generalize reach st.heap 3 (gZ (gZ [] (vT vs)) (xv st.heap st.gh))=L at hn;cases hnd:nodup L<;>simp only[hnd,cond_true,cond_false,An,EC]at hn
 ·exact nomatch hn
 ·obtain⟨vs',Ep,bs',hbs,rfl⟩:=hn;refine⟨pl.out L,⟨zP hr.hr hnd hbs,λt v hv=>?_,hr.sz.trans hnn,hr.df,λi hi=>?_,hr.gr,λp u hp hno=>?_,λk i hk=>?_⟩,hb,rfl⟩
  ·obtain⟨j,h1,h2⟩:=qM hv;obtain⟨x,h3,h4⟩:=(oe hvs).2 j t h1;obtain⟨y,h5,h6⟩:=pF Ep j v h2;rw[h3]at h5;cases h5;exact sT hnd hbs x h6 (hr.sl t x h4)
  ·show look (aA 0 bs') i=none;rw[aO,if_pos (E9 _),Fg];exact Fq hi
  ·obtain⟨g1,g2,g3⟩:=hr.fr p u hp hno;refine⟨λk B hB hf=>?_,g2,g3⟩;obtain⟨i,b0,_,hi,e2,_⟩:=dd hbs hB;simp only[Pl.out,hi]at hf;exact g1 i b0 e2 hf
  ·obtain⟨j,h1,h2⟩:=mP hk;obtain⟨q1,q2⟩:=hr.gk k j h1;obtain⟨p1,p2⟩:=en h2;rw[Fg]at p2
   have hlt:i<bs'.length:=by rw[(dc hbs).1];exact(ED.1 p2).1
   refine⟨hlt,λB hB=>?_⟩;obtain⟨i',b0,g1,g2,g3,g4⟩:=dd hbs hB;rw[p2]at g1;cases g1;obtain⟨r1,r2⟩:=q2 b0 g3;exact⟨by simp only[Pl.out,g2];exact r1,Blk.cy r2 (Blk.pG g4)⟩
def eZ (bM:List Nat) (co:List (cu× Co)) (st:St):Option NF:=
 match co with
 |[]=>norm bM st
 |_=>(norm bM st).bind λnf=>norm bM (wo co (bS bM st.n nf))
theorem fo {w0:World} {fp0:G0} {bs:Cell->Prop} {n:Nat} {bM:List Nat} {co:List (cu× Co)} {st:St} {nf:NF} {a:Act} {w:World} (h:Rl w0 fp0 bs n st a w) (hn:eZ bM co st=some nf):
  Rl w0 fp0 bs n (bS bM n nf) a w:=by
 unfold eZ at hn;split at hn
 ·exact sX h hn
 ·simp only[An]at hn;obtain⟨nf1,h1,h2⟩:=hn;obtain⟨_,_,_,hnn⟩:=id h;rw[hnn]at h2;have:=lT co (sX h h1);exact sX this h2
section
variable {ρ:Type}
def sY (body:Ev ρ) (bM:List Nat) (co:List (cu× Co)) (kx:Ex->List Nat) (cx:Ex->List (cu× Co)):Nat->Ev ρ
 |0,_,_=>none
 |k+1,st,K=>body st λe st'=>match e with
  |.normal=>(eZ bM co st').bind λnf=>sY body bM co kx cx k (bS bM st'.n nf) K
  |e=>(eZ (kx e) (cx e) st').bind λnf=>K e (bS (kx e) st'.n nf)
theorem Rl.Db {w0:World} {fp0:G0} {bs:Cell->Prop} {n:Nat} {st:St} {a:Act} {w:World} (h:Rl w0 fp0 bs n st a w):st.n=n:=by
 obtain⟨_,_,_,h⟩:=h;exact h
theorem sZ {P:Program} {c:Code} {f:Ev ρ} (hf:Sound P c f) (bM:List Nat) (co:List (cu× Co)) (kx:Ex->List Nat) (cx:Ex->List (cu× Co)) (k:Nat):Sound P (.loop c) (sY f bM co kx cx k):=by
 intro w0 fp0 bs n st a w K out Q hr h hK;refine wp_loop_rounds k ?_
 induction k generalizing st a w with
 |zero=>exact nomatch h
 |succ k ih=>
  rw[rounds_succ]
  exact hf w0 fp0 bs n st a w _ out _ hr h λe st' a' w' h' hr'=>by
   have hn:=hr'.Db
   cases e with
   |normal=>
    simp only[An]at h';obtain⟨nf,h1,h2⟩:=h';rw[hn]at h2
    exact ih _ a' w' (fo hr' h1) h2
   |exit j=>
    simp only[An]at h';obtain⟨nf,h1,h2⟩:=h';rw[hn]at h2
    exact hK (.exit j) _ a' w' h2 (fo hr' h1)
   |ret=>
    simp only[An]at h';obtain⟨nf,h1,h2⟩:=h';rw[hn]at h2;exact hK .ret _ a' w' h2 (fo hr' h1)
def bej {α β:Type} (f:α->β) (k:α):β:=f k
def iter {V R:Type} (g:V->(V->Option R)->Option R):Nat->V->Option R
 |0,_=>none
 |k+1,v=>g v (iter g k)
def e8 {V:Type} (bM:List Nat) (co:List (cu× Co)) (dec:Nat->NF->Option V) (run:V->(Ex->St->Option ρ)->Option ρ):Ev ρ:=λst K=>
 (eZ bM co st).bind λnf=>(dec st.n nf).bind λv=>run v K
theorem pH {P:Program} {c:Code} {f:Ev ρ} {V:Type} (hf:Sound P c f) {bM:List Nat} {co:List (cu× Co)} (kx:Ex->List Nat) (cx:Ex->List (cu× Co)) {dec:Nat->NF->Option V} {run:V->(Ex->St->Option ρ)->Option ρ}
  {tm:V->St} (k:Nat) (hd:∀n nf v,dec n nf=some v->bS bM n nf=tm v)
  (hrun:∀v K,run v K=sY f bM co kx cx k (tm v) K):Sound P (.loop c) (e8 bM co dec run):=by
 intro w0 fp0 bs n st a w K out Q hr h hK;simp only[e8,An]at h;obtain⟨nf,h1,v,h2,h3⟩:=h;have hn:=hr.Db;rw[hn]at h2;rw[hrun v K,<-hd n nf v h2]at h3;exact sZ hf bM co kx cx k w0 fp0 bs n _ a w K out Q (fo hr h1) h3 hK
theorem la {V:Type} {f:Ev ρ} {bM:List Nat} {co:List (cu× Co)} {kx:Ex->List Nat} {cx:Ex->List (cu× Co)} {tm:V->St} {g:V->(V->Option ρ)->(Ex->St->Option ρ)->Option ρ}
    (hg:∀(v:V) (K K1:Ex->St->Option ρ) (next:V->Option ρ),(∀v',(K1 .normal (tm v'))=next v')->
      f (tm v) (λe st'=>match e with
        |.normal=>(eZ bM co st').bind λnf=>K1 .normal (bS bM st'.n nf)
        |e=>(eZ (kx e) (cx e) st').bind λnf=>K e (bS (kx e) st'.n nf))=g v next K) (K:Ex->St->Option ρ):
    ∀(k:Nat) (v:V),sY f bM co kx cx k (tm v) K=iter (λv next=>g v next K) k v
  |0,v=>rfl
  | k + 1, v => by
    show f (tm v) _=g v (iter (λv next=>g v next K) k) K;exact hg v K (λ_ st=>sY f bM co kx cx k st K) _ λv'=>la hg K k v'
end
end
section
variable [Tok]
structure jK where
 v:SV
 kept:List (Option Blk)
 news:List Blk
def gE:Nat->List (Option Blk)->ar
 |_,[]=>[]
 |n,none::l=>gE (n+1) l
 |n,some b::l=>(n,b)::gE (n+1) l
def jK.heap (o:jK):ar:=gE 0 o.kept++aA o.kept.length o.news
theorem iX:∀(l:List (Option Blk)) (n i:Nat),look (gE n l) i=if n<=i then(l[i-n]?).bind id else none
 |[],n,i=>by simp[gE,look]
 |none::l,n,i=>by
  rw[gE,iX l (n+1) i];by_cases c:n+1<=i
  ·rw[if_pos c,if_pos (by omega),show i-n=(i-(n+1))+1 from by omega];rfl
  ·rw[if_neg c];by_cases c2:n<=i
   ·rw[if_pos c2,show i-n=0 from by omega];rfl
   ·rw[if_neg c2]
 |some b::l,n,i=>by
  rw[gE,ag,iX l (n+1) i];by_cases c0:n=i
  ·subst c0;simp
  ·rw[if_neg c0];by_cases c:n+1<=i
   ·rw[if_pos c,if_pos (by omega),show i-n=(i-(n+1))+1 from by omega];rfl
   ·rw[if_neg c,if_neg (by omega)]
theorem jK.lX (o:jK) {k:Nat} (h:k<o.kept.length):look o.heap k=(o.kept[k]?).bind id:=by
 rw[jK.heap,ao,iX,if_pos (E9 _),Fg,aO,if_neg (by omega),Fo]
theorem jK.ka (o:jK) {k:Nat} (h:o.kept.length<=k):look o.heap k=o.news[k-o.kept.length]? :=by
 rw[jK.heap,ao,iX,if_pos (E9 _),Fg,aO,if_pos h,Fq h];rfl
def ur (P:Program) (g:FuncId) (args:List SV) (bs:List Blk) (o:jK):Prop:=
 qu P g/\o.kept.length=bs.length/\∀(w:World) (us:Array Value) (pl:Pl),bC (aA 0 bs) pl w->args.length=us.size->
  (∀(j:Nat) (x:SV) (u:Value),args[j]? =some x->us[j]? =some u->ab w (aA 0 bs) pl x u)->
  Calls P g us w λe w'=>∃u pl',e=.returned u/\bC o.heap pl' w'/\ab w' o.heap pl' o.v u/\pl'.base=pl.base/\b7 w w'/\
   (∀(k:Nat) (B:Blk),o.kept[k]? =some (some B)->pl'.hdr k=pl.hdr k/\∃B0,bs[k]? =some B0/\B0.fg B)/\
   (∀p u,w.at? p=some u->(∀k B,look (aA 0 bs) k=some B->¬pl.fp k p)->(∀k B,look o.heap k=some B->¬pl'.fp k p)/\w'.at? p=some u/\w'.cg p=w.cg p)
abbrev MG:=(ρ:Type)->List SV->List Blk->(jK->Option ρ)->Option ρ
def xx (P:Program) (g:FuncId) (G:MG):Prop:=
 ∀(ρ:Type) args bs (K:jK->Option ρ) (out:ρ),G ρ args bs K=some out->∃o,K o=some out/\ur P g args bs o
def nu (f:Blk->Blk):List Nat->List (Option Blk)->ar
 |i::L,some b::l=>(i,f b)::nu f L l
 |_::L,none::l=>nu f L l
 |_,_=>[]
def fh:List Nat->List (Option Blk)->List Nat
 |_::L,some _::l=>fh L l
 |i::L,none::l=>i::fh L l
 |_,_=>[]
def fX:List Nat->List (Option Blk)->List Nat
 |i::L,some (.arr _ _ _)::l=>i::fX L l
 |_::L,some (.box _)::l=>fX L l
 |_::L,none::l=>fX L l
 |_,_=>[]
def bk (L:List Nat) (nid m k:Nat):Nat:=cond (Nat.ble (k+1) m) (L.getD k 0) (nid+(k-m))
def bkL (L:List Nat) (nid m:Nat):List Nat->List Nat
 |[]=>[]
 |k::l=>bk L nid m k::bkL L nid m l
mutual
def SV.back (L:List Nat) (nid m:Nat) (D:List Nat):SV->SV
 |.r d x=>mkR (bkL L nid m d++D) x
 |.cG=>.cG
 |.gY=>.gY
 |.own k=>.own (bk L nid m k)
 |.ptr k 0 o=>.ptr (bk L nid m k) 0 o
 |.agg cs=>.agg (gV L nid m D cs)
 |.tup cs=>.tup (gV L nid m D cs)
 |.fn f a b=>.fn f (gV L nid m D a) (gV L nid m D b)
 |_=>.undef
def gV (L:List Nat) (nid m:Nat) (D:List Nat):List SV->List SV
 |[]=>[]
 |v::l=>v.back L nid m D::gV L nid m D l
end
def Blk.back (L:List Nat) (nid m:Nat) (D:List Nat):Blk->Blk
 |.box cs=>.box (gV L nid m D cs)
 |.arr none t xs=>.arr none t xs
 |.arr (some d) t xs=>.arr (some (bkL L nid m d++D)) t xs
def mQ (L:List Nat) (nid m:Nat) (D:List Nat):List Blk->List Blk
 |[]=>[]
 |b::l=>b.back L nid m D::mQ L nid m D l
def BV (L:List Nat):List Nat->List Nat
 |[]=>[]
 |i::l=>cond (mem i L) (BV L l) (i::BV L l)
mutual
def SV.CE:SV->List Nat
 |.r d _=>d
 |.ew d _=>d
 |.agg cs=>jd cs
 |.tup cs=>jd cs
 |.fn _ a b=>jd a++jd b
 |_=>[]
def jd:List SV->List Nat
 |[]=>[]
 |v::l=>v.CE++jd l
end
def xy:Blk->List Nat
 |.box cs=>jd cs
 |.arr none _ _=>[]
 |.arr (some d) _ _=>d
def lb (h:ar):List Nat->List Nat
 |[]=>[]
 |i::l=>match look h i with
  |some b=>xy b++lb h l
  |none=>lb h l
def nd (L D:List Nat):List Nat->Bool
 |[]=>true
 |i::l=>cond (mem i L||mem i D) (nd L D l) false
def cb (L:List Nat) (nid m c i:Nat):Option Nat:=
 match placeOf i L 0 with
 |some k=>some k
 |none=>if nid<=i/\i<nid+c then some (m+(i-nid))else none
def kE (H:ar) (pl:Pl) (L D:List Nat):Pl:=
 ⟨λk=>pl.hdr (L.getD k 0),λk=>pl.fp (L.getD k 0),λp=>pl.base p/\∀i B,look H i=some B->mem i L=false->(mem i D=true->B.eR=true)->¬pl.fp i p⟩
def cR (pl pl':Pl) (L:List Nat) (nid m c:Nat):Pl:=
 ⟨λi=>match cb L nid m c i with|some k=>pl'.hdr k|none=>pl.hdr i,λi=>match cb L nid m c i with|some k=>pl'.fp k|none=>pl.fp i,pl.base⟩
theorem zQ {L D:List Nat} {i:Nat} (h:mem i (BV L D)=true):mem i L=false:=by
 induction D with
 |nil=>exact nomatch h
 |cons k l ih=>
  simp only[BV]at h;cases hk:mem k L<;>simp only[hk,cond_true,cond_false]at h
  ·simp only[mem]at h;cases hb:Nat.beq k i<;>simp only[hb,cond_true,cond_false]at h
   ·exact ih h
   ·rw[<-EF hb];exact hk
  ·exact ih h
theorem qN {L D:List Nat}:∀{d:List Nat},nd L D d=true->∀i,mem i d=true->mem i L=true\/mem i D=true
 |[],_,i,h=>nomatch h
 |k::l,hs,i,h=>by
  simp only[nd]at hs;cases hk:(mem k L||mem k D)<;>simp only[hk,cond_true,cond_false]at hs
  ·exact nomatch hs
  ·simp only[mem]at h;cases hb:Nat.beq k i<;>simp only[hb,cond_true,cond_false]at h
   ·exact qN hs i h
   ·rw[<-EF hb];simpa using hk
theorem dk {L D:List Nat}:∀{a b:List Nat},nd L D (a++b)=true->nd L D a=true/\nd L D b=true
 |[],b,h=>⟨rfl,h⟩
 |k::l,b,h=>by
  simp only[FI,nd]at h;cases hk:(mem k L||mem k D)<;>simp only[hk,cond_true,cond_false]at h
  ·exact nomatch h
  ·obtain⟨h1,h2⟩:=dk h;exact⟨by simp only[nd,hk,cond_true];exact h1,h2⟩
theorem mR {L:List Nat} {i k:Nat} (h:placeOf i L 0=some k):mem i L=true:=(mem_iff i L).2 (EP (by have:=(en h).2;simpa using this))
section
variable {w:World} {H:ar} {pl:Pl} {L D:List Nat} {bs:List Blk}
theorem lY (hn:nodup L=true) (hL:gC H L L=some bs) {d:List Nat} {p:Cell} (hd:nd L D d=true) (h:okd H pl d p):okd (aA 0 bs) (kE H pl L D) (zO L d) p:=by
 refine⟨⟨h.1,λi B hB hm hf=>h.2 i B hB λhi=>?_⟩,λk B hB hm hf=>?_⟩
 ·rcases qN hd i hi with h1|h1
  ·rw[hm]at h1;exact nomatch h1
  ·exact hf h1
 ·obtain⟨i,b0,h1,hi,h2,h3⟩:=dd hL hB;simp only[kE,hi]at hf;refine h.2 i b0 h2 (λhd=>?_) hf;rw[<-Blk.xw h3];exact hm (uq (fH (cC hn) h1) hd)
mutual
theorem uu (hn:nodup L=true) (hL:gC H L L=some bs):(v:SV)->{v':SV}->{u:Value}->nd L D v.CE=true->v.ren L=some v'->ab w H pl v u->ab w (aA 0 bs) (kE H pl L D) v' u
 |.r d x,v',u,hd,h,hv=>by
  cases h
  cases hv with
  |r _ _ _ hx=>exact .r _ _ _ (hx.frame λp u hp hu=>⟨lY hn hL hd hp,hu⟩)
 |.cG,v',u,hd,h,hv=>by cases h;cases hv;exact .cG
 |.gY,v',u,hd,h,hv=>by cases h;cases hv;exact .gY
 |.own i,v',u,hd,h,hv=>by
  simp only[SV.ren,An,EC]at h;obtain⟨k,hk,rfl⟩:=h
  cases hv with
  |own _ sh t xs hl=>
   obtain⟨hi,B',g1,g2⟩:=fG hL hk hl
   have e:(kE H pl L D).hdr k=pl.hdr i:=by simp only[kE,hi]
   rw[<-e]
   cases sh with
   |none=>cases g2;exact .own k none t xs g1
   |some d=>cases g2;exact .own k _ t xs g1
 |.sub i o n,v',u,hd,h,hv=>by
  simp only[SV.ren,An,EC]at h;obtain⟨k,hk,rfl⟩:=h
  cases hv with
  |sub _ _ _ sh t xs a a' cap dB hl hh h1 h2 h3 h4=>
   obtain⟨hi,B',g1,g2⟩:=fG hL hk hl
   have e:(kE H pl L D).hdr k=pl.hdr i:=by simp only[kE,hi]
   cases sh with
   |none=>cases g2;exact .sub k o n none t xs a a' cap dB g1 (e.trans hh) h1 h2 h3 h4
   |some d=>cases g2;exact .sub k o n _ t xs a a' cap dB g1 (e.trans hh) h1 h2 h3 h4
 |.bsl i n,v',u,hd,h,hv=>by
  simp only[SV.ren,An,EC]at h;obtain⟨k,hk,rfl⟩:=h
  cases hv with
  |bsl _ _ cs a hl hh=>
   obtain⟨hi,B',g1,g2⟩:=fG hL hk hl
   have e:(kE H pl L D).hdr k=pl.hdr i:=by simp only[kE,hi]
   simp only[Blk.ren,An,EC]at g2;obtain⟨l,hl',rfl⟩:=g2
   exact .bsl k n l a g1 (e.trans hh)
 |.ptr i x o,v',u,hd,h,hv=>by
  simp only[SV.ren,An,EC]at h;obtain⟨k,hk,rfl⟩:=h
  cases hv with
  |kK _ _ cs b m hl hh=>
   obtain⟨hi,B',g1,g2⟩:=fG hL hk hl
   have e:(kE H pl L D).hdr k=pl.hdr i:=by simp only[kE,hi]
   simp only[Blk.ren,An,EC]at g2;obtain⟨l,hl',rfl⟩:=g2
   exact .kK k o l b m g1 (e.trans hh)
  |jJ _ _ _ sh t xs b m n cap hl hx hh=>
   obtain⟨hi,B',g1,g2⟩:=fG hL hk hl
   have e:(kE H pl L D).hdr k=pl.hdr i:=by simp only[kE,hi]
   cases sh with
   |none=>cases g2;exact .jJ k x o none t xs b m n cap g1 hx (e.trans hh)
   |some d=>cases g2;exact .jJ k x o _ t xs b m n cap g1 hx (e.trans hh)
 |.inn _ _ _,v',u,hd,h,hv=>by cases h
 |.ew d cs,v',u,hd,h,hv=>by
  cases h
  cases hv with
  |ew _ _ b o vs h1 h2=>exact .ew _ _ b o vs (λj r hj=>⟨lY hn hL hd (h1 j r hj).1,(h1 j r hj).2⟩) λj r hj=>(h2 j r hj).frame λp u hp hu=>⟨lY hn hL hd hp,hu⟩
 |.agg cs,v',u,hd,h,hv=>by
  simp only[SV.ren,An,EC]at h;obtain⟨l,hl,rfl⟩:=h
  cases hv with
  |agg _ vs h1 h2 h3=>
   obtain⟨g1,g2⟩:=fY hn hL cs hd hl vs.toList (by simpa using h1) λj x u hx hu=>h3 j x u hx (by simpa using hu)
   exact .agg _ _ (by simpa using g1) h2 λj x u hx hu=>g2 j x u hx (by simpa using hu)
 |.tup cs,v',u,hd,h,hv=>by
  simp only[SV.ren,An,EC]at h;obtain⟨l,hl,rfl⟩:=h
  cases hv with
  |tup _ vs h1 h3=>
   obtain⟨g1,g2⟩:=fY hn hL cs hd hl vs.toList (by simpa using h1) λj x u hx hu=>h3 j x u hx (by simpa using hu)
   exact .tup _ _ (by simpa using g1) λj x u hx hu=>g2 j x u hx (by simpa using hu)
 |.fn f as bs',v',u,hd,h,hv=>by
  simp only[SV.ren,An,EC]at h;obtain⟨l,hl,l',hl',rfl⟩:=h;obtain⟨hd1,hd2⟩:=dk (show nd L D (jd as++jd bs')=true from hd)
  cases hv with
  |fn _ _ _ us vs h1 h3 h1' h3'=>
   obtain⟨g1,g2⟩:=fY hn hL as hd1 hl us.toList (by simpa using h1) λj x u hx hu=>h3 j x u hx (by simpa using hu);obtain⟨g3,g4⟩:=fY hn hL bs' hd2 hl' vs.toList (by simpa using h1') λj x u hx hu=>h3' j x u hx (by simpa using hu)
   exact .fn _ _ _ _ _ (by simpa using g1) (λj x u hx hu=>g2 j x u hx (by simpa using hu)) (by simpa using g3) λj x u hx hu=>g4 j x u hx (by simpa using hu)
 |.undef,v',u,hd,h,hv=>by cases h;exact .undef _
theorem fY (hn:nodup L=true) (hL:gC H L L=some bs):(cs:List SV)->{l:List SV}->nd L D (jd cs)=true->rI L cs=some l->(us:List Value)->cs.length=us.length->
  (∀(j:Nat) (x:SV) (u:Value),cs[j]? =some x->us[j]? =some u->ab w H pl x u)->
  l.length=us.length/\∀(j:Nat) (x:SV) (u:Value),l[j]? =some x->us[j]? =some u->ab w (aA 0 bs) (kE H pl L D) x u
 |[],l,hd,h,us,hl,_=>by cases h;exact⟨hl,λj x u hx _=>by simp at hx⟩
 |v::cs,l,hd,h,u::us,hl,hp=>by
  simp only[rI,An,EC]at h;obtain⟨v',hv,l',hl',rfl⟩:=h;obtain⟨hd1,hd2⟩:=dk (show nd L D (v.CE++jd cs)=true from hd);obtain⟨g1,g2⟩:=fY hn hL cs hd2 hl' us (by simpa using hl) λj x u hx hu=>hp (j+1) x u (by simpa using hx) (by simpa using hu);refine⟨by simp[g1],λj x u' hx hu=>?_⟩
  cases j with
  |zero=>simp at hx hu;subst hx hu;exact uu hn hL v hd1 hv (hp 0 v u rfl rfl)
  |succ j=>exact g2 j x u' (by simpa using hx) (by simpa using hu)
end
theorem xz {cs:List SV} {L D:List Nat} (h:nd L D (jd cs)=true):∀(j:Nat) (x:SV),cs[j]? =some x->nd L D x.CE=true:=by
 induction cs with
 |nil=>intro j x hx;simp at hx
 |cons v l ih=>
  obtain⟨h1,h2⟩:=dk (show nd L D (v.CE++jd l)=true from h);intro j x hx
  cases j with
  |zero=>simp at hx;subst hx;exact h1
  |succ j=>exact ih h2 j x (by simpa using hx)
theorem xA {l:List Nat} (h:nd L D (lb H l)=true):∀i∈l,∀B,look H i=some B->nd L D (xy B)=true:=by
 induction l with
 |nil=>intro i hi;exact nomatch hi
 |cons k l ih=>
  intro i hi B hB;simp only[lb]at h
  rcases EZ.1 hi with rfl|hi
  ·simp only[hB]at h;exact(dk h).1
  ·split at h
   ·exact ih (dk h).2 i hi B hB
   ·exact ih h i hi B hB
theorem xB (hr:bC H pl w) (hn:nodup L=true) (hL:gC H L L=some bs) (hd:nd L D (lb H L)=true):bC (aA 0 bs) (kE H pl L D) w:=by
 have hown:=hr.dh;refine⟨λk B hB=>?_,λk k' B B' p h1 h2 f1 f2=>?_,λk B p hB hf=>?_,λp hp=>⟨hr.nb p hp,λi B hB _ _ hf=>?_⟩⟩
 ·obtain⟨i,b0,h1,hi,h2,h3⟩:=dd hL hB;have hb:=hr.blk i b0 h2;have hdb:=xA hd i (EP h1) b0 h2
  have eh:(kE H pl L D).hdr k=pl.hdr i:=by simp only[kE,hi]
  have ef:(kE H pl L D).fp k=pl.fp i:=by simp only[kE,hi]
  cases b0 with
  |box cs=>
   simp only[Blk.ren,An,EC]at h3;obtain⟨l,hl,rfl⟩:=h3;obtain⟨b,o,q1,q2,q3⟩:=hb;refine⟨b,o,eh.trans q1,λp=>by rw[ef,q2,gD hl],λj v hv=>?_⟩;obtain⟨y,hy,hy2⟩:=pF hl j v hv;obtain⟨u,g1,g2,g3,g4⟩:=q3 j y hy
   exact⟨u,g1,g2,g3,uu hn hL y (xz hdb j y hy) hy2 g4⟩
  |arr sh t xs=>
   cases sh with
   |none=>
    cases h3;show Nonempty (Row w (cS w) t xs ((kE H pl L D).hdr k) ((kE H pl L D).fp k))
    rw[eh,ef];exact hb
   |some d=>
    cases h3;obtain⟨⟨a,cap,b,o,vs,fs,q1,q2,q3,q4,q5,q6,q7,q8,q9⟩⟩:=hb;exact⟨⟨a,cap,b,o,vs,fs,eh.trans q1,q2,q3,q4,q5,λi j r hc=>⟨(q6 i j r hc).1.frame λp u hp hu=>⟨lY hn hL hdb hp,hu⟩,(q6 i j r hc).2⟩,q7,q8,λp=>by rw[ef];exact q9 p⟩⟩
 ·obtain⟨i,b0,g1,hi,g2,g3⟩:=dd hL h1;obtain⟨i',b0',g1',hi',g2',g3'⟩:=dd hL h2;simp only[kE,hi]at f1;simp only[kE,hi']at f2;have:=hr.dis i i' b0 b0' p g2 g2' f1 f2;subst this;exact(List.getElem?_inj (ED.1 g1).1 (cC hn)).1 (g1.trans g1'.symm)
 ·obtain⟨i,b0,g1,hi,g2,g3⟩:=dd hL hB;simp only[kE,hi]at hf;refine⟨hr.ob i b0 p g2 hf,λi' B' hB' hm _ hf'=>?_⟩;have:=hr.dis i i' b0 B' p g2 hB' hf hf';subst this;rw[(mem_iff i L).2 (EP g1)]at hm;exact nomatch hm
 ·obtain⟨u,hu⟩:=hown i B p hB hf;rw[hp]at hu;exact nomatch hu
end
end
section
variable [Tok]
theorem de {f:Blk->Blk} {i:Nat}:∀{L:List Nat} {kept:List (Option Blk)} {H:ar},(∀(k:Nat) (b:Blk),L[k]? =some i->kept[k]? =some (some b)->False)->look (je (nu f L kept) H) i=look H i
 |[],_,H,_=>by simp[nu,je]
 |_::_,[],H,_=>by simp[nu,je]
 |i0::L,none::l,H,h=>by
  rw[nu]
  exact de λk b h1 h2=>h (k+1) b (by simpa using h1) (by simpa using h2)
 |i0::L,some b0::l,H,h=>by
  rw[nu,je,de λk b h1 h2=>h (k+1) b (by simpa using h1) (by simpa using h2),ct,if_neg];intro e;subst e;exact h 0 b0 rfl rfl
theorem iw {f:Blk->Blk} {i:Nat} {b:Blk}:∀{L:List Nat} {kept:List (Option Blk)} {H:ar} {k:Nat},L.Nodup->L[k]? =some i->kept[k]? =some (some b)->look (je (nu f L kept) H) i=some (f b)
 |[],_,H,k,_,h,_=>by simp at h
 |_::_,[],H,k,_,_,h=>by simp at h
 |i0::L,ob::l,H,0,hn,h1,h2=>by
  simp at h1 h2;subst h1 h2
  rw[nu,je,de λk b h1 _=>(FN.1 hn).1 (EP h1),ct,if_pos rfl]
 |i0::L,none::l,H,k+1,hn,h1,h2=>by
  rw[nu]
  exact iw (FN.1 hn).2 (by simpa using h1) (by simpa using h2)
 |i0::L,some b0::l,H,k+1,hn,h1,h2=>by
  rw[nu,je];exact iw (FN.1 hn).2 (by simpa using h1) (by simpa using h2)
theorem gF {f:Blk->Blk} {i:Nat} {B:Blk}:∀{L:List Nat} {kept:List (Option Blk)},look (nu f L kept) i=some B->i∈L
 |[],_,h=>by simp[nu,look]at h
 |_::_,[],h=>by simp[nu,look]at h
 |i0::L,none::l,h=>by rw[nu]at h;exact Fa _ (gF h)
 |i0::L,some b0::l,h=>by
  rw[nu,ag]at h;by_cases e:i0=i
  ·grind
  ·rw[if_neg e]at h;exact Fa _ (gF h)
theorem fa {i:Nat}:∀{L:List Nat} {kept:List (Option Blk)},mem i (fh L kept)=true↔∃k:Nat,L[k]? =some i/\kept[k]? =some none
 |[],_=>by simp[fh,mem]
 |_::_,[]=>by simp[fh,mem]
 |i0::L,some b0::l=>by
  rw[fh,fa]
  exact⟨λ⟨k,h1,h2⟩=>⟨k+1,by simpa using h1,by simpa using h2⟩,λ⟨k,h1,h2⟩=>by
   cases k with
   |zero=>simp at h2
   |succ k=>exact⟨k,by simpa using h1,by simpa using h2⟩⟩
 |i0::L,none::l=>by
  rw[fh,mem_iff,EZ,<-mem_iff,fa]
  exact⟨λh=>h.elim (λe=>⟨0,by simp[e],rfl⟩) λ⟨k,h1,h2⟩=>⟨k+1,by simpa using h1,by simpa using h2⟩,λ⟨k,h1,h2⟩=>by
   cases k with
   |zero=>simp at h1;exact .inl h1.symm
   |succ k=>exact .inr ⟨k,by simpa using h1,by simpa using h2⟩⟩
theorem iY {i:Nat}:∀{L:List Nat} {kept:List (Option Blk)},mem i (fX L kept)=true↔∃(k:Nat) (B:Blk),L[k]? =some i/\kept[k]? =some (some B)/\B.eR=false
 |[],_=>by simp[fX,mem]
 |_::_,[]=>by simp[fX,mem]
 |i0::L,some (.box cs)::l=>by
  rw[fX,iY]
  exact⟨λ⟨k,B,h1,h2,h3⟩=>⟨k+1,B,by simpa using h1,by simpa using h2,h3⟩,λ⟨k,B,h1,h2,h3⟩=>by
   cases k with
   |zero=>simp at h2;subst h2;cases h3
   |succ k=>exact⟨k,B,by simpa using h1,by simpa using h2,h3⟩⟩
 |i0::L,none::l=>by
  rw[fX,iY]
  exact⟨λ⟨k,B,h1,h2,h3⟩=>⟨k+1,B,by simpa using h1,by simpa using h2,h3⟩,λ⟨k,B,h1,h2,h3⟩=>by
   cases k with
   |zero=>simp at h2
   |succ k=>exact⟨k,B,by simpa using h1,by simpa using h2,h3⟩⟩
 |i0::L,some (.arr sh t xs)::l=>by
  rw[fX,mem_iff,EZ,<-mem_iff,iY]
  exact⟨λh=>h.elim (λe=>⟨0,_,by simp[e],rfl,rfl⟩) λ⟨k,B,h1,h2,h3⟩=>⟨k+1,B,by simpa using h1,by simpa using h2,h3⟩,λ⟨k,B,h1,h2,h3⟩=>by
   cases k with
   |zero=>simp at h1;exact .inl h1.symm
   |succ k=>exact .inr ⟨k,B,by simpa using h1,by simpa using h2,h3⟩⟩
theorem ix {L:List Nat} {nid m:Nat} {D:List Nat}:(cs:List SV)->(gV L nid m D cs).length=cs.length
 |[]=>rfl
 |_::l=>by simp[gV,ix l]
theorem fq {L:List Nat} {nid m:Nat} {D:List Nat}:(cs:List Blk)->(mQ L nid m D cs).length=cs.length
 |[]=>rfl
 |_::l=>by simp[mQ,fq l]
theorem qO {L:List Nat} {nid m:Nat} {D:List Nat}:(bs:List Blk)->(j:Nat)->(mQ L nid m D bs)[j]? =(bs[j]?).map (Blk.back L nid m D)
 |[],j=>by simp[mQ]
 |b::l,0=>by simp[mQ]
 |b::l,j+1=>by simpa[mQ]using qO l j
theorem qP {L:List Nat} {nid m:Nat} {D:List Nat}:(cs:List SV)->(j:Nat)->(gV L nid m D cs)[j]? =(cs[j]?).map (SV.back L nid m D)
 |[],j=>by simp[gV]
 |b::l,0=>by simp[gV]
 |b::l,j+1=>by simpa[gV]using qP l j
theorem Blk.kb {L:List Nat} {nid m:Nat} {D:List Nat} (b:Blk):b.fg (b.back L nid m D):=by
 cases b with
 |box cs=>simp[Blk.back,Blk.fg,ix]
 |arr sh t xs=>cases sh<;>exact⟨rfl,rfl⟩
structure fI (w w':World) (H H':ar) (pl pl':Pl) (L D:List Nat) (bs:List Blk) (nid:Nat) (o:jK):Prop where
 hr:bC H pl w
 hn:nodup L=true
 hL:gC H L L=some bs
 hm:o.kept.length=L.length
 jA:∀k,k<o.news.length->look H (nid+k)=none
 hD:∀i,mem i D=true->mem i L=false
 hro:bC o.heap pl' w'
 my:pl'.base=(kE H pl L D).base
 hgr:b7 w w'
 CF:∀(k:Nat) (B:Blk),o.kept[k]? =some (some B)->pl'.hdr k=pl.hdr (L.getD k 0)/\∃B0,bs[k]? =some B0/\B0.fg B
 hfr:∀p u,w.at? p=some u->(∀i B,mem i L=true->look H i=some B->¬pl.fp i p)->(∀k B,look o.heap k=some B->¬pl'.fp k p)/\w'.at? p=some u/\w'.cg p=w.cg p
 ha:∃h1,dx (fh L o.kept,fh L o.kept++fX L o.kept) (je (nu (Blk.back L nid L.length D) L o.kept) H)=some h1/\H'=h1++aA nid (mQ L nid L.length D o.news)
section
variable {w w':World} {H H':ar} {pl pl':Pl} {L D:List Nat} {bs:List Blk} {nid:Nat} {o:jK}
abbrev nv (L:List Nat) (kept:List (Option Blk)):Kil:=(fh L kept,fh L kept++fX L kept)
theorem jF {L:List Nat} {kept:List (Option Blk)}:∀i,mem i (nv L kept).1=true->mem i (nv L kept).2=true:=λi h=>by
 show mem i (_++_)=true;rw[mem_append,h];rfl
theorem fI.inH (c:fI w w' H H' pl pl' L D bs nid o) {i:Nat} (h:mem i L=true):∃k B0 B,L[k]? =some i/\k<L.length/\look H i=some B0/\bs[k]? =some B/\B0.ren L=some B:=by
 obtain⟨k,hk⟩:=Ff ((mem_iff i L).1 h);have hlt:=(ED.1 hk).1
 have hbl:k<bs.length:=by rw[(dc c.hL).1];exact hlt
 obtain⟨i',b0,e1,e2,e3⟩:=(dc c.hL).2 k _ (EE hbl);grind
theorem fI.Bl (c:fI w w' H H' pl pl' L D bs nid o) {i k:Nat} (h:L[k]? =some i):cb L nid L.length o.news.length i=some k:=by
 unfold cb;rw[fH (cC c.hn) h]
theorem fI.CG (c:fI w w' H H' pl pl' L D bs nid o) {j:Nat} (h:j<o.news.length):cb L nid L.length o.news.length (nid+j)=some (L.length+j):=by
 unfold cb
 cases hp:placeOf (nid+j) L 0 with
 |some k=>
  obtain⟨_,B0,_,_,_,h1,_⟩:=c.inH (mR hp)
  rw[c.jA j h]at h1;cases h1
 |none=>
  grind
theorem fI.pI (c:fI w w' H H' pl pl' L D bs nid o) (i:Nat):(∃k,L[k]? =some i/\k<L.length/\cb L nid L.length o.news.length i=some k)\/(∃j,j<o.news.length/\i=nid+j/\mem i L=false/\cb L nid L.length o.news.length i=some (L.length+j))\/
  (mem i L=false/\¬(nid<=i/\i<nid+o.news.length)/\cb L nid L.length o.news.length i=none):=by
 cases hm:mem i L with
 |true=>
  obtain⟨k,_,_,hk,hlt,_⟩:=c.inH hm
  exact .inl ⟨k,hk,hlt,c.Bl hk⟩
 |false=>
  have hp:placeOf i L 0=none:=by
   cases hp:placeOf i L 0 with
   |none=>rfl
   |some k=>rw[mR hp]at hm;cases hm
  by_cases hr:nid<=i/\i<nid+o.news.length
  ·exact .inr (.inl ⟨i-nid,by omega,by omega,rfl,by unfold cb;rw[hp];simp only;rw[if_pos hr]⟩)
  ·exact .inr (.inr ⟨rfl,hr,by unfold cb;rw[hp];simp only;rw[if_neg hr]⟩)
theorem fI.zR (c:fI w w' H H' pl pl' L D bs nid o) {i:Nat} (h:mem i L=false):mem i (fh L o.kept)=false:=by
 cases hg:mem i (fh L o.kept)with
 |false=>rfl
 |true=>
  obtain⟨k,h1,_⟩:=fa.1 hg;rw[(mem_iff i L).2 (EP h1)]at h;cases h
def Bm (T:Kil) (L:List Nat) (nid m:Nat) (D:List Nat) (B B':Blk):Prop:=(B.back L nid m D).az T=some B'\/B.back L nid m D=B'
theorem fI.old (c:fI w w' H H' pl pl' L D bs nid o) {i:Nat} (h:mem i L=false) (hr:¬(nid<=i/\i<nid+o.news.length)):look H' i=(look H i).bind (Blk.az (nv L o.kept)):=by
 obtain⟨h1,e1,rfl⟩:=c.ha
 have rH:look (aA nid (mQ L nid L.length D o.news)) i=none:=by
  rw[aO];by_cases q:nid<=i
  ·rw[if_pos q,Fq];rw[fq];omega
  ·rw[if_neg q]
 rw[ao,rH,Fo,bz jF e1 i,show mem i (fh L o.kept)=false from c.zR h,cond_false,de λk b h1 _=>by rw[(mem_iff i L).2 (EP h1)]at h;exact nomatch h]
theorem fI.uniq (c:fI w w' H H' pl pl' L D bs nid o) {i k k':Nat} (h:L[k]? =some i) (h':L[k']? =some i):k=k':=
 (List.getElem?_inj (ED.1 h).1 (cC c.hn)).1 (h.trans h'.symm)
theorem fI.Aw (c:fI w w' H H' pl pl' L D bs nid o) {i:Nat} (h:mem i L=true):look (aA nid (mQ L nid L.length D o.news)) i=none:=by
 rw[aO];by_cases q:nid<=i
 ·rw[if_pos q];by_cases q2:i-nid<o.news.length
  ·obtain⟨_,_,_,_,_,h1,_⟩:=c.inH h;have:=c.jA _ q2;grind
  ·rw[Fq];rw[fq];omega
 ·rw[if_neg q]
theorem fI.kept (c:fI w w' H H' pl pl' L D bs nid o) {i k:Nat} {B:Blk} (h:L[k]? =some i) (hB:o.kept[k]? =some (some B)):∃B',look H' i=some B'/\Bm (nv L o.kept) L nid L.length D B B':=by
 have hng:mem i (fh L o.kept)=false:=by
  cases hg:mem i (fh L o.kept)with
  |false=>rfl
  |true=>
   obtain⟨k',h1,h2⟩:=fa.1 hg;have:=c.uniq h h1;grind
 obtain⟨h1,e1,rfl⟩:=id c.ha;have hu:look (je (nu (Blk.back L nid L.length D) L o.kept) H) i=some (B.back L nid L.length D):=iw (cC c.hn) h hB;obtain⟨B',hB'⟩:=dR jF e1 i _ hu hng;refine⟨B',?_,.inl hB'⟩;rw[ao,c.Aw ((mem_iff i L).2 (EP h)),Fo,bz jF e1 i,show mem i (fh L o.kept)=false from hng,cond_false,hu];exact hB'
theorem fI.gone (c:fI w w' H H' pl pl' L D bs nid o) {i k:Nat} (h:L[k]? =some i) (hB:o.kept[k]? =some none):look H' i=none:=by
 have hg:mem i (fh L o.kept)=true:=fa.2 ⟨k,h,hB⟩;obtain⟨h1,e1,rfl⟩:=id c.ha;rw[ao,c.Aw ((mem_iff i L).2 (EP h)),Fo,bz jF e1 i,show mem i (fh L o.kept)=true from hg,cond_true]
theorem fI.new (c:fI w w' H H' pl pl' L D bs nid o) {j:Nat} {B:Blk} (h:o.news[j]? =some B):look H' (nid+j)=some (B.back L nid L.length D):=by
 have hj:=(ED.1 h).1;obtain⟨h1,e1,rfl⟩:=id c.ha
 have hnm:mem (nid+j) L=false:=by
  cases hm:mem (nid+j) L with
  |false=>rfl
  |true=>
   obtain⟨_,_,_,_,_,h1,_⟩:=c.inH hm;rw[c.jA j hj]at h1;cases h1
 have lI:look (je (nu (Blk.back L nid L.length D) L o.kept) H) (nid+j)=look H (nid+j):=de λk b h1 _=>by
  rw[(mem_iff _ L).2 (EP h1)]at hnm;cases hnm
 rw[ao,bz jF e1,lI,c.jA j hj,aO,if_pos (by omega),E1,qO,h];grind
theorem fI.dY (c:fI w w' H H' pl pl' L D bs nid o) {i:Nat} {B':Blk} (h:look H' i=some B'):
  (∃k B,cb L nid L.length o.news.length i=some k/\look o.heap k=some B/\Bm (nv L o.kept) L nid L.length D B B'/\(mem i L=false->look H i=none))\/
  (cb L nid L.length o.news.length i=none/\mem i L=false/\∃B,look H i=some B/\B.az (nv L o.kept)=some B'):=by
 rcases c.pI i with⟨k,hk,hlt,hc⟩|⟨j,hj,rfl,hm,hc⟩|⟨hm,hno,hc⟩
 ·have hkl:k<o.kept.length:=by rw[c.hm];exact hlt
  cases hkp:o.kept[k]? with
  |none=>grind
  |some ob=>
   cases ob with
   |none=>rw[c.gone hk hkp]at h;cases h
   |some B=>
    obtain⟨B1,h1,h2⟩:=c.kept hk hkp;rw[h]at h1;cases h1;exact .inl ⟨k,B,hc,by rw[o.lX hkl,hkp];rfl,h2,λhm=>by rw[(mem_iff i L).2 (EP hk)]at hm;exact nomatch hm⟩
 ·obtain⟨B,hB⟩:∃B,o.news[j]? =some B:=⟨_,EE hj⟩;rw[c.new hB]at h;cases h;exact .inl ⟨L.length+j,B,hc,by rw[o.ka (by rw[c.hm];omega),c.hm,E1];exact hB,.inr rfl,λ_=>c.jA j hj⟩
 ·rw[c.old hm hno]at h;obtain⟨B,h1,h2⟩:=An.1 h;grind
theorem fI.k8 (c:fI w w' H H' pl pl' L D bs nid o) {k:Nat} {B:Blk} (h:look o.heap k=some B):
  cb L nid L.length o.news.length (bk L nid L.length k)=some k/\∃B',look H' (bk L nid L.length k)=some B'/\Bm (nv L o.kept) L nid L.length D B B':=by
 by_cases hk:k<L.length
 ·have hkl:k<o.kept.length:=by rw[c.hm];exact hk
  rw[o.lX hkl]at h;obtain⟨ob,h1,h2⟩:=An.1 h;have h2:ob=some B:=h2;subst h2
  have hb:bk L nid L.length k=L[k]:=by
   unfold bk;rw[show Nat.ble (k+1) L.length=true from Fw hk,cond_true,FE,EE hk];rfl
  rw[hb];have hL:L[k]? =some L[k]:=EE hk;exact⟨c.Bl hL,c.kept hL h1⟩
 ·rw[o.ka (by rw[c.hm];omega),c.hm]at h
  have hb:bk L nid L.length k=nid+(k-L.length):=by
   unfold bk
   cases hq:Nat.ble (k+1) L.length with
   |false=>rfl
   |true=>exact(hk (EO hq)).elim
  rw[hb];have hj:=(ED.1 h).1;refine⟨?_,_,c.new h,.inr rfl⟩;rw[c.CG hj];congr 1;omega
theorem Bm.box {T:Kil} {nid m:Nat} {B B':Blk} (h:Bm T L nid m D B B'):B'.eR=B.eR:=by
 rcases h with h|h
 ·rw[<-Blk.dX (Blk.da h),<-Blk.dX (Blk.kb B)]
 ·rw[<-h,<-Blk.dX (Blk.kb B)]
theorem Bm.fg {T:Kil} {nid m:Nat} {B B':Blk} (h:Bm T L nid m D B B'):B.fg B':=by
 rcases h with h|h
 ·exact Blk.cy (Blk.kb B) (Blk.da h)
 ·rw[<-h];exact Blk.kb B
theorem xC {nid m k:Nat}:∀{d:List Nat},mem k d=true->mem (bk L nid m k) (bkL L nid m d)=true
 |[],h=>nomatch h
 |x::l,h=>by
  simp only[bkL];rw[mem_iff,EZ,<-mem_iff];rw[mem_iff,EZ,<-mem_iff]at h
  rcases h with rfl|h
  ·exact .inl rfl
  ·exact .inr (xC h)
theorem fI.Bn (c:fI w w' H H' pl pl' L D bs nid o) {i k:Nat} (h:cb L nid L.length o.news.length i=some k):bk L nid L.length k=i:=by
 rcases c.pI i with⟨k',hk,hlt,hc⟩|⟨j,hj,rfl,hm,hc⟩|⟨hm,hno,hc⟩<;>rw[hc]at h<;>cases h
 ·unfold bk;rw[show Nat.ble (k+1) L.length=true from Fw hlt,cond_true,FE,hk];rfl
 ·unfold bk
  cases hq:Nat.ble (L.length+j+1) L.length with
  |false=>simp
  |true=>have:=EO hq;omega
theorem fI.okd (c:fI w w' H H' pl pl' L D bs nid o) {d:List Nat} {p:Cell} (h:okd o.heap pl' d p):okd H' (cR pl pl' L nid L.length o.news.length) (bkL L nid L.length d++D) p:=by
 have hb:(kE H pl L D).base p:=by rw[<-c.my];exact h.1
 refine⟨hb.1,λi B' hB' hm hf=>?_⟩
 rcases c.dY hB' with⟨k,B,h1,h2,h3,_⟩|⟨h1,h2,B,h3,h4⟩
 ·simp only[cR,h1]at hf;refine h.2 k B h2 (λhk=>?_) hf;rw[<-h3.box];refine hm ?_;rw[mem_append,<-c.Bn h1,xC hk];rfl
 ·simp only[cR,h1]at hf;refine hb.2 i B h3 h2 (λhk=>?_) hf;rw[Blk.dX (Blk.da h4)];exact hm (by rw[mem_append,hk,FO])
mutual
theorem fI.rep (c:fI w w' H H' pl pl' L D bs nid o):(v:SV)->{u:Value}->ab w' o.heap pl' v u->ab w' H' (cR pl pl' L nid L.length o.news.length) (v.back L nid L.length D) u
 |.r d x,u,h=>by
  cases h with
  |r _ _ _ hx=>exact mj (hx.frame λp u hp hu=>⟨c.okd hp,hu⟩)
 |.cG,u,h=>by cases h;exact .cG
 |.gY,u,h=>by cases h;exact .gY
 |.own k,u,h=>by
  cases h with
  |own _ sh t xs hl=>
   obtain⟨h1,B',h2,h3⟩:=c.k8 hl
   have e:(cR pl pl' L nid L.length o.news.length).hdr (bk L nid L.length k)=pl'.hdr k:=by simp only[cR,h1]
   rw[<-e]
   have:∃sh',B'=.arr sh' t xs:=by
    rcases h3 with h3|h3
    ·cases sh with
     |none=>cases h3;exact⟨_,rfl⟩
     |some d=>
      simp only[Blk.back,Blk.az]at h3;grind
    ·cases sh<;>exact⟨_,h3.symm⟩
   obtain⟨sh',rfl⟩:=this
   exact .own _ sh' t xs h2
 |.ptr k 0 off,u,h=>by
  cases h with
  |kK _ _ cs b q hl hh=>
   obtain⟨h1,B',h2,h3⟩:=c.k8 hl
   have e:(cR pl pl' L nid L.length o.news.length).hdr (bk L nid L.length k)=pl'.hdr k:=by simp only[cR,h1]
   have:∃cs',B'=.box cs':=by
    rcases h3 with h3|h3
    ·cases h3;exact⟨_,rfl⟩
    ·exact⟨_,h3.symm⟩
   obtain⟨cs',rfl⟩:=this
   exact .kK _ off cs' b q h2 (e.trans hh)
  |jJ _ _ _ sh t xs b q n cap hl hx hh=>
   obtain⟨h1,B',h2,h3⟩:=c.k8 hl
   have e:(cR pl pl' L nid L.length o.news.length).hdr (bk L nid L.length k)=pl'.hdr k:=by simp only[cR,h1]
   have:∃sh',B'=.arr sh' t xs:=by
    rcases h3 with h3|h3
    ·cases sh with
     |none=>cases h3;exact⟨_,rfl⟩
     |some d=>
      simp only[Blk.back,Blk.az]at h3;grind
    ·cases sh<;>exact⟨_,h3.symm⟩
   obtain⟨sh',rfl⟩:=this
   exact .jJ _ 0 off sh' t xs b q n cap h2 hx (e.trans hh)
 |.ptr k (x+1) off,u,h=>.undef _
 |.agg cs,u,h=>by
  cases h with
  |agg _ vs h1 h2 h3=>
   obtain⟨g1,g2⟩:=c.CH cs vs.toList (by simpa using h1) λj x u hx hu=>h3 j x u hx (by simpa using hu)
   exact .agg _ _ (by simpa using g1) h2 λj x u hx hu=>g2 j x u hx (by simpa using hu)
 |.tup cs,u,h=>by
  cases h with
  |tup _ vs h1 h3=>
   obtain⟨g1,g2⟩:=c.CH cs vs.toList (by simpa using h1) λj x u hx hu=>h3 j x u hx (by simpa using hu)
   exact .tup _ _ (by simpa using g1) λj x u hx hu=>g2 j x u hx (by simpa using hu)
 |.sub _ _ _,_,_=>.undef _
 |.bsl _ _,_,_=>.undef _
 |.inn _ _ _,_,_=>.undef _
 |.ew _ _,_,_=>.undef _
 |.fn f a b,u,h=>by
  cases h with
  |fn _ _ _ us vs h1 h3 h1' h3'=>
   obtain⟨g1,g2⟩:=c.CH a us.toList (by simpa using h1) λj x u hx hu=>h3 j x u hx (by simpa using hu);obtain⟨q1,q2⟩:=c.CH b vs.toList (by simpa using h1') λj x u hx hu=>h3' j x u hx (by simpa using hu)
   exact .fn _ _ _ _ _ (by simpa using g1) (λj x u hx hu=>g2 j x u hx (by simpa using hu)) (by simpa using q1) λj x u hx hu=>q2 j x u hx (by simpa using hu)
 |.undef,_,_=>.undef _
theorem fI.CH (c:fI w w' H H' pl pl' L D bs nid o):(cs:List SV)->(us:List Value)->cs.length=us.length->(∀(j:Nat) (x:SV) (u:Value),cs[j]? =some x->us[j]? =some u->ab w' o.heap pl' x u)->
  (gV L nid L.length D cs).length=us.length/\∀(j:Nat) (x:SV) (u:Value),(gV L nid L.length D cs)[j]? =some x->us[j]? =some u->ab w' H' (cR pl pl' L nid L.length o.news.length) x u
 |[],us,hl,_=>⟨hl,λj x u hx _=>by simp[gV]at hx⟩
 |v::cs,u::us,hl,hp=>by
  obtain⟨g1,g2⟩:=c.CH cs us (by simpa using hl) λj x u hx hu=>hp (j+1) x u (by simpa using hx) (by simpa using hu);refine⟨by simp[gV,g1],λj x u' hx hu=>?_⟩
  cases j with
  |zero=>simp[gV]at hx hu;subst hx hu;exact c.rep v (hp 0 v u rfl rfl)
  |succ j=>exact g2 j x u' (by simpa[gV]using hx) (by simpa using hu)
end
theorem fI.Bo (c:fI w w' H H' pl pl' L D bs nid o) {i k:Nat} {B:Blk} (h1:cb L nid L.length o.news.length i=some k) (h2:look o.heap k=some B):
  cr w' H' (cR pl pl' L nid L.length o.news.length) i (B.back L nid L.length D):=by
 have eh:(cR pl pl' L nid L.length o.news.length).hdr i=pl'.hdr k:=by simp only[cR,h1]
 have ef:(cR pl pl' L nid L.length o.news.length).fp i=pl'.fp k:=by simp only[cR,h1]
 have hb:=c.hro.blk k B h2
 cases B with
 |box cs=>
  obtain⟨b,q,q1,q2,q3⟩:=hb;refine⟨b,q,eh.trans q1,λp=>by rw[ef,q2,ix],λj v hv=>?_⟩;rw[qP]at hv;obtain⟨y,hy,rfl⟩:=EI.1 hv;obtain⟨u,g1,g2,g3,g4⟩:=q3 j y hy
  exact⟨u,g1,g2,g3,c.rep y g4⟩
 |arr sh t xs=>
  cases sh with
  |none=>
   show Nonempty (Row w' (cS w') t xs _ _)
   rw[eh,ef];exact hb
  |some d=>
   obtain⟨⟨a,cap,b,q,vs,fs,q1,q2,q3,q4,q5,q6,q7,q8,q9⟩⟩:=hb;exact⟨⟨a,cap,b,q,vs,fs,eh.trans q1,q2,q3,q4,q5,λi j r hc=>⟨(q6 i j r hc).1.frame λp u hp hu=>⟨c.okd hp,hu⟩,(q6 i j r hc).2⟩,q7,q8,λp=>by rw[ef];exact q9 p⟩⟩
theorem vz (T:Kil) {w:World} {H:ar} {pl:Pl}:eA T w H pl w H pl:=⟨λi B hB _=>⟨B,hB,B.bQ,rfl⟩,λd p u _ h hp=>⟨h,hp⟩⟩
theorem fI.oh (c:fI w w' H H' pl pl' L D bs nid o) {i:Nat} {B:Blk} {p:Cell} (hB:look H i=some B) (hm:mem i L=false) (hf:pl.fp i p):∀i' B',mem i' L=true->look H i'=some B'->¬pl.fp i' p:=λi' B' hm' hB' hf'=>by
 have:=c.hr.dis i i' B B' p hB hB' hf hf';grind
theorem fI.keeps (c:fI w w' H H' pl pl' L D bs nid o):eA (nv L o.kept) w H pl w' H' (cR pl pl' L nid L.length o.news.length):=by
 refine⟨λi B hB hg=>?_,λd p u hd ho hp=>?_⟩
 ·cases hm:mem i L with
  |true=>
   obtain⟨k,B0,B1,hk,hlt,e1,e2,e3⟩:=c.inH hm;rw[hB]at e1;cases e1
   have hkl:k<o.kept.length:=by rw[c.hm];exact hlt
   cases hkp:o.kept[k]? with
   |none=>grind
   |some ob=>
    cases ob with
    |none=>rw[show mem i (fh L o.kept)=true from fa.2 ⟨k,hk,hkp⟩]at hg;cases hg
    |some B2=>
     obtain⟨B',h1,h2⟩:=c.kept hk hkp;obtain⟨q1,B3,q2,q3⟩:=c.CF k B2 hkp;rw[e2]at q2;cases q2;refine⟨B',h1,Blk.cy (Blk.pG e3) (Blk.cy q3 h2.fg),?_⟩;simp only[cR,c.Bl hk]
     grind
  |false=>
   rcases c.pI i with⟨k,hk,_⟩|⟨j,hj,rfl,_,_⟩|⟨_,hno,hc⟩
   ·rw[(mem_iff i L).2 (EP hk)]at hm;cases hm
   ·rw[c.jA j hj]at hB;cases hB
   ·obtain⟨h1,e1,_⟩:=id c.ha
    have hu:look (je (nu (Blk.back L nid L.length D) L o.kept) H) i=some B:=by
     rw[de λk b h1 _=>by rw[(mem_iff i L).2 (EP h1)]at hm;exact nomatch hm];exact hB
    obtain⟨B',hB'⟩:=dR jF e1 i B hu hg;exact⟨B',by rw[c.old hm hno,hB];exact hB',Blk.da hB',by simp only[cR,hc]⟩
 ·have hnp:∀i B,mem i L=true->look H i=some B->¬pl.fp i p:=λi B hm hB hf=>by
   refine ho.2 i B hB (λhdi=>?_) hf;have hT:=hd i hdi;obtain⟨k,B0,B1,hk,hlt,e1,e2,e3⟩:=c.inH hm;rw[hB]at e1;cases e1
   have hkl:k<o.kept.length:=by rw[c.hm];exact hlt
   cases hkp:o.kept[k]? with
   |none=>grind
   |some ob=>
    cases ob with
    |none=>
     have:mem i (nv L o.kept).2=true:=jF i (fa.2 ⟨k,hk,hkp⟩)
     grind
    |some B2=>
     obtain⟨_,B3,q2,q3⟩:=c.CF k B2 hkp;rw[e2]at q2;cases q2
     have hbx:B2.eR=true:=by
      cases hx:B2.eR with
      |true=>rfl
      |false=>
       have:mem i (fh L o.kept++fX L o.kept)=true:=by rw[mem_append,iY.2 ⟨k,B2,hk,hkp,hx⟩,FO]
       grind
     rw[Blk.dX (Blk.pG e3),Blk.dX q3,hbx]
  obtain⟨g1,g2,g3⟩:=c.hfr p u hp hnp;refine⟨⟨ho.1,λi B' hB' hm hf=>?_⟩,g2⟩
  rcases c.dY hB' with⟨k,B,h1,h2,_,_⟩|⟨h1,h2,B,h3,h4⟩
  ·simp only[cR,h1]at hf;grind
  ·simp only[cR,h1]at hf;refine ho.2 i B h3 (λhk=>?_) hf;rw[Blk.dX (Blk.da h4)];exact hm hk
theorem fI.step (c:fI w w' H H' pl pl' L D bs nid o):bw H H' (nv L o.kept) pl (cR pl pl' L nid L.length o.news.length) w w':=by
 have hown:=c.hr.dh;have hk:=c.keeps;refine⟨⟨λi B' hB'=>?_,λi j B B' p h1 h2 f1 f2=>?_,λi B p hB hf=>?_,λp hp=>?_⟩,hk,rfl,c.hgr,λp u hp hno=>?_⟩
 ·rcases c.dY hB' with⟨k,B,h1,h2,h3,_⟩|⟨h1,h2,B,h3,h4⟩
  ·have hb:=c.Bo h1 h2
   rcases h3 with h3|h3
   ·exact hb.bM (vz _) rfl (λ_=>Gx) (λp u _ hu=>⟨hu,rfl⟩) h3
   ·grind
  ·exact(c.hr.blk i B h3).bM hk (by simp only[cR,h1]) (λp=>by simp only[cR,h1]) (λp u hf hu=>(c.hfr p u hu (c.oh h3 h2 hf)).2) h4
 ·have cross:∀{i j k:Nat} {B Bk:Blk},look H i=some B->mem i L=false->pl.fp i p->look o.heap k=some Bk->pl'.fp k p->False:=λ{i j k B Bk} hB hm hf hk hf'=>by
   obtain⟨u,hu⟩:=hown i B p hB hf;exact(c.hfr p u hu (c.oh hB hm hf)).1 k Bk hk hf'
  rcases c.dY h1 with⟨k,B1,a1,a2,_,_⟩|⟨a1,a2,B1,a3,_⟩<;>rcases c.dY h2 with⟨k',B2,b1,b2,_,_⟩|⟨b1,b2,B2,b3,_⟩
  ·simp only[cR,a1]at f1;simp only[cR,b1]at f2;have:=c.hro.dis k k' B1 B2 p a2 b2 f1 f2;subst this;rw[<-c.Bn a1,<-c.Bn b1]
  ·simp only[cR,a1]at f1;simp only[cR,b1]at f2;exact(cross (j:=j) b3 b2 f2 a2 f1).elim
  ·simp only[cR,a1]at f1;simp only[cR,b1]at f2;exact(cross (j:=j) a3 a2 f1 b2 f2).elim
  ·simp only[cR,a1]at f1;simp only[cR,b1]at f2;exact c.hr.dis i j B1 B2 p a3 b3 f1 f2
 ·rcases c.dY hB with⟨k,B1,a1,a2,_,_⟩|⟨a1,a2,B1,a3,_⟩
  ·simp only[cR,a1]at hf;have:=c.hro.ob k B1 p a2 hf;rw[c.my]at this;exact this.1
  ·simp only[cR,a1]at hf;exact c.hr.ob i B1 p a3 hf
 ·have:=c.hro.nb p hp;rw[c.my]at this;exact this.1
 ·obtain⟨g1,g2⟩:=c.hfr p u hp λi B _ hB=>hno i B hB;refine⟨λi B hB hf=>?_,g2⟩
  rcases c.dY hB with⟨k,B1,a1,a2,_,_⟩|⟨a1,a2,B1,a3,_⟩
  ·simp only[cR,a1]at hf;grind
  ·simp only[cR,a1]at hf;grind
end
inductive Pr where
 |one (t:Ty)
 |agg (ts:List Ty)
 |bM
def vA (h:ar):List Ty->List SV->Option (List SV)
 |[],[]=>some []
 |t::ts,v::vs=>(v.asR h t).bind λp=>(vA h ts vs).bind λl=>some (.r p.1 p.2::l)
 |_,_=>none
def s3 (h:ar):Pr->SV->Option SV
 |.one t,v=>(v.asR h t).bind λp=>some (.r p.1 p.2)
 |.agg ts,.agg cs=>(vA h ts cs).bind λl=>some (.agg l)
 |.agg _,_=>none
 |.bM,v=>some v
def BW (h:ar):List Pr->List SV->Option (List SV)
 |[],[]=>some []
 |s::ss,v::vs=>(s3 h s v).bind λx=>(BW h ss vs).bind λl=>some (x::l)
 |_,_=>none
def xD (pr:List Pr) (G:MG):Orc:=λρ nid vs h K=>
  (BW h pr vs).bind λvs1=>
    let L:=reach h 3 (gZ [] (vT vs1))
    let D:=BV L (jd vs1++lb h L)
    cond (nodup L) (cond (nd L D (jd vs1++lb h L)) ((rI L vs1).bind λargs=>(gC h L L).bind λbs=>
      G ρ args bs λo=>cond (Nat.beq o.kept.length L.length)
        (K {v:=o.v.back L nid L.length D,upd:=nu (Blk.back L nid L.length D) L o.kept,news:=mQ L nid L.length D o.news,gone:=fh L o.kept,eP:=fX L o.kept}) none) none) none
theorem uv {h h':ar} (hh:Ext h h'):(ts:List Ty)->(vs:List SV)->Le (vA h ts vs) (vA h' ts vs)
 |[],[]=>Le.refl _
 |t::ts,v::vs=>(qg hh _ _).bind λ_=>(uv hh ts vs).bind λ_=>Le.refl _
 |[],_::_=>Le.refl _
 |_::_,[]=>Le.refl _
theorem zS {h h':ar} (hh:Ext h h') (s:Pr) (v:SV):Le (s3 h s v) (s3 h' s v):=by
 intro p hp;unfold s3 at hp;split at hp<;>simp only[s3]
 ·exact((qg hh _ _).bind λ_=>Le.refl _) p hp
 ·exact((uv hh _ _).bind λ_=>Le.refl _) p hp
 ·cases hp
 ·exact hp
theorem xE {h h':ar} (hh:Ext h h'):(ss:List Pr)->(vs:List SV)->Le (BW h ss vs) (BW h' ss vs)
 |[],[]=>Le.refl _
 |s::ss,v::vs=>(zS hh s v).bind λ_=>(xE hh ss vs).bind λ_=>Le.refl _
 |[],_::_=>Le.refl _
 |_::_,[]=>Le.refl _
theorem uw {h h':ar} (hh:Ext h h') {L:List Nat}:(l:List Nat)->Le (gC h L l) (gC h' L l)
 |[]=>Le.refl _
 |i::l=>λbs hb=>by
  simp only[gC,An,EC]at hb⊢;obtain⟨b,h1,b',h2,l',h3,rfl⟩:=hb;exact⟨b,hh i b h1,b',h2,l',uw hh l _ h3,rfl⟩
theorem qQ {h h':ar} (hh:Ext h h'):(l:List Nat)->(∀i∈l,∃B,look h i=some B)->lb h' l=lb h l
 |[],_=>rfl
 |i::l,hl=>by
  obtain⟨B,hB⟩:=hl i (by simp);simp only[lb,hB,hh i B hB,qQ hh l λk hk=>hl k (by simp[hk])]
section
variable {w:World} {H:ar} {pl:Pl} {P:Program}
theorem qR (hr:bC H pl w):∀{ts:List Ty} {vs:List SV} {us:List Value} {l:List SV},vA H ts vs=some l->vs.length=us.length->(∀(j:Nat) (x:SV) (u:Value),vs[j]? =some x->us[j]? =some u->ab w H pl x u)->
  l.length=us.length/\∀(j:Nat) (x:SV) (u:Value),l[j]? =some x->us[j]? =some u->ab w H pl x u
 |[],[],us,l,h,hl,_=>by cases h;exact⟨hl,λj x u hx _=>by simp at hx⟩
 |t::ts,v::vs,u::us,l,h,hl,hp=>by
  simp only[vA,An,EC]at h;obtain⟨⟨d,r⟩,h1,l',h2,rfl⟩:=h;obtain⟨g1,g2⟩:=qR hr h2 (us:=us) (by simpa using hl) λj x u hx hu=>hp (j+1) x u (by simpa using hx) (by simpa using hu);refine⟨by simp[g1],λj x u' hx hu=>?_⟩
  cases j with
  |zero=>simp at hx hu;subst hx hu;exact .r _ _ _ (kM hr h1 (hp 0 v u rfl rfl))
  |succ j=>grind
 |[],_::_,_,_,h,_,_=>nomatch h
 |_::_,[],_,_,h,_,_=>nomatch h
theorem xF (hr:bC H pl w) {s:Pr} {v x:SV} {u:Value} (h:s3 H s v=some x) (hv:ab w H pl v u):ab w H pl x u:=by
 unfold s3 at h;split at h
 ·simp only[An,EC]at h;obtain⟨⟨d,r⟩,h1,rfl⟩:=h;exact .r _ _ _ (kM hr h1 hv)
 ·simp only[An,EC]at h;obtain⟨l,h1,rfl⟩:=h
  cases hv with
  |agg cs vs h2 h3 h4=>
   obtain⟨g1,g2⟩:=qR hr h1 (us:=vs.toList) (by simpa using h2) λj x u hx hu=>h4 j x u hx (by simpa using hu);exact .agg _ _ (by simpa using g1) h3 λj x u hx hu=>g2 j x u hx (by simpa using hu)
 ·cases h
 ·grind
theorem uy (hr:bC H pl w):∀{ss:List Pr} {vs:List SV} {us:List Value} {l:List SV},BW H ss vs=some l->vs.length=us.length->(∀(j:Nat) (x:SV) (u:Value),vs[j]? =some x->us[j]? =some u->ab w H pl x u)->
  l.length=us.length/\∀(j:Nat) (x:SV) (u:Value),l[j]? =some x->us[j]? =some u->ab w H pl x u
 |[],[],us,l,h,hl,_=>by cases h;exact⟨hl,λj x u hx _=>by simp at hx⟩
 |t::ts,v::vs,u::us,l,h,hl,hp=>by
  simp only[BW,An,EC]at h;obtain⟨x0,h1,l',h2,rfl⟩:=h;obtain⟨g1,g2⟩:=uy hr h2 (us:=us) (by simpa using hl) λj x u hx hu=>hp (j+1) x u (by simpa using hx) (by simpa using hu);refine⟨by simp[g1],λj x u' hx hu=>?_⟩
  cases j with
  |zero=>simp at hx hu;subst hx hu;exact xF hr h1 (hp 0 v u rfl rfl)
  |succ j=>grind
 |[],_::_,_,_,h,_,_=>nomatch h
 |_::_,[],_,_,h,_,_=>nomatch h
theorem kd {g:FuncId} {pr:List Pr} {G:MG} (h:xx P g G):jy P g (xD pr G):=by
 intro ρ nid vs H K out hK;simp only[xD,An]at hK;obtain⟨vs1,hpr,hK⟩:=hK;generalize hLe:reach H 3 (gZ [] (vT vs1))=L at hK;cases hn:nodup L<;>simp only[hn,cond_true,cond_false]at hK
 ·cases hK
 generalize hDe:BV L (jd vs1++lb H L)=D at hK;cases D3:nd L D (jd vs1++lb H L)<;>simp only[D3,cond_true,cond_false,An]at hK
 ·cases hK
 obtain⟨args,j1,bs,hbs,hG⟩:=hK;obtain⟨o,ho,hen,hm,xu⟩:=h ρ args bs _ out hG;cases hbl:Nat.beq o.kept.length L.length<;>simp only[hbl,cond_true,cond_false]at ho
 ·cases ho
 have hbl:=EF hbl
 have hin:∀i∈L,∃B,look H i=some B:=λi hi=>by
  obtain⟨k,hk⟩:=Ff hi;have hlt:=(ED.1 hk).1;obtain⟨i',b0,e1,e2,_⟩:=(dc hbs).2 k _ (EE (show k<bs.length by rw[(dc hbs).1];exact hlt));grind
 refine⟨_,ho,hen,λi B hB=>hin i (gF hB),λH1 pl w us he hr hnw hl hp H' ha=>?_⟩;obtain⟨hs1,hs2⟩:=dk D3;obtain⟨g1,g2⟩:=uy (us:=us.toList) hr (xE he _ _ _ hpr) (by simpa using hl) λj x u hx hu=>hp j x u hx (by simpa using hu);have hbs1:=uw he L _ hbs
 have hd1:nd L D (lb H1 L)=true:=by rw[qQ he L hin];exact hs2
 obtain⟨q1,q2⟩:=fY hn hbs1 vs1 hs1 j1 us.toList g1 g2;have jA:∀k,k<o.news.length->look H1 (nid+k)=none:=λk hk=>hnw k (by rw[fq];exact hk);refine(xu w us (kE H1 pl L D) (xB hr hn hbs1 hd1) (by simpa using q1) λj x u hx hu=>q2 j x u hx (by simpa using hu)).mono λe w' ⟨u,pl',he',h1,h2,h3,h4,h5,h6⟩=>?_
 have hc:fI w w' H1 H' pl pl' L D bs nid o:=by
  refine⟨hr,hn,hbs1,hbl,jA,λi hi=>zQ (hDe▸hi),h1,h3,h4,h5,λp u hu hno=>h6 p u hu λk B hB hf=>?_,?_⟩
  ·obtain⟨i,b0,e1,e2,e3,_⟩:=dd hbs1 hB;simp only[kE,e2]at hf;exact hno i b0 ((mem_iff i L).2 (EP e1)) e3 hf
  ·simp only[after,An,EC]at ha;obtain⟨h1',e1,e2⟩:=ha;exact⟨h1',e1,e2.symm⟩
 exact⟨u,_,he',hc.step,hc.rep o.v h2⟩
end
end
section
variable [Tok]
inductive KD where
 |gone
 |arr
 |box (l:List RT)
def cq:List (Option Nat)->List KD->List Nat
 |some _::g,.gone::l=>cq g l
 |some i::g,_::l=>i::cq g l
 |none::g,_::l=>cq g l
 |_,_=>[]
def iz (h:ar):List (Option Nat)->List KD->Option (List (Bool× Ty× Option Nat))
 |[],[]=>some []
 |_::g,.gone::ks=>iz h g ks
 |some _::g,.arr::ks=>iz h g ks
 |some i::g,.box l::ks=>match look h i with
  |some (.box cs)=>(pA l cs).bind λa=>(iz h g ks).bind λb=>some (a++b)
  |_=>none
 |_,_=>none
def iA (h:ar) (LL:List Nat) (i:Nat):Option Blk:=
 match look h i with
 |some (.arr none t xs)=>some (.arr none t xs)
 |some (.arr (some d) t xs)=>cond (hit LL d) none (some (.arr (some []) t xs))
 |_=>none
def cD (h:ar) (LL:List Nat) (G:List (Option Nat)):List (Option Nat)->List KD->Nat->Option (List (Option Blk))
 |[],[],_=>some []
 |_::g,.gone::ks,k=>(cD h LL G g ks k).bind λq=>some (none::q)
 |some i::g,.arr::ks,k=>(iA h LL i).bind λb=>(cD h LL G g ks k).bind λq=>some (some b::q)
 |some i::g,.box l::ks,k=>match look h i with
  |some (.box cs)=>(yV h LL G l k cs).bind λp=>(cD h LL G g ks p.2).bind λq=>some (some (.box p.1)::q)
  |_=>none
 |_,_,_=>none
def jG:List (Option Nat)->List KD->List (Option Nat)
 |[],_=>[]
 |_::g,.gone::ks=>none::jG g ks
 |og::g,.arr::ks=>og::jG g ks
 |og::g,.box _::ks=>og::jG g ks
 |_::g,[]=>none::jG g []
def xG (rt:RT) (ks:List KD) (st:St) (v:SV):Option jK:=
  (rt.vw v).bind λs0=>(iz st.heap st.gh ks).bind λs1=>
    let LL:=cq st.gh ks++dW (s0++s1)
    cond (nodup LL) ((fF st.heap LL (s0++s1)).bind λnews=>(rt.out st.heap LL (jG st.gh ks) st.gh.length v).bind λp=>(cD st.heap LL (jG st.gh ks) st.gh ks p.2).bind λq=>some ⟨p.1,q,news⟩) none
def pJ (ks:List KD) (v:SV) (gh:List (Option Nat)):List (Option Nat):=
 cond (Nat.beq ks.length (gh.length+1)) (match v with
  |.ptr i 0 _=>gh++[some i]
  |.tup (.ptr i 0 _::_)=>gh++[some i]
  |_=>gh) gh
def uz (m:Nat) (o:jK):Option jK:=match o.kept.drop m with
 |[]=>some o
 |[some b]=>some ⟨o.v,o.kept.take m,b::o.news⟩
 |_=>none
def qS (rt:RT) (ks:List KD) (st:St) (v:SV):Option jK:=
 (xG rt ks {st with gh:=pJ ks v st.gh} v).bind (uz st.gh.length)
def pK (t:Nat) (st:St):Option St:=
 match look st.aZ t with
 |some (.sub i 0 n)=>match look st.heap i with
  |some (.arr sh ty xs)=>cond (mem i (sh.getD [])) none (st.take (some t) {v:=.own st.nid,news:=[.arr sh ty (xs.take n)],gone:=[i]})
  |_=>some st
 |_=>some st
def uA (fn:Func) (rt:RT) (st:St):Option St:=
 match fn.results.toList,rt with
 |[.tmp t],.own _=>pK t st
 |[.tmp t],.shl _=>pK t st
 |_,_=>some st
def yW {ρ:Type} (P:Program) (fn:Func) (rt:RT) (ks:List KD) (dec:jK->Option ρ):Ex->St->Option ρ
 |.exit _,_=>none
 |.normal,st=>(uA fn rt st).bind λst=>(Av P fn st).bind λv=>(qS rt ks st v).bind dec
 |.ret,st=>(uA fn rt st).bind λst=>(Av P fn st).bind λv=>(qS rt ks st v).bind dec
def qT:Nat->List SV->List (Nat× SV)
 |_,[]=>[]
 |n,a::l=>(n,a)::qT (n+1) l
def om:Nat->Nat->List (Option Nat)
 |_,0=>[]
 |n,k+1=>some n::om (n+1) k
def xH (fn:Func) (args:List SV) (bs:List Blk):St:={aZ:=qT 0 args,heap:=aA 0 bs,nid:=bs.length,n:=fn.ntmps,gh:=om 0 bs.length}
theorem s4 (args:List SV) (n t:Nat):look (qT n args) t=if n<=t then args[t-n]? else none:=by
 induction args generalizing n with
 |nil=>simp[qT,look]
 |cons a l ih=>
  rw[qT,ag,ih];grind
theorem oo:∀(c n k:Nat) {i:Nat},(om n c)[k]? =some (some i)->i=n+k/\k<c
 |0,n,k,i,h=>by simp[om]at h
 |c+1,n,0,i,h=>by simp[om]at h;omega
 |c+1,n,k+1,i,h=>by
  have:=oo c (n+1) k (by simpa[om]using h);omega
def Pl.ug (pl:Pl) (gh:List (Option Nat)) (S:List (Bool× Ty× Option Nat)):Pl:=
  ⟨λk=>if k<gh.length then(match gh[k]? with|some (some i)=>pl.hdr i|_=>undef)else(pl.res S).hdr (k-gh.length),
   λk=>if k<gh.length then(match gh[k]? with|some (some i)=>pl.fp i|_=>λ_=>False)else(pl.res S).fp (k-gh.length),pl.base⟩
section
variable {w:World} {H:ar} {pl:Pl} {gh G:List (Option Nat)} {ks:List KD} {S:List (Bool× Ty× Option Nat)} {LL:List Nat} {news:List Blk} {kept:List (Option Blk)} {v:SV}
theorem du:∀{gh:List (Option Nat)} {ks:List KD} {k0:Nat} {kept:List (Option Blk)},cD H LL G gh ks k0=some kept->kept.length=gh.length/\
  ∀(k:Nat) (B:Blk),kept[k]? =some (some B)->∃i,gh[k]? =some (some i)/\mem i (cq gh ks)=true/\((∃l cs cs' k1 k2,ks[k]? =some (.box l)/\look H i=some (.box cs)/\yV H LL G l k1 cs=some (cs',k2)/\B=.box cs')\/(ks[k]? =some .arr/\iA H LL i=some B))
 |[],[],k0,kept,h=>by cases h;exact⟨rfl,λk B hB=>by simp at hB⟩
 |og::g,.gone::ks,k0,kept,h=>by
  simp only[cD,An,EC]at h;obtain⟨q,h1,rfl⟩:=h;obtain⟨g1,g2⟩:=du h1;refine⟨by simp[g1],λk B hB=>?_⟩
  cases k with
  |zero=>simp at hB
  |succ k=>
   obtain⟨i,a1,a2,a3⟩:=g2 k B (by simpa using hB);refine⟨i,by simpa using a1,?_,by simpa using a3⟩
   cases og<;>simpa[cq]using a2
 |some i0::g,.arr::ks,k0,kept,h=>by
  simp only[cD,An,EC]at h;obtain⟨b,h0,q,h1,rfl⟩:=h;obtain⟨g1,g2⟩:=du h1;refine⟨by simp[g1],λk B hB=>?_⟩
  cases k with
  |zero=>simp at hB;subst hB;exact⟨i0,rfl,by simp[cq,mem],.inr ⟨rfl,h0⟩⟩
  |succ k=>
   obtain⟨i,a1,a2,a3⟩:=g2 k B (by simpa using hB);refine⟨i,by simpa using a1,?_,by simpa using a3⟩
   rw[mem_iff]at a2⊢;simp[cq,a2]
 |some i0::g,.box l::ks,k0,kept,h=>by
  simp only[cD]at h;split at h
  ·rename_i cs hl;simp only[An,EC]at h;obtain⟨p,h0,q,h1,rfl⟩:=h;obtain⟨g1,g2⟩:=du h1;refine⟨by simp[g1],λk B hB=>?_⟩
   cases k with
   |zero=>simp at hB;subst hB;exact⟨i0,rfl,by simp[cq,mem],.inl ⟨l,cs,p.1,k0,p.2,rfl,hl,h0,rfl⟩⟩
   |succ k=>
    obtain⟨i,a1,a2,a3⟩:=g2 k B (by simpa using hB);refine⟨i,by simpa using a1,?_,by simpa using a3⟩;rw[mem_iff]at a2⊢;simp[cq,a2]
  ·cases h
 |[],_::_,_,_,h=>by cases h
 |none::_,[],_,_,h=>by cases h
 |some _::_,[],_,_,h=>by cases h
 |none::_,.arr::_,_,_,h=>by cases h
 |none::_,.box _::_,_,_,h=>by cases h
theorem ke (hr:bC H pl w) {H2:ar} {plR:Pl} {m:Nat} (hown:∀(k:Nat) (b:Bool) (t:Ty) (v:SV) (u:Value),ab w H pl v u->((∃i,v=.own i/\S[k]? =some (b,t,some i))\/(v=.cG/\S[k]? =some (b,t,none)))->ab w H2 plR (.own (m+k)) u)
  (hro:∀d p,hit LL d=false->okd H pl d p->okd H2 plR [] p) (sQ:∀i j o u,posOf i G 0=some j->ab w H pl (.ptr i 0 o) u->ab w H2 plR (.ptr j 0 o) u):∀{gh:List (Option Nat)} {ks:List KD} {j0:Nat} {kept:List (Option Blk)} {s:List (Bool× Ty× Option Nat)},
  iz H gh ks=some s->(∀(j:Nat) (x:Bool× Ty× Option Nat),s[j]? =some x->S[j0+j]? =some x)->cD H LL G gh ks (m+j0)=some kept->
  ∀(k i:Nat) (cs cs':List SV),gh[k]? =some (some i)->look H i=some (.box cs)->kept[k]? =some (some (.box cs'))->∀us:List Value,cs.length=us.length->(∀(j:Nat) (x:SV) (u:Value),cs[j]? =some x->us[j]? =some u->ab w H pl x u)->
   cs'.length=us.length/\∀(j:Nat) (x:SV) (u:Value),cs'[j]? =some x->us[j]? =some u->ab w H2 plR x u
 |[],[],j0,kept,s,hs,hS,h,k,i,cs,cs',hk,_,_,_,_,_=>by simp at hk
 |og::g,.gone::ks,j0,kept,s,hs,hS,h,k,i,cs,cs',hk,hl,hc,us,hu,hp=>by
  simp only[cD,An,EC]at h;obtain⟨q,h1,rfl⟩:=h
  have hs:iz H g ks=some s:=by cases og<;>exact hs
  cases k with
  |zero=>simp at hc
  |succ k=>exact ke hr hown hro sQ hs hS h1 k i cs cs' (by simpa using hk) hl (by simpa using hc) us hu hp
 |some i0::g,.arr::ks,j0,kept,s,hs,hS,h,k,i,cs,cs',hk,hl,hc,us,hu,hp=>by
  simp only[cD,An,EC]at h;obtain⟨b,h0,q,h1,rfl⟩:=h
  cases k with
  |zero=>
   simp at hk hc;subst hk hc;unfold iA at h0
   grind
  |succ k=>exact ke hr hown hro sQ (show iz H g ks=some s from hs) hS h1 k i cs cs' (by simpa using hk) hl (by simpa using hc) us hu hp
 |some i0::g,.box l::ks,j0,kept,s,hs,hS,h,k,i,cs,cs',hk,hl,hc,us,hu,hp=>by
  simp only[cD]at h;simp only[iz]at hs
  cases hl0:look H i0 with
  |none=>grind
  |some B0=>
   cases B0 with
   |arr sh t xs=>grind
   |box cs0=>
    simp only[hl0,An,EC]at h hs;obtain⟨p,h0,q,h1,rfl⟩:=h;obtain⟨s1,e1,s2,e2,rfl⟩:=hs;obtain⟨b,o,q1,q2,q3⟩:=hr.blk i0 _ hl0
    have key:∀us:List Value,cs0.length=us.length->(∀(j:Nat) (x:SV) (u:Value),cs0[j]? =some x->us[j]? =some u->ab w H pl x u)->_:=λus hu hp=>
     fW hr hown hro sQ l e1 (λj x hx=>hS j x (by rw[EJ (ED.1 hx).1];exact hx)) (cs':=p.1) (k':=p.2) (by rw[h0]) us hu hp
    cases k with
    |zero=>
     grind
    |succ k=>
     have hk2:p.2=m+(j0+s1.length):=by
      have hus:∃us:List Value,cs0.length=us.length/\∀(j:Nat) (x:SV) (u:Value),cs0[j]? =some x->us[j]? =some u->ab w H pl x u:=by
       have:∀n,n<=cs0.length->∃us:List Value,us.length=n/\∀(j:Nat) (x:SV) (u:Value),cs0[j]? =some x->us[j]? =some u->ab w H pl x u:=λn=>by
        induction n with
        |zero=>exactλ_=>⟨[],rfl,λj x u _ h=>by simp at h⟩
        |succ n ih=>
         intro hn;obtain⟨us,a1,a2⟩:=ih (by omega);obtain⟨u,_,_,_,b4⟩:=q3 n cs0[n] (EE (by omega));refine⟨us++[u],by simp[a1],λj x u' hx hu'=>?_⟩;grind
       obtain⟨us,a1,a2⟩:=this cs0.length (EX _);grind
      grind
     rw[hk2]at h1
     exact ke hr hown hro sQ e2 (λj x hx=>by
      have:=hS (s1.length+j) x (by rw[EH (by omega),E1];exact hx)
      rw[Fs];exact this) h1 k i cs cs' (by simpa using hk) hl (by simpa using hc) us hu hp
 |[],_::_,_,_,_,h,_,_,_,_,_,_,_,_,_,_,_,_=>by cases h
 |none::_,[],_,_,_,h,_,_,_,_,_,_,_,_,_,_,_,_=>by cases h
 |some _::_,[],_,_,_,h,_,_,_,_,_,_,_,_,_,_,_,_=>by cases h
 |none::_,.arr::_,_,_,_,h,_,_,_,_,_,_,_,_,_,_,_,_=>by cases h
 |none::_,.box _::_,_,_,_,h,_,_,_,_,_,_,_,_,_,_,_,_=>by cases h
theorem lZ:∀{gh:List (Option Nat)} {ks:List KD} {k0 k0':Nat} {kept:List (Option Blk)},cD H LL G gh ks k0=some kept->(cq gh ks).Nodup->∀(k k':Nat) (B B':Blk) (i:Nat),
  kept[k]? =some (some B)->kept[k']? =some (some B')->gh[k]? =some (some i)->gh[k']? =some (some i)->k=k'
 |[],[],k0,k0',kept,h,hn,k,k',B,B',i,h1,h2,h3,h4=>by simp at h3
 |og::g,.gone::ks,k0,k0',kept,h,hn,k,k',B,B',i,h1,h2,h3,h4=>by
  simp only[cD,An,EC]at h;obtain⟨q,e1,rfl⟩:=h
  have hn:(cq g ks).Nodup:=by cases og<;>simpa[cq]using hn
  cases k with
  |zero=>simp at h1
  |succ k=>cases k' with
   |zero=>simp at h2
   |succ k'=>rw[lZ (k0':=k0') e1 hn k k' B B' i (by simpa using h1) (by simpa using h2) (by simpa using h3) (by simpa using h4)]
 |some i0::g,.arr::ks,k0,k0',kept,h,hn,k,k',B,B',i,h1,h2,h3,h4=>by
  simp only[cD,An,EC]at h;obtain⟨b,e0,q,e1,rfl⟩:=h
  have hn:i0∉cq g ks/\(cq g ks).Nodup:=by simpa[cq]using hn
  have sub:∀{k B},q[k]? =some (some B)->g[k]? =some (some i0)->False:=λ{k B} q1 q2=>by
   obtain⟨i',a1,a2,_⟩:=(du e1).2 k B q1;rw[q2]at a1;cases a1;exact hn.1 ((mem_iff _ _).1 a2)
  cases k with
  |zero=>grind
  |succ k=>cases k' with
   |zero=>grind
   |succ k'=>rw[lZ (k0':=k0') e1 hn.2 k k' B B' i (by simpa using h1) (by simpa using h2) (by simpa using h3) (by simpa using h4)]
 |some i0::g,.box l::ks,k0,k0',kept,h,hn,k,k',B,B',i,h1,h2,h3,h4=>by
  simp only[cD]at h;split at h
  ·simp only[An,EC]at h;obtain⟨b,e0,q,e1,rfl⟩:=h
   have hn:i0∉cq g ks/\(cq g ks).Nodup:=by simpa[cq]using hn
   have sub:∀{k B},q[k]? =some (some B)->g[k]? =some (some i0)->False:=λ{k B} q1 q2=>by
    obtain⟨i',a1,a2,_⟩:=(du e1).2 k B q1;rw[q2]at a1;cases a1;exact hn.1 ((mem_iff _ _).1 a2)
   cases k with
   |zero=>cases k' with
    |zero=>rfl
    |succ k'=>simp at h3;subst h3;exact(sub (by simpa using h2) (by simpa using h4)).elim
   |succ k=>cases k' with
    |zero=>simp at h4;subst h4;exact(sub (by simpa using h1) (by simpa using h3)).elim
    |succ k'=>rw[lZ (k0':=k0') e1 hn.2 k k' B B' i (by simpa using h1) (by simpa using h2) (by simpa using h3) (by simpa using h4)]
  ·cases h
 |[],_::_,_,_,_,h,_,_,_,_,_,_,_,_,_,_=>by cases h
 |none::_,[],_,_,_,h,_,_,_,_,_,_,_,_,_,_=>by cases h
 |some _::_,[],_,_,_,h,_,_,_,_,_,_,_,_,_,_=>by cases h
 |none::_,.arr::_,_,_,_,h,_,_,_,_,_,_,_,_,_,_=>by cases h
 |none::_,.box _::_,_,_,_,h,_,_,_,_,_,_,_,_,_,_=>by cases h
theorem ft:∀{gh:List (Option Nat)} {ks:List KD} {k0:Nat} {kept:List (Option Blk)} {j i:Nat},cD H LL G gh ks k0=some kept->(jG gh ks)[j]? =some (some i)->∃B,kept[j]? =some (some B)/\gh[j]? =some (some i)
 |[],_,_,_,j,i,_,h=>by simp[jG]at h
 |og::g,.gone::ks,k0,kept,j,i,h,hj=>by
  simp only[cD,An,EC]at h;obtain⟨q,h1,rfl⟩:=h
  cases j with
  |zero=>simp[jG]at hj
  |succ j=>simpa using ft h1 (by simpa[jG]using hj)
 |some i0::g,.arr::ks,k0,kept,j,i,h,hj=>by
  simp only[cD,An,EC]at h;obtain⟨b,h0,q,h1,rfl⟩:=h
  cases j with
  |zero=>simp[jG]at hj;subst hj;exact⟨b,rfl,rfl⟩
  |succ j=>simpa using ft h1 (by simpa[jG]using hj)
 |some i0::g,.box l::ks,k0,kept,j,i,h,hj=>by
  simp only[cD]at h;split at h
  ·simp only[An,EC]at h;obtain⟨b,h0,q,h1,rfl⟩:=h
   cases j with
   |zero=>simp[jG]at hj;subst hj;exact⟨_,rfl,rfl⟩
   |succ j=>simpa using ft h1 (by simpa[jG]using hj)
  ·cases h
 |none::_,[],_,_,_,_,h,_=>by cases h
 |some _::_,[],_,_,_,_,h,_=>by cases h
 |none::_,.arr::_,_,_,_,_,h,_=>by cases h
 |none::_,.box _::_,_,_,_,_,h,_=>by cases h
theorem ld {i:Nat}:∀{l:List (Option Nat)} {n k:Nat},posOf i l n=some k->n<=k/\l[k-n]? =some (some i)
 |none::l,n,k,h=>by
  obtain⟨h1,h2⟩:=ld (l:=l) (n:=n+1) h
  grind
 |some j::l,n,k,h=>by
  simp only[posOf]at h;cases hj:Nat.beq j i<;>simp only[hj,cond_true,cond_false,EC]at h
  ·obtain⟨h1,h2⟩:=ld h;grind
  ·subst h;exact⟨EX _,by simp[EF hj]⟩
theorem qU {st:St} {rt:RT} {o:jK} {u:Value} (hr:bC st.heap pl w) (h:xG rt ks st v=some o) (hv:ab w st.heap pl v u):
    ∃plM:Pl,bC o.heap plM w/\ab w o.heap plM o.v u/\plM.base=pl.base/\o.kept.length=st.gh.length/\
      (∀(k:Nat) (B:Blk),o.kept[k]? =some (some B)->∃i B0,st.gh[k]? =some (some i)/\look st.heap i=some B0/\plM.hdr k=pl.hdr i/\B0.fg B)/\
      (∀k B p,look o.heap k=some B->plM.fp k p->∃i B0,look st.heap i=some B0/\pl.fp i p):=by
  simp only[xG,An]at h;obtain⟨s0,hs0,s1,hs1,h⟩:=h;generalize hS:s0++s1=S at h;generalize hLL:cq st.gh ks++dW S=LL at h;cases hnd:nodup LL<;>simp only[hnd,cond_true,cond_false,An,EC]at h
  · cases h
  obtain⟨news,wN,p,hp,q,hq,rfl⟩:=h;have CI:=cC hnd;rw[<-hLL,List.nodup_append]at CI;obtain⟨hk1,hk2⟩:=du hq;obtain⟨hb1,hb2⟩:=eo wN
  let o:jK:=⟨p.1,q,news⟩
  let plM:=pl.ug st.gh S
  have hm:o.kept.length=st.gh.length:=hk1
  have origin:∀k B,look o.heap k=some B->(k<st.gh.length/\q[k]? =some (some B)/\∃i,st.gh[k]? =some (some i)/\mem i (cq st.gh ks)=true/\plM.hdr k=pl.hdr i/\plM.fp k=pl.fp i)\/
      (st.gh.length<=k/\∃b t oi,S[k-st.gh.length]? =some (b,t,oi)/\j7 st.heap LL (b,t,oi)=some B/\plM.hdr k=(pl.res S).hdr (k-st.gh.length)/\plM.fp k=(pl.res S).fp (k-st.gh.length)):=λk B hB=>by
    by_cases c:k<st.gh.length
    · rw[o.lX (by omega)]at hB;obtain⟨ob,e1,e2⟩:=An.1 hB;have e2:ob=some B:=e2;subst e2;obtain⟨i,a1,a2,_⟩:=hk2 k B e1;exact .inl ⟨c,e1,i,a1,a2,by simp only[plM,Pl.ug,if_pos c,a1],by simp only[plM,Pl.ug,if_pos c,a1]⟩
    · rw[o.ka (by omega),hm]at hB;obtain⟨⟨b,t,oi⟩,e1,e2⟩:=hb2 _ _ hB;exact .inr ⟨by omega,b,t,oi,e1,e2,by simp only[plM,Pl.ug,if_neg c],by simp only[plM,Pl.ug,if_neg c]⟩
  have srcIn:∀{k b t i},S[k]? =some (b,t,some i)->mem i LL=true:=λ{k b t i} h=>by
    rw[<-hLL,mem_append,(mem_iff i _).2 (fV h),FO]
  have hro:∀d p,hit LL d=false->okd st.heap pl d p->okd o.heap plM [] p:=λd p hd hok=>by
    refine⟨hok.1,λk B hB _ hf=>?_⟩
    have no:∀{i B0},look st.heap i=some B0->mem i LL=true->pl.fp i p->False:=λ{i B0} hl hi hf=>hok.2 i B0 hl (λhm=>by
      have:=cJ LL d hd i hm;rw[hi]at this;exact nomatch this) hf
    rcases origin k B hB with⟨c,e1,i,a1,a2,_,a4⟩|⟨c,b,t,oi,e1,e2,_,a4⟩
    · rw[a4]at hf
      have hi:mem i LL=true:=by rw[<-hLL,mem_append,a2];rfl
      obtain⟨i',a1',_,hor⟩:=hk2 k B e1;rw[a1]at a1';cases a1'
      rcases hor with⟨l,cs,cs',k1,k2,_,hl,_⟩|⟨_,ho⟩
      · grind
      · unfold iA at ho;grind
    · rw[a4]at hf
      cases oi with
      |none=>simp[Pl.res,e1]at hf
      | some i =>
        simp only[Pl.res,e1]at hf;obtain⟨sh,xs,hl,_⟩:=bj e2;grind
  have hown:∀(k:Nat) (b:Bool) (t:Ty) (v:SV) (u:Value),ab w st.heap pl v u->((∃i,v=.own i/\S[k]? =some (b,t,some i))\/(v=.cG/\S[k]? =some (b,t,none)))->ab w o.heap plM (.own (st.gh.length+k)) u:=λk b t v u hv hc=>by
    have ni:∀{s},S[k]? =some s->∃B,look o.heap (st.gh.length+k)=some B/\j7 st.heap LL s=some B:=λ{s} h=>by
      have hlt:k<news.length:=by rw[hb1];exact(ED.1 h).1
      obtain⟨s',h1,h2⟩:=hb2 k _ (EE hlt);rw[h]at h1;cases h1;exact⟨_,by rw[o.ka (by omega),hm,E1];exact EE hlt,h2⟩
    have eh:plM.hdr (st.gh.length+k)=(pl.res S).hdr k:=by simp only[plM,Pl.ug,if_neg (show¬st.gh.length+k<st.gh.length by omega),E1]
    rcases hc with⟨i,rfl,h⟩|⟨rfl,h⟩
    · obtain⟨B,h1,h2⟩:=ni h;obtain⟨sh,xs,hl,h3⟩:=bj h2
      have e:plM.hdr (st.gh.length+k)=pl.hdr i:=by rw[eh];simp only[Pl.res,h]
      cases hv with
      | own _ sh' t' ys hl' =>
        rw[<-e]
        rcases h3 with⟨_,rfl⟩|⟨d,_,_,rfl⟩
        · exact .own _ none t xs h1
        · exact .own _ (some []) t xs h1
    · obtain⟨B,h1,h2⟩:=ni h
      have e:plM.hdr (st.gh.length+k)=.slice none 0 0:=by rw[eh];simp only[Pl.res,h]
      cases hv with
      | cG =>
        rw[<-e]
        cases b with
        |false=>cases h2;exact .own _ none t [] h1
        |true=>cases h2;exact .own _ (some []) t [] h1
  have sQ:∀i j o' u,posOf i (jG st.gh ks) 0=some j->ab w st.heap pl (.ptr i 0 o') u->ab w o.heap plM (.ptr j 0 o') u:=λi j o' u hj hv=>by
    obtain⟨_,g1⟩:=ld hj;rw[Fg]at g1;obtain⟨B,g2,g3⟩:=ft hq g1;have hlt:j<st.gh.length:=(ED.1 g3).1
    have eh:plM.hdr j=pl.hdr i:=by simp only[plM,Pl.ug,if_pos hlt,g3]
    have hl:look o.heap j=some B:=by rw[o.lX (by omega)];show(q[j]?).bind id=some B;rw[g2];rfl
    obtain⟨i',a1',_,hor⟩:=hk2 j B g2;rw[g3]at a1';cases a1'
    cases hv with
    | kK _ _ cs b m0 hlb hh =>
      rcases hor with⟨l,cs1,cs',k1,k2,_,hl1,_,rfl⟩|⟨_,ho⟩
      · exact .kK j o' cs' b m0 hl (eh.trans hh)
      · unfold iA at ho;rw[hlb]at ho;cases ho
    | jJ _ _ _ sh t xs b m0 n cap hlb hx hh =>
      rcases hor with⟨l,cs1,cs',k1,k2,_,hl1,_,rfl⟩|⟨_,ho⟩
      · rw[hlb]at hl1;cases hl1
      · unfold iA at ho;rw[hlb]at ho
        cases sh with
        |none=>cases ho;exact .jJ j 0 o' none t xs b m0 n cap hl hx (eh.trans hh)
        | some d =>
          simp only at ho;cases hd:hit LL d<;>simp only[hd,cond_true,cond_false]at ho
          · cases ho;exact .jJ j 0 o' _ t xs b m0 n cap hl hx (eh.trans hh)
          · cases ho
  have hS0:∀(j:Nat) (x:Bool× Ty× Option Nat),s0[j]? =some x->S[0+j]? =some x:=λj x hx=>by
    grind
  obtain⟨r1,r2⟩:=pB (m:=st.gh.length) hr hown hro sQ rt hs0 hS0 (k:=0) (by rw[E6];exact hp) hv;rw[r2,EL]at hq
  have hS1:∀(j:Nat) (x:Bool× Ty× Option Nat),s1[j]? =some x->S[s0.length+j]? =some x:=λj x hx=>by
    grind
  have hbx:=ke hr hown hro sQ hs1 hS1 hq;refine⟨plM,⟨λk B hB=>?_,λk k' B B' p h1 h2 f1 f2=>?_,λk B p hB hf=>?_,hr.nb⟩,r1,rfl,hk1,λk B hB=>?_,λk B p hB hf=>?_⟩
  · rcases origin k B hB with⟨c,e1,i,a1,a2,ah,af⟩|⟨c,b,t,oi,e1,e2,ah,af⟩
    · obtain ⟨i', a1', _, hor⟩ := hk2 k B e1;rw[a1]at a1';cases a1'
      rcases hor with⟨l,cs,cs',k1,k2,_,hl,hol,rfl⟩|⟨_,ho⟩
      · obtain⟨b,off,q1,q2,q3⟩:=hr.blk i _ hl
        have hus:∃us:List Value,cs.length=us.length/\(∀(j:Nat) (u:Value),us[j]? =some u->w.at? (b,off+j)=some u/\calm (w.cg (b,off+j))=true/\one u=true)/\∀(j:Nat) (x:SV) (u:Value),cs[j]? =some x->us[j]? =some u->ab w st.heap pl x u:=by
          refine⟨(List.range cs.length).map λj=>(w.at? (b,off+j)).getD undef,by simp,λj u hu=>?_,λj x u hx hu=>?_⟩
          · have hj:j<cs.length:=by have:=(ED.1 hu).1;simpa using this
            obtain⟨u',g1,g2,g3,g4⟩:=q3 j _ (EE hj)
            have:u=u':=by
              rw[E7,EE (by simpa using hj)]at hu;simp[g1]at hu;exact hu.symm
            subst this;exact⟨g1,g2,g3⟩
          · obtain⟨u',g1,g2,g3,g4⟩:=q3 j x hx;have hj:j<cs.length:=(ED.1 hx).1
            have:u=u':=by
              rw[E7,EE (by simpa using hj)]at hu;simp[g1]at hu;exact hu.symm
            subst this;exact g4
        obtain⟨us,u1,u2,u3⟩:=hus;obtain⟨g1,g2⟩:=hbx k i cs cs' a1 hl e1 us u1 u3;refine⟨b,off,ah.trans q1,λp=>by rw[af,q2,g1,u1],λj y hy=>?_⟩
        have hj:j<us.length:=by rw[<-g1];exact(ED.1 hy).1
        obtain⟨z1,z2,z3⟩:=u2 j us[j] (EE hj);exact⟨us[j],z1,z2,z3,g2 j y _ hy (EE hj)⟩
      · unfold iA at ho;split at ho
        · rename_i t xs hl;cases ho;show Nonempty (Row w (cS w) t xs (plM.hdr k) (plM.fp k));rw[ah,af];exact hr.blk i _ hl
        · rename_i d t xs hl;cases hd:hit LL d<;>simp only[hd,cond_true,cond_false]at ho
          · cases ho;obtain⟨⟨a,cap,b,q0,vs,fs,q1,q2,q3,q4,q5,q6,q7,q8,q9⟩⟩:=hr.blk i _ hl;exact⟨⟨a,cap,b,q0,vs,fs,ah.trans q1,q2,q3,q4,q5,λi j r hc=>⟨(q6 i j r hc).1.frame λp u hp hu=>⟨hro d p hd hp,hu⟩,(q6 i j r hc).2⟩,q7,q8,λp=>by rw[af];exact q9 p⟩⟩
          · cases ho
        · cases ho
    · cases oi with
      | none =>
        have e:plM.hdr k=.slice none 0 0:=by rw[ah];simp only[Pl.res,e1]
        have ef:plM.fp k=λ_=>False:=by rw[af];simp only[Pl.res,e1]
        have:=Row.nil (w:=w) (t:=t) (mu w o.heap plM (cond b (some []) none));rw[<-e,<-ef]at this
        cases b with
        |false=>cases e2;exact cr.fB this
        |true=>cases e2;exact cr.fB this
      | some i =>
        have e:plM.hdr k=pl.hdr i:=by rw[ah];simp only[Pl.res,e1]
        have ef:plM.fp k=pl.fp i:=by rw[af];simp only[Pl.res,e1]
        obtain⟨sh,xs,hl,h3⟩:=bj e2;have hb:=hr.blk i _ hl
        rcases h3 with⟨rfl,rfl⟩|⟨d,rfl,hd,rfl⟩
        · show Nonempty (Row w (cS w) t xs (plM.hdr k) (plM.fp k));rw[e,ef];exact hb
        · obtain⟨⟨a,cap,b',q0,vs,fs,q1,q2,q3,q4,q5,q6,q7,q8,q9⟩⟩:=hb;exact⟨⟨a,cap,b',q0,vs,fs,e.trans q1,q2,q3,q4,q5,λi j r hc=>⟨(q6 i j r hc).1.frame λp u hp hu=>⟨hro d p hd hp,hu⟩,(q6 i j r hc).2⟩,q7,q8,λp=>by rw[ef];exact q9 p⟩⟩
  · have there:∀{i k B},q[k]? =some (some B)->st.gh[k]? =some (some i)->∃B0,look st.heap i=some B0:=λ{i k B} e1 a1=>by
      obtain⟨i',a1',_,hor⟩:=hk2 k B e1;rw[a1]at a1';cases a1'
      rcases hor with⟨l,cs,cs',k1,k2,_,hl,_⟩|⟨_,ho⟩
      · exact⟨_,hl⟩
      · unfold iA at ho
        cases hl:look st.heap i with
        |none=>rw[hl]at ho;cases ho
        |some B0=>exact⟨_,rfl⟩
    rcases origin k B h1 with⟨c,e1,i,a1,a2,_,a4⟩|⟨c,b,t,oi,e1,e2,_,a4⟩<;>rcases origin k' B' h2 with⟨c',e1',i',a1',a2',_,a4'⟩|⟨c',b',t',oi',e1',e2',_,a4'⟩
    · rw[a4]at f1;rw[a4']at f2;obtain⟨B0,hl⟩:=there e1 a1;obtain⟨B0',hl'⟩:=there e1' a1';have:=hr.dis i i' _ _ p hl hl' f1 f2;subst this;exact lZ (k0':=0) hq CI.1 k k' B B' i e1 e1' a1 a1'
    · rw[a4]at f1;rw[a4']at f2
      cases oi' with
      |none=>simp[Pl.res,e1']at f2
      | some i' =>
        simp only[Pl.res,e1']at f2;obtain⟨B0,hl⟩:=there e1 a1;obtain⟨sh,xs,hl',_⟩:=bj e2';have:=hr.dis i i' _ _ p hl hl' f1 f2;subst this;exact(CI.2.2 i ((mem_iff _ _).1 a2) i (fV e1') rfl).elim
    · rw[a4]at f1;rw[a4']at f2
      cases oi with
      |none=>simp[Pl.res,e1]at f1
      | some i =>
        simp only[Pl.res,e1]at f1;obtain⟨B0,hl⟩:=there e1' a1';obtain⟨sh,xs,hl',_⟩:=bj e2;have:=hr.dis i' i _ _ p hl hl' f2 f1;subst this;exact(CI.2.2 i' ((mem_iff _ _).1 a2') i' (fV e1) rfl).elim
    · rw [a4] at f1;rw[a4']at f2
      cases oi with
      |none=>simp[Pl.res,e1]at f1
      | some i =>
        cases oi' with
        |none=>simp[Pl.res,e1']at f2
        | some i' =>
          simp only[Pl.res,e1]at f1;simp only[Pl.res,e1']at f2;obtain⟨_,_,hl,_⟩:=bj e2;obtain⟨_,_,hl',_⟩:=bj e2';have:=hr.dis i i' _ _ p hl hl' f1 f2;subst this;have:=qI CI.2.1 e1 e1';omega
  · rcases origin k B hB with⟨c,e1,i,a1,a2,_,a4⟩|⟨c,b,t,oi,e1,e2,_,a4⟩
    · rw[a4]at hf;obtain⟨i',a1',_,hor⟩:=hk2 k B e1;rw[a1]at a1';cases a1'
      rcases hor with⟨l,cs,cs',k1,k2,_,hl,_⟩|⟨_,ho⟩
      · exact hr.ob i _ p hl hf
      · unfold iA at ho
        cases hl:look st.heap i with
        |none=>rw[hl]at ho;cases ho
        |some B0=>exact hr.ob i _ p hl hf
    · rw[a4]at hf
      cases oi with
      |none=>simp[Pl.res,e1]at hf
      | some i =>
        simp only[Pl.res,e1]at hf;obtain⟨_,_,hl,_⟩:=bj e2;exact hr.ob i _ p hl hf
  · have hB:q[k]? =some (some B):=hB;obtain⟨i,a1,a2,hor⟩:=hk2 k B hB;have hlt:k<st.gh.length:=(ED.1 a1).1
    have ah:plM.hdr k=pl.hdr i:=by simp only[plM,Pl.ug,if_pos hlt,a1]
    rcases hor with⟨l,cs,cs',k1,k2,_,hl,hol,rfl⟩|⟨_,ho⟩
    · obtain⟨b,off,q1,q2,q3⟩:=hr.blk i _ hl;refine⟨i,_,a1,hl,ah,?_⟩
      obtain⟨g1,_⟩:=hbx k i cs cs' a1 hl hB ((List.range cs.length).map λj=>(w.at? (b,off+j)).getD undef) (by simp) λj x u hx hu=>by
        obtain⟨u',g1,g2,g3,g4⟩:=q3 j x hx;have hj:j<cs.length:=(ED.1 hx).1
        have:u=u':=by
          rw[E7,EE (by simpa using hj)]at hu;simp[g1]at hu;exact hu.symm
        subst this;exact g4
      show cs.length=cs'.length;rw[g1];simp
    · unfold iA at ho;split at ho
      · rename_i t xs hl;cases ho;exact⟨i,_,a1,hl,ah,⟨rfl,rfl⟩⟩
      · rename_i d t xs hl;cases hd:hit LL d<;>simp only[hd,cond_true,cond_false]at ho
        · cases ho;exact⟨i,_,a1,hl,ah,⟨rfl,rfl⟩⟩
        · cases ho
      · cases ho
  · rcases origin k B hB with⟨c,e1,i,a1,a2,_,a4⟩|⟨c,b,t,oi,e1,e2,_,a4⟩
    · rw[a4]at hf;obtain⟨i',a1',_,hor⟩:=hk2 k B e1;rw[a1]at a1';cases a1'
      rcases hor with⟨l,cs,cs',k1,k2,_,hl,_⟩|⟨_,ho⟩
      · exact⟨i,_,hl,hf⟩
      · unfold iA at ho
        cases hl:look st.heap i with
        |none=>rw[hl]at ho;cases ho
        |some B0=>exact⟨i,_,hl,hf⟩
    · rw[a4]at hf
      cases oi with
      |none=>simp[Pl.res,e1]at hf
      | some i =>
        simp only[Pl.res,e1]at hf;obtain⟨_,_,hl,_⟩:=bj e2;exact⟨i,_,hl,hf⟩
end
theorem Act.zT (a:Act) (t:Nat):a.put (some t) (a.tmps.getD t undef)=a:=by
 unfold Act.put
 have:a.tmps.setIfInBounds t (a.tmps.getD t undef)=a.tmps:=by
  apply Array.ext_getElem?;intro i;rw[Array.getElem?_setIfInBounds];by_cases e:t=i
  ·subst e;rw[if_pos rfl];by_cases h:t<a.tmps.size
   ·rw[if_pos h,EV,EN h];rfl
   ·grind
  ·rw[if_neg e]
 show({a with tmps:=a.tmps.setIfInBounds t (a.tmps.getD t undef)}:Act)=a;rw[this]
theorem oq {w0:World} {fp0:G0} {bs:Cell->Prop} {m:Nat} {st st':St} {a:Act} {w:World} {t:Nat} (h:Rl w0 fp0 bs m st a w) (ht:pK t st=some st'):Rl w0 fp0 bs m st' a w:=by
  unfold pK at ht;split at ht
  · rename_i i n zG;split at ht
    · rename_i sh ty xs hl;cases hmi:mem i (sh.getD [])<;>rw[hmi]at ht
      rotate_left
      · cases ht
      rw[cond_false]at ht;obtain⟨pl,hR,hb,hn⟩:=h;have hv:=hR.sl t _ zG;obtain⟨⟨a0,cap,b,o,vs,fs,q1,q2,q3,q4,q5,q6,q7,q8,q9⟩⟩:=(hR.hr.blk i _ hl).AX
      have hu:∃a',a.tmps.getD t undef=.slice a' n cap/\(cap=0\/a'=some ⟨b,o,none⟩)/\n<=xs.length:=by
        generalize a.tmps.getD t undef=u at hv
        cases hv with
        | sub _ _ _ sh2 t2 xs2 a1 a2 cap1 cap2 hl2 hh hn1 hc hc' ha =>
          rw[hl]at hl2;cases hl2;rw[q1]at hh;cases hh
          have hcc:cap2=cap:=by omega
          subst hcc;refine⟨a2,rfl,?_,by omega⟩
          rcases ha with h|h
          · exact .inl h
          · rcases q3 with h'|h'
            · exact .inl h'
            · exact .inr (by rw[h,h'];simp[Addr.add])
      obtain⟨a',hu,ha',hnx⟩:=hu;have xi:=ht;simp only[St.take,An,EC]at xi;obtain⟨h1,e1,s,h2,rfl⟩:=xi;have mN:look st.heap st.nid=none:=hR.fresh st.nid (EX _)
      have hlen:(xs.take n).length=n:=by rw[E0];omega
      have hT:fP st.heap (h1++aA st.nid [.arr sh ty (xs.take n)]) ([i],[i]) st.nid (.arr sh ty (xs.take n)):=
        nJ (T:=([i],[i])) (λk hk=>hk) e1 mN (dR (T:=([i],[i])) (λk hk=>hk) e1)
      have hmm:mem i [i]=true:=by simp[mem]
      have hin:∀{i' j r},al ty (xs.take n) i' j r->al ty xs i' j r:=λ{i' j r} hx=>by
        obtain⟨x,hx1,hx2⟩:=hx;have hlt:=(ED.1 hx1).1;rw[hlen]at hlt;exact⟨x,by rw[E4,if_pos hlt]at hx1;exact hx1,hx2⟩
      have hst:=eb (hdr:=a.tmps.getD t undef) (fp:=λp=>reg b o (cap*ty.sz) p\/∃i' j r,al ty (xs.take n) i' j r/\fs i' j p) (b7.refl w) hR.hr hT (λk hk=>hk) (λk hk=>.inl hk) (.inl mN) (λp u hp _=>⟨hp,rfl⟩)
        (λp hp=>hR.hr.nb p hp) (λp hp=>.inr ⟨i,_,hmm,hl,(q9 p).2 (hp.elim .inl λ⟨i',j,r,hx,hf⟩=>.inr ⟨i',j,r,hin hx,hf⟩)⟩) (λhk=>cr.fB ⟨a',cap,b,o,vs,fs,by simp[Pl.set,hu,hlen],by rw[hlen];omega,ha',q4,λi' j r hx=>q5 i' j r (hin hx),λi' j r hx=>by
          have hI:=q6 i' j r (hin hx)
          cases sh with
          |none=>exact hI
          | some d =>
            refine⟨hI.1.frame λp u hp hu=>hk.k2 d p u (λx hx=>?_) hp hu,hI.2⟩;have hmi:mem i d=false:=hmi;show mem x [i]=false;simp only[mem];cases hb:Nat.beq i x
            · rfl
            · have:=EF hb;subst this
              rw[hmi]at hx;exact(nomatch hx),λi' j r p hx hf=>q7 i' j r p (hin hx) hf,λi' j r i2 j2 r2 p hx hx' hf hf'=>q8 _ _ _ _ _ _ p (hin hx) (hin hx') hf hf',λp=>by simp[Pl.set]⟩)
      have Ax:=Rel.take hR ht (λk B hB=>by simp[look]at hB) hst (u:=a.tmps.getD t undef) (by
        have:=ab.own (w:=w) (H:=h1++aA st.nid [.arr sh ty (xs.take n)]) (pl:=pl.set st.nid (a.tmps.getD t undef) λp=>reg b o (cap*ty.sz) p\/∃i' j r,al ty (xs.take n) i' j r/\fs i' j p) st.nid sh ty (xs.take n) hT.Cs
        simpa[Pl.set]using this)
      rw[Act.zT]at Ax;exact⟨_,Ax,hb,hn⟩
    · grind
  · grind
theorem qV {w0:World} {fp0:G0} {bs:Cell->Prop} {m:Nat} {fn:Func} {rt:RT} {st st':St} {a:Act} {w:World} (h:Rl w0 fp0 bs m st a w) (ht:uA fn rt st=some st'):Rl w0 fp0 bs m st' a w:=by
 unfold uA at ht;split at ht
 ·exact oq h ht
 ·exact oq h ht
 ·grind
theorem qW (ks:List KD) (v:SV) (gh:List (Option Nat)) (k:Nat) (h:k<gh.length):(pJ ks v gh)[k]? =gh[k]? :=by
 unfold pJ;grind
theorem xI (ks:List KD) (v:SV) (gh:List (Option Nat)):gh.length<=(pJ ks v gh).length:=by
 unfold pJ;grind
theorem iB:∀(a b:List (Option Blk)) (n:Nat),gE n (a++b)=gE n a++gE (n+a.length) b
 |[],b,n=>rfl
 |none::a,b,n=>by
  rw[FI,gE,gE,iB a b (n+1),E5]
  congr 2;omega
 |some x::a,b,n=>by
  rw[FI,gE,gE,iB a b (n+1),E5,FI]
  congr 3;omega
theorem qX {w:World} {pl:Pl} {ks:List KD} {v:SV} {st:St} {rt:RT} {o:jK} {u:Value} (hr:bC st.heap pl w) (h:qS rt ks st v=some o) (hv:ab w st.heap pl v u):
  ∃plM:Pl,bC o.heap plM w/\ab w o.heap plM o.v u/\plM.base=pl.base/\o.kept.length=st.gh.length/\
   (∀(k:Nat) (B:Blk),o.kept[k]? =some (some B)->∃i B0,st.gh[k]? =some (some i)/\look st.heap i=some B0/\plM.hdr k=pl.hdr i/\B0.fg B)/\
   (∀k B p,look o.heap k=some B->plM.fp k p->∃i B0,look st.heap i=some B0/\pl.fp i p):=by
 simp only[qS,An]at h;obtain⟨o1,h1,h2⟩:=h;obtain⟨plM,m1,m2,m3,m4,m5,m6⟩:=qU (st:={st with gh:=pJ ks v st.gh}) hr h1 hv;have hal:=xI ks v st.gh;have m4:o1.kept.length=(pJ ks v st.gh).length:=m4;unfold uz at h2;split at h2
 ·rename_i hd;have h2:=Fy h2;subst h2
  have hl:o1.kept.length<=st.gh.length:=by
   have:=congrArg List.length hd;simp at this;omega
  exact⟨plM,m1,m2,m3,by omega,λk B hB=>by
   obtain⟨i,B0,a1,a2⟩:=m5 k B hB;have hk:k<o1.kept.length:=(ED.1 hB).1;have a1:(pJ ks v st.gh)[k]? =some (some i):=a1;rw[qW ks v st.gh k (by omega)]at a1
   exact⟨i,B0,a1,a2⟩,m6⟩
 ·rename_i b hd;have h2:=Fy h2;subst h2
  have hlen:o1.kept.length=st.gh.length+1:=by
   have:=congrArg List.length hd;simp at this;omega
  have hk:o1.kept=o1.kept.take st.gh.length++[some b]:=by
   rw[<-hd,E2]
  have htl:(o1.kept.take st.gh.length).length=st.gh.length:=by simp;omega
  have Bp:(jK.heap ⟨o1.v,o1.kept.take st.gh.length,b::o1.news⟩)=o1.heap:=by
   unfold jK.heap;show gE 0 (o1.kept.take st.gh.length)++aA (o1.kept.take st.gh.length).length (b::o1.news)=gE 0 o1.kept++aA o1.kept.length o1.news
   have e:gE 0 o1.kept=gE 0 (o1.kept.take st.gh.length)++gE (0+(o1.kept.take st.gh.length).length) [some b]:=by
    rw[<-iB,<-hk]
   rw[e,htl,hlen,EK,EL];rfl
  refine⟨plM,by rw[Bp];exact m1,by rw[Bp];exact m2,m3,htl,λk B hB=>?_,λk B p hB hf=>?_⟩
  ·have hB:(o1.kept.take st.gh.length)[k]? =some (some B):=hB
   have hkl:k<st.gh.length:=by have:=(ED.1 hB).1;omega
   rw[E4,if_pos hkl]at hB;obtain⟨i,B0,a1,a2⟩:=m5 k B hB;have a1:(pJ ks v st.gh)[k]? =some (some i):=a1;rw[qW ks v st.gh k hkl]at a1;grind
  ·rw[Bp]at hB;exact m6 k B p hB hf
 ·cases h2
theorem xJ {ρ:Type} {E:Env} (hE:fS E) {LP:Nat->Ev ρ->Ev ρ} {g:FuncId} {fn:Func} {c:Code} {args:List SV} {bs:List Blk} {r:ρ} {dec:jK->Option ρ} {enc:ρ->jK} (hd:∀o r,dec o=some r->o=enc r)
  (hlen:(enc r).kept.length=bs.length) (hf:E.P.funcs[g]? =some fn) (hc:fn.body=some c)
  (hnm:(fn.name== "runtime.NumGoroutine")=false) (hn:Nat.ble args.length fn.ntmps=true) (hLP:dH E LP 0 c) {rt:RT} {ks:List KD} (h:ev E LP 0 c (xH fn args bs) (yW E.P fn rt ks dec)=some r):ur E.P g args bs (enc r):=by
 generalize ho:enc r=out at hlen;refine⟨enters_of hf (by rw[hc];rfl) hnm,hlen,λw us pl hrel0 hl j1=>?_⟩;have hn:=EO hn;refine calls_of_wp hf hc ?_
 let g0:G0:=⟨λp=>∃k B,look (aA 0 bs) k=some B/\pl.fp k p,pl.hdr,λk=>bs.getD k (.box [])⟩
 have hrel:Rl w g0 pl.base fn.ntmps (xH fn args bs) {tmps:=us++Array.replicate (fn.ntmps-us.size) undef,defers:=[]} w:=by
  refine⟨pl,⟨hrel0,λt v hv=>?_,by simp[xH];omega,rfl,λi hi=>k6 (by show 0+bs.length<=i;have hi:bs.length<=i:=hi;omega),b7.refl w,λp u hp hno=>⟨λi B hB hf=>hno ⟨i,B,hB,hf⟩,hp,rfl⟩,λk i hk=>?_⟩,rfl,rfl⟩
  ·simp only[xH]at hv;rw[s4,if_pos (E9 _),Fg]at hv
   have ht:t<us.size:=by rw[<-hl];exact(ED.1 hv).1
   have hg:(us++Array.replicate (fn.ntmps-us.size) undef).getD t undef=us[t]:=by
    rw[EV,FD ht,EN ht];rfl
   rw[hg];exact j1 t v _ hv (EN ht)
  ·obtain⟨rfl,h2⟩:=oo bs.length 0 k hk;rw[EL];refine⟨h2,λB hB=>⟨rfl,?_⟩⟩;have hB:look (aA 0 bs) k=some B:=hB;rw[aO,if_pos (E9 _),Fg]at hB;show(bs.getD k (.box [])).fg B;rw[FE,hB];exact B.bQ
 refine cQ hE c 0 hLP w g0 pl.base fn.ntmps _ _ w _ r _ hrel h λe st' a' w' hK hr''=>?_
 have key:∀st',Rl w g0 pl.base fn.ntmps st' a' w'->∀v,Av E.P fn st'=some v->qS rt ks st' v=some out->a'.defers=[]/\∃u,(results fn a'.tmps).run E.P w'=.ok u w'/\∃u' pl',Ending.returned u=.returned u'/\bC out.heap pl' w'/\ab w' out.heap pl' out.v u'/\pl'.base=pl.base/\b7 w w'/\
   (∀(k:Nat) (B:Blk),out.kept[k]? =some (some B)->pl'.hdr k=pl.hdr k/\∃B0,bs[k]? =some B0/\B0.fg B)/\
   (∀p u,w.at? p=some u->(∀k B,look (aA 0 bs) k=some B->¬pl.fp k p)->(∀k B,look out.heap k=some B->¬pl'.fp k p)/\w'.at? p=some u/\w'.cg p=w.cg p):=λst' hr' v hv hcn=>by
  obtain⟨pl1,hr,hb,_⟩:=hr';obtain⟨u,hu,hvr⟩:=ui (P:=E.P) hr.hr hr.sl hv;obtain⟨plM,m1,m2,m3,m4,m5,m6⟩:=qX hr.hr hcn hvr;refine⟨hr.df,u,hu,u,plM,rfl,m1,m2,m3.trans hb,hr.gr,λk B hB=>?_,λp u hp hno=>?_⟩
  ·obtain⟨i,B0,a1,a2,a3,a4⟩:=m5 k B hB;obtain⟨_,t2⟩:=hr.gk k i a1;obtain⟨t3,t4⟩:=t2 B0 a2
   have hk:k<bs.length:=by rw[<-hlen];exact(ED.1 hB).1
   refine⟨a3.trans t3,bs[k],EE hk,?_⟩;have t4:(bs.getD k (.box [])).fg B0:=t4;rw[FE,EE hk]at t4;exact Blk.cy t4 a4
  ·obtain⟨f1,f2,f3⟩:=hr.fr p u hp λ⟨k,B,hB,hf⟩=>hno k B hB hf;grind
 cases e with
 |exit j=>cases hK
 |normal=>
  simp only[yW,An]at hK;obtain⟨st2,hst2,v,hv,o,hcn,Bi⟩:=hK
  exact key st2 (qV hr'' hst2) v hv (hcn.trans (congrArg some ((hd o r Bi).trans ho)))
 |ret=>
  simp only[yW,An]at hK;obtain⟨st2,hst2,v,hv,o,hcn,Bi⟩:=hK;exact key st2 (qV hr'' hst2) v hv (hcn.trans (congrArg some ((hd o r Bi).trans ho)))
end
end Go.Proofs.Ev
