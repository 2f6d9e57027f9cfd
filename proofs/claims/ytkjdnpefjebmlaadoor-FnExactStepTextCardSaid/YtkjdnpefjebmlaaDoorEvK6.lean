/- The evaluator over the model's code, and that it is sound: part 6. -/
import Derived.Test.YtkjdnpefjebmlaaDoorEvK5
import Derived.KernelRfl
import Derived.Below
set_option linter.unusedVariables false
set_option linter.unusedSimpArgs false
set_option linter.unusedSectionVars false
namespace Go.Proofs.Ev
section
variable [Tok] [Glo]
def vX (L:List Nat):List Nat->List Nat
 |[]=>[]
 |i::l=>match placeOf i L 0 with
  |some k=>k::vX L l
  |none=>vX L l
mutual
def SV.ren (L:List Nat):SV->Option SV
 |.r d x=>some (.r (vX L d) x)
 |.br=>some .br
 |.fK=>some .fK
 |.own i=>(placeOf i L 0).bind λk=>some (.own k)
 |.sub i o n=>(placeOf i L 0).bind λk=>some (.sub k o n)
 |.bsl i n=>(placeOf i L 0).bind λk=>some (.bsl k n)
 |.ptr i x o=>(placeOf i L 0).bind λk=>some (.ptr k x o)
 |.inn _ _ _=>none
 |.cY d cs=>some (.cY (vX L d) cs)
 |.agg cs=>(rM L cs).bind λl=>some (.agg l)
 |.tup cs=>(rM L cs).bind λl=>some (.tup l)
 |.fn f a b=>(rM L a).bind λa=>(rM L b).bind λb=>some (.fn f a b)
 |.undef=>some .undef
def rM (L:List Nat):List SV->Option (List SV)
 |[]=>some []
 |v::l=>(v.ren L).bind λv=>(rM L l).bind λl=>some (v::l)
end
def Blk.ren (L:List Nat):Blk->Option Blk
 |.box cs=>(rM L cs).bind λl=>some (.box l)
 |.arr none t xs=>some (.arr none t xs)
 |.arr (some d) t xs=>some (.arr (some (vX L d)) t xs)
def kf (h:ak) (L:List Nat):List Nat->Option (List Blk)
 |[]=>some []
 |i::l=>(look h i).bind λb=>(b.ren L).bind λb=>(kf h L l).bind λl=>some (b::l)
def getAll (s:List (Nat× SV)):List Nat->Option (List SV)
 |[]=>some []
 |t::l=>(look s t).bind λv=>(getAll s l).bind λvs=>some (v::vs)
abbrev NF:=List SV× List Blk× List (Option Nat)
def tL (h:ak):List (Option Nat)->List Nat
 |[]=>[]
 |none::l=>tL h l
 |some i::l=>match look h i with
  |some _=>i::tL h l
  |none=>tL h l
def mD (L:List Nat):List (Option Nat)->List (Option Nat)
 |[]=>[]
 |none::l=>none::mD L l
 |some i::l=>placeOf i L 0::mD L l
def norm (aY:List Nat) (st:St):Option NF:=
  (getAll st.aE aY).bind λvs=>
    let L:=reach st.heap 3 (gE (gE [] (uo vs)) (tL st.heap st.gh))
    cond (nodup L) ((rM L vs).bind λvs'=>(kf st.heap L L).bind λbs=>some (vs',bs,mD L st.gh)) none
def xB:List Nat->List SV->List (Nat× SV)
 |t::l,v::vs=>(t,v)::xB l vs
 |_,_=>[]
def bN (aY:List Nat) (n:Nat) (nf:NF):St:={aE:=xB aY nf.1,heap:=au 0 nf.2.1,nid:=nf.2.1.length,n:=n,gh:=nf.2.2}
theorem gv {L:List Nat}:{cs l:List SV}->rM L cs=some l->l.length=cs.length
 |[],l,h=>by cases h;rfl
 |v::cs,l,h=>by
  simp only[rM,An,AP]at h;obtain⟨v',hv,l',hl',rfl⟩:=h;simp[gv hl']
section
variable {w:World} {H:ak} {pl:Pl} {L:List Nat} {bs:List Blk}
theorem ja {i:Nat}:∀{L:List Nat} {n:Nat},placeOf i L n=none->i∉L
 |[],_,_=>λh=>nomatch h
 |j::l,n,h=>by
  simp only[placeOf]at h;cases hj:Nat.beq j i<;>simp only[hj,cond_true,cond_false]at h
  ·intro hm
   rcases Bb.1 hm with rfl|hm
   ·simp at hj
   ·exact ja h hm
  ·exact nomatch h
theorem cD {h:ak} {L:List Nat}:∀{l:List Nat} {bs:List Blk},kf h L l=some bs->bs.length=l.length/\
  (∀(k:Nat) (b:Blk),bs[k]? =some b->∃i b0,l[k]? =some i/\look h i=some b0/\b0.ren L=some b)
 |[],bs,e=>by cases e;exact⟨rfl,λk b hb=>by simp at hb⟩
 |i::l,bs,e=>by
  simp only[kf,An,AP]at e;obtain⟨b0,h1,b,h2,l',h3,rfl⟩:=e;obtain⟨g1,g2⟩:=cD h3;refine⟨by simp[g1],λk b' hb=>?_⟩
  cases k with
  |zero=>simp at hb;subst hb;exact⟨i,b0,rfl,h1,h2⟩
  |succ k=>simpa using g2 k b' (by simpa using hb)
theorem kg (hL:kf H L L=some bs) {i k:Nat} (hk:placeOf i L 0=some k) {B:Blk} (hB:look H i=some B):
  L.getD k 0=i/\∃B',look (au 0 bs) k=some B'/\B.ren L=some B':=by
 obtain⟨_,h2⟩:=cM hk;rw[Bv]at h2
 have hlt:k<bs.length:=by rw[(cD hL).1];exact(AQ.1 h2).1
 obtain⟨i',b0,e1,e2,e3⟩:=(cD hL).2 k _ (AU hlt);rw[h2]at e1;cases e1;rw[hB]at e2;cases e2;exact⟨by simp[List.getD,h2],_,by rw[ax,if_pos (Bo _),Bv];exact AU hlt,e3⟩
theorem eB (hL:kf H L L=some bs) {k:Nat} {B:Blk} (hB:look (au 0 bs) k=some B):∃i b0,L[k]? =some i/\L.getD k 0=i/\look H i=some b0/\b0.ren L=some B:=by
 rw[ax,if_pos (Bo _),Bv]at hB;obtain⟨i,b0,h1,h2,h3⟩:=(cD hL).2 k B hB;exact⟨i,b0,h1,by simp[List.getD,h1],h2,h3⟩
theorem fW {L:List Nat} (hn:L.Nodup) {k i:Nat} (h:L[k]? =some i):placeOf i L 0=some k:=by
 cases hp:placeOf i L 0 with
 |none=>exact(ja hp (A6 h)).elim
 |some k'=>
  obtain⟨_,h2⟩:=cM hp;rw[Bv]at h2;have hlt:=(AQ.1 h).1;rw[(List.getElem?_inj hlt hn).1 (h.trans h2.symm)]
theorem vh {L d:List Nat} {k i:Nat} (h:placeOf i L 0=some k) (hd:mem i d=true):mem k (vX L d)=true:=by
 induction d with
 |nil=>exact nomatch hd
 |cons j l ih=>
  simp only[vX];simp only[mem]at hd;cases hj:Nat.beq j i<;>simp only[hj,cond_true,cond_false]at hd
  ·cases placeOf j L 0 with
   |none=>exact ih hd
   |some m=>simp only[mem];cases Nat.beq m k<;>simp[ih hd]
  ·have:j=i:=AR hj;subst this;simp only[h,mem];simp
theorem Blk.w5 {b b':Blk} (h:b.ren L=some b'):b'.dg=b.dg:=by
 cases b with
 |box cs=>simp only[Blk.ren,An,AP]at h;obtain⟨_,_,rfl⟩:=h;rfl
 |arr sh t xs=>cases sh<;>(cases h;rfl)
theorem mE (hn:nodup L=true) (hL:kf H L L=some bs) {d:List Nat} {p:Cell} (h:okd H pl d p):okd (au 0 bs) (pl.out L) (vX L d) p:=by
 refine⟨h.1,λk B hB hm hf=>?_⟩;obtain⟨i,b0,h1,hi,h2,h3⟩:=eB hL hB;simp only[Pl.out,hi]at hf;refine h.2 i b0 h2 (λhd=>?_) hf;rw[<-Blk.w5 h3];exact hm (vh (fW (bX hn) h1) hd)
mutual
theorem pw (hn:nodup L=true) (hL:kf H L L=some bs):(v:SV)->{v':SV}->{u:Value}->v.ren L=some v'->aa w H pl v u->aa w (au 0 bs) (pl.out L) v' u
 |.r d x,v',u,h,hv=>by
  cases h
  cases hv with
  |r _ _ _ hx=>exact .r _ _ _ (hx.frame λp u hp hu=>⟨mE hn hL hp,hu⟩)
 |.br,v',u,h,hv=>by cases h;cases hv;exact .br
 |.fK,v',u,h,hv=>by cases h;cases hv;exact .fK
 |.own i,v',u,h,hv=>by
  simp only[SV.ren,An,AP]at h;obtain⟨k,hk,rfl⟩:=h
  cases hv with
  |own _ sh t xs hl=>
   obtain⟨hi,B',g1,g2⟩:=kg hL hk hl
   have e:(pl.out L).hdr k=pl.hdr i:=by simp only[Pl.out,hi]
   rw[<-e]
   cases sh with
   |none=>cases g2;exact .own k none t xs g1
   |some d=>cases g2;exact .own k _ t xs g1
 |.sub i o n,v',u,h,hv=>by
  simp only[SV.ren,An,AP]at h;obtain⟨k,hk,rfl⟩:=h
  cases hv with
  |sub _ _ _ sh t xs a a' cap cp hl hh h1 h2 h3 h4=>
   obtain⟨hi,B',g1,g2⟩:=kg hL hk hl
   have e:(pl.out L).hdr k=pl.hdr i:=by simp only[Pl.out,hi]
   cases sh with
   |none=>cases g2;exact .sub k o n none t xs a a' cap cp g1 (e.trans hh) h1 h2 h3 h4
   |some d=>cases g2;exact .sub k o n _ t xs a a' cap cp g1 (e.trans hh) h1 h2 h3 h4
 |.bsl i n,v',u,h,hv=>by
  simp only[SV.ren,An,AP]at h;obtain⟨k,hk,rfl⟩:=h
  cases hv with
  |bsl _ _ cs a hl hh=>
   obtain⟨hi,B',g1,g2⟩:=kg hL hk hl
   have e:(pl.out L).hdr k=pl.hdr i:=by simp only[Pl.out,hi]
   simp only[Blk.ren,An,AP]at g2;obtain⟨l,hl',rfl⟩:=g2
   exact .bsl k n l a g1 (e.trans hh)
 |.ptr i x o,v',u,h,hv=>by
  simp only[SV.ren,An,AP]at h;obtain⟨k,hk,rfl⟩:=h
  cases hv with
  |jI _ _ cs b m hl hh=>
   obtain⟨hi,B',g1,g2⟩:=kg hL hk hl
   have e:(pl.out L).hdr k=pl.hdr i:=by simp only[Pl.out,hi]
   simp only[Blk.ren,An,AP]at g2;obtain⟨l,hl',rfl⟩:=g2
   exact .jI k o l b m g1 (e.trans hh)
  |jn _ _ _ sh t xs b m n cap hl hx hh=>
   obtain⟨hi,B',g1,g2⟩:=kg hL hk hl
   have e:(pl.out L).hdr k=pl.hdr i:=by simp only[Pl.out,hi]
   cases sh with
   |none=>cases g2;exact .jn k x o none t xs b m n cap g1 hx (e.trans hh)
   |some d=>cases g2;exact .jn k x o _ t xs b m n cap g1 hx (e.trans hh)
 |.inn _ _ _,v',u,h,hv=>by cases h
 |.cY d cs,v',u,h,hv=>by
  cases h
  cases hv with
  |cY _ _ b o vs h1 h2=>exact .cY _ _ b o vs (λj r hj=>⟨mE hn hL (h1 j r hj).1,(h1 j r hj).2⟩) λj r hj=>(h2 j r hj).frame λp u hp hu=>⟨mE hn hL hp,hu⟩
 |.agg cs,v',u,h,hv=>by
  simp only[SV.ren,An,AP]at h;obtain⟨l,hl,rfl⟩:=h
  cases hv with
  |agg _ vs h1 h2 h3=>
   obtain⟨g1,g2⟩:=gV hn hL cs hl vs.toList (by simpa using h1) λj x u hx hu=>h3 j x u hx (by simpa using hu)
   exact .agg _ _ (by simpa using g1) h2 λj x u hx hu=>g2 j x u hx (by simpa using hu)
 |.tup cs,v',u,h,hv=>by
  simp only[SV.ren,An,AP]at h;obtain⟨l,hl,rfl⟩:=h
  cases hv with
  |tup _ vs h1 h3=>
   obtain⟨g1,g2⟩:=gV hn hL cs hl vs.toList (by simpa using h1) λj x u hx hu=>h3 j x u hx (by simpa using hu)
   exact .tup _ _ (by simpa using g1) λj x u hx hu=>g2 j x u hx (by simpa using hu)
 |.fn f as bs',v',u,h,hv=>by
  simp only[SV.ren,An,AP]at h;obtain⟨l,hl,l',hl',rfl⟩:=h
  cases hv with
  |fn _ _ _ us vs h1 h3 h1' h3'=>
   obtain⟨g1,g2⟩:=gV hn hL as hl us.toList (by simpa using h1) λj x u hx hu=>h3 j x u hx (by simpa using hu);obtain⟨g3,g4⟩:=gV hn hL bs' hl' vs.toList (by simpa using h1') λj x u hx hu=>h3' j x u hx (by simpa using hu)
   exact .fn _ _ _ _ _ (by simpa using g1) (λj x u hx hu=>g2 j x u hx (by simpa using hu)) (by simpa using g3) λj x u hx hu=>g4 j x u hx (by simpa using hu)
 |.undef,v',u,h,hv=>by cases h;exact .undef _
theorem gV (hn:nodup L=true) (hL:kf H L L=some bs):(cs:List SV)->{l:List SV}->rM L cs=some l->(us:List Value)->cs.length=us.length->
  (∀(j:Nat) (x:SV) (u:Value),cs[j]? =some x->us[j]? =some u->aa w H pl x u)->
  l.length=us.length/\∀(j:Nat) (x:SV) (u:Value),l[j]? =some x->us[j]? =some u->aa w (au 0 bs) (pl.out L) x u
 |[],l,h,us,hl,_=>by cases h;exact⟨hl,λj x u hx _=>by simp at hx⟩
 |v::cs,l,h,u::us,hl,hp=>by
  simp only[rM,An,AP]at h;obtain⟨v',hv,l',hl',rfl⟩:=h;obtain⟨g1,g2⟩:=gV hn hL cs hl' us (by simpa using hl) λj x u hx hu=>hp (j+1) x u (by simpa using hx) (by simpa using hu);refine⟨by simp[g1],λj x u' hx hu=>?_⟩
  cases j with
  |zero=>simp at hx hu;subst hx hu;exact pw hn hL v hv (hp 0 v u rfl rfl)
  |succ j=>exact g2 j x u' (by simpa using hx) (by simpa using hu)
end
theorem qJ {cs l:List SV} (h:rM L cs=some l):∀(j:Nat) (x:SV),l[j]? =some x->∃y,cs[j]? =some y/\y.ren L=some x:=by
 induction cs generalizing l with
 |nil=>cases h;intro j x hx;simp at hx
 |cons v cs ih=>
  simp only[rM,An,AP]at h;obtain⟨v',hv,l',hl',rfl⟩:=h;intro j x hx
  cases j with
  |zero=>simp at hx;subst hx;exact⟨v,rfl,hv⟩
  |succ j=>simpa using ih hl' j x (by simpa using hx)
theorem vi (hr:aR H pl w) (hn:nodup L=true) (hL:kf H L L=some bs):aR (au 0 bs) (pl.out L) w:=by
 refine⟨λk B hB=>?_,λk k' B B' p h1 h2 f1 f2=>?_,λk B p hB hf=>?_,hr.nb⟩
 ·obtain⟨i,b0,h1,hi,h2,h3⟩:=eB hL hB;have hb:=hr.blk i b0 h2
  have eh:(pl.out L).hdr k=pl.hdr i:=by simp only[Pl.out,hi]
  have ef:(pl.out L).fp k=pl.fp i:=by simp only[Pl.out,hi]
  cases b0 with
  |box cs=>
   simp only[Blk.ren,An,AP]at h3;obtain⟨l,hl,rfl⟩:=h3;obtain⟨b,o,q1,q2,q3⟩:=hb;refine⟨b,o,eh.trans q1,λp=>by rw[ef,q2,gv hl],λj v hv=>?_⟩;obtain⟨y,hy,hy2⟩:=qJ hl j v hv;obtain⟨u,g1,g2,g3,g4⟩:=q3 j y hy
   exact⟨u,g1,g2,g3,pw hn hL y hy2 g4⟩
  |arr sh t xs=>
   cases sh with
   |none=>
    cases h3;show Nonempty (Row w (bG w) t xs ((pl.out L).hdr k) ((pl.out L).fp k))
    rw[eh,ef];exact hb
   |some d=>
    cases h3;obtain⟨⟨a,cap,b,o,vs,fs,q1,q2,q3,q4,q5,q6,q7,q8,q9⟩⟩:=hb;exact⟨⟨a,cap,b,o,vs,fs,eh.trans q1,q2,q3,q4,q5,λi j r hc=>⟨(q6 i j r hc).1.frame λp u hp hu=>⟨mE hn hL hp,hu⟩,(q6 i j r hc).2⟩,q7,q8,λp=>by rw[ef];exact q9 p⟩⟩
 ·obtain⟨i,b0,g1,hi,g2,g3⟩:=eB hL h1;obtain⟨i',b0',g1',hi',g2',g3'⟩:=eB hL h2;simp only[Pl.out,hi]at f1;simp only[Pl.out,hi']at f2;have:=hr.dis i i' b0 b0' p g2 g2' f1 f2;subst this;exact(List.getElem?_inj (AQ.1 g1).1 (bX hn)).1 (g1.trans g1'.symm)
 ·obtain⟨i,b0,g1,hi,g2,g3⟩:=eB hL hB;simp only[Pl.out,hi]at hf;exact hr.ob i b0 p g2 hf
theorem lI {s:List (Nat× SV)}:∀{l:List Nat} {vs:List SV},getAll s l=some vs->vs.length=l.length/\∀(j t:Nat),l[j]? =some t->∃v,vs[j]? =some v/\look s t=some v
 |[],vs,h=>by cases h;exact⟨rfl,λj t ht=>by simp at ht⟩
 |t::l,vs,h=>by
  simp only[getAll,An,AP]at h;obtain⟨v,hv,vs',hvs,rfl⟩:=h;obtain⟨g1,g2⟩:=lI hvs;refine⟨by simp[g1],λj t' ht=>?_⟩
  cases j with
  |zero=>simp at ht;subst ht;exact⟨v,rfl,hv⟩
  |succ j=>simpa using g2 j t' (by simpa using ht)
theorem nI:∀{l:List Nat} {vs:List SV} {t:Nat} {v:SV},look (xB l vs) t=some v->∃j:Nat,l[j]? =some t/\vs[j]? =some v
 |[],_,t,v,h=>by simp[xB,look]at h
 |_::_,[],t,v,h=>by simp[xB,look]at h
 |k::l,x::vs,t,v,h=>by
  rw[xB,ae]at h;by_cases e:k=t
  ·rw[if_pos e]at h;cases h;exact⟨0,by simp[e],rfl⟩
  ·rw[if_neg e]at h;obtain⟨j,h1,h2⟩:=nI h;exact⟨j+1,by simpa using h1,by simpa using h2⟩
end
theorem Blk.mF {L:List Nat} {b b':Blk} (h:b.ren L=some b'):b.ec b':=by
 cases b with
 |box cs=>
  simp only[Blk.ren,An,AP]at h;obtain⟨l,h1,rfl⟩:=h
  exact(gv h1).symm
 |arr sh t xs=>cases sh<;>(cases h;exact⟨rfl,rfl⟩)
theorem kh {L:List Nat}:∀{gh:List (Option Nat)} {k i:Nat},(mD L gh)[k]? =some (some i)->∃j,gh[k]? =some (some j)/\placeOf j L 0=some i
 |[],k,i,h=>by simp[mD]at h
 |none::l,k,i,h=>by
  cases k with
  |zero=>simp[mD]at h
  |succ k=>simpa using kh (gh:=l) (by simpa[mD]using h)
 |some j::l,k,i,h=>by
  cases k with
  |zero=>simp[mD]at h;exact⟨j,rfl,h⟩
  |succ k=>simpa using kh (gh:=l) (by simpa[mD]using h)
theorem px {w0:World} {fp0:G0} {bs:Cell->Prop} {n:Nat} {aY:List Nat} {st:St} {nf:NF} {a:Act} {w:World} (h:Rl w0 fp0 bs n st a w) (hn:norm aY st=some nf):
  Rl w0 fp0 bs n (bN aY n nf) a w:=by
 obtain⟨pl,hr,hb,hnn⟩:=h;simp only[norm,An]at hn;obtain⟨vs,hvs,hn⟩:=hn;generalize reach st.heap 3 (gE (gE [] (uo vs)) (tL st.heap st.gh))=L at hn;cases hnd:nodup L<;>simp only[hnd,cond_true,cond_false,An,AP]at hn
 ·exact nomatch hn
 ·obtain⟨vs',AE,bs',hbs,rfl⟩:=hn;refine⟨pl.out L,⟨vi hr.hr hnd hbs,λt v hv=>?_,hr.sz.trans hnn,hr.df,λi hi=>?_,hr.gr,λp u hp hno=>?_,λk i hk=>?_⟩,hb,rfl⟩
  ·obtain⟨j,h1,h2⟩:=nI hv;obtain⟨x,h3,h4⟩:=(lI hvs).2 j t h1;obtain⟨y,h5,h6⟩:=qJ AE j v h2;rw[h3]at h5;cases h5;exact pw hnd hbs x h6 (hr.sl t x h4)
  ·show look (au 0 bs') i=none;rw[ax,if_pos (Bo _),Bv];exact Bt hi
  ·obtain⟨g1,g2,g3⟩:=hr.fr p u hp hno;refine⟨λk B hB hf=>?_,g2,g3⟩;obtain⟨i,b0,_,hi,e2,_⟩:=eB hbs hB;simp only[Pl.out,hi]at hf;exact g1 i b0 e2 hf
  ·obtain⟨j,h1,h2⟩:=kh hk;obtain⟨q1,q2⟩:=hr.gk k j h1;obtain⟨p1,p2⟩:=cM h2;rw[Bv]at p2
   have hlt:i<bs'.length:=by rw[(cD hbs).1];exact(AQ.1 p2).1
   refine⟨hlt,λB hB=>?_⟩;obtain⟨i',b0,g1,g2,g3,g4⟩:=eB hbs hB;rw[p2]at g1;cases g1;obtain⟨r1,r2⟩:=q2 b0 g3;exact⟨by simp only[Pl.out,g2];exact r1,Blk.bp r2 (Blk.mF g4)⟩
def iJ (aY:List Nat) (co:List (bP× Co)) (st:St):Option NF:=
 match co with
 |[]=>norm aY st
 |_=>(norm aY st).bind λnf=>norm aY (sG co (bN aY st.n nf))
theorem dE {w0:World} {fp0:G0} {bs:Cell->Prop} {n:Nat} {aY:List Nat} {co:List (bP× Co)} {st:St} {nf:NF} {a:Act} {w:World} (h:Rl w0 fp0 bs n st a w) (hn:iJ aY co st=some nf):
  Rl w0 fp0 bs n (bN aY n nf) a w:=by
 unfold iJ at hn;split at hn
 ·exact px h hn
 ·simp only[An]at hn;obtain⟨nf1,h1,h2⟩:=hn;obtain⟨_,_,_,hnn⟩:=id h;rw[hnn]at h2;have:=jt co (px h h1);exact px this h2
section
variable {ρ:Type}
def py (body:Ev ρ) (aY:List Nat) (co:List (bP× Co)) (kx:Ex->List Nat) (cx:Ex->List (bP× Co)):Nat->Ev ρ
 |0,_,_=>none
 |k+1,st,K=>body st λe st'=>match e with
  |.normal=>(iJ aY co st').bind λnf=>py body aY co kx cx k (bN aY st'.n nf) K
  |e=>(iJ (kx e) (cx e) st').bind λnf=>K e (bN (kx e) st'.n nf)
theorem Rl.zj {w0:World} {fp0:G0} {bs:Cell->Prop} {n:Nat} {st:St} {a:Act} {w:World} (h:Rl w0 fp0 bs n st a w):st.n=n:=by
 obtain⟨_,_,_,h⟩:=h;exact h
theorem pz {P:Program} {c:Code} {f:Ev ρ} (hf:Sound P c f) (aY:List Nat) (co:List (bP× Co)) (kx:Ex->List Nat) (cx:Ex->List (bP× Co)) (k:Nat):Sound P (.loop c) (py f aY co kx cx k):=by
 intro w0 fp0 bs n st a w K out Q hr h hK;refine wp_loop_rounds k ?_
 induction k generalizing st a w with
 |zero=>exact nomatch h
 |succ k ih=>
  rw[rounds_succ]
  exact hf w0 fp0 bs n st a w _ out _ hr h λe st' a' w' h' hr'=>by
   have hn:=hr'.zj
   cases e with
   |normal=>
    simp only[An]at h';obtain⟨nf,h1,h2⟩:=h';rw[hn]at h2
    exact ih _ a' w' (dE hr' h1) h2
   |exit j=>
    simp only[An]at h';obtain⟨nf,h1,h2⟩:=h';rw[hn]at h2
    exact hK (.exit j) _ a' w' h2 (dE hr' h1)
   |ret=>
    simp only[An]at h';obtain⟨nf,h1,h2⟩:=h';rw[hn]at h2;exact hK .ret _ a' w' h2 (dE hr' h1)
def iter {V R:Type} (g:V->(V->Option R)->Option R):Nat->V->Option R
 |0,_=>none
 |k+1,v=>g v (iter g k)
def iK {V:Type} (aY:List Nat) (co:List (bP× Co)) (dec:Nat->NF->Option V) (run:V->(Ex->St->Option ρ)->Option ρ):Ev ρ:=λst K=>
 (iJ aY co st).bind λnf=>(dec st.n nf).bind λv=>run v K
theorem mG {P:Program} {c:Code} {f:Ev ρ} {V:Type} (hf:Sound P c f) {aY:List Nat} {co:List (bP× Co)} (kx:Ex->List Nat) (cx:Ex->List (bP× Co)) {dec:Nat->NF->Option V} {run:V->(Ex->St->Option ρ)->Option ρ}
  {tm:V->St} (k:Nat) (hd:∀n nf v,dec n nf=some v->bN aY n nf=tm v)
  (dY:∀v K,run v K=py f aY co kx cx k (tm v) K):Sound P (.loop c) (iK aY co dec run):=by
 intro w0 fp0 bs n st a w K out Q hr h hK;simp only[iK,An]at h;obtain⟨nf,h1,v,h2,h3⟩:=h;have hn:=hr.zj;rw[hn]at h2;rw[dY v K,<-hd n nf v h2]at h3;exact pz hf aY co kx cx k w0 fp0 bs n _ a w K out Q (dE hr h1) h3 hK
theorem iL {V:Type} {f:Ev ρ} {aY:List Nat} {co:List (bP× Co)} {kx:Ex->List Nat} {cx:Ex->List (bP× Co)} {tm:V->St} {g:V->(V->Option ρ)->(Ex->St->Option ρ)->Option ρ}
    (hg:∀(v:V) (K K1:Ex->St->Option ρ) (next:V->Option ρ),(∀v',(K1 .normal (tm v'))=next v')->
      f (tm v) (λe st'=>match e with
        |.normal=>(iJ aY co st').bind λnf=>K1 .normal (bN aY st'.n nf)
        |e=>(iJ (kx e) (cx e) st').bind λnf=>K e (bN (kx e) st'.n nf))=g v next K) (K:Ex->St->Option ρ):
    ∀(k:Nat) (v:V),py f aY co kx cx k (tm v) K=iter (λv next=>g v next K) k v
  |0,v=>rfl
  | k + 1, v => by
    show f (tm v) _=g v (iter (λv next=>g v next K) k) K;exact hg v K (λ_ st=>py f aY co kx cx k st K) _ λv'=>iL hg K k v'
end
end
section
variable [Tok] [Glo]
structure rN where
 v:SV
 kept:List (Option Blk)
 news:List Blk
def pA:Nat->List (Option Blk)->ak
 |_,[]=>[]
 |n,none::l=>pA (n+1) l
 |n,some b::l=>(n,b)::pA (n+1) l
def rN.heap (o:rN):ak:=pA 0 o.kept++au o.kept.length o.news
theorem fC:∀(l:List (Option Blk)) (n i:Nat),look (pA n l) i=if n<=i then(l[i-n]?).bind id else none
 |[],n,i=>by simp[pA,look]
 |none::l,n,i=>by
  rw[pA,fC l (n+1) i];by_cases c:n+1<=i
  ·rw[if_pos c,if_pos (by omega),show i-n=(i-(n+1))+1 from by omega];rfl
  ·rw[if_neg c];by_cases c2:n<=i
   ·rw[if_pos c2,show i-n=0 from by omega];rfl
   ·rw[if_neg c2]
 |some b::l,n,i=>by
  rw[pA,ae,fC l (n+1) i];by_cases c0:n=i
  ·subst c0;simp
  ·rw[if_neg c0];by_cases c:n+1<=i
   ·rw[if_pos c,if_pos (by omega),show i-n=(i-(n+1))+1 from by omega];rfl
   ·rw[if_neg c,if_neg (by omega)]
theorem rN.qK (o:rN) {k:Nat} (h:k<o.kept.length):look o.heap k=(o.kept[k]?).bind id:=by
 rw[rN.heap,ag,fC,if_pos (Bo _),Bv,ax,if_neg (by omega),Bq]
theorem rN.nJ (o:rN) {k:Nat} (h:o.kept.length<=k):look o.heap k=o.news[k-o.kept.length]? :=by
 rw[rN.heap,ag,fC,if_pos (Bo _),Bv,ax,if_pos h,Bt h];rfl
def pB (f:Blk->Blk):List Nat->List (Option Blk)->ak
 |i::L,some b::l=>(i,f b)::pB f L l
 |_::L,none::l=>pB f L l
 |_,_=>[]
def dM:List Nat->List (Option Blk)->List Nat
 |_::L,some _::l=>dM L l
 |i::L,none::l=>i::dM L l
 |_,_=>[]
def eL:List Nat->List (Option Blk)->List Nat
 |i::L,some (.arr _ _ _)::l=>i::eL L l
 |_::L,some (.box _)::l=>eL L l
 |_::L,none::l=>eL L l
 |_,_=>[]
def bk (L:List Nat) (nid m k:Nat):Nat:=cond (Nat.ble (k+1) m) (L.getD k 0) (nid+(k-m))
def bkL (L:List Nat) (nid m:Nat):List Nat->List Nat
 |[]=>[]
 |k::l=>bk L nid m k::bkL L nid m l
mutual
def SV.back (L:List Nat) (nid m:Nat) (D:List Nat):SV->SV
 |.r d x=>mkR (bkL L nid m d++D) x
 |.br=>.br
 |.fK=>.fK
 |.own k=>.own (bk L nid m k)
 |.ptr k 0 o=>.ptr (bk L nid m k) 0 o
 |.agg cs=>.agg (eM L nid m D cs)
 |.tup cs=>.tup (eM L nid m D cs)
 |.fn f a b=>.fn f (eM L nid m D a) (eM L nid m D b)
 |_=>.undef
def eM (L:List Nat) (nid m:Nat) (D:List Nat):List SV->List SV
 |[]=>[]
 |v::l=>v.back L nid m D::eM L nid m D l
end
def Blk.back (L:List Nat) (nid m:Nat) (D:List Nat):Blk->Blk
 |.box cs=>.box (eM L nid m D cs)
 |.arr none t xs=>.arr none t xs
 |.arr (some d) t xs=>.arr (some (bkL L nid m d++D)) t xs
def kU (L:List Nat) (nid m:Nat) (D:List Nat):List Blk->List Blk
 |[]=>[]
 |b::l=>b.back L nid m D::kU L nid m D l
def cb (L:List Nat) (nid m c i:Nat):Option Nat:=
 match placeOf i L 0 with
 |some k=>some k
 |none=>if nid<=i/\i<nid+c then some (m+(i-nid))else none
def Ag (H:ak) (pl:Pl) (L D:List Nat):Pl:=
 ⟨λk=>pl.hdr (L.getD k 0),λk=>pl.fp (L.getD k 0),λp=>pl.base p/\∀i B,look H i=some B->mem i L=false->(mem i D=true->B.dg=true)->¬pl.fp i p⟩
def bu (pl pl':Pl) (L:List Nat) (nid m c:Nat):Pl:=
 ⟨λi=>match cb L nid m c i with|some k=>pl'.hdr k|none=>pl.hdr i,λi=>match cb L nid m c i with|some k=>pl'.fp k|none=>pl.fp i,pl.base⟩
theorem ki {L:List Nat} {i k:Nat} (h:placeOf i L 0=some k):mem i L=true:=(mem_iff i L).2 (A6 (by have:=(cM h).2;simpa using this))
section
variable {w:World} {H:ak} {pl:Pl} {L D:List Nat} {bs:List Blk}
end
end
section
variable [Tok] [Glo]
theorem bL {f:Blk->Blk} {i:Nat}:∀{L:List Nat} {kept:List (Option Blk)} {H:ak},(∀(k:Nat) (b:Blk),L[k]? =some i->kept[k]? =some (some b)->False)->look (fP (pB f L kept) H) i=look H i
 |[],_,H,_=>by simp[pB,fP]
 |_::_,[],H,_=>by simp[pB,fP]
 |i0::L,none::l,H,h=>by
  rw[pB]
  exact bL λk b h1 h2=>h (k+1) b (by simpa using h1) (by simpa using h2)
 |i0::L,some b0::l,H,h=>by
  rw[pB,fP,bL λk b h1 h2=>h (k+1) b (by simpa using h1) (by simpa using h2),bd,if_neg];intro e;subst e;exact h 0 b0 rfl rfl
theorem fb {f:Blk->Blk} {i:Nat} {b:Blk}:∀{L:List Nat} {kept:List (Option Blk)} {H:ak} {k:Nat},L.Nodup->L[k]? =some i->kept[k]? =some (some b)->look (fP (pB f L kept) H) i=some (f b)
 |[],_,H,k,_,h,_=>by simp at h
 |_::_,[],H,k,_,_,h=>by simp at h
 |i0::L,ob::l,H,0,hn,h1,h2=>by
  simp at h1 h2;subst h1 h2
  rw[pB,fP,bL λk b h1 _=>(BJ.1 hn).1 (A6 h1),bd,if_pos rfl]
 |i0::L,none::l,H,k+1,hn,h1,h2=>by
  rw[pB]
  exact fb (BJ.1 hn).2 (by simpa using h1) (by simpa using h2)
 |i0::L,some b0::l,H,k+1,hn,h1,h2=>by
  rw[pB,fP];exact fb (BJ.1 hn).2 (by simpa using h1) (by simpa using h2)
theorem dr {i:Nat}:∀{L:List Nat} {kept:List (Option Blk)},mem i (dM L kept)=true↔∃k:Nat,L[k]? =some i/\kept[k]? =some none
 |[],_=>by simp[dM,mem]
 |_::_,[]=>by simp[dM,mem]
 |i0::L,some b0::l=>by
  rw[dM,dr]
  exact⟨λ⟨k,h1,h2⟩=>⟨k+1,by simpa using h1,by simpa using h2⟩,λ⟨k,h1,h2⟩=>by
   cases k with
   |zero=>simp at h2
   |succ k=>exact⟨k,by simpa using h1,by simpa using h2⟩⟩
 |i0::L,none::l=>by
  rw[dM,mem_iff,Bb,<-mem_iff,dr]
  exact⟨λh=>h.elim (λe=>⟨0,by simp[e],rfl⟩) λ⟨k,h1,h2⟩=>⟨k+1,by simpa using h1,by simpa using h2⟩,λ⟨k,h1,h2⟩=>by
   cases k with
   |zero=>simp at h1;exact .inl h1.symm
   |succ k=>exact .inr ⟨k,by simpa using h1,by simpa using h2⟩⟩
theorem fD {i:Nat}:∀{L:List Nat} {kept:List (Option Blk)},mem i (eL L kept)=true↔∃(k:Nat) (B:Blk),L[k]? =some i/\kept[k]? =some (some B)/\B.dg=false
 |[],_=>by simp[eL,mem]
 |_::_,[]=>by simp[eL,mem]
 |i0::L,some (.box cs)::l=>by
  rw[eL,fD]
  exact⟨λ⟨k,B,h1,h2,h3⟩=>⟨k+1,B,by simpa using h1,by simpa using h2,h3⟩,λ⟨k,B,h1,h2,h3⟩=>by
   cases k with
   |zero=>simp at h2;subst h2;cases h3
   |succ k=>exact⟨k,B,by simpa using h1,by simpa using h2,h3⟩⟩
 |i0::L,none::l=>by
  rw[eL,fD]
  exact⟨λ⟨k,B,h1,h2,h3⟩=>⟨k+1,B,by simpa using h1,by simpa using h2,h3⟩,λ⟨k,B,h1,h2,h3⟩=>by
   cases k with
   |zero=>simp at h2
   |succ k=>exact⟨k,B,by simpa using h1,by simpa using h2,h3⟩⟩
 |i0::L,some (.arr sh t xs)::l=>by
  rw[eL,mem_iff,Bb,<-mem_iff,fD]
  exact⟨λh=>h.elim (λe=>⟨0,_,by simp[e],rfl,rfl⟩) λ⟨k,B,h1,h2,h3⟩=>⟨k+1,B,by simpa using h1,by simpa using h2,h3⟩,λ⟨k,B,h1,h2,h3⟩=>by
   cases k with
   |zero=>simp at h1;exact .inl h1.symm
   |succ k=>exact .inr ⟨k,B,by simpa using h1,by simpa using h2,h3⟩⟩
theorem fc {L:List Nat} {nid m:Nat} {D:List Nat}:(cs:List SV)->(eM L nid m D cs).length=cs.length
 |[]=>rfl
 |_::l=>by simp[eM,fc l]
theorem ff {L:List Nat} {nid m:Nat} {D:List Nat}:(cs:List Blk)->(kU L nid m D cs).length=cs.length
 |[]=>rfl
 |_::l=>by simp[kU,ff l]
theorem nK {L:List Nat} {nid m:Nat} {D:List Nat}:(bs:List Blk)->(j:Nat)->(kU L nid m D bs)[j]? =(bs[j]?).map (Blk.back L nid m D)
 |[],j=>by simp[kU]
 |b::l,0=>by simp[kU]
 |b::l,j+1=>by simpa[kU]using nK l j
theorem nL {L:List Nat} {nid m:Nat} {D:List Nat}:(cs:List SV)->(j:Nat)->(eM L nid m D cs)[j]? =(cs[j]?).map (SV.back L nid m D)
 |[],j=>by simp[eM]
 |b::l,0=>by simp[eM]
 |b::l,j+1=>by simpa[eM]using nL l j
theorem Blk.gW {L:List Nat} {nid m:Nat} {D:List Nat} (b:Blk):b.ec (b.back L nid m D):=by
 cases b with
 |box cs=>simp[Blk.back,Blk.ec,fc]
 |arr sh t xs=>cases sh<;>exact⟨rfl,rfl⟩
structure dN (w w':World) (H H':ak) (pl pl':Pl) (L D:List Nat) (bs:List Blk) (nid:Nat) (o:rN):Prop where
 hr:aR H pl w
 hn:nodup L=true
 hL:kf H L L=some bs
 hm:o.kept.length=L.length
 iC:∀k,k<o.news.length->look H (nid+k)=none
 hD:∀i,mem i D=true->mem i L=false
 hro:aR o.heap pl' w'
 jU:pl'.base=(Ag H pl L D).base
 hgr:aV w w'
 yN:∀(k:Nat) (B:Blk),o.kept[k]? =some (some B)->pl'.hdr k=pl.hdr (L.getD k 0)/\∃B0,bs[k]? =some B0/\B0.ec B
 hfr:∀p u,w.at? p=some u->(∀i B,mem i L=true->look H i=some B->¬pl.fp i p)->(∀k B,look o.heap k=some B->¬pl'.fp k p)/\w'.at? p=some u/\w'.bc p=w.bc p
 ha:∃h1,b5 (dM L o.kept,dM L o.kept++eL L o.kept) (fP (pB (Blk.back L nid L.length D) L o.kept) H)=some h1/\H'=h1++au nid (kU L nid L.length D o.news)
section
variable {w w':World} {H H':ak} {pl pl':Pl} {L D:List Nat} {bs:List Blk} {nid:Nat} {o:rN}
abbrev kV (L:List Nat) (kept:List (Option Blk)):Kil:=(dM L kept,dM L kept++eL L kept)
theorem gw {L:List Nat} {kept:List (Option Blk)}:∀i,mem i (kV L kept).1=true->mem i (kV L kept).2=true:=λi h=>by
 show mem i (_++_)=true;rw[mem_append,h];rfl
theorem dN.inH (c:dN w w' H H' pl pl' L D bs nid o) {i:Nat} (h:mem i L=true):∃k B0 B,L[k]? =some i/\k<L.length/\look H i=some B0/\bs[k]? =some B/\B0.ren L=some B:=by
 obtain⟨k,hk⟩:=Bn ((mem_iff i L).1 h);have hlt:=(AQ.1 hk).1
 have hbl:k<bs.length:=by rw[(cD c.hL).1];exact hlt
 obtain⟨i',b0,e1,e2,e3⟩:=(cD c.hL).2 k _ (AU hbl);grind
theorem dN.w6 (c:dN w w' H H' pl pl' L D bs nid o) {i k:Nat} (h:L[k]? =some i):cb L nid L.length o.news.length i=some k:=by
 unfold cb;rw[fW (bX c.hn) h]
theorem dN.yO (c:dN w w' H H' pl pl' L D bs nid o) {j:Nat} (h:j<o.news.length):cb L nid L.length o.news.length (nid+j)=some (L.length+j):=by
 unfold cb
 cases hp:placeOf (nid+j) L 0 with
 |some k=>
  obtain⟨_,B0,_,_,_,h1,_⟩:=c.inH (ki hp)
  rw[c.iC j h]at h1;cases h1
 |none=>
  grind
theorem dN.mH (c:dN w w' H H' pl pl' L D bs nid o) (i:Nat):(∃k,L[k]? =some i/\k<L.length/\cb L nid L.length o.news.length i=some k)\/(∃j,j<o.news.length/\i=nid+j/\mem i L=false/\cb L nid L.length o.news.length i=some (L.length+j))\/
  (mem i L=false/\¬(nid<=i/\i<nid+o.news.length)/\cb L nid L.length o.news.length i=none):=by
 cases hm:mem i L with
 |true=>
  obtain⟨k,_,_,hk,hlt,_⟩:=c.inH hm
  exact .inl ⟨k,hk,hlt,c.w6 hk⟩
 |false=>
  have hp:placeOf i L 0=none:=by
   cases hp:placeOf i L 0 with
   |none=>rfl
   |some k=>rw[ki hp]at hm;cases hm
  by_cases hr:nid<=i/\i<nid+o.news.length
  ·exact .inr (.inl ⟨i-nid,by omega,by omega,rfl,by unfold cb;rw[hp];simp only;rw[if_pos hr]⟩)
  ·exact .inr (.inr ⟨rfl,hr,by unfold cb;rw[hp];simp only;rw[if_neg hr]⟩)
theorem dN.vj (c:dN w w' H H' pl pl' L D bs nid o) {i:Nat} (h:mem i L=false):mem i (dM L o.kept)=false:=by
 cases hg:mem i (dM L o.kept)with
 |false=>rfl
 |true=>
  obtain⟨k,h1,_⟩:=dr.1 hg;rw[(mem_iff i L).2 (A6 h1)]at h;cases h
def w7 (T:Kil) (L:List Nat) (nid m:Nat) (D:List Nat) (B B':Blk):Prop:=(B.back L nid m D).al T=some B'\/B.back L nid m D=B'
theorem dN.old (c:dN w w' H H' pl pl' L D bs nid o) {i:Nat} (h:mem i L=false) (hr:¬(nid<=i/\i<nid+o.news.length)):look H' i=(look H i).bind (Blk.al (kV L o.kept)):=by
 obtain⟨h1,e1,rfl⟩:=c.ha
 have om:look (au nid (kU L nid L.length D o.news)) i=none:=by
  rw[ax];by_cases q:nid<=i
  ·rw[if_pos q,Bt];rw[ff];omega
  ·rw[if_neg q]
 rw[ag,om,Bq,aK gw e1 i,show mem i (dM L o.kept)=false from c.vj h,cond_false,bL λk b h1 _=>by rw[(mem_iff i L).2 (A6 h1)]at h;exact nomatch h]
theorem dN.uniq (c:dN w w' H H' pl pl' L D bs nid o) {i k k':Nat} (h:L[k]? =some i) (h':L[k']? =some i):k=k':=
 (List.getElem?_inj (AQ.1 h).1 (bX c.hn)).1 (h.trans h'.symm)
theorem dN.vY (c:dN w w' H H' pl pl' L D bs nid o) {i:Nat} (h:mem i L=true):look (au nid (kU L nid L.length D o.news)) i=none:=by
 rw[ax];by_cases q:nid<=i
 ·rw[if_pos q];by_cases q2:i-nid<o.news.length
  ·obtain⟨_,_,_,_,_,h1,_⟩:=c.inH h;have:=c.iC _ q2;grind
  ·rw[Bt];rw[ff];omega
 ·rw[if_neg q]
theorem dN.kept (c:dN w w' H H' pl pl' L D bs nid o) {i k:Nat} {B:Blk} (h:L[k]? =some i) (hB:o.kept[k]? =some (some B)):∃B',look H' i=some B'/\w7 (kV L o.kept) L nid L.length D B B':=by
 have hng:mem i (dM L o.kept)=false:=by
  cases hg:mem i (dM L o.kept)with
  |false=>rfl
  |true=>
   obtain⟨k',h1,h2⟩:=dr.1 hg;have:=c.uniq h h1;grind
 obtain⟨h1,e1,rfl⟩:=id c.ha;have hu:look (fP (pB (Blk.back L nid L.length D) L o.kept) H) i=some (B.back L nid L.length D):=fb (bX c.hn) h hB;obtain⟨B',hB'⟩:=dj gw e1 i _ hu hng;refine⟨B',?_,.inl hB'⟩;rw[ag,c.vY ((mem_iff i L).2 (A6 h)),Bq,aK gw e1 i,show mem i (dM L o.kept)=false from hng,cond_false,hu];exact hB'
theorem dN.gone (c:dN w w' H H' pl pl' L D bs nid o) {i k:Nat} (h:L[k]? =some i) (hB:o.kept[k]? =some none):look H' i=none:=by
 have hg:mem i (dM L o.kept)=true:=dr.2 ⟨k,h,hB⟩;obtain⟨h1,e1,rfl⟩:=id c.ha;rw[ag,c.vY ((mem_iff i L).2 (A6 h)),Bq,aK gw e1 i,show mem i (dM L o.kept)=true from hg,cond_true]
theorem dN.new (c:dN w w' H H' pl pl' L D bs nid o) {j:Nat} {B:Blk} (h:o.news[j]? =some B):look H' (nid+j)=some (B.back L nid L.length D):=by
 have hj:=(AQ.1 h).1;obtain⟨h1,e1,rfl⟩:=id c.ha
 have hnm:mem (nid+j) L=false:=by
  cases hm:mem (nid+j) L with
  |false=>rfl
  |true=>
   obtain⟨_,_,_,_,_,h1,_⟩:=c.inH hm;rw[c.iC j hj]at h1;cases h1
 have jh:look (fP (pB (Blk.back L nid L.length D) L o.kept) H) (nid+j)=look H (nid+j):=bL λk b h1 _=>by
  rw[(mem_iff _ L).2 (A6 h1)]at hnm;cases hnm
 rw[ag,aK gw e1,jh,c.iC j hj,ax,if_pos (by omega),Bl,nK,h];grind
theorem dN.cF (c:dN w w' H H' pl pl' L D bs nid o) {i:Nat} {B':Blk} (h:look H' i=some B'):
  (∃k B,cb L nid L.length o.news.length i=some k/\look o.heap k=some B/\w7 (kV L o.kept) L nid L.length D B B'/\(mem i L=false->look H i=none))\/
  (cb L nid L.length o.news.length i=none/\mem i L=false/\∃B,look H i=some B/\B.al (kV L o.kept)=some B'):=by
 rcases c.mH i with⟨k,hk,hlt,hc⟩|⟨j,hj,rfl,hm,hc⟩|⟨hm,hno,hc⟩
 ·have hkl:k<o.kept.length:=by rw[c.hm];exact hlt
  cases hkp:o.kept[k]? with
  |none=>grind
  |some ob=>
   cases ob with
   |none=>rw[c.gone hk hkp]at h;cases h
   |some B=>
    obtain⟨B1,h1,h2⟩:=c.kept hk hkp;rw[h]at h1;cases h1;exact .inl ⟨k,B,hc,by rw[o.qK hkl,hkp];rfl,h2,λhm=>by rw[(mem_iff i L).2 (A6 hk)]at hm;exact nomatch hm⟩
 ·obtain⟨B,hB⟩:∃B,o.news[j]? =some B:=⟨_,AU hj⟩;rw[c.new hB]at h;cases h;exact .inl ⟨L.length+j,B,hc,by rw[o.nJ (by rw[c.hm];omega),c.hm,Bl];exact hB,.inr rfl,λ_=>c.iC j hj⟩
 ·rw[c.old hm hno]at h;obtain⟨B,h1,h2⟩:=An.1 h;grind
theorem dN.iH (c:dN w w' H H' pl pl' L D bs nid o) {k:Nat} {B:Blk} (h:look o.heap k=some B):
  cb L nid L.length o.news.length (bk L nid L.length k)=some k/\∃B',look H' (bk L nid L.length k)=some B'/\w7 (kV L o.kept) L nid L.length D B B':=by
 by_cases hk:k<L.length
 ·have hkl:k<o.kept.length:=by rw[c.hm];exact hk
  rw[o.qK hkl]at h;obtain⟨ob,h1,h2⟩:=An.1 h;have h2:ob=some B:=h2;subst h2
  have hb:bk L nid L.length k=L[k]:=by
   unfold bk;rw[show Nat.ble (k+1) L.length=true from BN hk,cond_true,List.getD_eq_getElem?_getD,AU hk];rfl
  rw[hb];have hL:L[k]? =some L[k]:=AU hk;exact⟨c.w6 hL,c.kept hL h1⟩
 ·rw[o.nJ (by rw[c.hm];omega),c.hm]at h
  have hb:bk L nid L.length k=nid+(k-L.length):=by
   unfold bk
   cases hq:Nat.ble (k+1) L.length with
   |false=>rfl
   |true=>exact(hk (AZ hq)).elim
  rw[hb];have hj:=(AQ.1 h).1;refine⟨?_,_,c.new h,.inr rfl⟩;rw[c.yO hj];congr 1;omega
theorem w7.box {T:Kil} {nid m:Nat} {B B':Blk} (h:w7 T L nid m D B B'):B'.dg=B.dg:=by
 rcases h with h|h
 ·rw[<-Blk.cE (Blk.bJ h),<-Blk.cE (Blk.gW B)]
 ·rw[<-h,<-Blk.cE (Blk.gW B)]
theorem w7.ec {T:Kil} {nid m:Nat} {B B':Blk} (h:w7 T L nid m D B B'):B.ec B':=by
 rcases h with h|h
 ·exact Blk.bp (Blk.gW B) (Blk.bJ h)
 ·rw[<-h];exact Blk.gW B
theorem tM {nid m k:Nat}:∀{d:List Nat},mem k d=true->mem (bk L nid m k) (bkL L nid m d)=true
 |[],h=>nomatch h
 |x::l,h=>by
  simp only[bkL];rw[mem_iff,Bb,<-mem_iff];rw[mem_iff,Bb,<-mem_iff]at h
  rcases h with rfl|h
  ·exact .inl rfl
  ·exact .inr (tM h)
theorem dN.w8 (c:dN w w' H H' pl pl' L D bs nid o) {i k:Nat} (h:cb L nid L.length o.news.length i=some k):bk L nid L.length k=i:=by
 rcases c.mH i with⟨k',hk,hlt,hc⟩|⟨j,hj,rfl,hm,hc⟩|⟨hm,hno,hc⟩<;>rw[hc]at h<;>cases h
 ·unfold bk;rw[show Nat.ble (k+1) L.length=true from BN hlt,cond_true,List.getD_eq_getElem?_getD,hk];rfl
 ·unfold bk
  cases hq:Nat.ble (L.length+j+1) L.length with
  |false=>simp
  |true=>have:=AZ hq;omega
theorem dN.okd (c:dN w w' H H' pl pl' L D bs nid o) {d:List Nat} {p:Cell} (h:okd o.heap pl' d p):okd H' (bu pl pl' L nid L.length o.news.length) (bkL L nid L.length d++D) p:=by
 have hb:(Ag H pl L D).base p:=by rw[<-c.jU];exact h.1
 refine⟨hb.1,λi B' hB' hm hf=>?_⟩
 rcases c.cF hB' with⟨k,B,h1,h2,h3,_⟩|⟨h1,h2,B,h3,h4⟩
 ·simp only[bu,h1]at hf;refine h.2 k B h2 (λhk=>?_) hf;rw[<-h3.box];refine hm ?_;rw[mem_append,<-c.w8 h1,tM hk];rfl
 ·simp only[bu,h1]at hf;refine hb.2 i B h3 h2 (λhk=>?_) hf;rw[Blk.cE (Blk.bJ h4)];exact hm (by rw[mem_append,hk,BP])
mutual
theorem dN.rep (c:dN w w' H H' pl pl' L D bs nid o):(v:SV)->{u:Value}->aa w' o.heap pl' v u->aa w' H' (bu pl pl' L nid L.length o.news.length) (v.back L nid L.length D) u
 |.r d x,u,h=>by
  cases h with
  |r _ _ _ hx=>exact jL (hx.frame λp u hp hu=>⟨c.okd hp,hu⟩)
 |.br,u,h=>by cases h;exact .br
 |.fK,u,h=>by cases h;exact .fK
 |.own k,u,h=>by
  cases h with
  |own _ sh t xs hl=>
   obtain⟨h1,B',h2,h3⟩:=c.iH hl
   have e:(bu pl pl' L nid L.length o.news.length).hdr (bk L nid L.length k)=pl'.hdr k:=by simp only[bu,h1]
   rw[<-e]
   have:∃sh',B'=.arr sh' t xs:=by
    rcases h3 with h3|h3
    ·cases sh with
     |none=>cases h3;exact⟨_,rfl⟩
     |some d=>
      simp only[Blk.back,Blk.al]at h3;grind
    ·cases sh<;>exact⟨_,h3.symm⟩
   obtain⟨sh',rfl⟩:=this
   exact .own _ sh' t xs h2
 |.ptr k 0 off,u,h=>by
  cases h with
  |jI _ _ cs b q hl hh=>
   obtain⟨h1,B',h2,h3⟩:=c.iH hl
   have e:(bu pl pl' L nid L.length o.news.length).hdr (bk L nid L.length k)=pl'.hdr k:=by simp only[bu,h1]
   have:∃cs',B'=.box cs':=by
    rcases h3 with h3|h3
    ·cases h3;exact⟨_,rfl⟩
    ·exact⟨_,h3.symm⟩
   obtain⟨cs',rfl⟩:=this
   exact .jI _ off cs' b q h2 (e.trans hh)
  |jn _ _ _ sh t xs b q n cap hl hx hh=>
   obtain⟨h1,B',h2,h3⟩:=c.iH hl
   have e:(bu pl pl' L nid L.length o.news.length).hdr (bk L nid L.length k)=pl'.hdr k:=by simp only[bu,h1]
   have:∃sh',B'=.arr sh' t xs:=by
    rcases h3 with h3|h3
    ·cases sh with
     |none=>cases h3;exact⟨_,rfl⟩
     |some d=>
      simp only[Blk.back,Blk.al]at h3;grind
    ·cases sh<;>exact⟨_,h3.symm⟩
   obtain⟨sh',rfl⟩:=this
   exact .jn _ 0 off sh' t xs b q n cap h2 hx (e.trans hh)
 |.ptr k (x+1) off,u,h=>.undef _
 |.agg cs,u,h=>by
  cases h with
  |agg _ vs h1 h2 h3=>
   obtain⟨g1,g2⟩:=c.yP cs vs.toList (by simpa using h1) λj x u hx hu=>h3 j x u hx (by simpa using hu)
   exact .agg _ _ (by simpa using g1) h2 λj x u hx hu=>g2 j x u hx (by simpa using hu)
 |.tup cs,u,h=>by
  cases h with
  |tup _ vs h1 h3=>
   obtain⟨g1,g2⟩:=c.yP cs vs.toList (by simpa using h1) λj x u hx hu=>h3 j x u hx (by simpa using hu)
   exact .tup _ _ (by simpa using g1) λj x u hx hu=>g2 j x u hx (by simpa using hu)
 |.sub _ _ _,_,_=>.undef _
 |.bsl _ _,_,_=>.undef _
 |.inn _ _ _,_,_=>.undef _
 |.cY _ _,_,_=>.undef _
 |.fn f a b,u,h=>by
  cases h with
  |fn _ _ _ us vs h1 h3 h1' h3'=>
   obtain⟨g1,g2⟩:=c.yP a us.toList (by simpa using h1) λj x u hx hu=>h3 j x u hx (by simpa using hu);obtain⟨q1,q2⟩:=c.yP b vs.toList (by simpa using h1') λj x u hx hu=>h3' j x u hx (by simpa using hu)
   exact .fn _ _ _ _ _ (by simpa using g1) (λj x u hx hu=>g2 j x u hx (by simpa using hu)) (by simpa using q1) λj x u hx hu=>q2 j x u hx (by simpa using hu)
 |.undef,_,_=>.undef _
theorem dN.yP (c:dN w w' H H' pl pl' L D bs nid o):(cs:List SV)->(us:List Value)->cs.length=us.length->(∀(j:Nat) (x:SV) (u:Value),cs[j]? =some x->us[j]? =some u->aa w' o.heap pl' x u)->
  (eM L nid L.length D cs).length=us.length/\∀(j:Nat) (x:SV) (u:Value),(eM L nid L.length D cs)[j]? =some x->us[j]? =some u->aa w' H' (bu pl pl' L nid L.length o.news.length) x u
 |[],us,hl,_=>⟨hl,λj x u hx _=>by simp[eM]at hx⟩
 |v::cs,u::us,hl,hp=>by
  obtain⟨g1,g2⟩:=c.yP cs us (by simpa using hl) λj x u hx hu=>hp (j+1) x u (by simpa using hx) (by simpa using hu);refine⟨by simp[eM,g1],λj x u' hx hu=>?_⟩
  cases j with
  |zero=>simp[eM]at hx hu;subst hx hu;exact c.rep v (hp 0 v u rfl rfl)
  |succ j=>exact g2 j x u' (by simpa[eM]using hx) (by simpa using hu)
end
theorem dN.w9 (c:dN w w' H H' pl pl' L D bs nid o) {i k:Nat} {B:Blk} (h1:cb L nid L.length o.news.length i=some k) (h2:look o.heap k=some B):
  bo w' H' (bu pl pl' L nid L.length o.news.length) i (B.back L nid L.length D):=by
 have eh:(bu pl pl' L nid L.length o.news.length).hdr i=pl'.hdr k:=by simp only[bu,h1]
 have ef:(bu pl pl' L nid L.length o.news.length).fp i=pl'.fp k:=by simp only[bu,h1]
 have hb:=c.hro.blk k B h2
 cases B with
 |box cs=>
  obtain⟨b,q,q1,q2,q3⟩:=hb;refine⟨b,q,eh.trans q1,λp=>by rw[ef,q2,fc],λj v hv=>?_⟩;rw[nL]at hv;obtain⟨y,hy,rfl⟩:=AV.1 hv;obtain⟨u,g1,g2,g3,g4⟩:=q3 j y hy
  exact⟨u,g1,g2,g3,c.rep y g4⟩
 |arr sh t xs=>
  cases sh with
  |none=>
   show Nonempty (Row w' (bG w') t xs _ _)
   rw[eh,ef];exact hb
  |some d=>
   obtain⟨⟨a,cap,b,q,vs,fs,q1,q2,q3,q4,q5,q6,q7,q8,q9⟩⟩:=hb;exact⟨⟨a,cap,b,q,vs,fs,eh.trans q1,q2,q3,q4,q5,λi j r hc=>⟨(q6 i j r hc).1.frame λp u hp hu=>⟨c.okd hp,hu⟩,(q6 i j r hc).2⟩,q7,q8,λp=>by rw[ef];exact q9 p⟩⟩
theorem rO (T:Kil) {w:World} {H:ak} {pl:Pl}:cT T w H pl w H pl:=⟨λi B hB _=>⟨B,hB,B.aS,rfl⟩,λd p u _ h hp=>⟨h,hp⟩⟩
theorem dN.lJ (c:dN w w' H H' pl pl' L D bs nid o) {i:Nat} {B:Blk} {p:Cell} (hB:look H i=some B) (hm:mem i L=false) (hf:pl.fp i p):∀i' B',mem i' L=true->look H i'=some B'->¬pl.fp i' p:=λi' B' hm' hB' hf'=>by
 have:=c.hr.dis i i' B B' p hB hB' hf hf';grind
theorem dN.keeps (c:dN w w' H H' pl pl' L D bs nid o):cT (kV L o.kept) w H pl w' H' (bu pl pl' L nid L.length o.news.length):=by
 refine⟨λi B hB hg=>?_,λd p u hd ho hp=>?_⟩
 ·cases hm:mem i L with
  |true=>
   obtain⟨k,B0,B1,hk,hlt,e1,e2,e3⟩:=c.inH hm;rw[hB]at e1;cases e1
   have hkl:k<o.kept.length:=by rw[c.hm];exact hlt
   cases hkp:o.kept[k]? with
   |none=>grind
   |some ob=>
    cases ob with
    |none=>rw[show mem i (dM L o.kept)=true from dr.2 ⟨k,hk,hkp⟩]at hg;cases hg
    |some B2=>
     obtain⟨B',h1,h2⟩:=c.kept hk hkp;obtain⟨q1,B3,q2,q3⟩:=c.yN k B2 hkp;rw[e2]at q2;cases q2;refine⟨B',h1,Blk.bp (Blk.mF e3) (Blk.bp q3 h2.ec),?_⟩;simp only[bu,c.w6 hk]
     grind
  |false=>
   rcases c.mH i with⟨k,hk,_⟩|⟨j,hj,rfl,_,_⟩|⟨_,hno,hc⟩
   ·rw[(mem_iff i L).2 (A6 hk)]at hm;cases hm
   ·rw[c.iC j hj]at hB;cases hB
   ·obtain⟨h1,e1,_⟩:=id c.ha
    have hu:look (fP (pB (Blk.back L nid L.length D) L o.kept) H) i=some B:=by
     rw[bL λk b h1 _=>by rw[(mem_iff i L).2 (A6 h1)]at hm;exact nomatch hm];exact hB
    obtain⟨B',hB'⟩:=dj gw e1 i B hu hg;exact⟨B',by rw[c.old hm hno,hB];exact hB',Blk.bJ hB',by simp only[bu,hc]⟩
 ·have hnp:∀i B,mem i L=true->look H i=some B->¬pl.fp i p:=λi B hm hB hf=>by
   refine ho.2 i B hB (λhdi=>?_) hf;have hT:=hd i hdi;obtain⟨k,B0,B1,hk,hlt,e1,e2,e3⟩:=c.inH hm;rw[hB]at e1;cases e1
   have hkl:k<o.kept.length:=by rw[c.hm];exact hlt
   cases hkp:o.kept[k]? with
   |none=>grind
   |some ob=>
    cases ob with
    |none=>
     have:mem i (kV L o.kept).2=true:=gw i (dr.2 ⟨k,hk,hkp⟩)
     grind
    |some B2=>
     obtain⟨_,B3,q2,q3⟩:=c.yN k B2 hkp;rw[e2]at q2;cases q2
     have hbx:B2.dg=true:=by
      cases hx:B2.dg with
      |true=>rfl
      |false=>
       have:mem i (dM L o.kept++eL L o.kept)=true:=by rw[mem_append,fD.2 ⟨k,B2,hk,hkp,hx⟩,BP]
       grind
     rw[Blk.cE (Blk.mF e3),Blk.cE q3,hbx]
  obtain⟨g1,g2,g3⟩:=c.hfr p u hp hnp;refine⟨⟨ho.1,λi B' hB' hm hf=>?_⟩,g2⟩
  rcases c.cF hB' with⟨k,B,h1,h2,_,_⟩|⟨h1,h2,B,h3,h4⟩
  ·simp only[bu,h1]at hf;grind
  ·simp only[bu,h1]at hf;refine ho.2 i B h3 (λhk=>?_) hf;rw[Blk.cE (Blk.bJ h4)];exact hm hk
theorem dN.step (c:dN w w' H H' pl pl' L D bs nid o):aJ H H' (kV L o.kept) pl (bu pl pl' L nid L.length o.news.length) w w':=by
 have hown:=c.hr.cc;have hk:=c.keeps;refine⟨⟨λi B' hB'=>?_,λi j B B' p h1 h2 f1 f2=>?_,λi B p hB hf=>?_,λp hp=>?_⟩,hk,rfl,c.hgr,λp u hp hno=>?_⟩
 ·rcases c.cF hB' with⟨k,B,h1,h2,h3,_⟩|⟨h1,h2,B,h3,h4⟩
  ·have hb:=c.w9 h1 h2
   rcases h3 with h3|h3
   ·exact hb.aY (rO _) rfl (λ_=>Cn) (λp u _ hu=>⟨hu,rfl⟩) h3
   ·grind
  ·exact(c.hr.blk i B h3).aY hk (by simp only[bu,h1]) (λp=>by simp only[bu,h1]) (λp u hf hu=>(c.hfr p u hu (c.lJ h3 h2 hf)).2) h4
 ·have cross:∀{i j k:Nat} {B Bk:Blk},look H i=some B->mem i L=false->pl.fp i p->look o.heap k=some Bk->pl'.fp k p->False:=λ{i j k B Bk} hB hm hf hk hf'=>by
   obtain⟨u,hu⟩:=hown i B p hB hf;exact(c.hfr p u hu (c.lJ hB hm hf)).1 k Bk hk hf'
  rcases c.cF h1 with⟨k,B1,a1,a2,_,_⟩|⟨a1,a2,B1,a3,_⟩<;>rcases c.cF h2 with⟨k',B2,b1,b2,_,_⟩|⟨b1,b2,B2,b3,_⟩
  ·simp only[bu,a1]at f1;simp only[bu,b1]at f2;have:=c.hro.dis k k' B1 B2 p a2 b2 f1 f2;subst this;rw[<-c.w8 a1,<-c.w8 b1]
  ·simp only[bu,a1]at f1;simp only[bu,b1]at f2;exact(cross (j:=j) b3 b2 f2 a2 f1).elim
  ·simp only[bu,a1]at f1;simp only[bu,b1]at f2;exact(cross (j:=j) a3 a2 f1 b2 f2).elim
  ·simp only[bu,a1]at f1;simp only[bu,b1]at f2;exact c.hr.dis i j B1 B2 p a3 b3 f1 f2
 ·rcases c.cF hB with⟨k,B1,a1,a2,_,_⟩|⟨a1,a2,B1,a3,_⟩
  ·simp only[bu,a1]at hf;have:=c.hro.ob k B1 p a2 hf;rw[c.jU]at this;exact this.1
  ·simp only[bu,a1]at hf;exact c.hr.ob i B1 p a3 hf
 ·have:=c.hro.nb p hp;rw[c.jU]at this;exact this.1
 ·obtain⟨g1,g2⟩:=c.hfr p u hp λi B _ hB=>hno i B hB;refine⟨λi B hB hf=>?_,g2⟩
  rcases c.cF hB with⟨k,B1,a1,a2,_,_⟩|⟨a1,a2,B1,a3,_⟩
  ·simp only[bu,a1]at hf;grind
  ·simp only[bu,a1]at hf;grind
end
section
variable {w:World} {H:ak} {pl:Pl} {P:Program}
end
end
section
variable [Tok] [Glo]
inductive KD where
 |gone
 |arr
 |box (l:List RT)
def Pl.xA (pl:Pl) (gh:List (Option Nat)) (S:List (Bool× Ty× Option Nat)):Pl:=
  ⟨λk=>if k<gh.length then(match gh[k]? with|some (some i)=>pl.hdr i|_=>undef)else(pl.res S).hdr (k-gh.length),
   λk=>if k<gh.length then(match gh[k]? with|some (some i)=>pl.fp i|_=>λ_=>False)else(pl.res S).fp (k-gh.length),pl.base⟩
section
variable {w:World} {H:ak} {pl:Pl} {gh G:List (Option Nat)} {ks:List KD} {S:List (Bool× Ty× Option Nat)} {LL:List Nat} {news:List Blk} {kept:List (Option Blk)} {v:SV}
end
end
section
variable [Tok] [Glo]
def lK:SV->Bool
 |.r _ (.int _ _)=>true
 |.r _ (.bool _)=>true
 |.r _ (.str _)=>true
 |_=>false
def nM:List SV->Bool
 |[]=>true
 |v::l=>cond (lK v) (nM l) false
theorem lL:∀{l:List SV},nM l=true->∀v∈l,lK v=true
 |[],_,v,hv=>nomatch hv
 |x::l,h,v,hv=>by
  simp only[nM]at h;cases hx:lK x<;>simp only[hx,cond_true,cond_false]at h
  ·exact nomatch h
  ·rcases Bb.1 hv with rfl|hv
   ·exact hx
   ·exact lL h v hv
theorem nN {w w':World} {H H':ak} {pl pl':Pl} {v:SV} {u:Value} (h:lK v=true) (hv:aa w H pl v u):aa w' H' pl' v u:=by
 cases hv with
 |r d x _ hx=>cases hx with
  |int=>exact .r _ _ _ (.int _ _)
  |bool=>exact .r _ _ _ (.bool _)
  |str=>exact .r _ _ _ (.str _)
  |tok=>first|exact .r _ _ _ (.tok _)|exact nomatch h
  |dX=>exact nomatch h
  |sl=>exact nomatch h
 |_=>exact nomatch h
def tN (o:Orc):Orc:=λρ nid vs h K=>match vs with
 |.inn i x c::rest=>cond (nM rest) (match look h i with
  |some (.arr none t xs)=>(xs[x]?).bind λe=>match(t.cells e)[c]? with
   |some (.sl t' ys)=>o ρ nid (.own i::rest) [(i,.arr none t' ys)] λq=>
    cond (lK q.v&&(isNil q.news&&isNil q.gone)) (match q.upd with
     |[(_,.arr none t2 zs)]=>if he:t2=t' then(t.bw ((t.cells e).take c++[.sl t' (he▸zs)]++(t.cells e).drop (c+1))).bind λy=>K {v:=q.v,upd:=[(i,.arr none t (xs.set x y))],du:=[i]}else none
     |_=>none) none
   |_=>none
  |_=>none) none
 |_=>o ρ nid vs h K
section
variable {w w':World} {H H':ak} {pl:Pl}
theorem vk {i x c cap b o:Nat} {t t':Ty} {xs:List t.El} {e y:t.El} {ys zs:List t'.El} {vs:Nat->Nat->Value} {fs:Nat->Nat->Cell->Prop} {T2:Kil} {pl2 pl2':Pl}
  (hr:aR H pl w) (hli:look H i=some (.arr none t xs)) (hx:xs[x]? =some e) (hc:(t.cells e)[c]? =some (.sl t' ys)) (hy:t.cells y=(t.cells e).take c++[.sl t' zs]++(t.cells e).drop (c+1))
  (hh:pl.hdr i=.slice (some ⟨b,o,none⟩) xs.length cap) (h2:xs.length<=cap) (h4:∀j,j<cap*t.sz->(∃v,w.at? (b,o+j)=some v)/\whole (w.bc (b,o+j)) o (cap*t.sz)=true)
  (h5:∀i j r,af t xs i j r->w.at? (b,o+(i*t.sz+j))=some (vs i j)) (h6:∀i j r,af t xs i j r->bG w r (vs i j) (fs i j))
  (h7:∀i j r p,af t xs i j r->fs i j p->¬reg b o (cap*t.sz) p) (h8:∀i j r i' j' r' p,af t xs i j r->af t xs i' j' r'->fs i j p->fs i' j' p->i=i'/\j=j')
  (h9:∀p,pl.fp i p↔reg b o (cap*t.sz) p\/∃i j r,af t xs i j r/\fs i j p)
  (hb2:pl2.base=pl.base) (hf2:pl2.fp i=fs x c) (hd2:pl2.hdr i=vs x c) (hg2:mem i T2.1=false) (hst:aJ [(i,.arr none t' ys)] [(i,.arr none t' zs)] T2 pl2 pl2' w w')
  (ht:eK H H' ([],[i]) i (.arr none t (xs.set x y))):∃pl',aJ H H' ([],[i]) pl pl' w w':=by
 have hxl:x<xs.length:=(AQ.1 hx).1
 have hcl:c<t.sz:=by rw[<-Ty.aH t e];exact(AQ.1 hc).1
 have hcell:af t xs x c (.sl t' ys):=⟨e,hx,hc⟩
 have hl1:∀{t':Ty} {ys:List t'.El} {j B},look [(i,Blk.arr none t' ys)] j=some B->j=i/\B=.arr none t' ys:=λ{t' ys j B} h=>by
  rw[ae]at h;by_cases e:i=j
  ·rw[if_pos e]at h;cases h;exact⟨e.symm,rfl⟩
  ·rw[if_neg e]at h;exact nomatch h
 have jh:∀p u,w.at? p=some u->¬fs x c p->¬pl2'.fp i p/\w'.at? p=some u/\w'.bc p=w.bc p:=λp u hp hn=>by
  obtain⟨g1,g2⟩:=hst.fr p u hp λj B hB hf=>by
   obtain⟨rfl,_⟩:=hl1 hB;rw[hf2]at hf;exact hn hf
  exact⟨g1 i _ (by rw[ae,if_pos rfl]),g2⟩
 have kN:∀p,fs x c p->pl.fp i p:=λp hp=>(h9 p).2 (.inr ⟨_,_,_,hcell,hp⟩)
 have AF:∀j,mem j [i]=true->j=i:=λj hj=>by
  simp only[mem]at hj;cases hb:Nat.beq i j<;>simp only[hb,cond_true,cond_false]at hj
  ·exact nomatch hj
  ·exact(AR hb).symm
 have hmi:mem i [i]=true:=by simp[mem]
 have om:∀p,pl2'.fp i p->∃u,w'.at? p=some u:=λp hp=>hst.hr.cc i _ p (by rw[ae,if_pos rfl]) hp
 refine⟨_,di (hdr:=pl.hdr i) (fp:=λp=>(pl.fp i p/\¬fs x c p)\/pl2'.fp i p) hst.gr hr ht (λj hj=>nomatch hj) (λj hj=>.inr (AF j hj)) (.inr ⟨_,hli,hmi,⟨rfl,by simp⟩,rfl⟩)
  (λp u hp hno=>(jh p u hp λhf=>hno i _ hmi hli (kN p hf)).2) (λp hp=>?_) (λp hp=>?_) λhk=>?_⟩
 ·have:=hst.hr.nb p hp;rw[hst.bs,hb2]at this;exact this
 ·rcases hp with hp|hp
  ·exact .inr ⟨i,_,hmi,hli,hp.1⟩
  ·cases hq:w.at? p with
   |none=>exact .inl rfl
   |some u=>
    by_cases hf:fs x c p
    ·exact .inr ⟨i,_,hmi,hli,kN p hf⟩
    ·exact((jh p u hq hf).1 hp).elim
 ·have fQ:∀{i' j r},af t (xs.set x y) i' j r->(i'=x/\j=c/\r=.sl t' zs)\/(¬(i'=x/\j=c)/\af t xs i' j r):=λ{i' j r} h=>by
   obtain⟨z,hz,hzj⟩:=h;by_cases e1:i'=x
   ·subst e1;rw[List.getElem?_set_self hxl]at hz;cases hz;rw[hy]at hzj
    have hto:((t.cells e).take c).length=c:=by rw[Bj,Ty.aH];omega
    by_cases c1:j<c
    ·rw[A9,A1 (by omega),Bd,if_pos c1]at hzj;exact .inr ⟨λh=>by omega,e,hx,hzj⟩
    ·by_cases c2:j=c
     ·subst c2;rw[A9,AX (by omega),hto,Nat.sub_self]at hzj;cases hzj;exact .inl ⟨rfl,rfl,rfl⟩
     ·rw[A9,AX (by omega),hto,AX (by simp;omega),A8]at hzj;simp only[List.length_singleton]at hzj;rw[show c+1+(j-c-1)=j from by omega]at hzj;exact .inr ⟨λh=>c2 h.2,e,hx,hzj⟩
   ·rw[List.getElem?_set_ne (λe=>e1 e.symm)]at hz;exact .inr ⟨λh=>e1 h.1,z,hz,hzj⟩
  have gi:∀{i' j r},af t xs i' j r->∃r',af t (xs.set x y) i' j r':=λ{i' j r} h=>by
   obtain⟨a1,a2⟩:=ao h;exact aX (by simpa using a1) a2
  have hreg0:∀p,reg b o (cap*t.sz) p->¬fs x c p:=λp hp hf=>h7 _ _ _ p hcell hf hp
  have hsl:bG w' (.sl t' zs) (vs x c) (pl2'.fp i):=by
   have h1:=hst.hr.blk i _ (by rw[ae,if_pos rfl]:look [(i,Blk.arr none t' zs)] i=some (.arr none t' zs));obtain⟨_,_,_,h3⟩:=hst.kp.k1 i _ (by rw[ae,if_pos rfl]) hg2;rw[<-hd2,<-h3];obtain⟨R⟩:=h1;exact R.zd
  have e1:(pl.set i (pl.hdr i) λp=>(pl.fp i p/\¬fs x c p)\/pl2'.fp i p).hdr i=pl.hdr i:=by simp[Pl.set]
  have e2:(pl.set i (pl.hdr i) λp=>(pl.fp i p/\¬fs x c p)\/pl2'.fp i p).fp i=λp=>(pl.fp i p/\¬fs x c p)\/pl2'.fp i p:=by simp[Pl.set]
  show Nonempty (Row w' (bG w') t (xs.set x y) ((pl.set i (pl.hdr i) λp=>(pl.fp i p/\¬fs x c p)\/pl2'.fp i p).hdr i) ((pl.set i (pl.hdr i) λp=>(pl.fp i p/\¬fs x c p)\/pl2'.fp i p).fp i));rw[e1,e2];refine⟨⟨some ⟨b,o,none⟩,cap,b,o,vs,λi' j=>if i'=x/\j=c then pl2'.fp i else fs i' j,by rw[hh,BU],by rw[BU];exact h2,.inr rfl,λj hj=>?_,λi' j r h=>?_,λi' j r h=>?_,λi' j r p h hf=>?_,λi' j r i'' j' r' p h h' hf hf'=>?_,λp=>?_⟩⟩
  ·obtain⟨⟨v,hv⟩,hi⟩:=h4 j hj;obtain⟨_,g1,g2⟩:=jh _ v hv (hreg0 _ ⟨rfl,by simp,by simp;omega⟩);exact⟨⟨v,g1⟩,by rw[g2];exact hi⟩
  ·obtain⟨a1,a2⟩:=ao h;rw[BU]at a1;obtain⟨r0,hr0⟩:=aX a1 a2;exact(jh _ _ (h5 _ _ _ hr0) (hreg0 _ ⟨rfl,by simp,by have:=eS a1 a2 h2;simp;omega⟩)).2.1
  ·rcases fQ h with⟨rfl,rfl,rfl⟩|⟨hne,h⟩
   ·rw[if_pos ⟨rfl,rfl⟩];exact hsl
   ·rw[if_neg hne];refine(h6 _ _ _ h).frame λp u hp hu=>(jh p u hu λhf=>hne ?_).2;exact h8 _ _ _ _ _ _ p h hcell hp hf
  ·rcases fQ h with⟨rfl,rfl,rfl⟩|⟨hne,h⟩
   ·rw[if_pos ⟨rfl,rfl⟩]at hf;intro hre;obtain⟨p1,p2⟩:=p;obtain⟨q1,q2,q3⟩:=hre;simp only at q1 q2 q3;subst q1;obtain⟨⟨v,hv⟩,_⟩:=h4 (p2-o) (by omega);rw[show o+(p2-o)=p2 from by omega]at hv;exact(jh _ v hv (hreg0 _ ⟨rfl,q2,q3⟩)).1 hf
   ·rw[if_neg hne]at hf;exact h7 _ _ _ p h hf
  ·have cross:∀{i' j r},¬(i'=x/\j=c)->af t xs i' j r->fs i' j p->pl2'.fp i p->False:=λ{i' j r} hne h hf hf'=>by
    obtain⟨u,hu⟩:=(h6 _ _ _ h).there p hf;exact(jh p u hu λhq=>hne (h8 _ _ _ _ _ _ p h hcell hf hq)).1 hf'
   rcases fQ h with⟨rfl,rfl,rfl⟩|⟨hne,hc1⟩<;>rcases fQ h' with⟨rfl,rfl,rfl⟩|⟨zO,hc2⟩
   ·exact⟨rfl,rfl⟩
   ·rw[if_pos ⟨rfl,rfl⟩]at hf;rw[if_neg zO]at hf';exact(cross zO hc2 hf' hf).elim
   ·rw[if_pos ⟨rfl,rfl⟩]at hf';rw[if_neg hne]at hf;exact(cross hne hc1 hf hf').elim
   ·rw[if_neg hne]at hf;rw[if_neg zO]at hf';exact h8 _ _ _ _ _ _ p hc1 hc2 hf hf'
  ·constructor
   ·rintro (⟨hp,hn⟩|hp)
    ·rcases(h9 p).1 hp with hp|⟨i',j,r,h,hf⟩
     ·exact .inl hp
     ·have hne:¬(i'=x/\j=c):=λ⟨q1,q2⟩=>by subst q1 q2;exact hn hf
      obtain⟨r',h'⟩:=gi h;exact .inr ⟨i',j,r',h',by rw[if_neg hne];exact hf⟩
    ·obtain⟨r',h'⟩:=gi hcell;exact .inr ⟨x,c,r',h',by rw[if_pos ⟨rfl,rfl⟩];exact hp⟩
   ·rintro (hp|⟨i',j,r,h,hf⟩)
    ·exact .inl ⟨(h9 p).2 (.inl hp),hreg0 p hp⟩
    ·rcases fQ h with⟨rfl,rfl,rfl⟩|⟨hne,h⟩
     ·rw[if_pos ⟨rfl,rfl⟩]at hf;exact .inr hf
     ·rw[if_neg hne]at hf;exact .inl ⟨(h9 p).2 (.inr ⟨_,_,_,h,hf⟩),λhq=>hne (h8 _ _ _ _ _ _ p h hcell hf hq)⟩
end
theorem tO {P:Program} {g:FuncId} {o:Orc} (ho:jZ P g o):jZ P g (tN o):=by
 intro ρ nid vs H K out hK;unfold tN at hK;split at hK
 case h_2=>exact ho ρ nid _ H K _ hK
 rename_i i x c rest;cases hpl:nM rest<;>simp only[hpl,cond_true,cond_false]at hK
 ·exact nomatch hK
 split at hK
 case h_2=>exact nomatch hK
 rename_i t xs hli;simp only[An]at hK;obtain⟨e,hx,hK⟩:=hK;split at hK
 case h_2=>exact nomatch hK
 rename_i t' ys hc;obtain⟨q,hq,hen,hup,wM⟩:=ho ρ nid _ _ _ _ hK;cases hpv:(lK q.v&&(isNil q.news&&isNil q.gone))<;>simp only[hpv,cond_true,cond_false]at hq
 ·exact nomatch hq
 simp only[AW]at hpv;obtain⟨hpv,hnw,hgn⟩:=hpv;have hnw:=bf hnw;have hgn:=bf hgn;split at hq
 case h_2=>exact nomatch hq
 rename_i i' t2 zs hqu;split at hq
 case isFalse=>exact nomatch hq
 rename_i het;subst het;simp only[An]at hq;obtain⟨y,hy,hK⟩:=hq;have hy:=Ty.aI _ _ _ hy
 have hii:i'=i:=by
  obtain⟨B',hB'⟩:=hup i' _ (by rw[hqu,ae,if_pos rfl]);rw[ae]at hB';by_cases e:i=i'
  ·exact e.symm
  ·rw[if_neg e]at hB';exact nomatch hB'
 subst hii;refine⟨_,hK,hen,λj B hB=>?_,λH1 pl w us he hr hgl hn hl hp H' ha=>?_⟩
 ·rw[ae]at hB;by_cases e:i'=j
  ·subst e;exact⟨_,hli⟩
  ·rw[if_neg e]at hB;exact nomatch hB
 have hli1:=he _ _ hli;obtain⟨u0,hu0⟩:∃u0,us[0]? =some u0:=⟨us[0]'(by rw[<-hl];simp),by simp⟩;have hi0:=hp 0 _ u0 rfl hu0
 cases hi0 with
 |inn _ _ _ sh t1 xs1 b o n cap _ hl1 hx1 hc1 hh hok hat la=>
  rw[hli1]at hl1;cases hl1;obtain⟨⟨a',cp,b',o',vs,fs,h1,h2,h3,h4,h5,h6,h7,h8,h9⟩⟩:=hr.blk _ _ hli1;rw[hh]at h1;cases h1;have h3:=h3.resolve_left (by omega);cases h3;have hcell:af t xs x c (.sl t2 ys):=⟨e,hx,hc⟩
  have hu:u0=vs x c:=by rw[h5 _ _ _ hcell]at hat;cases hat;rfl
  subst hu
  let pl2:Pl:=⟨λ_=>vs x c,λ_=>fs x c,pl.base⟩
  have hl1:∀{j B},look [(i',Blk.arr none t2 ys)] j=some B->j=i'/\B=.arr none t2 ys:=λ{j B} h=>by
   rw[ae]at h;by_cases e:i'=j
   ·rw[if_pos e]at h;cases h;exact⟨e.symm,rfl⟩
   ·rw[if_neg e]at h;exact nomatch h
  have hr2:aR [(i',.arr none t2 ys)] pl2 w:=by
   refine⟨λj B hB=>?_,λj k B B' p q1 q2 _ _=>?_,λj B p hB hf=>?_,hr.nb⟩
   ·obtain⟨rfl,rfl⟩:=hl1 hB;exact(h6 _ _ _ hcell).row
   ·rw[(hl1 q1).1,(hl1 q2).1]
   ·exact hr.ob _ _ p hli1 ((h9 p).2 (.inr ⟨_,_,_,hcell,hf⟩))
  have haf:after [(i',.arr none t2 ys)] nid q=some [(i',.arr none t2 zs)]:=by
   unfold after;rw[hqu,hnw]
   have:fP [(i',Blk.arr none t2 zs)] [(i',Blk.arr none t2 ys)]=[(i',.arr none t2 zs)]:=by simp[fP,put]
   rw[this]
   have:b5 q.kil [(i',Blk.arr none t2 zs)]=some [(i',.arr none t2 zs)]:=by
    unfold b5;split
    ·rfl
    ·simp[jC,CR.kil,hgn,mem,Blk.al]
   rw[this];simp[au]
  have hgl2:xv w [(i',.arr none t2 ys)] pl2:=hgl.aY (aV.refl w) λp u hp hno=>⟨λ⟨j,B,hB,hf⟩=>by
    obtain⟨rfl,rfl⟩:=hl1 hB
    exact hno ⟨_,_,hli1,(h9 p).2 (.inr ⟨_,_,_,hcell,hf⟩)⟩,hp⟩
  refine(wM _ pl2 w us .rfl' hr2 hgl2 (λk hk=>by rw[hnw]at hk;exact nomatch hk) (by simpa using hl) (λj v u hv hu=>?_) _ haf).mono λe' w' ⟨u,pl2',he',hst,hv'⟩=>?_
  ·cases j with
   |zero=>
    rw[hu0]at hu;cases hu;cases hv
    exact aa.own (pl:=pl2) i' none t2 ys (by rw[ae,if_pos rfl])
   |succ j=>exact nN (lL hpl v (A6 (by simpa using hv))) (hp (j+1) v u (by simpa using hv) hu)
  ·obtain⟨ht,_⟩:=gM (c:={v:=q.v,upd:=[(i',.arr none t (xs.set x y))],du:=[i']}) hli1 rfl rfl rfl ha;obtain⟨pl',AG⟩:=vk hr hli1 hx hc hy hh h2 h4 h5 h6 h7 h8 h9 (pl2:=pl2) rfl rfl rfl (by show mem i' q.gone=false;rw[hgn];rfl) hst ht;exact⟨u,pl',he',AG,nN hpv hv'⟩
end
section
variable [Tok] [Glo]
section
variable {ρ:Type}
def bS:Nat->Code->List (Nat× Code)
 |cb,.seq a b=>bS cb a++bS cb b
 |cb,.cond _ a b=>bS cb a++bS cb b
 |_,.block id c=>bS id c
 |cb,.scope c=>bS cb c
 |cb,.loop c=>[(cb,c)]
 |_,_=>[]
theorem bT {E:Env} {LP:Nat->Ev ρ->Ev ρ}:∀(c:Code) (cb:Nat),(∀x∈bS cb c,Sound E.P (.loop x.2) (LP x.1 λst K=>ev E LP x.1 x.2 st K))->dp E LP cb c
 |.seq a b,cb,h=>⟨bT a cb λx hx=>h x (by simp[bS,hx]),bT b cb λx hx=>h x (by simp[bS,hx])⟩
 |.cond _ a b,cb,h=>⟨bT a cb λx hx=>h x (by simp[bS,hx]),bT b cb λx hx=>h x (by simp[bS,hx])⟩
 |.block id c,_,h=>bT c id h
 |.scope c,cb,h=>bT c cb h
 |.loop c,cb,h=>h (cb,c) (by simp[bS])
 |.skip,_,_=>trivial
 |.label _,_,_=>trivial
 |.region _ _ _,_,_=>trivial
 |.exit _,_,_=>trivial
 |.ret,_,_=>trivial
 |.rangeFunc _ _ _ _,_,_=>trivial
 |.goto _,_,_=>trivial
 |.refuse _,_,_=>trivial
def xa (p:Nat× Code->Prop):List (Nat× Code)->Prop
 |[]=>True
 |x::l=>p x/\xa p l
theorem nO {p:Nat× Code->Prop}:∀{l:List (Nat× Code)},xa p l->∀x∈l,p x
 |y::l,h,x,hx=>by
  rcases Bb.1 hx with rfl|hx
  ·exact h.1
  ·exact nO h.2 x hx
theorem tP {E:Env} {LP:Nat->Ev ρ->Ev ρ} {c:Code} {cb:Nat} {l:List (Nat× Code)} (hl:bS cb c=l)
  (h:xa (λx=>Sound E.P (.loop x.2) (LP x.1 λst K=>ev E LP x.1 x.2 st K)) l):dp E LP cb c:=
 bT c cb (by rw[hl];exact nO h)
theorem kj {E:Env} {LP:Nat->Ev ρ->Ev ρ} {c:Code} {cb:Nat} (hl:bS cb c=[]):dp E LP cb c:=tP hl trivial
theorem vl {P:Program} {n g:Nat} {o o':Orc} (h:jZ P n o) (h':jZ P g o'):jZ P g (cond (Nat.beq g n) o o'):=by
 cases hb:Nat.beq g n
 ·exact h'
 ·have:g=n:=AR hb;subst this;exact h
theorem xb {P:Program} {c:Code} {f:Ev ρ} {p V:Type} (hf:Sound P c f) {aY:List Nat} {co:List (bP× Co)} (kx:Ex->List Nat) (cx:Ex->List (bP× Co)) (k:Nat) {dec:Nat->NF->Option (p× V)} {tm:p× V->St}
  {g:p->V->(V->Option ρ)->(Ex->St->Option ρ)->Option ρ} (hd:∀n nf v,dec n nf=some v->bN aY n nf=tm v)
  (hg:∀(q:p) (v:V) (K K1:Ex->St->Option ρ),f (tm (q,v)) (λe st'=>match e with
    |.normal=>(iJ aY co st').bind λnf=>K1 .normal (bN aY st'.n nf)
    |e=>(iJ (kx e) (cx e) st').bind λnf=>K e (bN (kx e) st'.n nf))=g q v (λv'=>K1 .normal (tm (q,v'))) K):
  Sound P (.loop c) (iK aY co dec λpv K=>iter (λv next=>g pv.1 v next K) k pv.2):=
 mG hf kx cx k hd λpv K=>(iL (tm:=λv=>tm (pv.1,v)) (g:=λv next K=>g pv.1 v next K) (λv K K1 next hn=>by
  have:next=λv'=>K1 .normal (tm (pv.1,v')):=funext λv'=>(hn v').symm
  rw[this];exact hg pv.1 v K K1) K k pv.2).symm
theorem yQ {T:Type} {aY:List Nat} {N:Nat} {d:NF->Option T} {tm:T->St} (h:∀nf v,d nf=some v->bN aY N nf=tm v) (n:Nat) (nf:NF) (v:T)
  (e:cond (Nat.beq n N) (d nf) none=some v):bN aY n nf=tm v:=by
 cases hb:Nat.beq n N<;>simp only[hb,cond_true,cond_false]at e
 ·exact nomatch e
 ·have:n=N:=AR hb;subst this;exact h nf v e
theorem jb {A R:Type} {E:Env} (hE:fN E) {LP:Nat->Ev R->Ev R} {g:FuncId} {fn:Func} (hf:E.P.funcs[g]? =some fn) (hc:fn.body.isSome=true)
  (hnm:(fn.name== "runtime.NumGoroutine")=false) (tQ:A->List Arg) (zP:List Arg->Option A) (hA:∀l a,zP l=some a->l=tQ a)
  (hn:∀a,Nat.ble (tQ a).length fn.ntmps=true) (hLP:dp E LP 0 (fn.body.getD .skip)) {rt:RT} {dec:Out->Option R} {enc:R->Out} (hd:∀o r,dec o=some r->o=enc r)
  {F:A->Option R} (h:∀a,ev E LP 0 (fn.body.getD .skip) (st0 fn (tQ a)) (fin E.P fn rt dec)=F a):
  qH E.P g λ_ l K=>(zP l).bind λa=>(F a).bind λr=>K (enc r):=by
 intro ρ l K out hK;simp only[An]at hK;obtain⟨a,ha,r,hr,hK⟩:=hK;obtain⟨c,hcb⟩:=Option.isSome_iff_exists.1 hc
 have hgc:fn.body.getD .skip=c:=by rw[hcb];rfl
 rw[hA l a ha];exact⟨enc r,hK,rK hE hd hf hcb hnm (hn a) (hgc▸hLP) (by rw[<-hgc,h a];exact hr)⟩
def tR {α:Type}:Option α->Bool
 |some _=>true
 |none=>false
def pC {α:Type} [DecidableEq α] (x y:α):Bool:=decide (x=y)
end
end
section
variable [Tok] [Glo]
section
variable {ρ:Type}
def Ah (f g:Ev ρ):Ev ρ:=λst K=>f st λe st'=>match e with
 |.normal=>g st' K
 |e=>K e st'
theorem nP {P:Program} {c:Code} {f:Ev ρ} (hf:Sound P c f) (aY:List Nat) (co:List (bP× Co)) (kx:Ex->List Nat) (cx:Ex->List (bP× Co)) (k:Nat) {w0:World} {fp0:G0} {bs:Cell->Prop} {n:Nat} {st:St} {a:Act} {w:World} {K:Ex->St->Option ρ} {out:ρ} {Q:Exit->Act->World->Prop}
  (hr:Rl w0 fp0 bs n st a w) (h:py f aY co kx cx k st K=some out) (hK:∀e st' a' w',K e st'=some out->Rl w0 fp0 bs n st' a' w'->Q e.up a' w'):Code.rounds P c Q k a w:=by
 induction k generalizing st a w with
 |zero=>exact nomatch h
 |succ k ih=>
  rw[rounds_succ]
  exact hf w0 fp0 bs n st a w _ out _ hr h λe st' a' w' h' hr'=>by
   have hn:=hr'.zj
   cases e with
   |normal=>
    simp only[An]at h';obtain⟨nf,h1,h2⟩:=h';rw[hn]at h2
    exact ih (dE hr' h1) h2
   |exit j=>
    simp only[An]at h';obtain⟨nf,h1,h2⟩:=h';rw[hn]at h2
    exact hK (.exit j) _ a' w' h2 (dE hr' h1)
   |ret=>
    simp only[An]at h';obtain⟨nf,h1,h2⟩:=h';rw[hn]at h2;exact hK .ret _ a' w' h2 (dE hr' h1)
theorem xc {P:Program} {c:Code} {f:Ev ρ} {p V:Type} (hf:Sound P c f) {aY:List Nat} {co:List (bP× Co)} (kx:Ex->List Nat) (cx:Ex->List (bP× Co)) (k:Nat) {dec:Nat->NF->Option (p× V)} {tm:p× V->St}
  {g:p->V->(V->Option ρ)->(Ex->St->Option ρ)->Option ρ} (hd:∀n nf v,dec n nf=some v->bN aY n nf=tm v)
  (hg:∀(q:p) (v:V) (K K1:Ex->St->Option ρ),f (tm (q,v)) (λe st'=>match e with
    |.normal=>(iJ aY co st').bind λnf=>K1 .normal (bN aY st'.n nf)
    |e=>(iJ (kx e) (cx e) st').bind λnf=>K e (bN (kx e) st'.n nf))=g q v (λv'=>K1 .normal (tm (q,v'))) K):
  Sound P (.loop c) (Ah f (iK aY co dec λpv K=>iter (λv next=>g pv.1 v next K) k pv.2)):=by
 have dY:∀(pv:p× V) (K:Ex->St->Option ρ),iter (λv next=>g pv.1 v next K) k pv.2=py f aY co kx cx k (tm pv) K:=λpv K=>(iL (tm:=λv=>tm (pv.1,v)) (g:=λv next K=>g pv.1 v next K) (λv K K1 next hn=>by
  have:next=λv'=>K1 .normal (tm (pv.1,v')):=funext λv'=>(hn v').symm
  rw[this];exact hg pv.1 v K K1) K k pv.2).symm
 intro w0 fp0 bs n st a w K out Q hr h hK;refine wp_loop_rounds (k+1) ?_;rw[rounds_succ];refine hf w0 fp0 bs n st a w _ out _ hr h λe st' a' w' h' hr'=>?_
 cases e with
 |normal=>
  simp only[iK,An]at h';obtain⟨nf,h1,v,h2,h3⟩:=h';have hn:=hr'.zj;rw[hn]at h2;rw[dY v K,<-hd n nf v h2]at h3
  exact nP hf aY co kx cx k (dE hr' h1) h3 hK
 |exit j=>exact hK (.exit j) st' a' w' h' hr'
 |ret=>exact hK .ret st' a' w' h' hr'
end
end
section
variable [Glo]
def Ty.plain:Ty->Bool
 |.tok=>false
 |.st .jz|.st .bZ=>false
 |.sl t=>t.plain
 |.ho _|.hl _=>false
 |_=>true
def R.plain:R->Bool
 |.tok _=>false
 |.sl t _=>t.plain
 |_=>true
def kn:List R->Bool
 |[]=>true
 |r::l=>cond r.plain (kn l) false
def lM (i:Nat):List Nat->Bool
 |[]=>true
 |k::l=>cond (Nat.beq k i) false (lM i l)
mutual
def SV.less (k:Nat):SV->Bool
 |.r d x=>x.plain&&lM k d
 |.cY d cs=>kn cs&&lM k d
 |.inn _ _ _=>false
 |.agg cs=>kW k cs
 |.tup cs=>kW k cs
 |.fn _ a b=>kW k a&&kW k b
 |_=>true
def kW (k:Nat):List SV->Bool
 |[]=>true
 |v::l=>v.less k&&kW k l
end
def Blk.less (k:Nat):Blk->Bool
 |.box cs=>kW k cs
 |.arr none t _=>t.plain
 |.arr (some d) t _=>t.plain&&lM k d
variable {ρ:Type}
section
variable [Tok] [Glo]
theorem eC {k:Nat}:∀{d:List Nat},lM k d=true->mem k d=false
 |[],_=>rfl
 |x::l,h=>by
  simp only[lM]at h;cases hb:Nat.beq x k<;>simp only[hb,cond_true,cond_false]at h
  ·simp only[mem,hb,cond_false];exact eC h
  ·cases h
theorem fg:∀{l:List R},kn l=true->∀(j:Nat) (r:R),l[j]? =some r->r.plain=true
 |[],_,j,r,h=>by simp at h
 |x::l,h,j,r,hj=>by
  simp only[kn]at h;cases hx:x.plain<;>simp only[hx,cond_true,cond_false]at h
  ·cases h
  ·cases j with
   |zero=>grind
   |succ j=>exact fg h j r (by simpa using hj)
theorem eD {t:Ty} (h:t.plain=true) {xs:List t.El} {i j:Nat} {r:R} (hc:af t xs i j r):r.plain=true:=by
 obtain⟨x,_,hr⟩:=hc;have hm:=A6 hr
 cases t with
 |tok=>cases h
 |ho s=>cases h
 |hl t=>cases h
 |sl t=>simp[Ty.cells]at hm;subst hm;exact h
 |int k=>simp[Ty.cells]at hm;subst hm;rfl
 |bool=>simp[Ty.cells]at hm;subst hm;rfl
 |str=>simp[Ty.cells]at hm;subst hm;rfl
 |st s=>
  have key:∀l:List R,kn l=true->r∈l->r.plain=true:=λl hl hrl=>by
   obtain⟨j,hj⟩:=Bn hrl;exact fg hl j r hj
  cases s<;>first|(refine key _ ?_ hm;rfl)|exact nomatch h
theorem dW {k:Nat}:∀{l:List SV},kW k l=true->∀(j:Nat) (x:SV),l[j]? =some x->x.less k=true
 |[],_,j,x,h=>by simp at h
 |v::l,h,j,x,hj=>by
  simp only[kW,AW]at h
  cases j with
  |zero=>grind
  |succ j=>exact dW h.2 j x (by simpa using hj)
end
theorem iM {T T':Tok} {w:World} {ok:Cell->Prop} {r:R} {v:Value} (h:@RepR T w ok r v):r.plain=true->@RepR T' w ok r v:=by
 induction h with
 |int=>exactλ_=>.int _ _
 |bool=>exactλ_=>.bool _
 |str=>exactλ_=>.str _
 |tok=>exactλh=>nomatch h
 |dX v h=>exactλ_=>.dX v h
 |sl t xs a cap b o vs hcap ha hc _ ih=>exactλh=>.sl t xs a cap b o vs hcap ha hc λi j r hr=>ih i j r hr (eD h hr)
theorem rP {T T':Tok} {w:World} {r:R} {v:Value} {fp:Cell->Prop} (h:@bG T w r v fp):r.plain=true->@bG T' w r v fp:=by
 induction h with
 |int=>exactλ_=>.int _ _
 |bool=>exactλ_=>.bool _
 |str=>exactλ_=>.str _
 |tok=>exactλh=>nomatch h
 |dX v h=>exactλ_=>.dX v h
 |sl t xs a cap b o vs fs fp hcap ha dx hc _ hd1 hd2 hfp ih=>exactλh=>.sl t xs a cap b o vs fs fp hcap ha dx hc (λi j r hr=>ih i j r hr (eD h hr)) hd1 hd2 hfp
def Blk.sim:Blk->Blk->Prop
 |.box _,.box _=>True
 |.arr _ t xs,.arr _ t' ys=>t.sz=t'.sz/\xs.length=ys.length
 |_,_=>False
theorem pD {sh:Option (List Nat)} {t:Ty} {xs:List t.El} {B:Blk} (h:(Blk.arr sh t xs).sim B):∃sh' t' xs',B=.arr sh' t' xs'/\t.sz=t'.sz/\xs.length=xs'.length:=by
 cases B with
 |box=>exact h.elim
 |arr sh' t' xs'=>exact⟨sh',t',xs',rfl,h.1,h.2⟩
theorem vZ {cs:List SV} {B:Blk} (h:(Blk.box cs).sim B):∃cs',B=.box cs':=by
 cases B with
 |box cs'=>grind
 |arr=>exact h.elim
theorem aa.move {T T':Tok} {w:World} {H H':ak} {pl pl':Pl} {k:Nat} (hH:∀i B,look H i=some B->∃B',look H' i=some B'/\B.sim B') (hh:∀i,pl'.hdr i=pl.hdr i)
  (ho:∀d p,mem k d=false->okd H pl d p->okd H' pl' d p) {v:SV} {u:Value} (h:@aa T w H pl v u):v.less k=true->@aa T' w H' pl' v u:=by
 induction h with
 |r d x v hx=>
  intro hl;simp only[SV.less,AW]at hl
  exact .r d x v ((iM hx hl.1).frame λp u hp hu=>⟨ho d p (eC hl.2) hp,hu⟩)
 |br=>exactλ_=>.br
 |fK=>exactλ_=>.fK
 |own i sh t xs hi=>
  intro _;obtain⟨B',h1,h2⟩:=hH i _ hi;obtain⟨sh',t',xs',rfl,h3,h4⟩:=pD h2;rw[<-hh i]
  exact .own i sh' t' xs' h1
 |sub i o n sh t xs a a' cap cp hi hhd hn hc hc' ha=>
  intro _;obtain⟨B',h1,h2⟩:=hH i _ hi;obtain⟨sh',t',xs',rfl,h3,h4⟩:=pD h2
  exact .sub i o n sh' t' xs' a a' cap cp h1 (by rw[hh i,hhd,h4]) (by omega) hc hc' (by rw[<-h3];exact ha)
 |bsl i n cs a hi hhd=>
  intro _;obtain⟨B',h1,h2⟩:=hH i _ hi;obtain⟨cs',rfl⟩:=vZ h2
  exact .bsl i n cs' a h1 ((hh i).trans hhd)
 |jI i o cs b m hi hhd=>
  intro _;obtain⟨B',h1,h2⟩:=hH i _ hi;obtain⟨cs',rfl⟩:=vZ h2
  exact .jI i o cs' b m h1 ((hh i).trans hhd)
 |jn i x o sh t xs b m n cap hi hx hhd=>
  intro _;obtain⟨B',h1,h2⟩:=hH i _ hi;obtain⟨sh',t',xs',rfl,h3,h4⟩:=pD h2;rw[h3]
  exact .jn i x o sh' t' xs' b m n cap h1 (by omega) ((hh i).trans hhd)
 |inn=>exactλh=>nomatch h
 |cY d cs b o vs hc hr=>
  intro hl;simp only[SV.less,AW]at hl;have hk:=eC hl.2
  exact .cY d cs b o vs (λj r hj=>⟨ho d _ hk (hc j r hj).1,(hc j r hj).2⟩) λj r hj=>(iM (hr j r hj) (fg hl.1 j r hj)).frame λp u hp hu=>⟨ho d p hk hp,hu⟩
 |agg cs vs h1 h2 _ ih=>exactλhl=>.agg cs vs h1 h2 λj x v hx hv=>ih j x v hx hv (dW hl j x hx)
 |tup cs vs h1 _ ih=>exactλhl=>.tup cs vs h1 λj x v hx hv=>ih j x v hx hv (dW hl j x hx)
 |fn f as bs us vs h1 _ h2 _ ih1 ih2=>
  intro hl;have hl:(kW k as&&kW k bs)=true:=hl;rw[AW]at hl
  exact .fn f as bs us vs h1 (λj x v hx hv=>ih1 j x v hx hv (dW hl.1 j x hx)) h2 λj x v hx hv=>ih2 j x v hx hv (dW hl.2 j x hx)
 |undef v=>exactλ_=>.undef v
theorem bo.move {T T':Tok} {w:World} {H H':ak} {pl pl':Pl} {k i:Nat} (hH:∀i B,look H i=some B->∃B',look H' i=some B'/\B.sim B') (hh:∀i,pl'.hdr i=pl.hdr i)
  (ho:∀d p,mem k d=false->okd H pl d p->okd H' pl' d p) {B:Blk} (hf:pl'.fp i=pl.fp i) (h:@bo T w H pl i B) (hl:B.less k=true):@bo T' w H' pl' i B:=by
 cases B with
 |box cs=>
  obtain⟨b,o,h1,h2,h3⟩:=h;refine⟨b,o,(hh i).trans h1,λp=>by rw[hf];exact h2 p,λj v hv=>?_⟩;obtain⟨u,g1,g2,g3,g4⟩:=h3 j v hv
  exact⟨u,g1,g2,g3,g4.move hH hh ho (dW hl j v hv)⟩
 |arr sh t xs=>
  cases sh with
  |none=>
   obtain⟨⟨a,cap,b,o,vs,fs,q1,q2,q3,q4,q5,q6,q7,q8,q9⟩⟩:=h
   exact⟨⟨a,cap,b,o,vs,fs,(hh i).trans q1,q2,q3,q4,q5,λi j r hc=>rP (q6 i j r hc) (eD hl hc),q7,q8,λp=>by rw[hf];exact q9 p⟩⟩
  |some d=>
   simp only[Blk.less,AW]at hl;obtain⟨⟨a,cap,b,o,vs,fs,q1,q2,q3,q4,q5,q6,q7,q8,q9⟩⟩:=h;exact⟨⟨a,cap,b,o,vs,fs,(hh i).trans q1,q2,q3,q4,q5,λi j r hc=>⟨(iM (q6 i j r hc).1 (eD hl.1 hc)).frame λp u hp hu=>⟨ho d p (eC hl.2) hp,hu⟩,(q6 i j r hc).2⟩,q7,q8,λp=>by rw[hf];exact q9 p⟩⟩
section
variable [Tok] [Glo]
end
end
section
variable [Tok] [Glo]
structure Cd (α:Type) where
 n:Nat
 to:α->List R
 of:List R->Option α
 h:∀rs a,of rs=some a->to a=rs
def R.one (k:IntKind):R->Option Int
 |.int k' n=>cond (decide (k'=k)) (some n) none
 |_=>none
def cdI (k:IntKind):Cd Int:=⟨1,λn=>[.int k n],λ
 |[.int k' n]=>cond (decide (k'=k)) (some n) none
 |_=>none,λrs a h=>by
  split at h
  ·rename_i k' n;by_cases c:k'=k
   ·rw[decide_eq_true c]at h;cases h;rw[c]
   ·rw[decide_eq_false c]at h;exact nomatch h
  ·exact nomatch h⟩
def cdZ:Cd Int:=cdI .i64
def cdB:Cd Bool:=⟨1,λb=>[.bool b],λ
 |[.bool b]=>some b
 |_=>none,λrs a h=>by
  split at h
  ·cases h;rfl
  ·exact nomatch h⟩
def cdT:Cd (List UInt8):=⟨1,λl=>[.str l],λ
 |[.str l]=>some l
 |_=>none,λrs a h=>by
  split at h
  ·cases h;rfl
  ·exact nomatch h⟩
def cdL (t:Ty):Cd (List t.El):=⟨1,λxs=>[.sl t xs],λ
 |[r]=>r.asL t
 |_=>none,λrs a h=>by
  split at h
  ·rw[R.bq h]
  ·exact nomatch h⟩
def cdS (s:S):Cd s.E:=⟨s.sz,s.cells,λrs=>(Ty.st s).bw rs,λrs a h=>Ty.aI (.st s) rs a h⟩
def cdU:Cd Unit:=⟨0,λ_=>[],λ
 |[]=>some ()
 |_=>none,λrs a h=>by
  split at h
  ·rfl
  ·exact nomatch h⟩
def Cd.p {α β:Type} (A:Cd α) (B:Cd β):Cd (α× β):=⟨A.n+B.n,λx=>A.to x.1++B.to x.2,λrs=>(A.of (rs.take A.n)).bind λa=>(B.of (rs.drop A.n)).bind λb=>some (a,b),λrs x h=>by
 simp only[An,AP]at h;obtain⟨a,ha,b,hb,rfl⟩:=h
 rw[A.h _ _ ha,B.h _ _ hb,BD]⟩
def Cd.m {α β:Type} (A:Cd α) (f:α->β) (g:β->α) (e:∀x,g (f x)=x):Cd β:=⟨A.n,λx=>A.to (g x),λrs=>(A.of rs).bind λa=>some (f a),λrs x h=>by
 simp only[An,AP]at h;obtain⟨a,ha,rfl⟩:=h
 rw[e,A.h _ _ ha]⟩
inductive Sk where
 |r (d:List Nat) (j:Nat)
 |v (x:SV)
 |sub (i j l:Nat)
 |ptr (i j o:Nat)
 |agg (l:List Sk)
 |tup (l:List Sk)
 |fn (f:Nat) (a b:List Sk)
 |cY (d js:List Nat)
inductive SkB where
 |box (l:List Sk)
 |arr (sh:Option (List Nat)) (t:Ty) (j:Nat)
abbrev Sk.h (j:Nat):Sk:=.r [] j
def hs (j:Nat):Nat->List Sk
 |0=>[]
 |n+1=>.r [] j::hs (j+1) n
abbrev Sk.own (i:Nat):Sk:=.v (.own i)
def R.tk:R->Nat
 |.tok n=>n
 |_=>0
def R.ls (t:Ty) (r:R):List t.El:=(r.asL t).getD []
def at0:List R->Nat->R
 |[],_=>.tok 0
 |r::_,0=>r
 |_::l,j+1=>at0 l j
def atL (f:Nat->R):List Nat->List R
 |[]=>[]
 |j::l=>f j::atL f l
mutual
def Sk.fill (f:Nat->R):Sk->SV
 |.r d j=>.r d (f j)
 |.v x=>x
 |.sub i j l=>.sub i (f j).tk (f l).tk
 |.ptr i j o=>.ptr i (f j).tk o
 |.agg l=>.agg (mI f l)
 |.tup l=>.tup (mI f l)
 |.fn g a b=>.fn (.func g) (mI f a) (mI f b)
 |.cY d js=>.cY d (atL f js)
def mI (f:Nat->R):List Sk->List SV
 |[]=>[]
 |s::l=>s.fill f::mI f l
end
def SkB.fill (f:Nat->R):SkB->Blk
 |.box l=>.box (mI f l)
 |.arr sh t j=>.arr sh t ((f j).ls t)
def rQ (f:Nat->R):List SkB->List Blk
 |[]=>[]
 |b::l=>b.fill f::rQ f l
abbrev Ps:=List (Nat× R)
def eqL:List Nat->List Nat->Bool
 |[],[]=>true
 |a::l,b::m=>cond (Nat.beq a b) (eqL l m) false
 |_,_=>false
def vm:SV->SV->Bool
 |.own i,.own j=>Nat.beq i j
 |.br,.br=>true
 |.fK,.fK=>true
 |.undef,.undef=>true
 |.ptr i x o,.ptr i' x' o'=>cond (Nat.beq i i') (cond (Nat.beq x x') (Nat.beq o o') false) false
 |.bsl i n,.bsl i' n'=>cond (Nat.beq i i') (Nat.beq n n') false
 |_,_=>false
def zk:List Nat->List R->Option Ps
 |[],[]=>some []
 |j::l,r::m=>(zk l m).bind λq=>some ((j,r)::q)
 |_,_=>none
mutual
def Sk.mt:Sk->SV->Option Ps
 |.r d j,v=>match v with
  |.r d' x=>cond (eqL d d') (some [(j,x)]) none
  |_=>none
 |.v x,v=>cond (vm x v) (some []) none
 |.sub i j l,v=>match v with
  |.sub i' o n=>cond (Nat.beq i i') (some [(j,.tok o),(l,.tok n)]) none
  |_=>none
 |.ptr i j o,v=>match v with
  |.ptr i' x o'=>cond (Nat.beq i i') (cond (Nat.beq o o') (some [(j,.tok x)]) none) none
  |_=>none
 |.agg l,v=>match v with
  |.agg cs=>mtL l cs
  |_=>none
 |.tup l,v=>match v with
  |.tup cs=>mtL l cs
  |_=>none
 |.fn g a b,v=>match v with
  |.fn (.func g') a' b'=>cond (Nat.beq g g') ((mtL a a').bind λp=>(mtL b b').bind λq=>some (p++q)) none
  |_=>none
 |.cY d js,v=>match v with
  |.cY d' cs=>cond (eqL d d') (zk js cs) none
  |_=>none
def mtL:List Sk->List SV->Option Ps
 |[],l=>match l with
  |[]=>some []
  |_=>none
 |s::m,l=>match l with
  |v::l=>(s.mt v).bind λp=>(mtL m l).bind λq=>some (p++q)
  |_=>none
end
def zQ:Option (List Nat)->Option (List Nat)->Bool
 |none,none=>true
 |some a,some b=>eqL a b
 |_,_=>false
def SkB.mt:SkB->Blk->Option Ps
 |.box l,b=>match b with
  |.box cs=>mtL l cs
  |_=>none
 |.arr sh t j,b=>match b with
  |.arr sh' t' xs=>cond (zQ sh sh') (cond (decide (t'=t)) (some [(j,.sl t' xs)]) none) none
  |_=>none
def mtB:List SkB->List Blk->Option Ps
 |[],l=>match l with
  |[]=>some []
  |_=>none
 |s::m,l=>match l with
  |v::l=>(s.mt v).bind λp=>(mtB m l).bind λq=>some (p++q)
  |_=>none
theorem nQ:∀{a b:List Nat},eqL a b=true->a=b
 |[],[],_=>rfl
 |[],_::_,h=>nomatch h
 |_::_,[],h=>nomatch h
 |a::l,b::m,h=>by
  simp only[eqL]at h;cases hb:Nat.beq a b<;>rw[hb]at h<;>simp only[cond_true,cond_false]at h
  ·exact nomatch h
  ·rw[AR hb,nQ h]
theorem xd {a b:Option (List Nat)} (h:zQ a b=true):a=b:=by
 cases a with
 |none=>cases b with
  |none=>rfl
  |some _=>exact nomatch h
 |some x=>cases b with
  |none=>exact nomatch h
  |some y=>exact congrArg some (nQ h)
theorem vn {a b:SV} (h:vm a b=true):a=b:=by
 unfold vm at h;split at h
 ·rw[AR h]
 ·rfl
 ·rfl
 ·rfl
 ·rename_i i x o i' x' o';cases h1:Nat.beq i i'<;>rw[h1]at h<;>simp only[cond_true,cond_false]at h
  ·exact nomatch h
  ·cases h2:Nat.beq x x'<;>rw[h2]at h<;>simp only[cond_true,cond_false]at h
   ·exact nomatch h
   ·rw[AR h1,AR h2,AR h]
 ·rename_i i n i' n';cases h1:Nat.beq i i'<;>rw[h1]at h<;>simp only[cond_true,cond_false]at h
  ·exact nomatch h
  ·rw[AR h1,AR h]
 ·exact nomatch h
def dF (f:Nat->R) (ps:Ps):Prop:=∀p∈ps,f p.1=p.2
theorem dF.left {f:Nat->R} {p q:Ps} (h:dF f (p++q)):dF f p:=λx hx=>h x (List.mem_append_left _ hx)
theorem dF.right {f:Nat->R} {p q:Ps} (h:dF f (p++q)):dF f q:=λx hx=>h x (List.mem_append_right _ hx)
theorem tS {f:Nat->R}:∀{js:List Nat} {cs:List R} {ps:Ps},zk js cs=some ps->dF f ps->atL f js=cs
 |[],[],_,_,_=>rfl
 |[],_::_,_,h,_=>nomatch h
 |_::_,[],_,h,_=>nomatch h
 |j::l,r::m,ps,h,hf=>by
  simp only[zk,An,AP]at h;obtain⟨q,hq,rfl⟩:=h;rw[atL,tS hq λp hp=>hf p (BH _ hp),hf (j,r) Bp]
mutual
theorem Sk.rR {f:Nat->R}:(s:Sk)->{v:SV}->{ps:Ps}->s.mt v=some ps->dF f ps->s.fill f=v
 |.r d j,v,ps,h,hf=>by
  simp only[Sk.mt]at h;split at h
  ·rename_i d' x;cases hd:eqL d d'<;>rw[hd]at h<;>simp only[cond_true,cond_false]at h
   ·exact nomatch h
   ·cases h;rw[Sk.fill,nQ hd,hf (j,x) Bp]
  ·exact nomatch h
 |.v x,v,ps,h,hf=>by
  simp only[Sk.mt]at h;cases hd:vm x v<;>rw[hd]at h<;>simp only[cond_true,cond_false]at h
  ·exact nomatch h
  ·rw[Sk.fill,vn hd]
 |.sub i j l,v,ps,h,hf=>by
  simp only[Sk.mt]at h;split at h
  ·rename_i i' o n;cases hd:Nat.beq i i'<;>rw[hd]at h<;>simp only[cond_true,cond_false]at h
   ·exact nomatch h
   ·cases h;rw[Sk.fill,AR hd,hf (j,.tok o) Bp,hf (l,.tok n) (BH _ Bp)];rfl
  ·exact nomatch h
 |.ptr i j o,v,ps,h,hf=>by
  simp only[Sk.mt]at h;split at h
  ·rename_i i' x o';cases hd:Nat.beq i i'<;>rw[hd]at h<;>simp only[cond_true,cond_false]at h
   ·exact nomatch h
   ·cases hd2:Nat.beq o o'<;>rw[hd2]at h<;>simp only[cond_true,cond_false]at h
    ·exact nomatch h
    ·cases h;rw[Sk.fill,AR hd,AR hd2,hf (j,.tok x) Bp];rfl
  ·exact nomatch h
 |.agg l,v,ps,h,hf=>by
  simp only[Sk.mt]at h;split at h
  ·rw[Sk.fill,ko l h hf]
  ·exact nomatch h
 |.tup l,v,ps,h,hf=>by
  simp only[Sk.mt]at h;split at h
  ·rw[Sk.fill,ko l h hf]
  ·exact nomatch h
 |.fn g a b,v,ps,h,hf=>by
  simp only[Sk.mt]at h;split at h
  ·rename_i g' a' b';cases hd:Nat.beq g g'<;>rw[hd]at h<;>simp only[cond_true,cond_false]at h
   ·exact nomatch h
   ·simp only[An,AP]at h;obtain⟨p,hp,q,hq,rfl⟩:=h;rw[Sk.fill,AR hd,ko a hp hf.left,ko b hq hf.right]
  ·exact nomatch h
 |.cY d js,v,ps,h,hf=>by
  simp only[Sk.mt]at h;split at h
  ·rename_i d' cs;cases hd:eqL d d'<;>rw[hd]at h<;>simp only[cond_true,cond_false]at h
   ·exact nomatch h
   ·rw[Sk.fill,nQ hd,tS h hf]
  ·exact nomatch h
theorem ko {f:Nat->R}:(s:List Sk)->{v:List SV}->{ps:Ps}->mtL s v=some ps->dF f ps->mI f s=v
 |[],v,ps,h,hf=>by
  simp only[mtL]at h;split at h
  ·rfl
  ·exact nomatch h
 |s::m,v,ps,h,hf=>by
  simp only[mtL]at h;split at h
  ·simp only[An,AP]at h;obtain⟨p,hp,q,hq,rfl⟩:=h;rw[mI,Sk.rR s hp hf.left,ko m hq hf.right]
  ·exact nomatch h
end
theorem SkB.rR {f:Nat->R} (s:SkB) {b:Blk} {ps:Ps} (h:s.mt b=some ps) (hf:dF f ps):s.fill f=b:=by
 cases s with
 |box l=>
  simp only[SkB.mt]at h;split at h
  ·rw[SkB.fill,ko l h hf]
  ·exact nomatch h
 |arr sh t j=>
  simp only[SkB.mt]at h;split at h
  ·rename_i sh' t' xs;cases hd:zQ sh sh'<;>rw[hd]at h<;>simp only[cond_true,cond_false]at h
   ·exact nomatch h
   ·by_cases c:t'=t
    ·subst c;rw[decide_eq_true rfl]at h;cases h;rw[SkB.fill,xd hd,hf (j,.sl t' xs) Bp];simp[R.ls,R.asL]
    ·rw[decide_eq_false c]at h;exact nomatch h
  ·exact nomatch h
theorem qL {f:Nat->R}:(s:List SkB)->{v:List Blk}->{ps:Ps}->mtB s v=some ps->dF f ps->rQ f s=v
 |[],v,ps,h,hf=>by
  simp only[mtB]at h;split at h
  ·rfl
  ·exact nomatch h
 |s::m,v,ps,h,hf=>by
  simp only[mtB]at h;split at h
  ·simp only[An,AP]at h;obtain⟨p,hp,q,hq,rfl⟩:=h;rw[rQ,SkB.rR s hp hf.left,qL m hq hf.right]
  ·exact nomatch h
def ord (ps:Ps):Nat->Nat->Option (List R)
 |_,0=>some []
 |j,n+1=>(look ps j).bind λr=>(ord ps (j+1) n).bind λl=>some (r::l)
theorem v7 {ps:Ps}:∀{n j:Nat} {rs:List R},ord ps j n=some rs->∀i,i<n->look ps (j+i)=some (at0 rs i)
 |0,_,_,_,i,hi=>absurd hi (Nat.not_lt_zero _)
 |n+1,j,rs,h,i,hi=>by
  simp only[ord,An,AP]at h;obtain⟨r,hr,l,hl,rfl⟩:=h
  cases i with
  |zero=>exact hr
  |succ i=>have:=v7 hl i (by omega);rwa [show j+1+i=j+(i+1)from by omega]at this
def tT (n:Nat):Ps->Bool
 |[]=>true
 |(j,_)::l=>cond (Nat.ble (j+1) n) (cond (tR (look l j)) false (tT n l)) false
theorem lN {n:Nat}:∀{ps:Ps},tT n ps=true->∀p∈ps,p.1<n/\look ps p.1=some p.2
  |[],_,_,h=>nomatch h
  | (j, r) :: l, h, p, hp => by
    simp only[tT]at h;cases h1:Nat.ble (j+1) n<;>rw[h1]at h<;>simp only[cond_true,cond_false]at h
    · exact nomatch h
    · cases h2:tR (look l j)<;>rw[h2]at h<;>simp only[cond_true,cond_false]at h
      · rcases Bb.1 hp with rfl|hp
        · exact⟨AZ h1,by simp[look]⟩
        · obtain⟨g1,g2⟩:=lN h p hp;refine⟨g1,?_⟩;rw[ae];by_cases c:j=p.1
          · subst c;rw[g2]at h2;exact nomatch h2
          · rw[if_neg c];exact g2
      · exact nomatch h
def rd {α:Type} (c:Cd α) (ps:Ps):Option α:=cond (tT c.n ps) ((ord ps 0 c.n).bind c.of) none
theorem pE {α:Type} {c:Cd α} {ps:Ps} {a:α} (h:rd c ps=some a):dF (at0 (c.to a)) ps:=by
 unfold rd at h;cases hk:tT c.n ps<;>rw[hk]at h<;>simp only[cond_true,cond_false]at h
 ·exact nomatch h
 ·rw[An]at h;obtain⟨rs,hrs,ha⟩:=h;intro p hp;obtain⟨g1,g2⟩:=lN hk p hp;have:=v7 hrs p.1 g1;rw[AY,g2]at this;rw[c.h _ _ ha];exact(BS this).symm
end
section
variable [Tok] [Glo]
structure SkI where
 a:List Sk
 b:List SkB
structure SkO where
 v:Sk
 kept:List (Option SkB)
 news:List SkB
def SkI.zP {A:Type} (i:SkI) (c:Cd A) (l:List SV) (b:List Blk):Option A:=(mtL i.a l).bind λp=>(mtB i.b b).bind λq=>rd c (p++q)
def rS (f:Nat->R):List (Option SkB)->List (Option Blk)
 |[]=>[]
 |none::l=>none::rS f l
 |some b::l=>some (b.fill f)::rS f l
def mtK:List (Option SkB)->List (Option Blk)->Option Ps
 |[],l=>match l with
  |[]=>some []
  |_=>none
 |none::m,l=>match l with
  |none::l=>mtK m l
  |_=>none
 |some s::m,l=>match l with
  |some b::l=>(s.mt b).bind λp=>(mtK m l).bind λq=>some (p++q)
  |_=>none
theorem tU {f:Nat->R}:(s:List (Option SkB))->{v:List (Option Blk)}->{ps:Ps}->mtK s v=some ps->dF f ps->rS f s=v
 |[],v,ps,h,hf=>by
  simp only[mtK]at h;split at h
  ·rfl
  ·exact nomatch h
 |none::m,v,ps,h,hf=>by
  simp only[mtK]at h;split at h
  ·rw[rS,tU m h hf]
  ·exact nomatch h
 |some s::m,v,ps,h,hf=>by
  simp only[mtK]at h;split at h
  ·simp only[An,AP]at h;obtain⟨p,hp,q,hq,rfl⟩:=h;rw[rS,SkB.rR s hp hf.left,tU m hq hf.right]
  ·exact nomatch h
def S.dec:(s:S)->DecidableEq s.E
 |.shape=>(inferInstance:DecidableEq Shape)|.bY=>(inferInstance:DecidableEq aG)|.eN=>(inferInstance:DecidableEq jf)|.model=>(inferInstance:DecidableEq Model)|.task=>(inferInstance:DecidableEq Task)|.request=>(inferInstance:DecidableEq Request)
 |.step=>(inferInstance:DecidableEq Step)|.event=>(inferInstance:DecidableEq Event)|.entry=>(inferInstance:DecidableEq Entry)|.uk=>(inferInstance:DecidableEq wj)|.jz=>(inferInstance:DecidableEq sn)|.bZ=>(inferInstance:DecidableEq gB)
def Ty.dec:(t:Ty)->DecidableEq t.El
 |.int _=>(inferInstance:DecidableEq Int)
 |.bool=>(inferInstance:DecidableEq Bool)
 |.str=>(inferInstance:DecidableEq (List UInt8))
 |.sl t=>@instDecidableEqList _ t.dec
 |.st s=>s.dec
 |.tok=>(inferInstance:DecidableEq Nat)
 |.ho s=>letI:=s.dec;(inferInstance:DecidableEq (Option s.E))
 |.hl t=>letI:=t.dec;(inferInstance:DecidableEq (Option (List t.El)))
def xe {α:Type} (z e:R) (K:Option α):Option α:=
 match z,e with
 |.int k a,.int k' b=>cond (decide (k=k')) (cond (pC a b) K none) none
 |.bool a,.bool b=>cond (pC a b) K none
 |.str a,.str b=>cond (pC a b) K none
 |.tok a,.tok b=>cond (pC a b) K none
 |.sl t a,.sl t' b=>if h:t'=t then cond (@pC _ (@instDecidableEqList _ t.dec) a (h▸b)) K none else none
 |_,_=>none
theorem vo {α:Type} {z e:R} {K:Option α} {x:α} (h:xe z e K=some x):z=e/\K=some x:=by
 unfold xe at h
 have go:∀{β:Type} [DecidableEq β] {a b:β} {K:Option α},cond (pC a b) K none=some x->a=b/\K=some x:=λ{β} _ {a b K} h=>by
  unfold pC at h;by_cases c:a=b
  ·rw[decide_eq_true c]at h;exact⟨c,h⟩
  ·rw[decide_eq_false c]at h;exact nomatch h
 split at h
 ·rename_i k a k' b;by_cases c:k=k'
  ·rw[decide_eq_true c]at h;obtain⟨h1,h2⟩:=go h;exact⟨by rw[c,h1],h2⟩
  ·rw[decide_eq_false c]at h;exact nomatch h
 ·obtain⟨h1,h2⟩:=go h;exact⟨by rw[h1],h2⟩
 ·obtain⟨h1,h2⟩:=go h;exact⟨by rw[h1],h2⟩
 ·obtain⟨h1,h2⟩:=go h;exact⟨by rw[h1],h2⟩
 ·split at h
  ·rename_i t a t' b c;subst c;obtain⟨h1,h2⟩:=@go _ (@instDecidableEqList _ (Ty.dec _)) _ _ _ h;exact⟨by rw[h1],h2⟩
  ·exact nomatch h
 ·exact nomatch h
def yR {α:Type} (n:Nat) (f:Nat->R):Ps->(Ps->Option α)->Option α
 |[],K=>K []
 |(j,z)::l,K=>cond (Nat.ble (j+1) n) (xe z (f j) (yR n f l K)) (yR n f l λq=>K ((j-n,z)::q))
theorem pF {α:Type} {n:Nat} {f:Nat->R} {x:α}:∀{ps:Ps} {K:Ps->Option α},yR n f ps K=some x->∃q,K q=some x/\∀p∈ps,(p.1<n/\f p.1=p.2)\/(n<=p.1/\(p.1-n,p.2)∈q)
  |[],K,h=>⟨[],h,λ_ hp=>nomatch hp⟩
  | (j, z) :: l, K, h => by
    simp only[yR]at h;cases hb:Nat.ble (j+1) n<;>rw[hb]at h<;>simp only[cond_true,cond_false]at h
    · obtain⟨q,hq,hp⟩:=pF h;refine⟨_,hq,λp h=>?_⟩
      rcases Bb.1 h with rfl|h
      · have:¬j+1<=n:=λc=>by rw[BN c]at hb;exact nomatch hb
        exact .inr ⟨by simp only;omega,Bp⟩
      · rcases hp p h with h|⟨h1,h2⟩
        · exact .inl h
        · exact .inr ⟨h1,BH _ h2⟩
    · obtain⟨h1,h2⟩:=vo h;obtain⟨q,hq,hp⟩:=pF h2;refine⟨q,hq,λp h=>?_⟩
      rcases Bb.1 h with rfl|h
      · exact .inl ⟨AZ hb,h1.symm⟩
      · exact hp p h
theorem tV:∀(l m:List R) (j:Nat),at0 (l++m) j=if j<l.length then at0 l j else at0 m (j-l.length)
 |[],m,j=>by simp
 |r::l,m,0=>by simp[at0]
 |r::l,m,j+1=>by
  rw[List.cons_append,at0,tV l m j];by_cases c:j<l.length
  ·rw[if_pos c,if_pos (by simpa using c),at0]
  ·rw[if_neg c,if_neg (by simpa using c),List.length_cons,Nat.add_sub_add_right]
def yS {A B:Type} (cA:Cd A) (cB:Cd B) (a:A) (b:B):Nat->R:=at0 (cA.to a++cB.to b)
def SkO.enc {A B:Type} (o:SkO) (cA:Cd A) (cB:Cd B) (a:A) (b:B):rN:=⟨o.v.fill (yS cA cB a b),rS (yS cA cB a b) o.kept,rQ (yS cA cB a b) o.news⟩
def SkO.dec {A B:Type} (o:SkO) (cA:Cd A) (cB:Cd B) (a:A) (m:rN):Option B:=
  (o.v.mt m.v).bind λp=>(mtK o.kept m.kept).bind λq=>(mtB o.news m.news).bind λr=>
    cond (Nat.beq (cA.to a).length cA.n) (yR cA.n (at0 (cA.to a)) (p++(q++r)) (rd cB)) none
theorem SkO.qM {A B:Type} {o:SkO} {cA:Cd A} {cB:Cd B} {a:A} {m:rN} {b:B} (h:o.dec cA cB a m=some b):m=o.enc cA cB a b:=by
 simp only[SkO.dec,An]at h;obtain⟨p,hp,q,hq,r,hr,h⟩:=h;cases hb:Nat.beq (cA.to a).length cA.n<;>rw[hb]at h<;>simp only[cond_true,cond_false]at h
 ·exact nomatch h
 have hn:=AR hb;obtain⟨s,hs,hf⟩:=pF h;have hr':=pE hs
 have hF:dF (yS cA cB a b) (p++(q++r)):=λx hx=>by
  unfold yS;rw[tV,hn]
  rcases hf x hx with⟨h1,h2⟩|⟨h1,h2⟩
  ·rw[if_pos h1,h2]
  ·rw[if_neg (by omega)];exact hr' _ h2
 cases m;simp only[SkO.enc,Sk.rR _ hp hF.left,tU _ hq hF.right.left,qL _ hr hF.right.right]
def fh:List Sh->List Nat->List R->List Arg
 |.one _::l,fs,r::rs=>.one r::fh l fs rs
 |.agg ts::l,fs,rs=>.agg (rs.take ts.length)::fh l fs (rs.drop ts.length)
 |.fn::l,f::fs,rs=>.fn (.func f) [] []::fh l fs rs
 |_,_,_=>[]
def rsP:List Sh->List Nat->List Arg->Option (List R)
 |[],_,l=>match l with
  |[]=>some []
  |_=>none
 |.one _::m,fs,l=>match l with
  |.one r::l=>(rsP m fs l).bind λq=>some (r::q)
  |_=>none
 |.agg ts::m,fs,l=>match l with
  |.agg rs::l=>cond (Nat.beq rs.length ts.length) ((rsP m fs l).bind λq=>some (rs++q)) none
  |_=>none
 |.fn::m,fs,l=>match fs,l with
  |f::fs,.fn (.func g) [] []::l=>cond (Nat.beq g f) (rsP m fs l) none
  |_,_=>none
theorem nR:∀{sh:List Sh} {fs:List Nat} {l:List Arg} {rs:List R},rsP sh fs l=some rs->fh sh fs rs=l
 |[],fs,l,rs,h=>by
  simp only[rsP]at h;split at h
  ·cases fs<;>rfl
  ·exact nomatch h
 |.one t::m,fs,l,rs,h=>by
  simp only[rsP]at h;split at h
  ·simp only[An,AP]at h;obtain⟨q,hq,rfl⟩:=h;rw[fh,nR hq]
  ·exact nomatch h
 |.agg ts::m,fs,l,rs,h=>by
  simp only[rsP]at h;split at h
  ·rename_i rs' l';cases hb:Nat.beq rs'.length ts.length<;>rw[hb]at h<;>simp only[cond_true,cond_false]at h
   ·exact nomatch h
   ·simp only[An,AP]at h;obtain⟨q,hq,rfl⟩:=h;have e:=AR hb;rw[fh,<-e,List.take_left,List.drop_left,nR hq]
  ·exact nomatch h
 |.fn::m,fs,l,rs,h=>by
  simp only[rsP]at h;split at h
  ·rename_i f fs g l';cases hb:Nat.beq g f<;>rw[hb]at h<;>simp only[cond_true,cond_false]at h
   ·exact nomatch h
   ·rw[fh,nR h,AR hb]
  ·exact nomatch h
theorem dG:∀(sh:List Sh) (fs:List Nat) (rs:List R),(fh sh fs rs).length<=sh.length
 |[],fs,rs=>by simp[fh]
 |.one _::l,fs,r::rs=>Nat.succ_le_succ (dG l fs rs)
 |.one _::_,_,[]=>by simp[fh]
 |.agg ts::l,fs,rs=>Nat.succ_le_succ (dG l fs _)
 |.fn::l,f::fs,rs=>Nat.succ_le_succ (dG l fs rs)
 |.fn::_,[],_=>by simp[fh]
structure SkP where
 v:Sk
 news:List SkB:=[]
def SkP.enc {B:Type} (o:SkP) (cB:Cd B) (b:B):Out:=(o.v.fill (at0 (cB.to b)),rQ (at0 (cB.to b)) o.news)
def SkP.dec {B:Type} (o:SkP) (cB:Cd B) (m:Out):Option B:=(o.v.mt m.1).bind λp=>(mtB o.news m.2).bind λr=>rd cB (p++r)
theorem SkP.qM {B:Type} {o:SkP} {cB:Cd B} {m:Out} {b:B} (h:o.dec cB m=some b):m=o.enc cB b:=by
 simp only[SkP.dec,An]at h;obtain⟨p,hp,r,hr,h⟩:=h;have hF:=pE h;cases m;simp only[SkP.enc,Sk.rR _ hp hF.left,qL _ hr hF.right]
def oP {A B:Type} (sh:List Sh) (fs:List Nat) (cA:Cd A) (o:SkP) (cB:Cd B) (F:A->Option B):Orc:=pt sh λ_ l K=>((rsP sh fs l).bind cA.of).bind λa=>(F a).bind λr=>K (o.enc cB r)
theorem okP {A B:Type} {E:Env} (hE:fN E) {LP:Nat->Ev B->Ev B} {g:FuncId} {fn:Func} (hf:E.P.funcs[g]? =some fn) (hc:fn.body.isSome=true) (hnm:(fn.name== "runtime.NumGoroutine")=false)
  {sh:List Sh} {fs:List Nat} {cA:Cd A} {o:SkP} {cB:Cd B} {F:A->Option B} (hn:Nat.ble sh.length fn.ntmps=true)
  (hLP:dp E LP 0 (fn.body.getD .skip)) (rt:RT)
  (h:∀a,ev E LP 0 (fn.body.getD .skip) (st0 fn (fh sh fs (cA.to a))) (fin E.P fn rt (o.dec cB))=F a):
  jZ E.P g (oP sh fs cA o cB F):=
 lH (jb hE hf hc hnm (λa=>fh sh fs (cA.to a)) (λl=>(rsP sh fs l).bind cA.of) (λl a h=>by
  rw[An]at h;obtain⟨rs,h1,h2⟩:=h
  rw[cA.h _ _ h2,nR h1]) (λa=>BN (BZ (dG _ _ _) (AZ hn))) hLP (λm r h=>SkP.qM h) h)
end
section
variable [Tok] [Glo]
structure O (P:Program) (g:FuncId) where
 o:Orc
 ok:jZ P g o
abbrev OL (P:Program):=List (Sigma λg=>O P g)
def zR {P:Program}:OL P->FuncId->Orc
 |[],_=>xG
 |⟨n,x⟩::l,g=>cond (Nat.beq g n) x.o (zR l g)
theorem pG {P:Program}:∀(l:OL P) (g:FuncId),jZ P g (zR l g)
 |[],g=>uT P g
 |⟨_,x⟩::l,g=>vl x.ok (pG l g)
def vp {P:Program} (tt:TT) (l:OL P):Env:={P:=P,tt:=tt,orc:=zR l}
structure xf where
 f:Env->Env
 hP:∀E,(f E).P=E.P:=by exactλ_=>rfl
 hO:∀E,(f E).orc=E.orc:=by exactλ_=>rfl
def xf.id:xf:={f:=λE=>E}
def xf.w (l:List Nat):xf:={f:=λE=>{E with wr:=λg=>mem g l,wt:=true}}
theorem pH {P:Program} (tt:TT) (l:OL P) (m:xf):fN (m.f (vp tt l)):=by
 intro g;rw[m.hO,m.hP];exact pG l g
def O.inn {P:Program} {g:FuncId} (a:O P g):O P g:=⟨tN a.o,tO a.ok⟩
def zl (fn:Func) (n:Nat):Bool:=fn.body.isSome&&(!(fn.name== "runtime.NumGoroutine")&&Nat.ble n fn.ntmps)
theorem nS {fn:Func} {n:Nat} (h:zl fn n=true):fn.body.isSome=true/\(fn.name== "runtime.NumGoroutine")=false/\Nat.ble n fn.ntmps=true:=by
 simp only[zl,AW,Bool.not_eq_true']at h;exact⟨h.1,h.2.1,h.2.2⟩
def AH (ρ:Type):Nat->Ev ρ->Ev ρ:=λ_ _ _ _=>none
def jj {A B:Type} {P:Program} (tt:TT) (l:OL P) (m:xf) {g:FuncId} {fn:Func} (hf:P.funcs[g]? =some fn) (sh:List Sh) (cA:Cd A) (o:SkP) (cB:Cd B) (rt:RT) (F:A->Option B) (fs:List Nat:=[])
    (hk:(zl fn sh.length&&isNil (bS 0 (fn.body.getD .skip)))=true:=by kernel_rfl)
    (h:∀a,ev (m.f (vp tt l)) (AH B) 0 (fn.body.getD .skip) (st0 fn (fh sh fs (cA.to a))) (fin P fn rt (o.dec cB))=F a:=by intro a;kernel_rfl):O P g:=
  ⟨oP sh fs cA o cB F,by
    rw[AW]at hk;obtain⟨h1,h2,h3⟩:=nS hk.1;have e:(m.f (vp tt l)).P=P:=m.hP _;have:=okP (E:=m.f (vp tt l)) (sh:=sh) (fs:=fs) (cA:=cA) (o:=o) (cB:=cB) (F:=F) (g:=g) (fn:=fn) (pH tt l m) (by rw[e];exact hf) h1 h2 h3 (kj (bf hk.2)) rt (λa=>by rw[e];exact h a)
    rwa [e]at this⟩
end
section
variable [Tok] [Glo]
structure SkS where
 s:List Sk
 b:List SkB:=[]
 gh:List (Option Nat):=[]
def SkS.fill (q:SkS) (f:Nat->R):NF:=(mI f q.s,rQ f q.b,q.gh)
def SkS.dec {T:Type} (q:SkS) (c:Cd T) (nf:NF):Option T:=
 (mtL q.s nf.1).bind λp=>(mtB q.b nf.2.1).bind λr=>cond (decide (nf.2.2=q.gh)) (rd c (p++r)) none
theorem SkS.qM {T:Type} {q:SkS} {c:Cd T} {nf:NF} {t:T} (h:q.dec c nf=some t):nf=q.fill (at0 (c.to t)):=by
 simp only[SkS.dec,An]at h;obtain⟨p,hp,r,hr,h⟩:=h;by_cases e:nf.2.2=q.gh
 ·rw[decide_eq_true e]at h;have hf:=pE h;obtain⟨a,b,g⟩:=nf;simp only at hp hr e;simp only[SkS.fill,ko _ hp hf.left,qL _ hr hf.right,e]
 ·rw[decide_eq_false e]at h;exact nomatch h
abbrev XS:=List (Nat× (List Nat× List (bP× Co)))
def exN:Ex->Nat
 |.normal=>0
 |.ret=>1
 |.exit j=>j+2
def exL:XS->Nat->List Nat× List (bP× Co)
 |[],_=>([],[])
 |(j,x)::l,n=>cond (Nat.beq j n) x (exL l n)
structure LX (Y:Type) where
 j:Nat
 aY:List Nat
 co:List (bP× Co)
 c:Cd Y
 s:SkS
def LX.e {Y:Type} (x:LX Y):Ex:=match x.j with
 |0=>.normal
 |1=>.ret
 |j+2=>.exit j
def LX.x {Y:Type} (x:LX Y):Nat× (List Nat× List (bP× Co)):=(x.j,x.aY,x.co)
def LX.k {Y P B:Type} (x:LX Y) (n:Nat) (c:Cd P) (K:Ex->St->Option B) (p:P):Y->Option B:=λy=>K x.e (bN x.aY n (x.s.fill (at0 (c.to p++x.c.to y))))
structure Lp (B:Type) where
 i:Nat
 pl:Bool
 aY:List Nat
 co:List (bP× Co)
 P:Type
 V:Type
 cP:Cd P
 cV:Cd V
 s:SkS
 xs:XS
 G:Nat->P->V->(V->Option B)->(Ex->St->Option B)->Option B
def L1 {B P V X:Type} (i:Nat) (pl:Bool) (aY:List Nat) (co:List (bP× Co)) (cP:Cd P) (cV:Cd V) (s:SkS) (x:LX X) (F:P->V->(V->Option B)->(X->Option B)->Option B):Lp B:=
 ⟨i,pl,aY,co,P,V,cP,cV,s,[x.x],λn p v m K=>F p v m (x.k n cP K p)⟩
def L2 {B P V X Y:Type} (i:Nat) (pl:Bool) (aY:List Nat) (co:List (bP× Co)) (cP:Cd P) (cV:Cd V) (s:SkS) (x:LX X) (y:LX Y) (F:P->V->(V->Option B)->(X->Option B)->(Y->Option B)->Option B):Lp B:=
 ⟨i,pl,aY,co,P,V,cP,cV,s,[x.x,y.x],λn p v m K=>F p v m (x.k n cP K p) (y.k n cP K p)⟩
section
variable {B:Type}
def Lp.tm (l:Lp B) (n:Nat) (q:l.P× l.V):St:=bN l.aY n (l.s.fill (at0 (l.cP.to q.1++l.cV.to q.2)))
def Lp.orc (l:Lp B) (k n:Nat) (f:Ev B):Ev B:=
 let o:Ev B:=iK l.aY l.co (λm nf=>cond (Nat.beq m n) (l.s.dec (l.cP.p l.cV) nf) none) λpv K=>iter (λv next=>l.G n pv.1 v next K) k pv.2
 cond l.pl (Ah f o) o
def lpF (i:Nat):List (Lp B)->Option (Lp B)
 |[]=>none
 |l::ls=>cond (Nat.beq l.i i) (some l) (lpF i ls)
def vq (k n:Nat) (ls:List (Lp B)) (i:Nat) (f:Ev B):Ev B:=match lpF i ls with
 |some l=>l.orc k n f
 |none=>λ_ _=>none
def Lp.Step (E:Env) (LP:Nat->Ev B->Ev B) (n:Nat) (c:Code) (l:Lp B):Prop:=
 ∀(p:l.P) (v:l.V) (K K1:Ex->St->Option B),ev E LP l.i c (l.tm n (p,v)) (λe st'=>match e with
  |.normal=>(iJ l.aY l.co st').bind λnf=>K1 .normal (bN l.aY st'.n nf)
  |e=>(iJ (exL l.xs (exN e)).1 (exL l.xs (exN e)).2 st').bind λnf=>K e (bN (exL l.xs (exN e)).1 st'.n nf))=l.G n p v (λv'=>K1 .normal (l.tm n (p,v'))) K
def ch:Nat->Code->List (Nat× Code)
 |cb,.seq a b=>ch cb a++ch cb b
 |cb,.cond _ a b=>ch cb a++ch cb b
 |_,.block id c=>ch id c
 |cb,.scope c=>ch cb c
 |cb,.loop c=>ch cb c++[(cb,c)]
 |_,_=>[]
def Steps (E:Env) (LP:Nat->Ev B->Ev B) (n:Nat) (cs:List (Nat× Code)):Nat->List (Lp B)->Prop
 |_,[]=>True
 |j,l::ls=>l.Step E LP n (cs.getD j (0,.skip)).2/\Steps E LP n cs (j+1) ls
theorem qN {E:Env} {LP:Nat->Ev B->Ev B} {n:Nat} {cs:List (Nat× Code)}:∀(ls:List (Lp B)) (j:Nat),Steps E LP n cs j ls->∀(i:Nat) (l:Lp B),ls[i]? =some l->l.Step E LP n (cs.getD (j+i) (0,.skip)).2
 |[],_,_,i,l,h=>by simp at h
 |l::ls,j,hs,i,l',h=>by
  cases i with
  |zero=>simp at h;subst h;exact hs.1
  |succ i=>have:=qN ls (j+1) hs.2 i l' (by simpa using h);rwa [show j+1+i=j+(i+1)from by omega]at this
theorem v8:∀{ls:List (Lp B)} {i:Nat} {l:Lp B},(ls.map (·.i)).Nodup->ls[i]? =some l->lpF l.i ls=some l
 |[],i,_,_,h=>by simp at h
 |m::ls,i,l,hn,h=>by
  rw[BA,BJ]at hn
  cases i with
  |zero=>simp at h;subst h;simp[lpF]
  |succ i=>
   have h:ls[i]? =some l:=by simpa using h
   have hne:¬m.i=l.i:=λe=>hn.1 (e▸List.mem_map.2 ⟨l,A6 h,rfl⟩);rw[lpF];cases hb:Nat.beq m.i l.i
   ·exact v8 hn.2 h
   ·exact(hne (AR hb)).elim
theorem fi {E:Env} (hE:fN E) {k n:Nat} {ls:List (Lp B)}:∀(c:Code) (cb:Nat),(∀x∈ch cb c,∃l,lpF x.1 ls=some l/\l.i=x.1/\l.Step E (vq k n ls) n x.2)->dp E (vq k n ls) cb c
 |.seq a b,cb,h=>⟨fi hE a cb λx hx=>h x (by simp[ch,hx]),fi hE b cb λx hx=>h x (by simp[ch,hx])⟩
 |.cond _ a b,cb,h=>⟨fi hE a cb λx hx=>h x (by simp[ch,hx]),fi hE b cb λx hx=>h x (by simp[ch,hx])⟩
 |.block id c,_,h=>fi hE c id h
 |.scope c,cb,h=>fi hE c cb h
 |.loop c,cb,h=>by
  obtain⟨l,h1,h2,h3⟩:=h (cb,c) (by simp[ch]);simp only at h1 h2 h3;subst h2;have hs:=dB hE c l.i (fi hE c l.i λx hx=>h x (by simp[ch,hx]))
  have hd:∀m nf v,cond (Nat.beq m n) (l.s.dec (l.cP.p l.cV) nf) none=some v->bN l.aY m nf=l.tm n v:=
   yQ λnf v e=>by rw[SkS.qM e];rfl
  show Sound E.P (.loop c) (vq k n ls l.i λst K=>ev E (vq k n ls) l.i c st K);unfold vq;rw[h1];simp only[Lp.orc];cases l.pl
  ·exact xb hs (λe=>(exL l.xs (exN e)).1) (λe=>(exL l.xs (exN e)).2) k hd h3
  ·exact xc hs (λe=>(exL l.xs (exN e)).1) (λe=>(exL l.xs (exN e)).2) k hd h3
 |.skip,_,_=>trivial
 |.label _,_,_=>trivial
 |.region _ _ _,_,_=>trivial
 |.exit _,_,_=>trivial
 |.ret,_,_=>trivial
 |.rangeFunc _ _ _ _,_,_=>trivial
 |.goto _,_,_=>trivial
 |.refuse _,_,_=>trivial
def lpB (cs:List (Nat× Code)) (ls:List (Lp B)):Bool:=eqL (cs.map (·.1)) (ls.map (·.i))&&nodup (ls.map (·.i))
theorem rT {E:Env} (hE:fN E) {k n:Nat} {ls:List (Lp B)} {c:Code} (hb:lpB (ch 0 c) ls=true) (hs:Steps E (vq k n ls) n (ch 0 c) 0 ls):dp E (vq k n ls) 0 c:=by
 unfold lpB at hb;rw[AW]at hb;have hm:=nQ hb.1;refine fi hE c 0 λx hx=>?_;obtain⟨i,hi⟩:=List.mem_iff_getElem?.1 hx
 have e:((ch 0 c).map (·.1))[i]? =some x.1:=by rw[Bu,hi];rfl
 rw[hm,Bu]at e
 cases hl:ls[i]? with
 |none=>rw[hl]at e;exact nomatch e
 |some l=>
  rw[hl]at e;have hi':l.i=x.1:=BS e;refine⟨l,hi'▸v8 (bX hb.2) hl,hi',?_⟩;have:=qN ls 0 hs i l hl;rwa [AY,List.getD,hi]at this
end
def wc {A B:Type} {P:Program} (tt:TT) (l:OL P) (m:xf) {g:FuncId} {fn:Func} (hf:P.funcs[g]? =some fn) (k:Nat) (ls:List (Lp B)) (sh:List Sh) (cA:Cd A) (o:SkP) (cB:Cd B) (rt:RT) (F:A->Option B) (fs:List Nat:=[])
    (hk:(zl fn sh.length&&lpB (ch 0 (fn.body.getD .skip)) ls)=true:=by kernel_rfl) (hs:Steps (m.f (vp tt l)) (vq k fn.ntmps ls) fn.ntmps (ch 0 (fn.body.getD .skip)) 0 ls:=by(repeat refine⟨λp v K K1=>by kernel_rfl,?_⟩);exact trivial)
    (h:∀a,ev (m.f (vp tt l)) (vq k fn.ntmps ls) 0 (fn.body.getD .skip) (st0 fn (fh sh fs (cA.to a))) (fin P fn rt (o.dec cB))=F a:=by intro a;kernel_rfl):O P g:=
  ⟨oP sh fs cA o cB F,by
    rw[AW]at hk;obtain⟨h1,h2,h3⟩:=nS hk.1;have e:(m.f (vp tt l)).P=P:=m.hP _;have:=okP (E:=m.f (vp tt l)) (sh:=sh) (fs:=fs) (cA:=cA) (o:=o) (cB:=cB) (F:=F) (g:=g) (fn:=fn) (pH tt l m) (by rw[e];exact hf) h1 h2 h3 (rT (pH tt l m) hk.2 hs) rt (λa=>by rw[e];exact h a)
    rwa [e]at this⟩
end
section
open Go.RowKit (Below)
variable [Tok] [Glo]
def okH {A B:Type} {P:Program} {g:FuncId} (sh:List Sh) (fs:List Nat) (cA:Cd A) (o:SkP) (cB:Cd B) (F:A->Option B)
    (h:∀a b,F a=some b->dq P g (fh sh fs (cA.to a)) (o.enc cB b)):O P g:=
  ⟨oP sh fs cA o cB F,lH (λρ l K out hG=>by
    rw[An]at hG;obtain⟨a,h1,hG⟩:=hG;rw[An]at hG h1;obtain⟨b,h2,hG⟩:=hG;obtain⟨rs,h3,h4⟩:=h1;refine⟨_,hG,?_⟩
    have e:l=fh sh fs (cA.to a):=by rw[cA.h _ _ h4,nR h3]
    rw[e]
    exact h a b h2)⟩
theorem Below.at_ {w w':World} (h:Below w.heap.size w w') {p:Cell} {x:Value} (hx:w.at? p=some x):w'.at? p=some x/\w'.bc p=w.bc p:=by
 have hlt:p.1<w.heap.size:=by
  unfold World.at? World.cell? at hx
  cases hb:w.heap[p.1]? with
  |none=>simp[hb]at hx
  |some o=>exact(A2.1 hb).1
 have hb:=h.block p.1 hlt;exact⟨by unfold World.at? World.cell? at*;rw[hb];exact hx,by unfold World.bc;rw[hb]⟩
theorem Below.yU {w w':World} (h:Below w.heap.size w w'):aV w w':=by
 refine⟨h.os,h.output,λi hi=>?_⟩;rw[h.block i hi];split
 ·rename_i e1 e2;rw[e1]at e2;cases e2;exact⟨rfl,.inl rfl,rfl⟩
 ·rfl
end
end Go.Proofs.Ev
