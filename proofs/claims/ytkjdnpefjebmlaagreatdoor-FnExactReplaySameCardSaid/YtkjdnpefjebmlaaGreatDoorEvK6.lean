/- The evaluator over the model's code, and that it is sound: part 6. -/
import Derived.Test.YtkjdnpefjebmlaaGreatDoorEvK5
set_option linter.unusedVariables false
set_option linter.unusedSimpArgs false
set_option linter.unusedSectionVars false
namespace Go.Proofs.Ev
section
variable [Tok] [Glo]
def Rh (L:List Nat):List Nat->List Nat
 |[]=>[]
 |i::l=>match placeOf i L 0 with
  |some k=>k::Rh L l
  |none=>Rh L l
mutual
def SV.ren (L:List Nat):SV->Option SV
 |.r d x=>some (.r (Rh L d) x)
 |.cF=>some .cF
 |.qZ=>some .qZ
 |.own i=>(placeOf i L 0).bind λk=>some (.own k)
 |.sub i o n=>(placeOf i L 0).bind λk=>some (.sub k o n)
 |.bsl i n=>(placeOf i L 0).bind λk=>some (.bsl k n)
 |.ptr i x o=>(placeOf i L 0).bind λk=>some (.ptr k x o)
 |.inn _ _ _=>none
 |.lB d cs=>some (.lB (Rh L d) cs)
 |.agg cs=>(G7 L cs).bind λl=>some (.agg l)
 |.tup cs=>(G7 L cs).bind λl=>some (.tup l)
 |.fn f a b=>(G7 L a).bind λa=>(G7 L b).bind λb=>some (.fn f a b)
 |.undef=>some .undef
def G7 (L:List Nat):List SV->Option (List SV)
 |[]=>some []
 |v::l=>(v.ren L).bind λv=>(G7 L l).bind λl=>some (v::l)
end
def Blk.ren (L:List Nat):Blk->Option Blk
 |.box cs=>(G7 L cs).bind λl=>some (.box l)
 |.arr none t xs=>some (.arr none t xs)
 |.arr (some d) t xs=>some (.arr (some (Rh L d)) t xs)
def pd (h:aM) (L:List Nat):List Nat->Option (List Blk)
 |[]=>some []
 |i::l=>(look h i).bind λb=>(b.ren L).bind λb=>(pd h L l).bind λl=>some (b::l)
def getAll (s:List (Nat× SV)):List Nat->Option (List SV)
 |[]=>some []
 |t::l=>(look s t).bind λv=>(getAll s l).bind λvs=>some (v::vs)
abbrev NF:=List SV× List Blk× List (Option Nat)
def O4 (h:aM):List (Option Nat)->List Nat
 |[]=>[]
 |none::l=>O4 h l
 |some i::l=>match look h i with
  |some _=>i::O4 h l
  |none=>O4 h l
def Fg (L:List Nat):List (Option Nat)->List (Option Nat)
 |[]=>[]
 |none::l=>none::Fg L l
 |some i::l=>placeOf i L 0::Fg L l
def norm (bJ:List Nat) (st:St):Option NF:=
  (getAll st.cJ bJ).bind λvs=>
    let L:=reach st.heap 3 (qO (qO [] (Mg vs)) (O4 st.heap st.gh))
    cond (nodup L) ((G7 L vs).bind λvs'=>(pd st.heap L L).bind λbs=>some (vs',bs,Fg L st.gh)) none
def Uw:List Nat->List SV->List (Nat× SV)
 |t::l,v::vs=>(t,v)::Uw l vs
 |_,_=>[]
def ir (bJ:List Nat) (n:Nat) (nf:NF):St:={cJ:=Uw bJ nf.1,heap:=aN 0 nf.2.1,nid:=nf.2.1.length,n:=n,gh:=nf.2.2}
theorem qc {L:List Nat}:{cs l:List SV}->G7 L cs=some l->l.length=cs.length
 |[],l,h=>by cases h;rfl
 |v::cs,l,h=>by
  simp only[G7,An,It]at h;obtain⟨v',hv,l',hl',rfl⟩:=h;simp[qc hl']
section
variable {w:World} {H:aM} {pl:Pl} {L:List Nat} {bs:List Blk}
theorem yN {i:Nat}:∀{L:List Nat} {n:Nat},placeOf i L n=none->i∉L
 |[],_,_=>λh=>nomatch h
 |j::l,n,h=>by
  simp only[placeOf]at h;cases hj:Nat.beq j i<;>simp only[hj,cond_true,cond_false]at h
  ·intro hm
   rcases X3.1 hm with rfl|hm
   ·simp at hj
   ·exact yN h hm
  ·exact nomatch h
theorem gW {h:aM} {L:List Nat}:∀{l:List Nat} {bs:List Blk},pd h L l=some bs->bs.length=l.length/\
  (∀(k:Nat) (b:Blk),bs[k]? =some b->∃i b0,l[k]? =some i/\look h i=some b0/\b0.ren L=some b)
 |[],bs,e=>by cases e;exact⟨rfl,λk b hb=>by simp at hb⟩
 |i::l,bs,e=>by
  simp only[pd,An,It]at e;obtain⟨b0,h1,b,h2,l',h3,rfl⟩:=e;obtain⟨g1,g2⟩:=gW h3;refine⟨by simp[g1],λk b' hb=>?_⟩
  cases k with
  |zero=>simp at hb;subst hb;exact⟨i,b0,rfl,h1,h2⟩
  |succ k=>simpa using g2 k b' (by simpa using hb)
theorem oK (hL:pd H L L=some bs) {i k:Nat} (hk:placeOf i L 0=some k) {B:Blk} (hB:look H i=some B):
  L.getD k 0=i/\∃B',look (aN 0 bs) k=some B'/\B.ren L=some B':=by
 obtain⟨_,h2⟩:=kQ hk;rw[Yt]at h2
 have hlt:k<bs.length:=by rw[(gW hL).1];exact(Of.1 h2).1
 obtain⟨i',b0,e1,e2,e3⟩:=(gW hL).2 k _ (So hlt);rw[h2]at e1;cases e1;rw[hB]at e2;cases e2;exact⟨by simp[List.getD,h2],_,by rw[bG,if_pos (Ya _),Yt];exact So hlt,e3⟩
theorem gq (hL:pd H L L=some bs) {k:Nat} {B:Blk} (hB:look (aN 0 bs) k=some B):∃i b0,L[k]? =some i/\L.getD k 0=i/\look H i=some b0/\b0.ren L=some B:=by
 rw[bG,if_pos (Ya _),Yt]at hB;obtain⟨i,b0,h1,h2,h3⟩:=(gW hL).2 k B hB;exact⟨i,b0,h1,by simp[List.getD,h1],h2,h3⟩
theorem oL {L:List Nat} (hn:L.Nodup) {k i:Nat} (h:L[k]? =some i):placeOf i L 0=some k:=by
 cases hp:placeOf i L 0 with
 |none=>exact(yN hp (XX h)).elim
 |some k'=>
  obtain⟨_,h2⟩:=kQ hp;rw[Yt]at h2;have hlt:=(Of.1 h).1;rw[(List.getElem?_inj hlt hn).1 (h.trans h2.symm)]
theorem Ln {L d:List Nat} {k i:Nat} (h:placeOf i L 0=some k) (hd:mem i d=true):mem k (Rh L d)=true:=by
 induction d with
 |nil=>exact nomatch hd
 |cons j l ih=>
  simp only[Rh];simp only[mem]at hd;cases hj:Nat.beq j i<;>simp only[hj,cond_true,cond_false]at hd
  ·cases placeOf j L 0 with
   |none=>exact ih hd
   |some m=>simp only[mem];cases Nat.beq m k<;>simp[ih hd]
  ·have:j=i:=On hj;subst this;simp only[h,mem];simp
theorem Blk.O5 {b b':Blk} (h:b.ren L=some b'):b'.lF=b.lF:=by
 cases b with
 |box cs=>simp only[Blk.ren,An,It]at h;obtain⟨_,_,rfl⟩:=h;rfl
 |arr sh t xs=>cases sh<;>(cases h;rfl)
theorem Fh (hn:nodup L=true) (hL:pd H L L=some bs) {d:List Nat} {p:Cell} (h:okd H pl d p):okd (aN 0 bs) (pl.out L) (Rh L d) p:=by
 refine⟨h.1,λk B hB hm hf=>?_⟩;obtain⟨i,b0,h1,hi,h2,h3⟩:=gq hL hB;simp only[Pl.out,hi]at hf;refine h.2 i b0 h2 (λhd=>?_) hf;rw[<-Blk.O5 h3];exact hm (Ln (oL (ft hn) h1) hd)
mutual
theorem JL (hn:nodup L=true) (hL:pd H L L=some bs):(v:SV)->{v':SV}->{u:Value}->v.ren L=some v'->ar w H pl v u->ar w (aN 0 bs) (pl.out L) v' u
 |.r d x,v',u,h,hv=>by
  cases h
  cases hv with
  |r _ _ _ hx=>exact .r _ _ _ (hx.frame λp u hp hu=>⟨Fh hn hL hp,hu⟩)
 |.cF,v',u,h,hv=>by cases h;cases hv;exact .cF
 |.qZ,v',u,h,hv=>by cases h;cases hv;exact .qZ
 |.own i,v',u,h,hv=>by
  simp only[SV.ren,An,It]at h;obtain⟨k,hk,rfl⟩:=h
  cases hv with
  |own _ sh t xs hl=>
   obtain⟨hi,B',g1,g2⟩:=oK hL hk hl
   have e:(pl.out L).hdr k=pl.hdr i:=by simp only[Pl.out,hi]
   rw[<-e]
   cases sh with
   |none=>cases g2;exact .own k none t xs g1
   |some d=>cases g2;exact .own k _ t xs g1
 |.sub i o n,v',u,h,hv=>by
  simp only[SV.ren,An,It]at h;obtain⟨k,hk,rfl⟩:=h
  cases hv with
  |sub _ _ _ sh t xs a a' cap jk hl hh h1 h2 h3 h4=>
   obtain⟨hi,B',g1,g2⟩:=oK hL hk hl
   have e:(pl.out L).hdr k=pl.hdr i:=by simp only[Pl.out,hi]
   cases sh with
   |none=>cases g2;exact .sub k o n none t xs a a' cap jk g1 (e.trans hh) h1 h2 h3 h4
   |some d=>cases g2;exact .sub k o n _ t xs a a' cap jk g1 (e.trans hh) h1 h2 h3 h4
 |.bsl i n,v',u,h,hv=>by
  simp only[SV.ren,An,It]at h;obtain⟨k,hk,rfl⟩:=h
  cases hv with
  |bsl _ _ cs a hl hh=>
   obtain⟨hi,B',g1,g2⟩:=oK hL hk hl
   have e:(pl.out L).hdr k=pl.hdr i:=by simp only[Pl.out,hi]
   simp only[Blk.ren,An,It]at g2;obtain⟨l,hl',rfl⟩:=g2
   exact .bsl k n l a g1 (e.trans hh)
 |.ptr i x o,v',u,h,hv=>by
  simp only[SV.ren,An,It]at h;obtain⟨k,hk,rfl⟩:=h
  cases hv with
  |wQ _ _ cs b m hl hh=>
   obtain⟨hi,B',g1,g2⟩:=oK hL hk hl
   have e:(pl.out L).hdr k=pl.hdr i:=by simp only[Pl.out,hi]
   simp only[Blk.ren,An,It]at g2;obtain⟨l,hl',rfl⟩:=g2
   exact .wQ k o l b m g1 (e.trans hh)
  |uQ _ _ _ sh t xs b m n cap hl hx hh=>
   obtain⟨hi,B',g1,g2⟩:=oK hL hk hl
   have e:(pl.out L).hdr k=pl.hdr i:=by simp only[Pl.out,hi]
   cases sh with
   |none=>cases g2;exact .uQ k x o none t xs b m n cap g1 hx (e.trans hh)
   |some d=>cases g2;exact .uQ k x o _ t xs b m n cap g1 hx (e.trans hh)
 |.inn _ _ _,v',u,h,hv=>by cases h
 |.lB d cs,v',u,h,hv=>by
  cases h
  cases hv with
  |lB _ _ b o vs h1 h2=>exact .lB _ _ b o vs (λj r hj=>⟨Fh hn hL (h1 j r hj).1,(h1 j r hj).2⟩) λj r hj=>(h2 j r hj).frame λp u hp hu=>⟨Fh hn hL hp,hu⟩
 |.agg cs,v',u,h,hv=>by
  simp only[SV.ren,An,It]at h;obtain⟨l,hl,rfl⟩:=h
  cases hv with
  |agg _ vs h1 h2 h3=>
   obtain⟨g1,g2⟩:=vn hn hL cs hl vs.toList (by simpa using h1) λj x u hx hu=>h3 j x u hx (by simpa using hu)
   exact .agg _ _ (by simpa using g1) h2 λj x u hx hu=>g2 j x u hx (by simpa using hu)
 |.tup cs,v',u,h,hv=>by
  simp only[SV.ren,An,It]at h;obtain⟨l,hl,rfl⟩:=h
  cases hv with
  |tup _ vs h1 h3=>
   obtain⟨g1,g2⟩:=vn hn hL cs hl vs.toList (by simpa using h1) λj x u hx hu=>h3 j x u hx (by simpa using hu)
   exact .tup _ _ (by simpa using g1) λj x u hx hu=>g2 j x u hx (by simpa using hu)
 |.fn f as bs',v',u,h,hv=>by
  simp only[SV.ren,An,It]at h;obtain⟨l,hl,l',hl',rfl⟩:=h
  cases hv with
  |fn _ _ _ us vs h1 h3 h1' h3'=>
   obtain⟨g1,g2⟩:=vn hn hL as hl us.toList (by simpa using h1) λj x u hx hu=>h3 j x u hx (by simpa using hu);obtain⟨g3,g4⟩:=vn hn hL bs' hl' vs.toList (by simpa using h1') λj x u hx hu=>h3' j x u hx (by simpa using hu)
   exact .fn _ _ _ _ _ (by simpa using g1) (λj x u hx hu=>g2 j x u hx (by simpa using hu)) (by simpa using g3) λj x u hx hu=>g4 j x u hx (by simpa using hu)
 |.undef,v',u,h,hv=>by cases h;exact .undef _
theorem vn (hn:nodup L=true) (hL:pd H L L=some bs):(cs:List SV)->{l:List SV}->G7 L cs=some l->(us:List Value)->cs.length=us.length->
  (∀(j:Nat) (x:SV) (u:Value),cs[j]? =some x->us[j]? =some u->ar w H pl x u)->
  l.length=us.length/\∀(j:Nat) (x:SV) (u:Value),l[j]? =some x->us[j]? =some u->ar w (aN 0 bs) (pl.out L) x u
 |[],l,h,us,hl,_=>by cases h;exact⟨hl,λj x u hx _=>by simp at hx⟩
 |v::cs,l,h,u::us,hl,hp=>by
  simp only[G7,An,It]at h;obtain⟨v',hv,l',hl',rfl⟩:=h;obtain⟨g1,g2⟩:=vn hn hL cs hl' us (by simpa using hl) λj x u hx hu=>hp (j+1) x u (by simpa using hx) (by simpa using hu);refine⟨by simp[g1],λj x u' hx hu=>?_⟩
  cases j with
  |zero=>simp at hx hu;subst hx hu;exact JL hn hL v hv (hp 0 v u rfl rfl)
  |succ j=>exact g2 j x u' (by simpa using hx) (by simpa using hu)
end
theorem Fi {cs l:List SV} (h:G7 L cs=some l):∀(j:Nat) (x:SV),l[j]? =some x->∃y,cs[j]? =some y/\y.ren L=some x:=by
 induction cs generalizing l with
 |nil=>cases h;intro j x hx;simp at hx
 |cons v cs ih=>
  simp only[G7,An,It]at h;obtain⟨v',hv,l',hl',rfl⟩:=h;intro j x hx
  cases j with
  |zero=>simp at hx;subst hx;exact⟨v,rfl,hv⟩
  |succ j=>simpa using ih hl' j x (by simpa using hx)
theorem Ri (hr:cY H pl w) (hn:nodup L=true) (hL:pd H L L=some bs):cY (aN 0 bs) (pl.out L) w:=by
 refine⟨λk B hB=>?_,λk k' B B' p h1 h2 f1 f2=>?_,λk B p hB hf=>?_,hr.nb⟩
 ·obtain⟨i,b0,h1,hi,h2,h3⟩:=gq hL hB;have hb:=hr.blk i b0 h2
  have eh:(pl.out L).hdr k=pl.hdr i:=by simp only[Pl.out,hi]
  have ef:(pl.out L).fp k=pl.fp i:=by simp only[Pl.out,hi]
  cases b0 with
  |box cs=>
   simp only[Blk.ren,An,It]at h3;obtain⟨l,hl,rfl⟩:=h3;obtain⟨b,o,q1,q2,q3⟩:=hb;refine⟨b,o,eh.trans q1,λp=>by rw[ef,q2,qc hl],λj v hv=>?_⟩;obtain⟨y,hy,hy2⟩:=Fi hl j v hv;obtain⟨u,g1,g2,g3,g4⟩:=q3 j y hy
   exact⟨u,g1,g2,g3,JL hn hL y hy2 g4⟩
  |arr sh t xs=>
   cases sh with
   |none=>
    cases h3;show Nonempty (Row w (fV w) t xs ((pl.out L).hdr k) ((pl.out L).fp k))
    rw[eh,ef];exact hb
   |some d=>
    cases h3;obtain⟨⟨a,cap,b,o,vs,fs,q1,q2,q3,q4,q5,q6,q7,q8,q9⟩⟩:=hb;exact⟨⟨a,cap,b,o,vs,fs,eh.trans q1,q2,q3,q4,q5,λi j r hc=>⟨(q6 i j r hc).1.frame λp u hp hu=>⟨Fh hn hL hp,hu⟩,(q6 i j r hc).2⟩,q7,q8,λp=>by rw[ef];exact q9 p⟩⟩
 ·obtain⟨i,b0,g1,hi,g2,g3⟩:=gq hL h1;obtain⟨i',b0',g1',hi',g2',g3'⟩:=gq hL h2;simp only[Pl.out,hi]at f1;simp only[Pl.out,hi']at f2;have:=hr.dis i i' b0 b0' p g2 g2' f1 f2;subst this;exact(List.getElem?_inj (Of.1 g1).1 (ft hn)).1 (g1.trans g1'.symm)
 ·obtain⟨i,b0,g1,hi,g2,g3⟩:=gq hL hB;simp only[Pl.out,hi]at hf;exact hr.ob i b0 p g2 hf
theorem DV {s:List (Nat× SV)}:∀{l:List Nat} {vs:List SV},getAll s l=some vs->vs.length=l.length/\∀(j t:Nat),l[j]? =some t->∃v,vs[j]? =some v/\look s t=some v
 |[],vs,h=>by cases h;exact⟨rfl,λj t ht=>by simp at ht⟩
 |t::l,vs,h=>by
  simp only[getAll,An,It]at h;obtain⟨v,hv,vs',hvs,rfl⟩:=h;obtain⟨g1,g2⟩:=DV hvs;refine⟨by simp[g1],λj t' ht=>?_⟩
  cases j with
  |zero=>simp at ht;subst ht;exact⟨v,rfl,hv⟩
  |succ j=>simpa using g2 j t' (by simpa using ht)
theorem G8:∀{l:List Nat} {vs:List SV} {t:Nat} {v:SV},look (Uw l vs) t=some v->∃j:Nat,l[j]? =some t/\vs[j]? =some v
 |[],_,t,v,h=>by simp[Uw,look]at h
 |_::_,[],t,v,h=>by simp[Uw,look]at h
 |k::l,x::vs,t,v,h=>by
  rw[Uw,aC]at h;by_cases e:k=t
  ·rw[if_pos e]at h;cases h;exact⟨0,by simp[e],rfl⟩
  ·rw[if_neg e]at h;obtain⟨j,h1,h2⟩:=G8 h;exact⟨j+1,by simpa using h1,by simpa using h2⟩
end
theorem Blk.Fj {L:List Nat} {b b':Blk} (h:b.ren L=some b'):b.nt b':=by
 cases b with
 |box cs=>
  simp only[Blk.ren,An,It]at h;obtain⟨l,h1,rfl⟩:=h
  exact(qc h1).symm
 |arr sh t xs=>cases sh<;>(cases h;exact⟨rfl,rfl⟩)
theorem Be {L:List Nat}:∀{gh:List (Option Nat)} {k i:Nat},(Fg L gh)[k]? =some (some i)->∃j,gh[k]? =some (some j)/\placeOf j L 0=some i
 |[],k,i,h=>by simp[Fg]at h
 |none::l,k,i,h=>by
  cases k with
  |zero=>simp[Fg]at h
  |succ k=>simpa using Be (gh:=l) (by simpa[Fg]using h)
 |some j::l,k,i,h=>by
  cases k with
  |zero=>simp[Fg]at h;exact⟨j,rfl,h⟩
  |succ k=>simpa using Be (gh:=l) (by simpa[Fg]using h)
theorem JM {w0:World} {fp0:G0} {bs:Cell->Prop} {n:Nat} {bJ:List Nat} {st:St} {nf:NF} {a:Act} {w:World} (h:Rl w0 fp0 bs n st a w) (hn:norm bJ st=some nf):
  Rl w0 fp0 bs n (ir bJ n nf) a w:=by
 obtain⟨pl,hr,hb,hnn⟩:=h;simp only[norm,An]at hn;obtain⟨vs,hvs,hn⟩:=hn;generalize reach st.heap 3 (qO (qO [] (Mg vs)) (O4 st.heap st.gh))=L at hn;cases hnd:nodup L<;>simp only[hnd,cond_true,cond_false,An,It]at hn
 ·exact nomatch hn
 ·obtain⟨vs',Xn,bs',hbs,rfl⟩:=hn;refine⟨pl.out L,⟨Ri hr.hr hnd hbs,λt v hv=>?_,hr.sz.trans hnn,hr.df,λi hi=>?_,hr.gr,λp u hp hno=>?_,λk i hk=>?_⟩,hb,rfl⟩
  ·obtain⟨j,h1,h2⟩:=G8 hv;obtain⟨x,h3,h4⟩:=(DV hvs).2 j t h1;obtain⟨y,h5,h6⟩:=Fi Xn j v h2;rw[h3]at h5;cases h5;exact JL hnd hbs x h6 (hr.sl t x h4)
  ·show look (aN 0 bs') i=none;rw[bG,if_pos (Ya _),Yt];exact Yb hi
  ·obtain⟨g1,g2,g3⟩:=hr.fr p u hp hno;refine⟨λk B hB hf=>?_,g2,g3⟩;obtain⟨i,b0,_,hi,e2,_⟩:=gq hbs hB;simp only[Pl.out,hi]at hf;exact g1 i b0 e2 hf
  ·obtain⟨j,h1,h2⟩:=Be hk;obtain⟨q1,q2⟩:=hr.gk k j h1;obtain⟨p1,p2⟩:=kQ h2;rw[Yt]at p2
   have hlt:i<bs'.length:=by rw[(gW hbs).1];exact(Of.1 p2).1
   refine⟨hlt,λB hB=>?_⟩;obtain⟨i',b0,g1,g2,g3,g4⟩:=gq hbs hB;rw[p2]at g1;cases g1;obtain⟨r1,r2⟩:=q2 b0 g3;exact⟨by simp only[Pl.out,g2];exact r1,Blk.fo r2 (Blk.Fj g4)⟩
def xl (bJ:List Nat) (co:List (iG× Co)) (st:St):Option NF:=
 match co with
 |[]=>norm bJ st
 |_=>(norm bJ st).bind λnf=>norm bJ (N3 co (ir bJ st.n nf))
theorem nE {w0:World} {fp0:G0} {bs:Cell->Prop} {n:Nat} {bJ:List Nat} {co:List (iG× Co)} {st:St} {nf:NF} {a:Act} {w:World} (h:Rl w0 fp0 bs n st a w) (hn:xl bJ co st=some nf):
  Rl w0 fp0 bs n (ir bJ n nf) a w:=by
 unfold xl at hn;split at hn
 ·exact JM h hn
 ·simp only[An]at hn;obtain⟨nf1,h1,h2⟩:=hn;obtain⟨_,_,_,hnn⟩:=id h;rw[hnn]at h2;have:=zP co (JM h h1);exact JM this h2
section
variable {ρ:Type}
def JN (body:Ev ρ) (bJ:List Nat) (co:List (iG× Co)) (kx:Ex->List Nat) (cx:Ex->List (iG× Co)):Nat->Ev ρ
 |0,_,_=>none
 |k+1,st,K=>body st λe st'=>match e with
  |.normal=>(xl bJ co st').bind λnf=>JN body bJ co kx cx k (ir bJ st'.n nf) K
  |e=>(xl (kx e) (cx e) st').bind λnf=>K e (ir (kx e) st'.n nf)
theorem Rl.VS {w0:World} {fp0:G0} {bs:Cell->Prop} {n:Nat} {st:St} {a:Act} {w:World} (h:Rl w0 fp0 bs n st a w):st.n=n:=by
 obtain⟨_,_,_,h⟩:=h;exact h
theorem JO {P:Program} {c:Code} {f:Ev ρ} (hf:Sound P c f) (bJ:List Nat) (co:List (iG× Co)) (kx:Ex->List Nat) (cx:Ex->List (iG× Co)) (k:Nat):Sound P (.loop c) (JN f bJ co kx cx k):=by
 intro w0 fp0 bs n st a w K out Q hr h hK;refine wp_loop_rounds k ?_
 induction k generalizing st a w with
 |zero=>exact nomatch h
 |succ k ih=>
  rw[rounds_succ]
  exact hf w0 fp0 bs n st a w _ out _ hr h λe st' a' w' h' hr'=>by
   have hn:=hr'.VS
   cases e with
   |normal=>
    simp only[An]at h';obtain⟨nf,h1,h2⟩:=h';rw[hn]at h2
    exact ih _ a' w' (nE hr' h1) h2
   |exit j=>
    simp only[An]at h';obtain⟨nf,h1,h2⟩:=h';rw[hn]at h2
    exact hK (.exit j) _ a' w' h2 (nE hr' h1)
   |ret=>
    simp only[An]at h';obtain⟨nf,h1,h2⟩:=h';rw[hn]at h2;exact hK .ret _ a' w' h2 (nE hr' h1)
def iter {V R:Type} (g:V->(V->Option R)->Option R):Nat->V->Option R
 |0,_=>none
 |k+1,v=>g v (iter g k)
def xm {V:Type} (bJ:List Nat) (co:List (iG× Co)) (dec:Nat->NF->Option V) (run:V->(Ex->St->Option ρ)->Option ρ):Ev ρ:=λst K=>
 (xl bJ co st).bind λnf=>(dec st.n nf).bind λv=>run v K
theorem Fk {P:Program} {c:Code} {f:Ev ρ} {V:Type} (hf:Sound P c f) {bJ:List Nat} {co:List (iG× Co)} (kx:Ex->List Nat) (cx:Ex->List (iG× Co)) {dec:Nat->NF->Option V} {run:V->(Ex->St->Option ρ)->Option ρ}
  {tm:V->St} (k:Nat) (hd:∀n nf v,dec n nf=some v->ir bJ n nf=tm v)
  (lG:∀v K,run v K=JN f bJ co kx cx k (tm v) K):Sound P (.loop c) (xm bJ co dec run):=by
 intro w0 fp0 bs n st a w K out Q hr h hK;simp only[xm,An]at h;obtain⟨nf,h1,v,h2,h3⟩:=h;have hn:=hr.VS;rw[hn]at h2;rw[lG v K,<-hd n nf v h2]at h3;exact JO hf bJ co kx cx k w0 fp0 bs n _ a w K out Q (nE hr h1) h3 hK
theorem xn {V:Type} {f:Ev ρ} {bJ:List Nat} {co:List (iG× Co)} {kx:Ex->List Nat} {cx:Ex->List (iG× Co)} {tm:V->St} {g:V->(V->Option ρ)->(Ex->St->Option ρ)->Option ρ}
    (hg:∀(v:V) (K K1:Ex->St->Option ρ) (next:V->Option ρ),(∀v',(K1 .normal (tm v'))=next v')->
      f (tm v) (λe st'=>match e with
        |.normal=>(xl bJ co st').bind λnf=>K1 .normal (ir bJ st'.n nf)
        |e=>(xl (kx e) (cx e) st').bind λnf=>K e (ir (kx e) st'.n nf))=g v next K) (K:Ex->St->Option ρ):
    ∀(k:Nat) (v:V),JN f bJ co kx cx k (tm v) K=iter (λv next=>g v next K) k v
  |0,v=>rfl
  | k + 1, v => by
    show f (tm v) _=g v (iter (λv next=>g v next K) k) K;exact hg v K (λ_ st=>JN f bJ co kx cx k st K) _ λv'=>xn hg K k v'
end
end
section
variable [Tok] [Glo]
structure lI where
 v:SV
 kept:List (Option Blk)
 news:List Blk
def qd:Nat->List (Option Blk)->aM
 |_,[]=>[]
 |n,none::l=>qd (n+1) l
 |n,some b::l=>(n,b)::qd (n+1) l
def lI.heap (o:lI):aM:=qd 0 o.kept++aN o.kept.length o.news
theorem sH:∀(l:List (Option Blk)) (n i:Nat),look (qd n l) i=if n<=i then(l[i-n]?).bind id else none
 |[],n,i=>by simp[qd,look]
 |none::l,n,i=>by
  rw[qd,sH l (n+1) i];by_cases c:n+1<=i
  ·rw[if_pos c,if_pos (by omega),show i-n=(i-(n+1))+1 from by omega];rfl
  ·rw[if_neg c];by_cases c2:n<=i
   ·rw[if_pos c2,show i-n=0 from by omega];rfl
   ·rw[if_neg c2]
 |some b::l,n,i=>by
  rw[qd,aC,sH l (n+1) i];by_cases c0:n=i
  ·subst c0;simp
  ·rw[if_neg c0];by_cases c:n+1<=i
   ·rw[if_pos c,if_pos (by omega),show i-n=(i-(n+1))+1 from by omega];rfl
   ·rw[if_neg c,if_neg (by omega)]
theorem lI.lO (o:lI) {k:Nat} (h:k<o.kept.length):look o.heap k=(o.kept[k]?).bind id:=by
 rw[lI.heap,aJ,sH,if_pos (Ya _),Yt,bG,if_neg (by omega),YG]
theorem lI.ju (o:lI) {k:Nat} (h:o.kept.length<=k):look o.heap k=o.news[k-o.kept.length]? :=by
 rw[lI.heap,aJ,sH,if_pos (Ya _),Yt,bG,if_pos h,Yb h];rfl
def Lo (P:Program) (g:FuncId) (args:List SV) (bs:List Blk) (o:lI):Prop:=
 GN P g/\o.kept.length=bs.length/\∀(w:World) (us:Array Value) (pl:Pl),cY (aN 0 bs) pl w->args.length=us.size->
  (∀(j:Nat) (x:SV) (u:Value),args[j]? =some x->us[j]? =some u->ar w (aN 0 bs) pl x u)->Sr w (aN 0 bs) pl->
  Calls P g us w λe w'=>∃u pl',e=.returned u/\cY o.heap pl' w'/\ar w' o.heap pl' o.v u/\pl'.base=pl.base/\dF w w'/\
   (∀(k:Nat) (B:Blk),o.kept[k]? =some (some B)->pl'.hdr k=pl.hdr k/\∃B0,bs[k]? =some B0/\B0.nt B)/\
   (∀p u,w.at? p=some u->(∀k B,look (aN 0 bs) k=some B->¬pl.fp k p)->(∀k B,look o.heap k=some B->¬pl'.fp k p)/\w'.at? p=some u/\w'.eK p=w.eK p)
abbrev MG:=(ρ:Type)->List SV->List Blk->(lI->Option ρ)->Option ρ
def Bf (P:Program) (g:FuncId) (G:MG):Prop:=
 ∀(ρ:Type) args bs (K:lI->Option ρ) (out:ρ),G ρ args bs K=some out->∃o,K o=some out/\Lo P g args bs o
def C8 (f:Blk->Blk):List Nat->List (Option Blk)->aM
 |i::L,some b::l=>(i,f b)::C8 f L l
 |_::L,none::l=>C8 f L l
 |_,_=>[]
def nu:List Nat->List (Option Blk)->List Nat
 |_::L,some _::l=>nu L l
 |i::L,none::l=>i::nu L l
 |_,_=>[]
def pe:List Nat->List (Option Blk)->List Nat
 |i::L,some (.arr _ _ _)::l=>i::pe L l
 |_::L,some (.box _)::l=>pe L l
 |_::L,none::l=>pe L l
 |_,_=>[]
def bk (L:List Nat) (nid m k:Nat):Nat:=cond (Nat.ble (k+1) m) (L.getD k 0) (nid+(k-m))
def bkL (L:List Nat) (nid m:Nat):List Nat->List Nat
 |[]=>[]
 |k::l=>bk L nid m k::bkL L nid m l
mutual
def SV.back (L:List Nat) (nid m:Nat) (D:List Nat):SV->SV
 |.r d x=>mkR (bkL L nid m d++D) x
 |.cF=>.cF
 |.qZ=>.qZ
 |.own k=>.own (bk L nid m k)
 |.ptr k 0 o=>.ptr (bk L nid m k) 0 o
 |.agg cs=>.agg (qW L nid m D cs)
 |.tup cs=>.tup (qW L nid m D cs)
 |.fn f a b=>.fn f (qW L nid m D a) (qW L nid m D b)
 |_=>.undef
def qW (L:List Nat) (nid m:Nat) (D:List Nat):List SV->List SV
 |[]=>[]
 |v::l=>v.back L nid m D::qW L nid m D l
end
def Blk.back (L:List Nat) (nid m:Nat) (D:List Nat):Blk->Blk
 |.box cs=>.box (qW L nid m D cs)
 |.arr none t xs=>.arr none t xs
 |.arr (some d) t xs=>.arr (some (bkL L nid m d++D)) t xs
def Bg (L:List Nat) (nid m:Nat) (D:List Nat):List Blk->List Blk
 |[]=>[]
 |b::l=>b.back L nid m D::Bg L nid m D l
def Ux (L:List Nat):List Nat->List Nat
 |[]=>[]
 |i::l=>cond (mem i L) (Ux L l) (i::Ux L l)
mutual
def SV.U9:SV->List Nat
 |.r d _=>d
 |.lB d _=>d
 |.agg cs=>tH cs
 |.tup cs=>tH cs
 |.fn _ a b=>tH a++tH b
 |_=>[]
def tH:List SV->List Nat
 |[]=>[]
 |v::l=>v.U9++tH l
end
def O6:Blk->List Nat
 |.box cs=>tH cs
 |.arr none _ _=>[]
 |.arr (some d) _ _=>d
def xo (h:aM):List Nat->List Nat
 |[]=>[]
 |i::l=>match look h i with
  |some b=>O6 b++xo h l
  |none=>xo h l
def CU (L D:List Nat):List Nat->Bool
 |[]=>true
 |i::l=>cond (mem i L||mem i D) (CU L D l) false
def cb (L:List Nat) (nid m c i:Nat):Option Nat:=
 match placeOf i L 0 with
 |some k=>some k
 |none=>if nid<=i/\i<nid+c then some (m+(i-nid))else none
def vo (H:aM) (pl:Pl) (L D:List Nat):Pl:=
 ⟨λk=>pl.hdr (L.getD k 0),λk=>pl.fp (L.getD k 0),λp=>pl.base p/\∀i B,look H i=some B->mem i L=false->(mem i D=true->B.lF=true)->¬pl.fp i p⟩
def gu (pl pl':Pl) (L:List Nat) (nid m c:Nat):Pl:=
 ⟨λi=>match cb L nid m c i with|some k=>pl'.hdr k|none=>pl.hdr i,λi=>match cb L nid m c i with|some k=>pl'.fp k|none=>pl.fp i,pl.base⟩
theorem Rj {L D:List Nat} {i:Nat} (h:mem i (Ux L D)=true):mem i L=false:=by
 induction D with
 |nil=>exact nomatch h
 |cons k l ih=>
  simp only[Ux]at h;cases hk:mem k L<;>simp only[hk,cond_true,cond_false]at h
  ·simp only[mem]at h;cases hb:Nat.beq k i<;>simp only[hb,cond_true,cond_false]at h
   ·exact ih h
   ·rw[<-On hb];exact hk
  ·exact ih h
theorem G9 {L D:List Nat}:∀{d:List Nat},CU L D d=true->∀i,mem i d=true->mem i L=true\/mem i D=true
 |[],_,i,h=>nomatch h
 |k::l,hs,i,h=>by
  simp only[CU]at hs;cases hk:(mem k L||mem k D)<;>simp only[hk,cond_true,cond_false]at hs
  ·exact nomatch hs
  ·simp only[mem]at h;cases hb:Nat.beq k i<;>simp only[hb,cond_true,cond_false]at h
   ·exact G9 hs i h
   ·rw[<-On hb];simpa using hk
theorem iI {L D:List Nat}:∀{a b:List Nat},CU L D (a++b)=true->CU L D a=true/\CU L D b=true
 |[],b,h=>⟨rfl,h⟩
 |k::l,b,h=>by
  simp only[YY,CU]at h;cases hk:(mem k L||mem k D)<;>simp only[hk,cond_true,cond_false]at h
  ·exact nomatch h
  ·obtain⟨h1,h2⟩:=iI h;exact⟨by simp only[CU,hk,cond_true];exact h1,h2⟩
theorem Bh {L:List Nat} {i k:Nat} (h:placeOf i L 0=some k):mem i L=true:=(mem_iff i L).2 (XX (by have:=(kQ h).2;simpa using this))
section
variable {w:World} {H:aM} {pl:Pl} {L D:List Nat} {bs:List Blk}
theorem zQ (hn:nodup L=true) (hL:pd H L L=some bs) {d:List Nat} {p:Cell} (hd:CU L D d=true) (h:okd H pl d p):okd (aN 0 bs) (vo H pl L D) (Rh L d) p:=by
 refine⟨⟨h.1,λi B hB hm hf=>h.2 i B hB λhi=>?_⟩,λk B hB hm hf=>?_⟩
 ·rcases G9 hd i hi with h1|h1
  ·rw[hm]at h1;exact nomatch h1
  ·exact hf h1
 ·obtain⟨i,b0,h1,hi,h2,h3⟩:=gq hL hB;simp only[vo,hi]at hf;refine h.2 i b0 h2 (λhd=>?_) hf;rw[<-Blk.O5 h3];exact hm (Ln (oL (ft hn) h1) hd)
mutual
theorem Lq (hn:nodup L=true) (hL:pd H L L=some bs):(v:SV)->{v':SV}->{u:Value}->CU L D v.U9=true->v.ren L=some v'->ar w H pl v u->ar w (aN 0 bs) (vo H pl L D) v' u
 |.r d x,v',u,hd,h,hv=>by
  cases h
  cases hv with
  |r _ _ _ hx=>exact .r _ _ _ (hx.frame λp u hp hu=>⟨zQ hn hL hd hp,hu⟩)
 |.cF,v',u,hd,h,hv=>by cases h;cases hv;exact .cF
 |.qZ,v',u,hd,h,hv=>by cases h;cases hv;exact .qZ
 |.own i,v',u,hd,h,hv=>by
  simp only[SV.ren,An,It]at h;obtain⟨k,hk,rfl⟩:=h
  cases hv with
  |own _ sh t xs hl=>
   obtain⟨hi,B',g1,g2⟩:=oK hL hk hl
   have e:(vo H pl L D).hdr k=pl.hdr i:=by simp only[vo,hi]
   rw[<-e]
   cases sh with
   |none=>cases g2;exact .own k none t xs g1
   |some d=>cases g2;exact .own k _ t xs g1
 |.sub i o n,v',u,hd,h,hv=>by
  simp only[SV.ren,An,It]at h;obtain⟨k,hk,rfl⟩:=h
  cases hv with
  |sub _ _ _ sh t xs a a' cap jk hl hh h1 h2 h3 h4=>
   obtain⟨hi,B',g1,g2⟩:=oK hL hk hl
   have e:(vo H pl L D).hdr k=pl.hdr i:=by simp only[vo,hi]
   cases sh with
   |none=>cases g2;exact .sub k o n none t xs a a' cap jk g1 (e.trans hh) h1 h2 h3 h4
   |some d=>cases g2;exact .sub k o n _ t xs a a' cap jk g1 (e.trans hh) h1 h2 h3 h4
 |.bsl i n,v',u,hd,h,hv=>by
  simp only[SV.ren,An,It]at h;obtain⟨k,hk,rfl⟩:=h
  cases hv with
  |bsl _ _ cs a hl hh=>
   obtain⟨hi,B',g1,g2⟩:=oK hL hk hl
   have e:(vo H pl L D).hdr k=pl.hdr i:=by simp only[vo,hi]
   simp only[Blk.ren,An,It]at g2;obtain⟨l,hl',rfl⟩:=g2
   exact .bsl k n l a g1 (e.trans hh)
 |.ptr i x o,v',u,hd,h,hv=>by
  simp only[SV.ren,An,It]at h;obtain⟨k,hk,rfl⟩:=h
  cases hv with
  |wQ _ _ cs b m hl hh=>
   obtain⟨hi,B',g1,g2⟩:=oK hL hk hl
   have e:(vo H pl L D).hdr k=pl.hdr i:=by simp only[vo,hi]
   simp only[Blk.ren,An,It]at g2;obtain⟨l,hl',rfl⟩:=g2
   exact .wQ k o l b m g1 (e.trans hh)
  |uQ _ _ _ sh t xs b m n cap hl hx hh=>
   obtain⟨hi,B',g1,g2⟩:=oK hL hk hl
   have e:(vo H pl L D).hdr k=pl.hdr i:=by simp only[vo,hi]
   cases sh with
   |none=>cases g2;exact .uQ k x o none t xs b m n cap g1 hx (e.trans hh)
   |some d=>cases g2;exact .uQ k x o _ t xs b m n cap g1 hx (e.trans hh)
 |.inn _ _ _,v',u,hd,h,hv=>by cases h
 |.lB d cs,v',u,hd,h,hv=>by
  cases h
  cases hv with
  |lB _ _ b o vs h1 h2=>exact .lB _ _ b o vs (λj r hj=>⟨zQ hn hL hd (h1 j r hj).1,(h1 j r hj).2⟩) λj r hj=>(h2 j r hj).frame λp u hp hu=>⟨zQ hn hL hd hp,hu⟩
 |.agg cs,v',u,hd,h,hv=>by
  simp only[SV.ren,An,It]at h;obtain⟨l,hl,rfl⟩:=h
  cases hv with
  |agg _ vs h1 h2 h3=>
   obtain⟨g1,g2⟩:=pf hn hL cs hd hl vs.toList (by simpa using h1) λj x u hx hu=>h3 j x u hx (by simpa using hu)
   exact .agg _ _ (by simpa using g1) h2 λj x u hx hu=>g2 j x u hx (by simpa using hu)
 |.tup cs,v',u,hd,h,hv=>by
  simp only[SV.ren,An,It]at h;obtain⟨l,hl,rfl⟩:=h
  cases hv with
  |tup _ vs h1 h3=>
   obtain⟨g1,g2⟩:=pf hn hL cs hd hl vs.toList (by simpa using h1) λj x u hx hu=>h3 j x u hx (by simpa using hu)
   exact .tup _ _ (by simpa using g1) λj x u hx hu=>g2 j x u hx (by simpa using hu)
 |.fn f as bs',v',u,hd,h,hv=>by
  simp only[SV.ren,An,It]at h;obtain⟨l,hl,l',hl',rfl⟩:=h;obtain⟨hd1,hd2⟩:=iI (show CU L D (tH as++tH bs')=true from hd)
  cases hv with
  |fn _ _ _ us vs h1 h3 h1' h3'=>
   obtain⟨g1,g2⟩:=pf hn hL as hd1 hl us.toList (by simpa using h1) λj x u hx hu=>h3 j x u hx (by simpa using hu);obtain⟨g3,g4⟩:=pf hn hL bs' hd2 hl' vs.toList (by simpa using h1') λj x u hx hu=>h3' j x u hx (by simpa using hu)
   exact .fn _ _ _ _ _ (by simpa using g1) (λj x u hx hu=>g2 j x u hx (by simpa using hu)) (by simpa using g3) λj x u hx hu=>g4 j x u hx (by simpa using hu)
 |.undef,v',u,hd,h,hv=>by cases h;exact .undef _
theorem pf (hn:nodup L=true) (hL:pd H L L=some bs):(cs:List SV)->{l:List SV}->CU L D (tH cs)=true->G7 L cs=some l->(us:List Value)->cs.length=us.length->
  (∀(j:Nat) (x:SV) (u:Value),cs[j]? =some x->us[j]? =some u->ar w H pl x u)->
  l.length=us.length/\∀(j:Nat) (x:SV) (u:Value),l[j]? =some x->us[j]? =some u->ar w (aN 0 bs) (vo H pl L D) x u
 |[],l,hd,h,us,hl,_=>by cases h;exact⟨hl,λj x u hx _=>by simp at hx⟩
 |v::cs,l,hd,h,u::us,hl,hp=>by
  simp only[G7,An,It]at h;obtain⟨v',hv,l',hl',rfl⟩:=h;obtain⟨hd1,hd2⟩:=iI (show CU L D (v.U9++tH cs)=true from hd);obtain⟨g1,g2⟩:=pf hn hL cs hd2 hl' us (by simpa using hl) λj x u hx hu=>hp (j+1) x u (by simpa using hx) (by simpa using hu);refine⟨by simp[g1],λj x u' hx hu=>?_⟩
  cases j with
  |zero=>simp at hx hu;subst hx hu;exact Lq hn hL v hd1 hv (hp 0 v u rfl rfl)
  |succ j=>exact g2 j x u' (by simpa using hx) (by simpa using hu)
end
theorem O7 {cs:List SV} {L D:List Nat} (h:CU L D (tH cs)=true):∀(j:Nat) (x:SV),cs[j]? =some x->CU L D x.U9=true:=by
 induction cs with
 |nil=>intro j x hx;simp at hx
 |cons v l ih=>
  obtain⟨h1,h2⟩:=iI (show CU L D (v.U9++tH l)=true from h);intro j x hx
  cases j with
  |zero=>simp at hx;subst hx;exact h1
  |succ j=>exact ih h2 j x (by simpa using hx)
theorem O8 {l:List Nat} (h:CU L D (xo H l)=true):∀i∈l,∀B,look H i=some B->CU L D (O6 B)=true:=by
 induction l with
 |nil=>intro i hi;exact nomatch hi
 |cons k l ih=>
  intro i hi B hB;simp only[xo]at h
  rcases X3.1 hi with rfl|hi
  ·simp only[hB]at h;exact(iI h).1
  ·split at h
   ·exact ih (iI h).2 i hi B hB
   ·exact ih h i hi B hB
theorem O9 (hr:cY H pl w) (hn:nodup L=true) (hL:pd H L L=some bs) (hd:CU L D (xo H L)=true):cY (aN 0 bs) (vo H pl L D) w:=by
 have hown:=hr.gy;refine⟨λk B hB=>?_,λk k' B B' p h1 h2 f1 f2=>?_,λk B p hB hf=>?_,λp hp=>⟨hr.nb p hp,λi B hB _ _ hf=>?_⟩⟩
 ·obtain⟨i,b0,h1,hi,h2,h3⟩:=gq hL hB;have hb:=hr.blk i b0 h2;have hdb:=O8 hd i (XX h1) b0 h2
  have eh:(vo H pl L D).hdr k=pl.hdr i:=by simp only[vo,hi]
  have ef:(vo H pl L D).fp k=pl.fp i:=by simp only[vo,hi]
  cases b0 with
  |box cs=>
   simp only[Blk.ren,An,It]at h3;obtain⟨l,hl,rfl⟩:=h3;obtain⟨b,o,q1,q2,q3⟩:=hb;refine⟨b,o,eh.trans q1,λp=>by rw[ef,q2,qc hl],λj v hv=>?_⟩;obtain⟨y,hy,hy2⟩:=Fi hl j v hv;obtain⟨u,g1,g2,g3,g4⟩:=q3 j y hy
   exact⟨u,g1,g2,g3,Lq hn hL y (O7 hdb j y hy) hy2 g4⟩
  |arr sh t xs=>
   cases sh with
   |none=>
    cases h3;show Nonempty (Row w (fV w) t xs ((vo H pl L D).hdr k) ((vo H pl L D).fp k))
    rw[eh,ef];exact hb
   |some d=>
    cases h3;obtain⟨⟨a,cap,b,o,vs,fs,q1,q2,q3,q4,q5,q6,q7,q8,q9⟩⟩:=hb;exact⟨⟨a,cap,b,o,vs,fs,eh.trans q1,q2,q3,q4,q5,λi j r hc=>⟨(q6 i j r hc).1.frame λp u hp hu=>⟨zQ hn hL hdb hp,hu⟩,(q6 i j r hc).2⟩,q7,q8,λp=>by rw[ef];exact q9 p⟩⟩
 ·obtain⟨i,b0,g1,hi,g2,g3⟩:=gq hL h1;obtain⟨i',b0',g1',hi',g2',g3'⟩:=gq hL h2;simp only[vo,hi]at f1;simp only[vo,hi']at f2;have:=hr.dis i i' b0 b0' p g2 g2' f1 f2;subst this;exact(List.getElem?_inj (Of.1 g1).1 (ft hn)).1 (g1.trans g1'.symm)
 ·obtain⟨i,b0,g1,hi,g2,g3⟩:=gq hL hB;simp only[vo,hi]at hf;refine⟨hr.ob i b0 p g2 hf,λi' B' hB' hm _ hf'=>?_⟩;have:=hr.dis i i' b0 B' p g2 hB' hf hf';subst this;rw[(mem_iff i L).2 (XX g1)]at hm;exact nomatch hm
 ·obtain⟨u,hu⟩:=hown i B p hB hf;rw[hp]at hu;exact nomatch hu
end
end
section
variable [Tok] [Glo]
theorem gX {f:Blk->Blk} {i:Nat}:∀{L:List Nat} {kept:List (Option Blk)} {H:aM},(∀(k:Nat) (b:Blk),L[k]? =some i->kept[k]? =some (some b)->False)->look (tI (C8 f L kept) H) i=look H i
 |[],_,H,_=>by simp[C8,tI]
 |_::_,[],H,_=>by simp[C8,tI]
 |i0::L,none::l,H,h=>by
  rw[C8]
  exact gX λk b h1 h2=>h (k+1) b (by simpa using h1) (by simpa using h2)
 |i0::L,some b0::l,H,h=>by
  rw[C8,tI,gX λk b h1 h2=>h (k+1) b (by simpa using h1) (by simpa using h2),fj,if_neg];intro e;subst e;exact h 0 b0 rfl rfl
theorem ry {f:Blk->Blk} {i:Nat} {b:Blk}:∀{L:List Nat} {kept:List (Option Blk)} {H:aM} {k:Nat},L.Nodup->L[k]? =some i->kept[k]? =some (some b)->look (tI (C8 f L kept) H) i=some (f b)
 |[],_,H,k,_,h,_=>by simp at h
 |_::_,[],H,k,_,_,h=>by simp at h
 |i0::L,ob::l,H,0,hn,h1,h2=>by
  simp at h1 h2;subst h1 h2
  rw[C8,tI,gX λk b h1 _=>(YI.1 hn).1 (XX h1),fj,if_pos rfl]
 |i0::L,none::l,H,k+1,hn,h1,h2=>by
  rw[C8]
  exact ry (YI.1 hn).2 (by simpa using h1) (by simpa using h2)
 |i0::L,some b0::l,H,k+1,hn,h1,h2=>by
  rw[C8,tI];exact ry (YI.1 hn).2 (by simpa using h1) (by simpa using h2)
theorem qe {f:Blk->Blk} {i:Nat} {B:Blk}:∀{L:List Nat} {kept:List (Option Blk)},look (C8 f L kept) i=some B->i∈L
 |[],_,h=>by simp[C8,look]at h
 |_::_,[],h=>by simp[C8,look]at h
 |i0::L,none::l,h=>by rw[C8]at h;exact XV _ (qe h)
 |i0::L,some b0::l,h=>by
  rw[C8,aC]at h;by_cases e:i0=i
  ·grind
  ·rw[if_neg e]at h;exact XV _ (qe h)
theorem mR {i:Nat}:∀{L:List Nat} {kept:List (Option Blk)},mem i (nu L kept)=true↔∃k:Nat,L[k]? =some i/\kept[k]? =some none
 |[],_=>by simp[nu,mem]
 |_::_,[]=>by simp[nu,mem]
 |i0::L,some b0::l=>by
  rw[nu,mR]
  exact⟨λ⟨k,h1,h2⟩=>⟨k+1,by simpa using h1,by simpa using h2⟩,λ⟨k,h1,h2⟩=>by
   cases k with
   |zero=>simp at h2
   |succ k=>exact⟨k,by simpa using h1,by simpa using h2⟩⟩
 |i0::L,none::l=>by
  rw[nu,mem_iff,X3,<-mem_iff,mR]
  exact⟨λh=>h.elim (λe=>⟨0,by simp[e],rfl⟩) λ⟨k,h1,h2⟩=>⟨k+1,by simpa using h1,by simpa using h2⟩,λ⟨k,h1,h2⟩=>by
   cases k with
   |zero=>simp at h1;exact .inl h1.symm
   |succ k=>exact .inr ⟨k,by simpa using h1,by simpa using h2⟩⟩
theorem sI {i:Nat}:∀{L:List Nat} {kept:List (Option Blk)},mem i (pe L kept)=true↔∃(k:Nat) (B:Blk),L[k]? =some i/\kept[k]? =some (some B)/\B.lF=false
 |[],_=>by simp[pe,mem]
 |_::_,[]=>by simp[pe,mem]
 |i0::L,some (.box cs)::l=>by
  rw[pe,sI]
  exact⟨λ⟨k,B,h1,h2,h3⟩=>⟨k+1,B,by simpa using h1,by simpa using h2,h3⟩,λ⟨k,B,h1,h2,h3⟩=>by
   cases k with
   |zero=>simp at h2;subst h2;cases h3
   |succ k=>exact⟨k,B,by simpa using h1,by simpa using h2,h3⟩⟩
 |i0::L,none::l=>by
  rw[pe,sI]
  exact⟨λ⟨k,B,h1,h2,h3⟩=>⟨k+1,B,by simpa using h1,by simpa using h2,h3⟩,λ⟨k,B,h1,h2,h3⟩=>by
   cases k with
   |zero=>simp at h2
   |succ k=>exact⟨k,B,by simpa using h1,by simpa using h2,h3⟩⟩
 |i0::L,some (.arr sh t xs)::l=>by
  rw[pe,mem_iff,X3,<-mem_iff,sI]
  exact⟨λh=>h.elim (λe=>⟨0,_,by simp[e],rfl,rfl⟩) λ⟨k,B,h1,h2,h3⟩=>⟨k+1,B,by simpa using h1,by simpa using h2,h3⟩,λ⟨k,B,h1,h2,h3⟩=>by
   cases k with
   |zero=>simp at h1;exact .inl h1.symm
   |succ k=>exact .inr ⟨k,B,by simpa using h1,by simpa using h2,h3⟩⟩
theorem rz {L:List Nat} {nid m:Nat} {D:List Nat}:(cs:List SV)->(qW L nid m D cs).length=cs.length
 |[]=>rfl
 |_::l=>by simp[qW,rz l]
theorem nF {L:List Nat} {nid m:Nat} {D:List Nat}:(cs:List Blk)->(Bg L nid m D cs).length=cs.length
 |[]=>rfl
 |_::l=>by simp[Bg,nF l]
theorem Ha {L:List Nat} {nid m:Nat} {D:List Nat}:(bs:List Blk)->(j:Nat)->(Bg L nid m D bs)[j]? =(bs[j]?).map (Blk.back L nid m D)
 |[],j=>by simp[Bg]
 |b::l,0=>by simp[Bg]
 |b::l,j+1=>by simpa[Bg]using Ha l j
theorem Hb {L:List Nat} {nid m:Nat} {D:List Nat}:(cs:List SV)->(j:Nat)->(qW L nid m D cs)[j]? =(cs[j]?).map (SV.back L nid m D)
 |[],j=>by simp[qW]
 |b::l,0=>by simp[qW]
 |b::l,j+1=>by simpa[qW]using Hb l j
theorem Blk.vp {L:List Nat} {nid m:Nat} {D:List Nat} (b:Blk):b.nt (b.back L nid m D):=by
 cases b with
 |box cs=>simp[Blk.back,Blk.nt,rz]
 |arr sh t xs=>cases sh<;>exact⟨rfl,rfl⟩
structure oN (w w':World) (H H':aM) (pl pl':Pl) (L D:List Nat) (bs:List Blk) (nid:Nat) (o:lI):Prop where
 hr:cY H pl w
 hn:nodup L=true
 hL:pd H L L=some bs
 hm:o.kept.length=L.length
 uf:∀k,k<o.news.length->look H (nid+k)=none
 hD:∀i,mem i D=true->mem i L=false
 hro:cY o.heap pl' w'
 wY:pl'.base=(vo H pl L D).base
 hgr:dF w w'
 Rk:∀(k:Nat) (B:Blk),o.kept[k]? =some (some B)->pl'.hdr k=pl.hdr (L.getD k 0)/\∃B0,bs[k]? =some B0/\B0.nt B
 hfr:∀p u,w.at? p=some u->(∀i B,mem i L=true->look H i=some B->¬pl.fp i p)->(∀k B,look o.heap k=some B->¬pl'.fp k p)/\w'.at? p=some u/\w'.eK p=w.eK p
 ha:∃h1,jg (nu L o.kept,nu L o.kept++pe L o.kept) (tI (C8 (Blk.back L nid L.length D) L o.kept) H)=some h1/\H'=h1++aN nid (Bg L nid L.length D o.news)
section
variable {w w':World} {H H':aM} {pl pl':Pl} {L D:List Nat} {bs:List Blk} {nid:Nat} {o:lI}
abbrev C9 (L:List Nat) (kept:List (Option Blk)):Kil:=(nu L kept,nu L kept++pe L kept)
theorem uk {L:List Nat} {kept:List (Option Blk)}:∀i,mem i (C9 L kept).1=true->mem i (C9 L kept).2=true:=λi h=>by
 show mem i (_++_)=true;rw[mem_append,h];rfl
theorem oN.inH (c:oN w w' H H' pl pl' L D bs nid o) {i:Nat} (h:mem i L=true):∃k B0 B,L[k]? =some i/\k<L.length/\look H i=some B0/\bs[k]? =some B/\B0.ren L=some B:=by
 obtain⟨k,hk⟩:=Yw ((mem_iff i L).1 h);have hlt:=(Of.1 hk).1
 have hbl:k<bs.length:=by rw[(gW c.hL).1];exact hlt
 obtain⟨i',b0,e1,e2,e3⟩:=(gW c.hL).2 k _ (So hbl);grind
theorem oN.TB (c:oN w w' H H' pl pl' L D bs nid o) {i k:Nat} (h:L[k]? =some i):cb L nid L.length o.news.length i=some k:=by
 unfold cb;rw[oL (ft c.hn) h]
theorem oN.Va (c:oN w w' H H' pl pl' L D bs nid o) {j:Nat} (h:j<o.news.length):cb L nid L.length o.news.length (nid+j)=some (L.length+j):=by
 unfold cb
 cases hp:placeOf (nid+j) L 0 with
 |some k=>
  obtain⟨_,B0,_,_,_,h1,_⟩:=c.inH (Bh hp)
  rw[c.uf j h]at h1;cases h1
 |none=>
  grind
theorem oN.Fl (c:oN w w' H H' pl pl' L D bs nid o) (i:Nat):(∃k,L[k]? =some i/\k<L.length/\cb L nid L.length o.news.length i=some k)\/(∃j,j<o.news.length/\i=nid+j/\mem i L=false/\cb L nid L.length o.news.length i=some (L.length+j))\/
  (mem i L=false/\¬(nid<=i/\i<nid+o.news.length)/\cb L nid L.length o.news.length i=none):=by
 cases hm:mem i L with
 |true=>
  obtain⟨k,_,_,hk,hlt,_⟩:=c.inH hm
  exact .inl ⟨k,hk,hlt,c.TB hk⟩
 |false=>
  have hp:placeOf i L 0=none:=by
   cases hp:placeOf i L 0 with
   |none=>rfl
   |some k=>rw[Bh hp]at hm;cases hm
  by_cases hr:nid<=i/\i<nid+o.news.length
  ·exact .inr (.inl ⟨i-nid,by omega,by omega,rfl,by unfold cb;rw[hp];simp only;rw[if_pos hr]⟩)
  ·exact .inr (.inr ⟨rfl,hr,by unfold cb;rw[hp];simp only;rw[if_neg hr]⟩)
theorem oN.Rm (c:oN w w' H H' pl pl' L D bs nid o) {i:Nat} (h:mem i L=false):mem i (nu L o.kept)=false:=by
 cases hg:mem i (nu L o.kept)with
 |false=>rfl
 |true=>
  obtain⟨k,h1,_⟩:=mR.1 hg;rw[(mem_iff i L).2 (XX h1)]at h;cases h
def TC (T:Kil) (L:List Nat) (nid m:Nat) (D:List Nat) (B B':Blk):Prop:=(B.back L nid m D).aP T=some B'\/B.back L nid m D=B'
theorem oN.old (c:oN w w' H H' pl pl' L D bs nid o) {i:Nat} (h:mem i L=false) (hr:¬(nid<=i/\i<nid+o.news.length)):look H' i=(look H i).bind (Blk.aP (C9 L o.kept)):=by
 obtain⟨h1,e1,rfl⟩:=c.ha
 have IV:look (aN nid (Bg L nid L.length D o.news)) i=none:=by
  rw[bG];by_cases q:nid<=i
  ·rw[if_pos q,Yb];rw[nF];omega
  ·rw[if_neg q]
 rw[aJ,IV,YG,c9 uk e1 i,show mem i (nu L o.kept)=false from c.Rm h,cond_false,gX λk b h1 _=>by rw[(mem_iff i L).2 (XX h1)]at h;exact nomatch h]
theorem oN.uniq (c:oN w w' H H' pl pl' L D bs nid o) {i k k':Nat} (h:L[k]? =some i) (h':L[k']? =some i):k=k':=
 (List.getElem?_inj (Of.1 h).1 (ft c.hn)).1 (h.trans h'.symm)
theorem oN.SC (c:oN w w' H H' pl pl' L D bs nid o) {i:Nat} (h:mem i L=true):look (aN nid (Bg L nid L.length D o.news)) i=none:=by
 rw[bG];by_cases q:nid<=i
 ·rw[if_pos q];by_cases q2:i-nid<o.news.length
  ·obtain⟨_,_,_,_,_,h1,_⟩:=c.inH h;have:=c.uf _ q2;grind
  ·rw[Yb];rw[nF];omega
 ·rw[if_neg q]
theorem oN.kept (c:oN w w' H H' pl pl' L D bs nid o) {i k:Nat} {B:Blk} (h:L[k]? =some i) (hB:o.kept[k]? =some (some B)):∃B',look H' i=some B'/\TC (C9 L o.kept) L nid L.length D B B':=by
 have hng:mem i (nu L o.kept)=false:=by
  cases hg:mem i (nu L o.kept)with
  |false=>rfl
  |true=>
   obtain⟨k',h1,h2⟩:=mR.1 hg;have:=c.uniq h h1;grind
 obtain⟨h1,e1,rfl⟩:=id c.ha;have hu:look (tI (C8 (Blk.back L nid L.length D) L o.kept) H) i=some (B.back L nid L.length D):=ry (ft c.hn) h hB;obtain⟨B',hB'⟩:=jY uk e1 i _ hu hng;refine⟨B',?_,.inl hB'⟩;rw[aJ,c.SC ((mem_iff i L).2 (XX h)),YG,c9 uk e1 i,show mem i (nu L o.kept)=false from hng,cond_false,hu];exact hB'
theorem oN.gone (c:oN w w' H H' pl pl' L D bs nid o) {i k:Nat} (h:L[k]? =some i) (hB:o.kept[k]? =some none):look H' i=none:=by
 have hg:mem i (nu L o.kept)=true:=mR.2 ⟨k,h,hB⟩;obtain⟨h1,e1,rfl⟩:=id c.ha;rw[aJ,c.SC ((mem_iff i L).2 (XX h)),YG,c9 uk e1 i,show mem i (nu L o.kept)=true from hg,cond_true]
theorem oN.new (c:oN w w' H H' pl pl' L D bs nid o) {j:Nat} {B:Blk} (h:o.news[j]? =some B):look H' (nid+j)=some (B.back L nid L.length D):=by
 have hj:=(Of.1 h).1;obtain⟨h1,e1,rfl⟩:=id c.ha
 have hnm:mem (nid+j) L=false:=by
  cases hm:mem (nid+j) L with
  |false=>rfl
  |true=>
   obtain⟨_,_,_,_,_,h1,_⟩:=c.inH hm;rw[c.uf j hj]at h1;cases h1
 have zv:look (tI (C8 (Blk.back L nid L.length D) L o.kept) H) (nid+j)=look H (nid+j):=gX λk b h1 _=>by
  rw[(mem_iff _ L).2 (XX h1)]at hnm;cases hnm
 rw[aJ,c9 uk e1,zv,c.uf j hj,bG,if_pos (by omega),Yk,Ha,h];grind
theorem oN.kr (c:oN w w' H H' pl pl' L D bs nid o) {i:Nat} {B':Blk} (h:look H' i=some B'):
  (∃k B,cb L nid L.length o.news.length i=some k/\look o.heap k=some B/\TC (C9 L o.kept) L nid L.length D B B'/\(mem i L=false->look H i=none))\/
  (cb L nid L.length o.news.length i=none/\mem i L=false/\∃B,look H i=some B/\B.aP (C9 L o.kept)=some B'):=by
 rcases c.Fl i with⟨k,hk,hlt,hc⟩|⟨j,hj,rfl,hm,hc⟩|⟨hm,hno,hc⟩
 ·have hkl:k<o.kept.length:=by rw[c.hm];exact hlt
  cases hkp:o.kept[k]? with
  |none=>grind
  |some ob=>
   cases ob with
   |none=>rw[c.gone hk hkp]at h;cases h
   |some B=>
    obtain⟨B1,h1,h2⟩:=c.kept hk hkp;rw[h]at h1;cases h1;exact .inl ⟨k,B,hc,by rw[o.lO hkl,hkp];rfl,h2,λhm=>by rw[(mem_iff i L).2 (XX hk)]at hm;exact nomatch hm⟩
 ·obtain⟨B,hB⟩:∃B,o.news[j]? =some B:=⟨_,So hj⟩;rw[c.new hB]at h;cases h;exact .inl ⟨L.length+j,B,hc,by rw[o.ju (by rw[c.hm];omega),c.hm,Yk];exact hB,.inr rfl,λ_=>c.uf j hj⟩
 ·rw[c.old hm hno]at h;obtain⟨B,h1,h2⟩:=An.1 h;grind
theorem oN.xj (c:oN w w' H H' pl pl' L D bs nid o) {k:Nat} {B:Blk} (h:look o.heap k=some B):
  cb L nid L.length o.news.length (bk L nid L.length k)=some k/\∃B',look H' (bk L nid L.length k)=some B'/\TC (C9 L o.kept) L nid L.length D B B':=by
 by_cases hk:k<L.length
 ·have hkl:k<o.kept.length:=by rw[c.hm];exact hk
  rw[o.lO hkl]at h;obtain⟨ob,h1,h2⟩:=An.1 h;have h2:ob=some B:=h2;subst h2
  have hb:bk L nid L.length k=L[k]:=by
   unfold bk;rw[show Nat.ble (k+1) L.length=true from YV hk,cond_true,Ys,So hk];rfl
  rw[hb];have hL:L[k]? =some L[k]:=So hk;exact⟨c.TB hL,c.kept hL h1⟩
 ·rw[o.ju (by rw[c.hm];omega),c.hm]at h
  have hb:bk L nid L.length k=nid+(k-L.length):=by
   unfold bk
   cases hq:Nat.ble (k+1) L.length with
   |false=>rfl
   |true=>exact(hk (XT hq)).elim
  rw[hb];have hj:=(Of.1 h).1;refine⟨?_,_,c.new h,.inr rfl⟩;rw[c.Va hj];congr 1;omega
theorem TC.box {T:Kil} {nid m:Nat} {B B':Blk} (h:TC T L nid m D B B'):B'.lF=B.lF:=by
 rcases h with h|h
 ·rw[<-Blk.kq (Blk.gU h),<-Blk.kq (Blk.vp B)]
 ·rw[<-h,<-Blk.kq (Blk.vp B)]
theorem TC.nt {T:Kil} {nid m:Nat} {B B':Blk} (h:TC T L nid m D B B'):B.nt B':=by
 rcases h with h|h
 ·exact Blk.fo (Blk.vp B) (Blk.gU h)
 ·rw[<-h];exact Blk.vp B
theorem Pa {nid m k:Nat}:∀{d:List Nat},mem k d=true->mem (bk L nid m k) (bkL L nid m d)=true
 |[],h=>nomatch h
 |x::l,h=>by
  simp only[bkL];rw[mem_iff,X3,<-mem_iff];rw[mem_iff,X3,<-mem_iff]at h
  rcases h with rfl|h
  ·exact .inl rfl
  ·exact .inr (Pa h)
theorem oN.TD (c:oN w w' H H' pl pl' L D bs nid o) {i k:Nat} (h:cb L nid L.length o.news.length i=some k):bk L nid L.length k=i:=by
 rcases c.Fl i with⟨k',hk,hlt,hc⟩|⟨j,hj,rfl,hm,hc⟩|⟨hm,hno,hc⟩<;>rw[hc]at h<;>cases h
 ·unfold bk;rw[show Nat.ble (k+1) L.length=true from YV hlt,cond_true,Ys,hk];rfl
 ·unfold bk
  cases hq:Nat.ble (L.length+j+1) L.length with
  |false=>simp
  |true=>have:=XT hq;omega
theorem oN.okd (c:oN w w' H H' pl pl' L D bs nid o) {d:List Nat} {p:Cell} (h:okd o.heap pl' d p):okd H' (gu pl pl' L nid L.length o.news.length) (bkL L nid L.length d++D) p:=by
 have hb:(vo H pl L D).base p:=by rw[<-c.wY];exact h.1
 refine⟨hb.1,λi B' hB' hm hf=>?_⟩
 rcases c.kr hB' with⟨k,B,h1,h2,h3,_⟩|⟨h1,h2,B,h3,h4⟩
 ·simp only[gu,h1]at hf;refine h.2 k B h2 (λhk=>?_) hf;rw[<-h3.box];refine hm ?_;rw[mem_append,<-c.TD h1,Pa hk];rfl
 ·simp only[gu,h1]at hf;refine hb.2 i B h3 h2 (λhk=>?_) hf;rw[Blk.kq (Blk.gU h4)];exact hm (by rw[mem_append,hk,Y7])
mutual
theorem oN.rep (c:oN w w' H H' pl pl' L D bs nid o):(v:SV)->{u:Value}->ar w' o.heap pl' v u->ar w' H' (gu pl pl' L nid L.length o.news.length) (v.back L nid L.length D) u
 |.r d x,u,h=>by
  cases h with
  |r _ _ _ hx=>exact AD (hx.frame λp u hp hu=>⟨c.okd hp,hu⟩)
 |.cF,u,h=>by cases h;exact .cF
 |.qZ,u,h=>by cases h;exact .qZ
 |.own k,u,h=>by
  cases h with
  |own _ sh t xs hl=>
   obtain⟨h1,B',h2,h3⟩:=c.xj hl
   have e:(gu pl pl' L nid L.length o.news.length).hdr (bk L nid L.length k)=pl'.hdr k:=by simp only[gu,h1]
   rw[<-e]
   have:∃sh',B'=.arr sh' t xs:=by
    rcases h3 with h3|h3
    ·cases sh with
     |none=>cases h3;exact⟨_,rfl⟩
     |some d=>
      simp only[Blk.back,Blk.aP]at h3;grind
    ·cases sh<;>exact⟨_,h3.symm⟩
   obtain⟨sh',rfl⟩:=this
   exact .own _ sh' t xs h2
 |.ptr k 0 off,u,h=>by
  cases h with
  |wQ _ _ cs b q hl hh=>
   obtain⟨h1,B',h2,h3⟩:=c.xj hl
   have e:(gu pl pl' L nid L.length o.news.length).hdr (bk L nid L.length k)=pl'.hdr k:=by simp only[gu,h1]
   have:∃cs',B'=.box cs':=by
    rcases h3 with h3|h3
    ·cases h3;exact⟨_,rfl⟩
    ·exact⟨_,h3.symm⟩
   obtain⟨cs',rfl⟩:=this
   exact .wQ _ off cs' b q h2 (e.trans hh)
  |uQ _ _ _ sh t xs b q n cap hl hx hh=>
   obtain⟨h1,B',h2,h3⟩:=c.xj hl
   have e:(gu pl pl' L nid L.length o.news.length).hdr (bk L nid L.length k)=pl'.hdr k:=by simp only[gu,h1]
   have:∃sh',B'=.arr sh' t xs:=by
    rcases h3 with h3|h3
    ·cases sh with
     |none=>cases h3;exact⟨_,rfl⟩
     |some d=>
      simp only[Blk.back,Blk.aP]at h3;grind
    ·cases sh<;>exact⟨_,h3.symm⟩
   obtain⟨sh',rfl⟩:=this
   exact .uQ _ 0 off sh' t xs b q n cap h2 hx (e.trans hh)
 |.ptr k (x+1) off,u,h=>.undef _
 |.agg cs,u,h=>by
  cases h with
  |agg _ vs h1 h2 h3=>
   obtain⟨g1,g2⟩:=c.Vb cs vs.toList (by simpa using h1) λj x u hx hu=>h3 j x u hx (by simpa using hu)
   exact .agg _ _ (by simpa using g1) h2 λj x u hx hu=>g2 j x u hx (by simpa using hu)
 |.tup cs,u,h=>by
  cases h with
  |tup _ vs h1 h3=>
   obtain⟨g1,g2⟩:=c.Vb cs vs.toList (by simpa using h1) λj x u hx hu=>h3 j x u hx (by simpa using hu)
   exact .tup _ _ (by simpa using g1) λj x u hx hu=>g2 j x u hx (by simpa using hu)
 |.sub _ _ _,_,_=>.undef _
 |.bsl _ _,_,_=>.undef _
 |.inn _ _ _,_,_=>.undef _
 |.lB _ _,_,_=>.undef _
 |.fn f a b,u,h=>by
  cases h with
  |fn _ _ _ us vs h1 h3 h1' h3'=>
   obtain⟨g1,g2⟩:=c.Vb a us.toList (by simpa using h1) λj x u hx hu=>h3 j x u hx (by simpa using hu);obtain⟨q1,q2⟩:=c.Vb b vs.toList (by simpa using h1') λj x u hx hu=>h3' j x u hx (by simpa using hu)
   exact .fn _ _ _ _ _ (by simpa using g1) (λj x u hx hu=>g2 j x u hx (by simpa using hu)) (by simpa using q1) λj x u hx hu=>q2 j x u hx (by simpa using hu)
 |.undef,_,_=>.undef _
theorem oN.Vb (c:oN w w' H H' pl pl' L D bs nid o):(cs:List SV)->(us:List Value)->cs.length=us.length->(∀(j:Nat) (x:SV) (u:Value),cs[j]? =some x->us[j]? =some u->ar w' o.heap pl' x u)->
  (qW L nid L.length D cs).length=us.length/\∀(j:Nat) (x:SV) (u:Value),(qW L nid L.length D cs)[j]? =some x->us[j]? =some u->ar w' H' (gu pl pl' L nid L.length o.news.length) x u
 |[],us,hl,_=>⟨hl,λj x u hx _=>by simp[qW]at hx⟩
 |v::cs,u::us,hl,hp=>by
  obtain⟨g1,g2⟩:=c.Vb cs us (by simpa using hl) λj x u hx hu=>hp (j+1) x u (by simpa using hx) (by simpa using hu);refine⟨by simp[qW,g1],λj x u' hx hu=>?_⟩
  cases j with
  |zero=>simp[qW]at hx hu;subst hx hu;exact c.rep v (hp 0 v u rfl rfl)
  |succ j=>exact g2 j x u' (by simpa[qW]using hx) (by simpa using hu)
end
theorem oN.TE (c:oN w w' H H' pl pl' L D bs nid o) {i k:Nat} {B:Blk} (h1:cb L nid L.length o.news.length i=some k) (h2:look o.heap k=some B):
  eL w' H' (gu pl pl' L nid L.length o.news.length) i (B.back L nid L.length D):=by
 have eh:(gu pl pl' L nid L.length o.news.length).hdr i=pl'.hdr k:=by simp only[gu,h1]
 have ef:(gu pl pl' L nid L.length o.news.length).fp i=pl'.fp k:=by simp only[gu,h1]
 have hb:=c.hro.blk k B h2
 cases B with
 |box cs=>
  obtain⟨b,q,q1,q2,q3⟩:=hb;refine⟨b,q,eh.trans q1,λp=>by rw[ef,q2,rz],λj v hv=>?_⟩;rw[Hb]at hv;obtain⟨y,hy,rfl⟩:=XK.1 hv;obtain⟨u,g1,g2,g3,g4⟩:=q3 j y hy
  exact⟨u,g1,g2,g3,c.rep y g4⟩
 |arr sh t xs=>
  cases sh with
  |none=>
   show Nonempty (Row w' (fV w') t xs _ _)
   rw[eh,ef];exact hb
  |some d=>
   obtain⟨⟨a,cap,b,q,vs,fs,q1,q2,q3,q4,q5,q6,q7,q8,q9⟩⟩:=hb;exact⟨⟨a,cap,b,q,vs,fs,eh.trans q1,q2,q3,q4,q5,λi j r hc=>⟨(q6 i j r hc).1.frame λp u hp hu=>⟨c.okd hp,hu⟩,(q6 i j r hc).2⟩,q7,q8,λp=>by rw[ef];exact q9 p⟩⟩
theorem MS (T:Kil) {w:World} {H:aM} {pl:Pl}:lM T w H pl w H pl:=⟨λi B hB _=>⟨B,hB,B.dB,rfl⟩,λd p u _ h hp=>⟨h,hp⟩⟩
theorem oN.DW (c:oN w w' H H' pl pl' L D bs nid o) {i:Nat} {B:Blk} {p:Cell} (hB:look H i=some B) (hm:mem i L=false) (hf:pl.fp i p):∀i' B',mem i' L=true->look H i'=some B'->¬pl.fp i' p:=λi' B' hm' hB' hf'=>by
 have:=c.hr.dis i i' B B' p hB hB' hf hf';grind
theorem oN.keeps (c:oN w w' H H' pl pl' L D bs nid o):lM (C9 L o.kept) w H pl w' H' (gu pl pl' L nid L.length o.news.length):=by
 refine⟨λi B hB hg=>?_,λd p u hd ho hp=>?_⟩
 ·cases hm:mem i L with
  |true=>
   obtain⟨k,B0,B1,hk,hlt,e1,e2,e3⟩:=c.inH hm;rw[hB]at e1;cases e1
   have hkl:k<o.kept.length:=by rw[c.hm];exact hlt
   cases hkp:o.kept[k]? with
   |none=>grind
   |some ob=>
    cases ob with
    |none=>rw[show mem i (nu L o.kept)=true from mR.2 ⟨k,hk,hkp⟩]at hg;cases hg
    |some B2=>
     obtain⟨B',h1,h2⟩:=c.kept hk hkp;obtain⟨q1,B3,q2,q3⟩:=c.Rk k B2 hkp;rw[e2]at q2;cases q2;refine⟨B',h1,Blk.fo (Blk.Fj e3) (Blk.fo q3 h2.nt),?_⟩;simp only[gu,c.TB hk]
     grind
  |false=>
   rcases c.Fl i with⟨k,hk,_⟩|⟨j,hj,rfl,_,_⟩|⟨_,hno,hc⟩
   ·rw[(mem_iff i L).2 (XX hk)]at hm;cases hm
   ·rw[c.uf j hj]at hB;cases hB
   ·obtain⟨h1,e1,_⟩:=id c.ha
    have hu:look (tI (C8 (Blk.back L nid L.length D) L o.kept) H) i=some B:=by
     rw[gX λk b h1 _=>by rw[(mem_iff i L).2 (XX h1)]at hm;exact nomatch hm];exact hB
    obtain⟨B',hB'⟩:=jY uk e1 i B hu hg;exact⟨B',by rw[c.old hm hno,hB];exact hB',Blk.gU hB',by simp only[gu,hc]⟩
 ·have hnp:∀i B,mem i L=true->look H i=some B->¬pl.fp i p:=λi B hm hB hf=>by
   refine ho.2 i B hB (λhdi=>?_) hf;have hT:=hd i hdi;obtain⟨k,B0,B1,hk,hlt,e1,e2,e3⟩:=c.inH hm;rw[hB]at e1;cases e1
   have hkl:k<o.kept.length:=by rw[c.hm];exact hlt
   cases hkp:o.kept[k]? with
   |none=>grind
   |some ob=>
    cases ob with
    |none=>
     have:mem i (C9 L o.kept).2=true:=uk i (mR.2 ⟨k,hk,hkp⟩)
     grind
    |some B2=>
     obtain⟨_,B3,q2,q3⟩:=c.Rk k B2 hkp;rw[e2]at q2;cases q2
     have hbx:B2.lF=true:=by
      cases hx:B2.lF with
      |true=>rfl
      |false=>
       have:mem i (nu L o.kept++pe L o.kept)=true:=by rw[mem_append,sI.2 ⟨k,B2,hk,hkp,hx⟩,Y7]
       grind
     rw[Blk.kq (Blk.Fj e3),Blk.kq q3,hbx]
  obtain⟨g1,g2,g3⟩:=c.hfr p u hp hnp;refine⟨⟨ho.1,λi B' hB' hm hf=>?_⟩,g2⟩
  rcases c.kr hB' with⟨k,B,h1,h2,_,_⟩|⟨h1,h2,B,h3,h4⟩
  ·simp only[gu,h1]at hf;grind
  ·simp only[gu,h1]at hf;refine ho.2 i B h3 (λhk=>?_) hf;rw[Blk.kq (Blk.gU h4)];exact hm hk
theorem oN.step (c:oN w w' H H' pl pl' L D bs nid o):c7 H H' (C9 L o.kept) pl (gu pl pl' L nid L.length o.news.length) w w':=by
 have hown:=c.hr.gy;have hk:=c.keeps;refine⟨⟨λi B' hB'=>?_,λi j B B' p h1 h2 f1 f2=>?_,λi B p hB hf=>?_,λp hp=>?_⟩,hk,rfl,c.hgr,λp u hp hno=>?_⟩
 ·rcases c.kr hB' with⟨k,B,h1,h2,h3,_⟩|⟨h1,h2,B,h3,h4⟩
  ·have hb:=c.TE h1 h2
   rcases h3 with h3|h3
   ·exact hb.bJ (MS _) rfl (λ_=>Z8) (λp u _ hu=>⟨hu,rfl⟩) h3
   ·grind
  ·exact(c.hr.blk i B h3).bJ hk (by simp only[gu,h1]) (λp=>by simp only[gu,h1]) (λp u hf hu=>(c.hfr p u hu (c.DW h3 h2 hf)).2) h4
 ·have cross:∀{i j k:Nat} {B Bk:Blk},look H i=some B->mem i L=false->pl.fp i p->look o.heap k=some Bk->pl'.fp k p->False:=λ{i j k B Bk} hB hm hf hk hf'=>by
   obtain⟨u,hu⟩:=hown i B p hB hf;exact(c.hfr p u hu (c.DW hB hm hf)).1 k Bk hk hf'
  rcases c.kr h1 with⟨k,B1,a1,a2,_,_⟩|⟨a1,a2,B1,a3,_⟩<;>rcases c.kr h2 with⟨k',B2,b1,b2,_,_⟩|⟨b1,b2,B2,b3,_⟩
  ·simp only[gu,a1]at f1;simp only[gu,b1]at f2;have:=c.hro.dis k k' B1 B2 p a2 b2 f1 f2;subst this;rw[<-c.TD a1,<-c.TD b1]
  ·simp only[gu,a1]at f1;simp only[gu,b1]at f2;exact(cross (j:=j) b3 b2 f2 a2 f1).elim
  ·simp only[gu,a1]at f1;simp only[gu,b1]at f2;exact(cross (j:=j) a3 a2 f1 b2 f2).elim
  ·simp only[gu,a1]at f1;simp only[gu,b1]at f2;exact c.hr.dis i j B1 B2 p a3 b3 f1 f2
 ·rcases c.kr hB with⟨k,B1,a1,a2,_,_⟩|⟨a1,a2,B1,a3,_⟩
  ·simp only[gu,a1]at hf;have:=c.hro.ob k B1 p a2 hf;rw[c.wY]at this;exact this.1
  ·simp only[gu,a1]at hf;exact c.hr.ob i B1 p a3 hf
 ·have:=c.hro.nb p hp;rw[c.wY]at this;exact this.1
 ·obtain⟨g1,g2⟩:=c.hfr p u hp λi B _ hB=>hno i B hB;refine⟨λi B hB hf=>?_,g2⟩
  rcases c.kr hB with⟨k,B1,a1,a2,_,_⟩|⟨a1,a2,B1,a3,_⟩
  ·simp only[gu,a1]at hf;grind
  ·simp only[gu,a1]at hf;grind
end
inductive Pr where
 |one (t:Ty)
 |agg (ts:List Ty)
 |bJ
def MT (h:aM):List Ty->List SV->Option (List SV)
 |[],[]=>some []
 |t::ts,v::vs=>(v.asR h t).bind λp=>(MT h ts vs).bind λl=>some (.r p.1 p.2::l)
 |_,_=>none
def JP (h:aM):Pr->SV->Option SV
 |.one t,v=>(v.asR h t).bind λp=>some (.r p.1 p.2)
 |.agg ts,.agg cs=>(MT h ts cs).bind λl=>some (.agg l)
 |.agg _,_=>none
 |.bJ,v=>some v
def TF (h:aM):List Pr->List SV->Option (List SV)
 |[],[]=>some []
 |s::ss,v::vs=>(JP h s v).bind λx=>(TF h ss vs).bind λl=>some (x::l)
 |_,_=>none
def Hc (pr:List Pr) (G:MG):Orc:=λρ nid vs h K=>
  (TF h pr vs).bind λvs1=>
    let L:=reach h 3 (qO [] (Mg vs1))
    let D:=Ux L (tH vs1++xo h L)
    cond (nodup L) (cond (CU L D (tH vs1++xo h L)) ((G7 L vs1).bind λargs=>(pd h L L).bind λbs=>
      G ρ args bs λo=>cond (Nat.beq o.kept.length L.length)
        (K {v:=o.v.back L nid L.length D,upd:=C8 (Blk.back L nid L.length D) L o.kept,news:=Bg L nid L.length D o.news,gone:=nu L o.kept,mH:=pe L o.kept}) none) none) none
theorem Lr {h h':aM} (hh:Ext h h'):(ts:List Ty)->(vs:List SV)->Le (MT h ts vs) (MT h' ts vs)
 |[],[]=>Le.refl _
 |t::ts,v::vs=>(Gz hh _ _).bind λ_=>(Lr hh ts vs).bind λ_=>Le.refl _
 |[],_::_=>Le.refl _
 |_::_,[]=>Le.refl _
theorem Rn {h h':aM} (hh:Ext h h') (s:Pr) (v:SV):Le (JP h s v) (JP h' s v):=by
 intro p hp;unfold JP at hp;split at hp<;>simp only[JP]
 ·exact((Gz hh _ _).bind λ_=>Le.refl _) p hp
 ·exact((Lr hh _ _).bind λ_=>Le.refl _) p hp
 ·cases hp
 ·exact hp
theorem Pb {h h':aM} (hh:Ext h h'):(ss:List Pr)->(vs:List SV)->Le (TF h ss vs) (TF h' ss vs)
 |[],[]=>Le.refl _
 |s::ss,v::vs=>(Rn hh s v).bind λ_=>(Pb hh ss vs).bind λ_=>Le.refl _
 |[],_::_=>Le.refl _
 |_::_,[]=>Le.refl _
theorem Ls {h h':aM} (hh:Ext h h') {L:List Nat}:(l:List Nat)->Le (pd h L l) (pd h' L l)
 |[]=>Le.refl _
 |i::l=>λbs hb=>by
  simp only[pd,An,It]at hb⊢;obtain⟨b,h1,b',h2,l',h3,rfl⟩:=hb;exact⟨b,hh i b h1,b',h2,l',Ls hh l _ h3,rfl⟩
theorem Hd {h h':aM} (hh:Ext h h'):(l:List Nat)->(∀i∈l,∃B,look h i=some B)->xo h' l=xo h l
 |[],_=>rfl
 |i::l,hl=>by
  obtain⟨B,hB⟩:=hl i (by simp);simp only[xo,hB,hh i B hB,Hd hh l λk hk=>hl k (by simp[hk])]
section
variable {w:World} {H:aM} {pl:Pl} {P:Program}
theorem He (hr:cY H pl w):∀{ts:List Ty} {vs:List SV} {us:List Value} {l:List SV},MT H ts vs=some l->vs.length=us.length->(∀(j:Nat) (x:SV) (u:Value),vs[j]? =some x->us[j]? =some u->ar w H pl x u)->
  l.length=us.length/\∀(j:Nat) (x:SV) (u:Value),l[j]? =some x->us[j]? =some u->ar w H pl x u
 |[],[],us,l,h,hl,_=>by cases h;exact⟨hl,λj x u hx _=>by simp at hx⟩
 |t::ts,v::vs,u::us,l,h,hl,hp=>by
  simp only[MT,An,It]at h;obtain⟨⟨d,r⟩,h1,l',h2,rfl⟩:=h;obtain⟨g1,g2⟩:=He hr h2 (us:=us) (by simpa using hl) λj x u hx hu=>hp (j+1) x u (by simpa using hx) (by simpa using hu);refine⟨by simp[g1],λj x u' hx hu=>?_⟩
  cases j with
  |zero=>simp at hx hu;subst hx hu;exact .r _ _ _ (wS hr h1 (hp 0 v u rfl rfl))
  |succ j=>grind
 |[],_::_,_,_,h,_,_=>nomatch h
 |_::_,[],_,_,h,_,_=>nomatch h
theorem Pc (hr:cY H pl w) {s:Pr} {v x:SV} {u:Value} (h:JP H s v=some x) (hv:ar w H pl v u):ar w H pl x u:=by
 unfold JP at h;split at h
 ·simp only[An,It]at h;obtain⟨⟨d,r⟩,h1,rfl⟩:=h;exact .r _ _ _ (wS hr h1 hv)
 ·simp only[An,It]at h;obtain⟨l,h1,rfl⟩:=h
  cases hv with
  |agg cs vs h2 h3 h4=>
   obtain⟨g1,g2⟩:=He hr h1 (us:=vs.toList) (by simpa using h2) λj x u hx hu=>h4 j x u hx (by simpa using hu);exact .agg _ _ (by simpa using g1) h3 λj x u hx hu=>g2 j x u hx (by simpa using hu)
 ·cases h
 ·grind
theorem Lu (hr:cY H pl w):∀{ss:List Pr} {vs:List SV} {us:List Value} {l:List SV},TF H ss vs=some l->vs.length=us.length->(∀(j:Nat) (x:SV) (u:Value),vs[j]? =some x->us[j]? =some u->ar w H pl x u)->
  l.length=us.length/\∀(j:Nat) (x:SV) (u:Value),l[j]? =some x->us[j]? =some u->ar w H pl x u
 |[],[],us,l,h,hl,_=>by cases h;exact⟨hl,λj x u hx _=>by simp at hx⟩
 |t::ts,v::vs,u::us,l,h,hl,hp=>by
  simp only[TF,An,It]at h;obtain⟨x0,h1,l',h2,rfl⟩:=h;obtain⟨g1,g2⟩:=Lu hr h2 (us:=us) (by simpa using hl) λj x u hx hu=>hp (j+1) x u (by simpa using hx) (by simpa using hu);refine⟨by simp[g1],λj x u' hx hu=>?_⟩
  cases j with
  |zero=>simp at hx hu;subst hx hu;exact Pc hr h1 (hp 0 v u rfl rfl)
  |succ j=>grind
 |[],_::_,_,_,h,_,_=>nomatch h
 |_::_,[],_,_,h,_,_=>nomatch h
theorem rA {g:FuncId} {pr:List Pr} {G:MG} (h:Bf P g G):tG P g (Hc pr G):=by
 intro ρ nid vs H K out hK;simp only[Hc,An]at hK;obtain⟨vs1,hpr,hK⟩:=hK;generalize hLe:reach H 3 (qO [] (Mg vs1))=L at hK;cases hn:nodup L<;>simp only[hn,cond_true,cond_false]at hK
 ·cases hK
 generalize hDe:Ux L (tH vs1++xo H L)=D at hK;cases WW:CU L D (tH vs1++xo H L)<;>simp only[WW,cond_true,cond_false,An]at hK
 ·cases hK
 obtain⟨args,tF,bs,hbs,hG⟩:=hK;obtain⟨o,ho,hen,hm,G6⟩:=h ρ args bs _ out hG;cases hbl:Nat.beq o.kept.length L.length<;>simp only[hbl,cond_true,cond_false]at ho
 ·cases ho
 have hbl:=On hbl
 have hin:∀i∈L,∃B,look H i=some B:=λi hi=>by
  obtain⟨k,hk⟩:=Yw hi;have hlt:=(Of.1 hk).1;obtain⟨i',b0,e1,e2,_⟩:=(gW hbs).2 k _ (So (show k<bs.length by rw[(gW hbs).1];exact hlt));grind
 refine⟨_,ho,hen,λi B hB=>hin i (qe hB),λH1 pl w us he hr hgl hnw hl hp H' ha=>?_⟩;obtain⟨hs1,hs2⟩:=iI WW;obtain⟨g1,g2⟩:=Lu (us:=us.toList) hr (Pb he _ _ _ hpr) (by simpa using hl) λj x u hx hu=>hp j x u hx (by simpa using hu);have hbs1:=Ls he L _ hbs
 have hd1:CU L D (xo H1 L)=true:=by rw[Hd he L hin];exact hs2
 obtain⟨q1,q2⟩:=pf hn hbs1 vs1 hs1 tF us.toList g1 g2;have uf:∀k,k<o.news.length->look H1 (nid+k)=none:=λk hk=>hnw k (by rw[nF];exact hk)
 refine(G6 w us (vo H1 pl L D) (O9 hr hn hbs1 hd1) (by simpa using q1) (λj x u hx hu=>q2 j x u hx (by simpa using hu)) (hgl.bJ (dF.refl w) λp u hp hno=>⟨λ⟨k,B,hB,hf⟩=>by
   obtain⟨i,b0,e1,e2,e3,_⟩:=gq hbs1 hB;simp only[vo,e2]at hf
   exact hno ⟨i,b0,e3,hf⟩,hp⟩)).mono λe w' ⟨u,pl',he',h1,h2,h3,h4,h5,h6⟩=>?_
 have hc:oN w w' H1 H' pl pl' L D bs nid o:=by
  refine⟨hr,hn,hbs1,hbl,uf,λi hi=>Rj (hDe▸hi),h1,h3,h4,h5,λp u hu hno=>h6 p u hu λk B hB hf=>?_,?_⟩
  ·obtain⟨i,b0,e1,e2,e3,_⟩:=gq hbs1 hB;simp only[vo,e2]at hf;exact hno i b0 ((mem_iff i L).2 (XX e1)) e3 hf
  ·simp only[after,An,It]at ha;obtain⟨h1',e1,e2⟩:=ha;exact⟨h1',e1,e2.symm⟩
 exact⟨u,_,he',hc.step,hc.rep o.v h2⟩
end
end
section
variable [Tok] [Glo]
inductive KD where
 |gone
 |arr
 |box (l:List RT)
def fb:List (Option Nat)->List KD->List Nat
 |some _::g,.gone::l=>fb g l
 |some i::g,_::l=>i::fb g l
 |none::g,_::l=>fb g l
 |_,_=>[]
def rB (h:aM):List (Option Nat)->List KD->Option (List (Bool× Ty× Option Nat))
 |[],[]=>some []
 |_::g,.gone::ks=>rB h g ks
 |some _::g,.arr::ks=>rB h g ks
 |some i::g,.box l::ks=>match look h i with
  |some (.box cs)=>(Fc l cs).bind λa=>(rB h g ks).bind λb=>some (a++b)
  |_=>none
 |_,_=>none
def rC (h:aM) (LL:List Nat) (i:Nat):Option Blk:=
 match look h i with
 |some (.arr none t xs)=>some (.arr none t xs)
 |some (.arr (some d) t xs)=>cond (hit LL d) none (some (.arr (some []) t xs))
 |_=>none
def fu (h:aM) (LL:List Nat) (G:List (Option Nat)):List (Option Nat)->List KD->Nat->Option (List (Option Blk))
 |[],[],_=>some []
 |_::g,.gone::ks,k=>(fu h LL G g ks k).bind λq=>some (none::q)
 |some i::g,.arr::ks,k=>(rC h LL i).bind λb=>(fu h LL G g ks k).bind λq=>some (some b::q)
 |some i::g,.box l::ks,k=>match look h i with
  |some (.box cs)=>(QB h LL G l k cs).bind λp=>(fu h LL G g ks p.2).bind λq=>some (some (.box p.1)::q)
  |_=>none
 |_,_,_=>none
def uo:List (Option Nat)->List KD->List (Option Nat)
 |[],_=>[]
 |_::g,.gone::ks=>none::uo g ks
 |og::g,.arr::ks=>og::uo g ks
 |og::g,.box _::ks=>og::uo g ks
 |_::g,[]=>none::uo g []
def Pf (rt:RT) (ks:List KD) (st:St) (v:SV):Option lI:=
  (rt.MP v).bind λs0=>(rB st.heap st.gh ks).bind λs1=>
    let LL:=fb st.gh ks++j6 (s0++s1)
    cond (nodup LL) ((oJ st.heap LL (s0++s1)).bind λnews=>(rt.out st.heap LL (uo st.gh ks) st.gh.length v).bind λp=>(fu st.heap LL (uo st.gh ks) st.gh ks p.2).bind λq=>some ⟨p.1,q,news⟩) none
def Fm (ks:List KD) (v:SV) (gh:List (Option Nat)):List (Option Nat):=
 cond (Nat.beq ks.length (gh.length+1)) (match v with
  |.ptr i 0 _=>gh++[some i]
  |.tup (.ptr i 0 _::_)=>gh++[some i]
  |_=>gh) gh
def Lv (m:Nat) (o:lI):Option lI:=match o.kept.drop m with
 |[]=>some o
 |[some b]=>some ⟨o.v,o.kept.take m,b::o.news⟩
 |_=>none
def Hf (rt:RT) (ks:List KD) (st:St) (v:SV):Option lI:=
 (Pf rt ks {st with gh:=Fm ks v st.gh} v).bind (Lv st.gh.length)
def Fo (t:Nat) (st:St):Option St:=
 match look st.cJ t with
 |some (.sub i 0 n)=>match look st.heap i with
  |some (.arr sh ty xs)=>cond (mem i (sh.getD [])) none (st.take (some t) {v:=.own st.nid,news:=[.arr sh ty (xs.take n)],gone:=[i]})
  |_=>some st
 |_=>some st
def Lw (fn:Func) (rt:RT) (st:St):Option St:=
 match fn.results.toList,rt with
 |[.tmp t],.own _=>Fo t st
 |[.tmp t],.shl _=>Fo t st
 |_,_=>some st
def Pg {ρ:Type} (P:Program) (fn:Func) (rt:RT) (ks:List KD) (dec:lI->Option ρ):Ex->St->Option ρ
 |.exit _,_=>none
 |.normal,st=>(Lw fn rt st).bind λst=>(SB P fn st).bind λv=>(Hf rt ks st v).bind dec
 |.ret,st=>(Lw fn rt st).bind λst=>(SB P fn st).bind λv=>(Hf rt ks st v).bind dec
def Hg:Nat->List SV->List (Nat× SV)
 |_,[]=>[]
 |n,a::l=>(n,a)::Hg (n+1) l
def DX:Nat->Nat->List (Option Nat)
 |_,0=>[]
 |n,k+1=>some n::DX (n+1) k
def NP (fn:Func) (args:List SV) (bs:List Blk):St:={cJ:=Hg 0 args,heap:=aN 0 bs,nid:=bs.length,n:=fn.ntmps,gh:=DX 0 bs.length}
theorem JQ (args:List SV) (n t:Nat):look (Hg n args) t=if n<=t then args[t-n]? else none:=by
 induction args generalizing n with
 |nil=>simp[Hg,look]
 |cons a l ih=>
  rw[Hg,aC,ih];grind
theorem DY:∀(c n k:Nat) {i:Nat},(DX n c)[k]? =some (some i)->i=n+k/\k<c
 |0,n,k,i,h=>by simp[DX]at h
 |c+1,n,0,i,h=>by simp[DX]at h;omega
 |c+1,n,k+1,i,h=>by
  have:=DY c (n+1) k (by simpa[DX]using h);omega
def Pl.Lg (pl:Pl) (gh:List (Option Nat)) (S:List (Bool× Ty× Option Nat)):Pl:=
  ⟨λk=>if k<gh.length then(match gh[k]? with|some (some i)=>pl.hdr i|_=>undef)else(pl.res S).hdr (k-gh.length),
   λk=>if k<gh.length then(match gh[k]? with|some (some i)=>pl.fp i|_=>λ_=>False)else(pl.res S).fp (k-gh.length),pl.base⟩
section
variable {w:World} {H:aM} {pl:Pl} {gh G:List (Option Nat)} {ks:List KD} {S:List (Bool× Ty× Option Nat)} {LL:List Nat} {news:List Blk} {kept:List (Option Blk)} {v:SV}
theorem iW:∀{gh:List (Option Nat)} {ks:List KD} {k0:Nat} {kept:List (Option Blk)},fu H LL G gh ks k0=some kept->kept.length=gh.length/\
  ∀(k:Nat) (B:Blk),kept[k]? =some (some B)->∃i,gh[k]? =some (some i)/\mem i (fb gh ks)=true/\((∃l cs cs' k1 k2,ks[k]? =some (.box l)/\look H i=some (.box cs)/\QB H LL G l k1 cs=some (cs',k2)/\B=.box cs')\/(ks[k]? =some .arr/\rC H LL i=some B))
 |[],[],k0,kept,h=>by cases h;exact⟨rfl,λk B hB=>by simp at hB⟩
 |og::g,.gone::ks,k0,kept,h=>by
  simp only[fu,An,It]at h;obtain⟨q,h1,rfl⟩:=h;obtain⟨g1,g2⟩:=iW h1;refine⟨by simp[g1],λk B hB=>?_⟩
  cases k with
  |zero=>simp at hB
  |succ k=>
   obtain⟨i,a1,a2,a3⟩:=g2 k B (by simpa using hB);refine⟨i,by simpa using a1,?_,by simpa using a3⟩
   cases og<;>simpa[fb]using a2
 |some i0::g,.arr::ks,k0,kept,h=>by
  simp only[fu,An,It]at h;obtain⟨b,h0,q,h1,rfl⟩:=h;obtain⟨g1,g2⟩:=iW h1;refine⟨by simp[g1],λk B hB=>?_⟩
  cases k with
  |zero=>simp at hB;subst hB;exact⟨i0,rfl,by simp[fb,mem],.inr ⟨rfl,h0⟩⟩
  |succ k=>
   obtain⟨i,a1,a2,a3⟩:=g2 k B (by simpa using hB);refine⟨i,by simpa using a1,?_,by simpa using a3⟩
   rw[mem_iff]at a2⊢;simp[fb,a2]
 |some i0::g,.box l::ks,k0,kept,h=>by
  simp only[fu]at h;split at h
  ·rename_i cs hl;simp only[An,It]at h;obtain⟨p,h0,q,h1,rfl⟩:=h;obtain⟨g1,g2⟩:=iW h1;refine⟨by simp[g1],λk B hB=>?_⟩
   cases k with
   |zero=>simp at hB;subst hB;exact⟨i0,rfl,by simp[fb,mem],.inl ⟨l,cs,p.1,k0,p.2,rfl,hl,h0,rfl⟩⟩
   |succ k=>
    obtain⟨i,a1,a2,a3⟩:=g2 k B (by simpa using hB);refine⟨i,by simpa using a1,?_,by simpa using a3⟩;rw[mem_iff]at a2⊢;simp[fb,a2]
  ·cases h
 |[],_::_,_,_,h=>by cases h
 |none::_,[],_,_,h=>by cases h
 |some _::_,[],_,_,h=>by cases h
 |none::_,.arr::_,_,_,h=>by cases h
 |none::_,.box _::_,_,_,h=>by cases h
theorem vq (hr:cY H pl w) {H2:aM} {plR:Pl} {m:Nat} (hown:∀(k:Nat) (b:Bool) (t:Ty) (v:SV) (u:Value),ar w H pl v u->((∃i,v=.own i/\S[k]? =some (b,t,some i))\/(v=.cF/\S[k]? =some (b,t,none)))->ar w H2 plR (.own (m+k)) u)
  (hro:∀d p,hit LL d=false->okd H pl d p->okd H2 plR [] p) (JI:∀i j o u,posOf i G 0=some j->ar w H pl (.ptr i 0 o) u->ar w H2 plR (.ptr j 0 o) u):∀{gh:List (Option Nat)} {ks:List KD} {j0:Nat} {kept:List (Option Blk)} {s:List (Bool× Ty× Option Nat)},
  rB H gh ks=some s->(∀(j:Nat) (x:Bool× Ty× Option Nat),s[j]? =some x->S[j0+j]? =some x)->fu H LL G gh ks (m+j0)=some kept->
  ∀(k i:Nat) (cs cs':List SV),gh[k]? =some (some i)->look H i=some (.box cs)->kept[k]? =some (some (.box cs'))->∀us:List Value,cs.length=us.length->(∀(j:Nat) (x:SV) (u:Value),cs[j]? =some x->us[j]? =some u->ar w H pl x u)->
   cs'.length=us.length/\∀(j:Nat) (x:SV) (u:Value),cs'[j]? =some x->us[j]? =some u->ar w H2 plR x u
 |[],[],j0,kept,s,hs,hS,h,k,i,cs,cs',hk,_,_,_,_,_=>by simp at hk
 |og::g,.gone::ks,j0,kept,s,hs,hS,h,k,i,cs,cs',hk,hl,hc,us,hu,hp=>by
  simp only[fu,An,It]at h;obtain⟨q,h1,rfl⟩:=h
  have hs:rB H g ks=some s:=by cases og<;>exact hs
  cases k with
  |zero=>simp at hc
  |succ k=>exact vq hr hown hro JI hs hS h1 k i cs cs' (by simpa using hk) hl (by simpa using hc) us hu hp
 |some i0::g,.arr::ks,j0,kept,s,hs,hS,h,k,i,cs,cs',hk,hl,hc,us,hu,hp=>by
  simp only[fu,An,It]at h;obtain⟨b,h0,q,h1,rfl⟩:=h
  cases k with
  |zero=>
   simp at hk hc;subst hk hc;unfold rC at h0
   grind
  |succ k=>exact vq hr hown hro JI (show rB H g ks=some s from hs) hS h1 k i cs cs' (by simpa using hk) hl (by simpa using hc) us hu hp
 |some i0::g,.box l::ks,j0,kept,s,hs,hS,h,k,i,cs,cs',hk,hl,hc,us,hu,hp=>by
  simp only[fu]at h;simp only[rB]at hs
  cases hl0:look H i0 with
  |none=>grind
  |some B0=>
   cases B0 with
   |arr sh t xs=>grind
   |box cs0=>
    simp only[hl0,An,It]at h hs;obtain⟨p,h0,q,h1,rfl⟩:=h;obtain⟨s1,e1,s2,e2,rfl⟩:=hs;obtain⟨b,o,q1,q2,q3⟩:=hr.blk i0 _ hl0
    have key:∀us:List Value,cs0.length=us.length->(∀(j:Nat) (x:SV) (u:Value),cs0[j]? =some x->us[j]? =some u->ar w H pl x u)->_:=λus hu hp=>
     pc hr hown hro JI l e1 (λj x hx=>hS j x (by rw[XQ (Of.1 hx).1];exact hx)) (cs':=p.1) (k':=p.2) (by rw[h0]) us hu hp
    cases k with
    |zero=>
     grind
    |succ k=>
     have hk2:p.2=m+(j0+s1.length):=by
      have hus:∃us:List Value,cs0.length=us.length/\∀(j:Nat) (x:SV) (u:Value),cs0[j]? =some x->us[j]? =some u->ar w H pl x u:=by
       have:∀n,n<=cs0.length->∃us:List Value,us.length=n/\∀(j:Nat) (x:SV) (u:Value),cs0[j]? =some x->us[j]? =some u->ar w H pl x u:=λn=>by
        induction n with
        |zero=>exactλ_=>⟨[],rfl,λj x u _ h=>by simp at h⟩
        |succ n ih=>
         intro hn;obtain⟨us,a1,a2⟩:=ih (by omega);obtain⟨u,_,_,_,b4⟩:=q3 n cs0[n] (So (by omega));refine⟨us++[u],by simp[a1],λj x u' hx hu'=>?_⟩;grind
       obtain⟨us,a1,a2⟩:=this cs0.length (X1 _);grind
      grind
     rw[hk2]at h1
     exact vq hr hown hro JI e2 (λj x hx=>by
      have:=hS (s1.length+j) x (by rw[XL (by omega),Yk];exact hx)
      rw[Yz];exact this) h1 k i cs cs' (by simpa using hk) hl (by simpa using hc) us hu hp
 |[],_::_,_,_,_,h,_,_,_,_,_,_,_,_,_,_,_,_=>by cases h
 |none::_,[],_,_,_,h,_,_,_,_,_,_,_,_,_,_,_,_=>by cases h
 |some _::_,[],_,_,_,h,_,_,_,_,_,_,_,_,_,_,_,_=>by cases h
 |none::_,.arr::_,_,_,_,h,_,_,_,_,_,_,_,_,_,_,_,_=>by cases h
 |none::_,.box _::_,_,_,_,h,_,_,_,_,_,_,_,_,_,_,_,_=>by cases h
theorem zR:∀{gh:List (Option Nat)} {ks:List KD} {k0 k0':Nat} {kept:List (Option Blk)},fu H LL G gh ks k0=some kept->(fb gh ks).Nodup->∀(k k':Nat) (B B':Blk) (i:Nat),
  kept[k]? =some (some B)->kept[k']? =some (some B')->gh[k]? =some (some i)->gh[k']? =some (some i)->k=k'
 |[],[],k0,k0',kept,h,hn,k,k',B,B',i,h1,h2,h3,h4=>by simp at h3
 |og::g,.gone::ks,k0,k0',kept,h,hn,k,k',B,B',i,h1,h2,h3,h4=>by
  simp only[fu,An,It]at h;obtain⟨q,e1,rfl⟩:=h
  have hn:(fb g ks).Nodup:=by cases og<;>simpa[fb]using hn
  cases k with
  |zero=>simp at h1
  |succ k=>cases k' with
   |zero=>simp at h2
   |succ k'=>rw[zR (k0':=k0') e1 hn k k' B B' i (by simpa using h1) (by simpa using h2) (by simpa using h3) (by simpa using h4)]
 |some i0::g,.arr::ks,k0,k0',kept,h,hn,k,k',B,B',i,h1,h2,h3,h4=>by
  simp only[fu,An,It]at h;obtain⟨b,e0,q,e1,rfl⟩:=h
  have hn:i0∉fb g ks/\(fb g ks).Nodup:=by simpa[fb]using hn
  have sub:∀{k B},q[k]? =some (some B)->g[k]? =some (some i0)->False:=λ{k B} q1 q2=>by
   obtain⟨i',a1,a2,_⟩:=(iW e1).2 k B q1;rw[q2]at a1;cases a1;exact hn.1 ((mem_iff _ _).1 a2)
  cases k with
  |zero=>grind
  |succ k=>cases k' with
   |zero=>grind
   |succ k'=>rw[zR (k0':=k0') e1 hn.2 k k' B B' i (by simpa using h1) (by simpa using h2) (by simpa using h3) (by simpa using h4)]
 |some i0::g,.box l::ks,k0,k0',kept,h,hn,k,k',B,B',i,h1,h2,h3,h4=>by
  simp only[fu]at h;split at h
  ·simp only[An,It]at h;obtain⟨b,e0,q,e1,rfl⟩:=h
   have hn:i0∉fb g ks/\(fb g ks).Nodup:=by simpa[fb]using hn
   have sub:∀{k B},q[k]? =some (some B)->g[k]? =some (some i0)->False:=λ{k B} q1 q2=>by
    obtain⟨i',a1,a2,_⟩:=(iW e1).2 k B q1;rw[q2]at a1;cases a1;exact hn.1 ((mem_iff _ _).1 a2)
   cases k with
   |zero=>cases k' with
    |zero=>rfl
    |succ k'=>simp at h3;subst h3;exact(sub (by simpa using h2) (by simpa using h4)).elim
   |succ k=>cases k' with
    |zero=>simp at h4;subst h4;exact(sub (by simpa using h1) (by simpa using h3)).elim
    |succ k'=>rw[zR (k0':=k0') e1 hn.2 k k' B B' i (by simpa using h1) (by simpa using h2) (by simpa using h3) (by simpa using h4)]
  ·cases h
 |[],_::_,_,_,_,h,_,_,_,_,_,_,_,_,_,_=>by cases h
 |none::_,[],_,_,_,h,_,_,_,_,_,_,_,_,_,_=>by cases h
 |some _::_,[],_,_,_,h,_,_,_,_,_,_,_,_,_,_=>by cases h
 |none::_,.arr::_,_,_,_,h,_,_,_,_,_,_,_,_,_,_=>by cases h
 |none::_,.box _::_,_,_,_,h,_,_,_,_,_,_,_,_,_,_=>by cases h
theorem nG:∀{gh:List (Option Nat)} {ks:List KD} {k0:Nat} {kept:List (Option Blk)} {j i:Nat},fu H LL G gh ks k0=some kept->(uo gh ks)[j]? =some (some i)->∃B,kept[j]? =some (some B)/\gh[j]? =some (some i)
 |[],_,_,_,j,i,_,h=>by simp[uo]at h
 |og::g,.gone::ks,k0,kept,j,i,h,hj=>by
  simp only[fu,An,It]at h;obtain⟨q,h1,rfl⟩:=h
  cases j with
  |zero=>simp[uo]at hj
  |succ j=>simpa using nG h1 (by simpa[uo]using hj)
 |some i0::g,.arr::ks,k0,kept,j,i,h,hj=>by
  simp only[fu,An,It]at h;obtain⟨b,h0,q,h1,rfl⟩:=h
  cases j with
  |zero=>simp[uo]at hj;subst hj;exact⟨b,rfl,rfl⟩
  |succ j=>simpa using nG h1 (by simpa[uo]using hj)
 |some i0::g,.box l::ks,k0,kept,j,i,h,hj=>by
  simp only[fu]at h;split at h
  ·simp only[An,It]at h;obtain⟨b,h0,q,h1,rfl⟩:=h
   cases j with
   |zero=>simp[uo]at hj;subst hj;exact⟨_,rfl,rfl⟩
   |succ j=>simpa using nG h1 (by simpa[uo]using hj)
  ·cases h
 |none::_,[],_,_,_,_,h,_=>by cases h
 |some _::_,[],_,_,_,_,h,_=>by cases h
 |none::_,.arr::_,_,_,_,_,h,_=>by cases h
 |none::_,.box _::_,_,_,_,_,h,_=>by cases h
theorem xp {i:Nat}:∀{l:List (Option Nat)} {n k:Nat},posOf i l n=some k->n<=k/\l[k-n]? =some (some i)
 |none::l,n,k,h=>by
  obtain⟨h1,h2⟩:=xp (l:=l) (n:=n+1) h
  grind
 |some j::l,n,k,h=>by
  simp only[posOf]at h;cases hj:Nat.beq j i<;>simp only[hj,cond_true,cond_false,It]at h
  ·obtain⟨h1,h2⟩:=xp h;grind
  ·subst h;exact⟨X1 _,by simp[On hj]⟩
theorem Hh {st:St} {rt:RT} {o:lI} {u:Value} (hr:cY st.heap pl w) (h:Pf rt ks st v=some o) (hv:ar w st.heap pl v u):
    ∃plM:Pl,cY o.heap plM w/\ar w o.heap plM o.v u/\plM.base=pl.base/\o.kept.length=st.gh.length/\
      (∀(k:Nat) (B:Blk),o.kept[k]? =some (some B)->∃i B0,st.gh[k]? =some (some i)/\look st.heap i=some B0/\plM.hdr k=pl.hdr i/\B0.nt B)/\
      (∀k B p,look o.heap k=some B->plM.fp k p->∃i B0,look st.heap i=some B0/\pl.fp i p):=by
  simp only[Pf,An]at h;obtain⟨s0,hs0,s1,hs1,h⟩:=h;generalize hS:s0++s1=S at h;generalize hLL:fb st.gh ks++j6 S=LL at h;cases hnd:nodup LL<;>simp only[hnd,cond_true,cond_false,An,It]at h
  · cases h
  obtain⟨news,Ot,p,hp,q,hq,rfl⟩:=h;have Vc:=ft hnd;rw[<-hLL,List.nodup_append]at Vc;obtain⟨hk1,hk2⟩:=iW hq;obtain⟨hb1,hb2⟩:=kR Ot
  let o:lI:=⟨p.1,q,news⟩
  let plM:=pl.Lg st.gh S
  have hm:o.kept.length=st.gh.length:=hk1
  have origin:∀k B,look o.heap k=some B->(k<st.gh.length/\q[k]? =some (some B)/\∃i,st.gh[k]? =some (some i)/\mem i (fb st.gh ks)=true/\plM.hdr k=pl.hdr i/\plM.fp k=pl.fp i)\/
      (st.gh.length<=k/\∃b t oi,S[k-st.gh.length]? =some (b,t,oi)/\vl st.heap LL (b,t,oi)=some B/\plM.hdr k=(pl.res S).hdr (k-st.gh.length)/\plM.fp k=(pl.res S).fp (k-st.gh.length)):=λk B hB=>by
    by_cases c:k<st.gh.length
    · rw[o.lO (by omega)]at hB;obtain⟨ob,e1,e2⟩:=An.1 hB;have e2:ob=some B:=e2;subst e2;obtain⟨i,a1,a2,_⟩:=hk2 k B e1;exact .inl ⟨c,e1,i,a1,a2,by simp only[plM,Pl.Lg,if_pos c,a1],by simp only[plM,Pl.Lg,if_pos c,a1]⟩
    · rw[o.ju (by omega),hm]at hB;obtain⟨⟨b,t,oi⟩,e1,e2⟩:=hb2 _ _ hB;exact .inr ⟨by omega,b,t,oi,e1,e2,by simp only[plM,Pl.Lg,if_neg c],by simp only[plM,Pl.Lg,if_neg c]⟩
  have srcIn:∀{k b t i},S[k]? =some (b,t,some i)->mem i LL=true:=λ{k b t i} h=>by
    rw[<-hLL,mem_append,(mem_iff i _).2 (pb h),Y7]
  have hro:∀d p,hit LL d=false->okd st.heap pl d p->okd o.heap plM [] p:=λd p hd hok=>by
    refine⟨hok.1,λk B hB _ hf=>?_⟩
    have no:∀{i B0},look st.heap i=some B0->mem i LL=true->pl.fp i p->False:=λ{i B0} hl hi hf=>hok.2 i B0 hl (λhm=>by
      have:=fX LL d hd i hm;rw[hi]at this;exact nomatch this) hf
    rcases origin k B hB with⟨c,e1,i,a1,a2,_,a4⟩|⟨c,b,t,oi,e1,e2,_,a4⟩
    · rw[a4]at hf
      have hi:mem i LL=true:=by rw[<-hLL,mem_append,a2];rfl
      obtain⟨i',a1',_,hor⟩:=hk2 k B e1;rw[a1]at a1';cases a1'
      rcases hor with⟨l,cs,cs',k1,k2,_,hl,_⟩|⟨_,ho⟩
      · grind
      · unfold rC at ho;grind
    · rw[a4]at hf
      cases oi with
      |none=>simp[Pl.res,e1]at hf
      | some i =>
        simp only[Pl.res,e1]at hf;obtain⟨sh,xs,hl,_⟩:=cL e2;grind
  have hown:∀(k:Nat) (b:Bool) (t:Ty) (v:SV) (u:Value),ar w st.heap pl v u->((∃i,v=.own i/\S[k]? =some (b,t,some i))\/(v=.cF/\S[k]? =some (b,t,none)))->ar w o.heap plM (.own (st.gh.length+k)) u:=λk b t v u hv hc=>by
    have AJ:∀{s},S[k]? =some s->∃B,look o.heap (st.gh.length+k)=some B/\vl st.heap LL s=some B:=λ{s} h=>by
      have hlt:k<news.length:=by rw[hb1];exact(Of.1 h).1
      obtain⟨s',h1,h2⟩:=hb2 k _ (So hlt);rw[h]at h1;cases h1;exact⟨_,by rw[o.ju (by omega),hm,Yk];exact So hlt,h2⟩
    have eh:plM.hdr (st.gh.length+k)=(pl.res S).hdr k:=by simp only[plM,Pl.Lg,if_neg (show¬st.gh.length+k<st.gh.length by omega),Yk]
    rcases hc with⟨i,rfl,h⟩|⟨rfl,h⟩
    · obtain⟨B,h1,h2⟩:=AJ h;obtain⟨sh,xs,hl,h3⟩:=cL h2
      have e:plM.hdr (st.gh.length+k)=pl.hdr i:=by rw[eh];simp only[Pl.res,h]
      cases hv with
      | own _ sh' t' ys hl' =>
        rw[<-e]
        rcases h3 with⟨_,rfl⟩|⟨d,_,_,rfl⟩
        · exact .own _ none t xs h1
        · exact .own _ (some []) t xs h1
    · obtain⟨B,h1,h2⟩:=AJ h
      have e:plM.hdr (st.gh.length+k)=.slice none 0 0:=by rw[eh];simp only[Pl.res,h]
      cases hv with
      | cF =>
        rw[<-e]
        cases b with
        |false=>cases h2;exact .own _ none t [] h1
        |true=>cases h2;exact .own _ (some []) t [] h1
  have JI:∀i j o' u,posOf i (uo st.gh ks) 0=some j->ar w st.heap pl (.ptr i 0 o') u->ar w o.heap plM (.ptr j 0 o') u:=λi j o' u hj hv=>by
    obtain⟨_,g1⟩:=xp hj;rw[Yt]at g1;obtain⟨B,g2,g3⟩:=nG hq g1;have hlt:j<st.gh.length:=(Of.1 g3).1
    have eh:plM.hdr j=pl.hdr i:=by simp only[plM,Pl.Lg,if_pos hlt,g3]
    have hl:look o.heap j=some B:=by rw[o.lO (by omega)];show(q[j]?).bind id=some B;rw[g2];rfl
    obtain⟨i',a1',_,hor⟩:=hk2 j B g2;rw[g3]at a1';cases a1'
    cases hv with
    | wQ _ _ cs b m0 hlb hh =>
      rcases hor with⟨l,cs1,cs',k1,k2,_,hl1,_,rfl⟩|⟨_,ho⟩
      · exact .wQ j o' cs' b m0 hl (eh.trans hh)
      · unfold rC at ho;rw[hlb]at ho;cases ho
    | uQ _ _ _ sh t xs b m0 n cap hlb hx hh =>
      rcases hor with⟨l,cs1,cs',k1,k2,_,hl1,_,rfl⟩|⟨_,ho⟩
      · rw[hlb]at hl1;cases hl1
      · unfold rC at ho;rw[hlb]at ho
        cases sh with
        |none=>cases ho;exact .uQ j 0 o' none t xs b m0 n cap hl hx (eh.trans hh)
        | some d =>
          simp only at ho;cases hd:hit LL d<;>simp only[hd,cond_true,cond_false]at ho
          · cases ho;exact .uQ j 0 o' _ t xs b m0 n cap hl hx (eh.trans hh)
          · cases ho
  have hS0:∀(j:Nat) (x:Bool× Ty× Option Nat),s0[j]? =some x->S[0+j]? =some x:=λj x hx=>by
    grind
  obtain⟨r1,r2⟩:=Fe (m:=st.gh.length) hr hown hro JI rt hs0 hS0 (k:=0) (by rw[Yd];exact hp) hv;rw[r2,XN]at hq
  have hS1:∀(j:Nat) (x:Bool× Ty× Option Nat),s1[j]? =some x->S[s0.length+j]? =some x:=λj x hx=>by
    grind
  have hbx:=vq hr hown hro JI hs1 hS1 hq;refine⟨plM,⟨λk B hB=>?_,λk k' B B' p h1 h2 f1 f2=>?_,λk B p hB hf=>?_,hr.nb⟩,r1,rfl,hk1,λk B hB=>?_,λk B p hB hf=>?_⟩
  · rcases origin k B hB with⟨c,e1,i,a1,a2,ah,af⟩|⟨c,b,t,oi,e1,e2,ah,af⟩
    · obtain ⟨i', a1', _, hor⟩ := hk2 k B e1;rw[a1]at a1';cases a1'
      rcases hor with⟨l,cs,cs',k1,k2,_,hl,hol,rfl⟩|⟨_,ho⟩
      · obtain⟨b,off,q1,q2,q3⟩:=hr.blk i _ hl
        have hus:∃us:List Value,cs.length=us.length/\(∀(j:Nat) (u:Value),us[j]? =some u->w.at? (b,off+j)=some u/\calm (w.eK (b,off+j))=true/\one u=true)/\∀(j:Nat) (x:SV) (u:Value),cs[j]? =some x->us[j]? =some u->ar w st.heap pl x u:=by
          refine⟨(List.range cs.length).map λj=>(w.at? (b,off+j)).getD undef,by simp,λj u hu=>?_,λj x u hx hu=>?_⟩
          · have hj:j<cs.length:=by have:=(Of.1 hu).1;simpa using this
            obtain⟨u',g1,g2,g3,g4⟩:=q3 j _ (So hj)
            have:u=u':=by
              rw[Yl,So (by simpa using hj)]at hu;simp[g1]at hu;exact hu.symm
            subst this;exact⟨g1,g2,g3⟩
          · obtain⟨u',g1,g2,g3,g4⟩:=q3 j x hx;have hj:j<cs.length:=(Of.1 hx).1
            have:u=u':=by
              rw[Yl,So (by simpa using hj)]at hu;simp[g1]at hu;exact hu.symm
            subst this;exact g4
        obtain⟨us,u1,u2,u3⟩:=hus;obtain⟨g1,g2⟩:=hbx k i cs cs' a1 hl e1 us u1 u3;refine⟨b,off,ah.trans q1,λp=>by rw[af,q2,g1,u1],λj y hy=>?_⟩
        have hj:j<us.length:=by rw[<-g1];exact(Of.1 hy).1
        obtain⟨z1,z2,z3⟩:=u2 j us[j] (So hj);exact⟨us[j],z1,z2,z3,g2 j y _ hy (So hj)⟩
      · unfold rC at ho;split at ho
        · rename_i t xs hl;cases ho;show Nonempty (Row w (fV w) t xs (plM.hdr k) (plM.fp k));rw[ah,af];exact hr.blk i _ hl
        · rename_i d t xs hl;cases hd:hit LL d<;>simp only[hd,cond_true,cond_false]at ho
          · cases ho;obtain⟨⟨a,cap,b,q0,vs,fs,q1,q2,q3,q4,q5,q6,q7,q8,q9⟩⟩:=hr.blk i _ hl;exact⟨⟨a,cap,b,q0,vs,fs,ah.trans q1,q2,q3,q4,q5,λi j r hc=>⟨(q6 i j r hc).1.frame λp u hp hu=>⟨hro d p hd hp,hu⟩,(q6 i j r hc).2⟩,q7,q8,λp=>by rw[af];exact q9 p⟩⟩
          · cases ho
        · cases ho
    · cases oi with
      | none =>
        have e:plM.hdr k=.slice none 0 0:=by rw[ah];simp only[Pl.res,e1]
        have ef:plM.fp k=λ_=>False:=by rw[af];simp only[Pl.res,e1]
        have:=Row.nil (w:=w) (t:=t) (AL w o.heap plM (cond b (some []) none));rw[<-e,<-ef]at this
        cases b with
        |false=>cases e2;exact eL.oF this
        |true=>cases e2;exact eL.oF this
      | some i =>
        have e:plM.hdr k=pl.hdr i:=by rw[ah];simp only[Pl.res,e1]
        have ef:plM.fp k=pl.fp i:=by rw[af];simp only[Pl.res,e1]
        obtain⟨sh,xs,hl,h3⟩:=cL e2;have hb:=hr.blk i _ hl
        rcases h3 with⟨rfl,rfl⟩|⟨d,rfl,hd,rfl⟩
        · show Nonempty (Row w (fV w) t xs (plM.hdr k) (plM.fp k));rw[e,ef];exact hb
        · obtain⟨⟨a,cap,b',q0,vs,fs,q1,q2,q3,q4,q5,q6,q7,q8,q9⟩⟩:=hb;exact⟨⟨a,cap,b',q0,vs,fs,e.trans q1,q2,q3,q4,q5,λi j r hc=>⟨(q6 i j r hc).1.frame λp u hp hu=>⟨hro d p hd hp,hu⟩,(q6 i j r hc).2⟩,q7,q8,λp=>by rw[ef];exact q9 p⟩⟩
  · have there:∀{i k B},q[k]? =some (some B)->st.gh[k]? =some (some i)->∃B0,look st.heap i=some B0:=λ{i k B} e1 a1=>by
      obtain⟨i',a1',_,hor⟩:=hk2 k B e1;rw[a1]at a1';cases a1'
      rcases hor with⟨l,cs,cs',k1,k2,_,hl,_⟩|⟨_,ho⟩
      · exact⟨_,hl⟩
      · unfold rC at ho
        cases hl:look st.heap i with
        |none=>rw[hl]at ho;cases ho
        |some B0=>exact⟨_,rfl⟩
    rcases origin k B h1 with⟨c,e1,i,a1,a2,_,a4⟩|⟨c,b,t,oi,e1,e2,_,a4⟩<;>rcases origin k' B' h2 with⟨c',e1',i',a1',a2',_,a4'⟩|⟨c',b',t',oi',e1',e2',_,a4'⟩
    · rw[a4]at f1;rw[a4']at f2;obtain⟨B0,hl⟩:=there e1 a1;obtain⟨B0',hl'⟩:=there e1' a1';have:=hr.dis i i' _ _ p hl hl' f1 f2;subst this;exact zR (k0':=0) hq Vc.1 k k' B B' i e1 e1' a1 a1'
    · rw[a4]at f1;rw[a4']at f2
      cases oi' with
      |none=>simp[Pl.res,e1']at f2
      | some i' =>
        simp only[Pl.res,e1']at f2;obtain⟨B0,hl⟩:=there e1 a1;obtain⟨sh,xs,hl',_⟩:=cL e2';have:=hr.dis i i' _ _ p hl hl' f1 f2;subst this;exact(Vc.2.2 i ((mem_iff _ _).1 a2) i (pb e1') rfl).elim
    · rw[a4]at f1;rw[a4']at f2
      cases oi with
      |none=>simp[Pl.res,e1]at f1
      | some i =>
        simp only[Pl.res,e1]at f1;obtain⟨B0,hl⟩:=there e1' a1';obtain⟨sh,xs,hl',_⟩:=cL e2;have:=hr.dis i' i _ _ p hl hl' f2 f1;subst this;exact(Vc.2.2 i' ((mem_iff _ _).1 a2') i' (pb e1) rfl).elim
    · rw [a4] at f1;rw[a4']at f2
      cases oi with
      |none=>simp[Pl.res,e1]at f1
      | some i =>
        cases oi' with
        |none=>simp[Pl.res,e1']at f2
        | some i' =>
          simp only[Pl.res,e1]at f1;simp only[Pl.res,e1']at f2;obtain⟨_,_,hl,_⟩:=cL e2;obtain⟨_,_,hl',_⟩:=cL e2';have:=hr.dis i i' _ _ p hl hl' f1 f2;subst this;have:=G2 Vc.2.1 e1 e1';omega
  · rcases origin k B hB with⟨c,e1,i,a1,a2,_,a4⟩|⟨c,b,t,oi,e1,e2,_,a4⟩
    · rw[a4]at hf;obtain⟨i',a1',_,hor⟩:=hk2 k B e1;rw[a1]at a1';cases a1'
      rcases hor with⟨l,cs,cs',k1,k2,_,hl,_⟩|⟨_,ho⟩
      · exact hr.ob i _ p hl hf
      · unfold rC at ho
        cases hl:look st.heap i with
        |none=>rw[hl]at ho;cases ho
        |some B0=>exact hr.ob i _ p hl hf
    · rw[a4]at hf
      cases oi with
      |none=>simp[Pl.res,e1]at hf
      | some i =>
        simp only[Pl.res,e1]at hf;obtain⟨_,_,hl,_⟩:=cL e2;exact hr.ob i _ p hl hf
  · have hB:q[k]? =some (some B):=hB;obtain⟨i,a1,a2,hor⟩:=hk2 k B hB;have hlt:k<st.gh.length:=(Of.1 a1).1
    have ah:plM.hdr k=pl.hdr i:=by simp only[plM,Pl.Lg,if_pos hlt,a1]
    rcases hor with⟨l,cs,cs',k1,k2,_,hl,hol,rfl⟩|⟨_,ho⟩
    · obtain⟨b,off,q1,q2,q3⟩:=hr.blk i _ hl;refine⟨i,_,a1,hl,ah,?_⟩
      obtain⟨g1,_⟩:=hbx k i cs cs' a1 hl hB ((List.range cs.length).map λj=>(w.at? (b,off+j)).getD undef) (by simp) λj x u hx hu=>by
        obtain⟨u',g1,g2,g3,g4⟩:=q3 j x hx;have hj:j<cs.length:=(Of.1 hx).1
        have:u=u':=by
          rw[Yl,So (by simpa using hj)]at hu;simp[g1]at hu;exact hu.symm
        subst this;exact g4
      show cs.length=cs'.length;rw[g1];simp
    · unfold rC at ho;split at ho
      · rename_i t xs hl;cases ho;exact⟨i,_,a1,hl,ah,⟨rfl,rfl⟩⟩
      · rename_i d t xs hl;cases hd:hit LL d<;>simp only[hd,cond_true,cond_false]at ho
        · cases ho;exact⟨i,_,a1,hl,ah,⟨rfl,rfl⟩⟩
        · cases ho
      · cases ho
  · rcases origin k B hB with⟨c,e1,i,a1,a2,_,a4⟩|⟨c,b,t,oi,e1,e2,_,a4⟩
    · rw[a4]at hf;obtain⟨i',a1',_,hor⟩:=hk2 k B e1;rw[a1]at a1';cases a1'
      rcases hor with⟨l,cs,cs',k1,k2,_,hl,_⟩|⟨_,ho⟩
      · exact⟨i,_,hl,hf⟩
      · unfold rC at ho
        cases hl:look st.heap i with
        |none=>rw[hl]at ho;cases ho
        |some B0=>exact⟨i,_,hl,hf⟩
    · rw[a4]at hf
      cases oi with
      |none=>simp[Pl.res,e1]at hf
      | some i =>
        simp only[Pl.res,e1]at hf;obtain⟨_,_,hl,_⟩:=cL e2;exact⟨i,_,hl,hf⟩
end
theorem Act.Ro (a:Act) (t:Nat):a.put (some t) (a.tmps.getD t undef)=a:=by
 unfold Act.put
 have:a.tmps.setIfInBounds t (a.tmps.getD t undef)=a.tmps:=by
  apply Array.ext_getElem?;intro i;rw[Array.getElem?_setIfInBounds];by_cases e:t=i
  ·subst e;rw[if_pos rfl];by_cases h:t<a.tmps.size
   ·rw[if_pos h,X4,XR h];rfl
   ·grind
  ·rw[if_neg e]
 show({a with tmps:=a.tmps.setIfInBounds t (a.tmps.getD t undef)}:Act)=a;rw[this]
theorem DZ {w0:World} {fp0:G0} {bs:Cell->Prop} {m:Nat} {st st':St} {a:Act} {w:World} {t:Nat} (h:Rl w0 fp0 bs m st a w) (ht:Fo t st=some st'):Rl w0 fp0 bs m st' a w:=by
  unfold Fo at ht;split at ht
  · rename_i i n Q9;split at ht
    · rename_i sh ty xs hl;cases hmi:mem i (sh.getD [])<;>rw[hmi]at ht
      rotate_left
      · cases ht
      rw[cond_false]at ht;obtain⟨pl,hR,hb,hn⟩:=h;have hv:=hR.sl t _ Q9;obtain⟨⟨a0,cap,b,o,vs,fs,q1,q2,q3,q4,q5,q6,q7,q8,q9⟩⟩:=(hR.hr.blk i _ hl).Tc
      have hu:∃a',a.tmps.getD t undef=.slice a' n cap/\(cap=0\/a'=some ⟨b,o,none⟩)/\n<=xs.length:=by
        generalize a.tmps.getD t undef=u at hv
        cases hv with
        | sub _ _ _ sh2 t2 xs2 a1 a2 cap1 cap2 hl2 hh hn1 hc hc' ha =>
          rw[hl]at hl2;cases hl2;rw[q1]at hh;cases hh
          have hcc:cap2=cap:=by omega
          subst hcc;refine⟨a2,rfl,?_,by omega⟩
          rcases ha with h|h
          · exact .inl h
          · rcases q3 with h'|h'
            · exact .inl h'
            · exact .inr (by rw[h,h'];simp[Addr.add])
      obtain⟨a',hu,ha',hnx⟩:=hu;have OR:=ht;simp only[St.take,An,It]at OR;obtain⟨h1,e1,s,h2,rfl⟩:=OR;have Bc:look st.heap st.nid=none:=hR.fresh st.nid (X1 _)
      have hlen:(xs.take n).length=n:=by rw[X9];omega
      have hT:o5 st.heap (h1++aN st.nid [.arr sh ty (xs.take n)]) ([i],[i]) st.nid (.arr sh ty (xs.take n)):=
        Dx (T:=([i],[i])) (λk hk=>hk) e1 Bc (jY (T:=([i],[i])) (λk hk=>hk) e1)
      have hmm:mem i [i]=true:=by simp[mem]
      have hin:∀{i' j r},aB ty (xs.take n) i' j r->aB ty xs i' j r:=λ{i' j r} hx=>by
        obtain⟨x,hx1,hx2⟩:=hx;have hlt:=(Of.1 hx1).1;rw[hlen]at hlt;exact⟨x,by rw[Yh,if_pos hlt]at hx1;exact hx1,hx2⟩
      have hst:=kL (hdr:=a.tmps.getD t undef) (fp:=λp=>reg b o (cap*ty.sz) p\/∃i' j r,aB ty (xs.take n) i' j r/\fs i' j p) (dF.refl w) hR.hr hT (λk hk=>hk) (λk hk=>.inl hk) (.inl Bc) (λp u hp _=>⟨hp,rfl⟩)
        (λp hp=>hR.hr.nb p hp) (λp hp=>.inr ⟨i,_,hmm,hl,(q9 p).2 (hp.elim .inl λ⟨i',j,r,hx,hf⟩=>.inr ⟨i',j,r,hin hx,hf⟩)⟩) (λhk=>eL.oF ⟨a',cap,b,o,vs,fs,by simp[Pl.set,hu,hlen],by rw[hlen];omega,ha',q4,λi' j r hx=>q5 i' j r (hin hx),λi' j r hx=>by
          have hI:=q6 i' j r (hin hx)
          cases sh with
          |none=>exact hI
          | some d =>
            refine⟨hI.1.frame λp u hp hu=>hk.k2 d p u (λx hx=>?_) hp hu,hI.2⟩;have hmi:mem i d=false:=hmi;show mem x [i]=false;simp only[mem];cases hb:Nat.beq i x
            · rfl
            · have:=On hb;subst this
              rw[hmi]at hx;exact(nomatch hx),λi' j r p hx hf=>q7 i' j r p (hin hx) hf,λi' j r i2 j2 r2 p hx hx' hf hf'=>q8 _ _ _ _ _ _ p (hin hx) (hin hx') hf hf',λp=>by simp[Pl.set]⟩)
      have SD:=Rel.take hR ht (λk B hB=>by simp[look]at hB) hst (u:=a.tmps.getD t undef) (by
        have:=ar.own (w:=w) (H:=h1++aN st.nid [.arr sh ty (xs.take n)]) (pl:=pl.set st.nid (a.tmps.getD t undef) λp=>reg b o (cap*ty.sz) p\/∃i' j r,aB ty (xs.take n) i' j r/\fs i' j p) st.nid sh ty (xs.take n) hT.UW
        simpa[Pl.set]using this)
      rw[Act.Ro]at SD;exact⟨_,SD,hb,hn⟩
    · grind
  · grind
theorem Hi {w0:World} {fp0:G0} {bs:Cell->Prop} {m:Nat} {fn:Func} {rt:RT} {st st':St} {a:Act} {w:World} (h:Rl w0 fp0 bs m st a w) (ht:Lw fn rt st=some st'):Rl w0 fp0 bs m st' a w:=by
 unfold Lw at ht;split at ht
 ·exact DZ h ht
 ·exact DZ h ht
 ·grind
theorem Hj (ks:List KD) (v:SV) (gh:List (Option Nat)) (k:Nat) (h:k<gh.length):(Fm ks v gh)[k]? =gh[k]? :=by
 unfold Fm;grind
theorem Ph (ks:List KD) (v:SV) (gh:List (Option Nat)):gh.length<=(Fm ks v gh).length:=by
 unfold Fm;grind
theorem rD:∀(a b:List (Option Blk)) (n:Nat),qd n (a++b)=qd n a++qd (n+a.length) b
 |[],b,n=>rfl
 |none::a,b,n=>by
  rw[YY,qd,qd,rD a b (n+1),XI]
  congr 2;omega
 |some x::a,b,n=>by
  rw[YY,qd,qd,rD a b (n+1),XI,YY]
  congr 3;omega
theorem Hk {w:World} {pl:Pl} {ks:List KD} {v:SV} {st:St} {rt:RT} {o:lI} {u:Value} (hr:cY st.heap pl w) (h:Hf rt ks st v=some o) (hv:ar w st.heap pl v u):
  ∃plM:Pl,cY o.heap plM w/\ar w o.heap plM o.v u/\plM.base=pl.base/\o.kept.length=st.gh.length/\
   (∀(k:Nat) (B:Blk),o.kept[k]? =some (some B)->∃i B0,st.gh[k]? =some (some i)/\look st.heap i=some B0/\plM.hdr k=pl.hdr i/\B0.nt B)/\
   (∀k B p,look o.heap k=some B->plM.fp k p->∃i B0,look st.heap i=some B0/\pl.fp i p):=by
 simp only[Hf,An]at h;obtain⟨o1,h1,h2⟩:=h;obtain⟨plM,m1,m2,m3,m4,m5,m6⟩:=Hh (st:={st with gh:=Fm ks v st.gh}) hr h1 hv;have hal:=Ph ks v st.gh;have m4:o1.kept.length=(Fm ks v st.gh).length:=m4;unfold Lv at h2;split at h2
 ·rename_i hd;have h2:=YA h2;subst h2
  have hl:o1.kept.length<=st.gh.length:=by
   have:=congrArg List.length hd;simp at this;omega
  exact⟨plM,m1,m2,m3,by omega,λk B hB=>by
   obtain⟨i,B0,a1,a2⟩:=m5 k B hB;have hk:k<o1.kept.length:=(Of.1 hB).1;have a1:(Fm ks v st.gh)[k]? =some (some i):=a1;rw[Hj ks v st.gh k (by omega)]at a1
   exact⟨i,B0,a1,a2⟩,m6⟩
 ·rename_i b hd;have h2:=YA h2;subst h2
  have hlen:o1.kept.length=st.gh.length+1:=by
   have:=congrArg List.length hd;simp at this;omega
  have hk:o1.kept=o1.kept.take st.gh.length++[some b]:=by
   rw[<-hd,YN]
  have htl:(o1.kept.take st.gh.length).length=st.gh.length:=by simp;omega
  have TG:(lI.heap ⟨o1.v,o1.kept.take st.gh.length,b::o1.news⟩)=o1.heap:=by
   unfold lI.heap;show qd 0 (o1.kept.take st.gh.length)++aN (o1.kept.take st.gh.length).length (b::o1.news)=qd 0 o1.kept++aN o1.kept.length o1.news
   have e:qd 0 o1.kept=qd 0 (o1.kept.take st.gh.length)++qd (0+(o1.kept.take st.gh.length).length) [some b]:=by
    rw[<-rD,<-hk]
   rw[e,htl,hlen,XP,XN];rfl
  refine⟨plM,by rw[TG];exact m1,by rw[TG];exact m2,m3,htl,λk B hB=>?_,λk B p hB hf=>?_⟩
  ·have hB:(o1.kept.take st.gh.length)[k]? =some (some B):=hB
   have hkl:k<st.gh.length:=by have:=(Of.1 hB).1;omega
   rw[Yh,if_pos hkl]at hB;obtain⟨i,B0,a1,a2⟩:=m5 k B hB;have a1:(Fm ks v st.gh)[k]? =some (some i):=a1;rw[Hj ks v st.gh k hkl]at a1;grind
  ·rw[TG]at hB;exact m6 k B p hB hf
 ·cases h2
theorem Pj {ρ:Type} {E:Env} (hE:mM E) {LP:Nat->Ev ρ->Ev ρ} {g:FuncId} {fn:Func} {c:Code} {args:List SV} {bs:List Blk} {r:ρ} {dec:lI->Option ρ} {enc:ρ->lI} (hd:∀o r,dec o=some r->o=enc r)
  (hlen:(enc r).kept.length=bs.length) (hf:E.P.funcs[g]? =some fn) (hc:fn.body=some c)
  (hnm:(fn.name== "runtime.NumGoroutine")=false) (hn:Nat.ble args.length fn.ntmps=true) (hLP:jr E LP 0 c) {rt:RT} {ks:List KD} (h:ev E LP 0 c (NP fn args bs) (Pg E.P fn rt ks dec)=some r):Lo E.P g args bs (enc r):=by
 generalize ho:enc r=out at hlen;refine⟨enters_of hf (by rw[hc];rfl) hnm,hlen,λw us pl hrel0 hl tF hgl=>?_⟩;have hn:=XT hn;refine calls_of_wp hf hc ?_
 let g0:G0:=⟨λp=>∃k B,look (aN 0 bs) k=some B/\pl.fp k p,pl.hdr,λk=>bs.getD k (.box []),[]⟩
 have hrel:Rl w g0 pl.base fn.ntmps (NP fn args bs) {tmps:=us++Array.replicate (fn.ntmps-us.size) undef,defers:=[]} w:=by
  refine⟨pl,⟨hrel0,λt v hv=>?_,by simp[NP];omega,⟨rfl,hgl⟩,λi hi=>xh (by show 0+bs.length<=i;have hi:bs.length<=i:=hi;omega),dF.refl w,λp u hp hno=>⟨λi B hB hf=>hno ⟨i,B,hB,hf⟩,hp,rfl⟩,λk i hk=>?_⟩,rfl,rfl⟩
  ·simp only[NP]at hv;rw[JQ,if_pos (Ya _),Yt]at hv
   have ht:t<us.size:=by rw[<-hl];exact(Of.1 hv).1
   have hg:(us++Array.replicate (fn.ntmps-us.size) undef).getD t undef=us[t]:=by
    rw[X4,YO ht,XR ht];rfl
   rw[hg];exact tF t v _ hv (XR ht)
  ·obtain⟨rfl,h2⟩:=DY bs.length 0 k hk;rw[XN];refine⟨h2,λB hB=>⟨rfl,?_⟩⟩;have hB:look (aN 0 bs) k=some B:=hB;rw[bG,if_pos (Ya _),Yt]at hB;show(bs.getD k (.box [])).nt B;rw[Ys,hB];exact B.dB
 refine jt hE c 0 hLP w g0 pl.base fn.ntmps _ _ w _ r _ hrel h λe st' a' w' hK hr''=>?_
 have key:∀st',Rl w g0 pl.base fn.ntmps st' a' w'->∀v,SB E.P fn st'=some v->Hf rt ks st' v=some out->a'.defers=[]/\∃u,(results fn a'.tmps).run E.P w'=.ok u w'/\∃u' pl',Ending.returned u=.returned u'/\cY out.heap pl' w'/\ar w' out.heap pl' out.v u'/\pl'.base=pl.base/\dF w w'/\
   (∀(k:Nat) (B:Blk),out.kept[k]? =some (some B)->pl'.hdr k=pl.hdr k/\∃B0,bs[k]? =some B0/\B0.nt B)/\
   (∀p u,w.at? p=some u->(∀k B,look (aN 0 bs) k=some B->¬pl.fp k p)->(∀k B,look out.heap k=some B->¬pl'.fp k p)/\w'.at? p=some u/\w'.eK p=w.eK p):=λst' hr' v hv hcn=>by
  obtain⟨pl1,hr,hb,_⟩:=hr';obtain⟨u,hu,hvr⟩:=Li (P:=E.P) hr.hr hr.sl hv;obtain⟨plM,m1,m2,m3,m4,m5,m6⟩:=Hk hr.hr hcn hvr;refine⟨hr.df.1,u,hu,u,plM,rfl,m1,m2,m3.trans hb,hr.gr,λk B hB=>?_,λp u hp hno=>?_⟩
  ·obtain⟨i,B0,a1,a2,a3,a4⟩:=m5 k B hB;obtain⟨_,t2⟩:=hr.gk k i a1;obtain⟨t3,t4⟩:=t2 B0 a2
   have hk:k<bs.length:=by rw[<-hlen];exact(Of.1 hB).1
   refine⟨a3.trans t3,bs[k],So hk,?_⟩;have t4:(bs.getD k (.box [])).nt B0:=t4;rw[Ys,So hk]at t4;exact Blk.fo t4 a4
  ·obtain⟨f1,f2,f3⟩:=hr.fr p u hp λ⟨k,B,hB,hf⟩=>hno k B hB hf;grind
 cases e with
 |exit j=>cases hK
 |normal=>
  simp only[Pg,An]at hK;obtain⟨st2,hst2,v,hv,o,hcn,Tz⟩:=hK
  exact key st2 (Hi hr'' hst2) v hv (hcn.trans (congrArg some ((hd o r Tz).trans ho)))
 |ret=>
  simp only[Pg,An]at hK;obtain⟨st2,hst2,v,hv,o,hcn,Tz⟩:=hK;exact key st2 (Hi hr'' hst2) v hv (hcn.trans (congrArg some ((hd o r Tz).trans ho)))
end
end Go.Proofs.Ev
