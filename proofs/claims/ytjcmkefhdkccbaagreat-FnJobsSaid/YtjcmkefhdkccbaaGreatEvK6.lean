/- The evaluator over the model's code, and that it is sound: part 6. -/
import Derived.Test.YtjcmkefhdkccbaaGreatEvK5
set_option linter.unusedVariables false
set_option linter.unusedSimpArgs false
namespace Go.Proofs.Ev
variable [Tok]
set_option linter.unusedSectionVars false
def Dk (L:List Nat):List Nat→List Nat
  |[]=>[]
  | i :: l => match placeOf i L 0 with
    |some k=>k::Dk L l
    |none=>Dk L l
mutual
def SV.ren (L:List Nat):SV→Option SV
  |.r d x=>some (.r (Dk L d) x)
  |.bn=>some .bn
  |.j7=>some .j7
  |.own i=>(placeOf i L 0).bind fun k=>some (.own k)
  |.sub i o n=>(placeOf i L 0).bind fun k=>some (.sub k o n)
  |.bsl i n=>(placeOf i L 0).bind fun k=>some (.bsl k n)
  |.ptr i x o=>(placeOf i L 0).bind fun k=>some (.ptr k x o)
  |.inn _ _ _=>none
  |.fU d cs=>some (.fU (Dk L d) cs)
  |.agg cs=>(vM L cs).bind fun l=>some (.agg l)
  |.tup cs=>(vM L cs).bind fun l=>some (.tup l)
  |.fn f a b=>(vM L a).bind fun a=>(vM L b).bind fun b=>some (.fn f a b)
  |.undef=>some .undef
def vM (L:List Nat):List SV→Option (List SV)
  |[]=>some []
  |v::l=>(v.ren L).bind fun v=>(vM L l).bind fun l=>some (v::l)
end
def Blk.ren (L:List Nat):Blk→Option Blk
  |.box cs=>(vM L cs).bind fun l=>some (.box l)
  |.arr none t xs=>some (.arr none t xs)
  |.arr (some d) t xs=>some (.arr (some (Dk L d)) t xs)
def jC (h:aD) (L:List Nat):List Nat→Option (List Blk)
  |[]=>some []
  |i::l=>(look h i).bind fun b=>(b.ren L).bind fun b=>(jC h L l).bind fun l=>some (b::l)
def getAll (s:List (Nat× SV)):List Nat→Option (List SV)
  |[]=>some []
  |t::l=>(look s t).bind fun v=>(getAll s l).bind fun vs=>some (v::vs)
abbrev NF:=List SV× List Blk× List (Option Nat)
def BH (h:aD):List (Option Nat)→List Nat
  |[]=>[]
  |none::l=>BH h l
  | some i :: l => match look h i with
    |some _=>i::BH h l
    |none=>BH h l
def s8 (L:List Nat):List (Option Nat)→List (Option Nat)
  |[]=>[]
  |none::l=>none::s8 L l
  |some i::l=>placeOf i L 0::s8 L l
def norm (cP:List Nat) (st:St):Option NF:=
  (getAll st.au cP).bind fun vs=>
    let L:=reach st.heap 3 (j8 (j8 [] (Aq vs)) (BH st.heap st.gh))
    cond (nodup L) ((vM L vs).bind fun vs'=>(jC st.heap L L).bind fun bs=>some (vs',bs,s8 L st.gh)) none
def Fc:List Nat→List SV→List (Nat× SV)
  |t::l,v::vs=>(t,v)::Fc l vs
  |_,_=>[]
def ak (cP:List Nat) (n:Nat) (nf:NF):St:={au:=Fc cP nf.1,heap:=aI 0 nf.2.1,nid:=nf.2.1.length,n:=n,gh:=nf.2.2}
theorem jD {L:List Nat}:{cs l:List SV}→vM L cs=some l→l.length=cs.length
  |[],l,h=>by cases h;rfl
  | v :: cs, l, h => by
    simp only[vM,Option.bind_eq_some_iff,Option.some.injEq]at h
    obtain⟨v',hv,l',hl',rfl⟩:=h
    simp[jD hl']
section
variable {w:World} {H:aD} {pl:Pl} {L:List Nat} {bs:List Blk}
theorem oI {i:Nat}:∀{L:List Nat} {n:Nat},placeOf i L n=none→i∉L
  |[],_,_=>fun h=>nomatch h
  | j :: l, n, h => by
    simp only[placeOf]at h
    cases hj:Nat.beq j i<;>simp only[hj,cond_true,cond_false]at h
    · intro hm
      rcases List.mem_cons.1 hm with rfl|hm
      · simp at hj
      · exact oI h hm
    · exact nomatch h
theorem dv {h:aD} {L:List Nat}:∀{l:List Nat} {bs:List Blk},jC h L l=some bs→bs.length=l.length∧
    (∀(k:Nat) (b:Blk),bs[k]? =some b→∃i b0,l[k]? =some i∧look h i=some b0∧b0.ren L=some b)
  |[],bs,e=>by cases e;exact⟨rfl,fun k b hb=>by simp at hb⟩
  | i :: l, bs, e => by
    simp only[jC,Option.bind_eq_some_iff,Option.some.injEq]at e
    obtain⟨b0,h1,b,h2,l',h3,rfl⟩:=e
    obtain⟨g1,g2⟩:=dv h3
    refine⟨by simp[g1],fun k b' hb=>?_⟩
    cases k with
    |zero=>simp at hb;subst hb;exact⟨i,b0,rfl,h1,h2⟩
    |succ k=>simpa using g2 k b' (by simpa using hb)
theorem iy (hL:jC H L L=some bs) {i k:Nat} (hk:placeOf i L 0=some k) {B:Blk} (hB:look H i=some B):
    L.getD k 0=i∧∃B',look (aI 0 bs) k=some B'∧B.ren L=some B':=by
  obtain⟨_,h2⟩:=fM hk
  rw[Nat.sub_zero]at h2
  have hlt:k<bs.length:=by rw[(dv hL).1];exact(List.getElem?_eq_some_iff.1 h2).1
  obtain⟨i',b0,e1,e2,e3⟩:=(dv hL).2 k _ (List.getElem?_eq_getElem hlt)
  rw[h2]at e1;cases e1
  rw[hB]at e2;cases e2
  exact⟨by simp[List.getD,h2],_,by rw[aW,if_pos (Nat.zero_le _),Nat.sub_zero];exact List.getElem?_eq_getElem hlt,e3⟩
theorem dw (hL:jC H L L=some bs) {k:Nat} {B:Blk} (hB:look (aI 0 bs) k=some B):∃i b0,L[k]? =some i∧L.getD k 0=i∧look H i=some b0∧b0.ren L=some B:=by
  rw[aW,if_pos (Nat.zero_le _),Nat.sub_zero]at hB
  obtain⟨i,b0,h1,h2,h3⟩:=(dv hL).2 k B hB
  exact⟨i,b0,h1,by simp[List.getD,h1],h2,h3⟩
theorem iz {L:List Nat} (hn:L.Nodup) {k i:Nat} (h:L[k]? =some i):placeOf i L 0=some k:=by
  cases hp:placeOf i L 0 with
  |none=>exact(oI hp (List.mem_of_getElem? h)).elim
  | some k' =>
    obtain⟨_,h2⟩:=fM hp
    rw[Nat.sub_zero]at h2
    have hlt:=(List.getElem?_eq_some_iff.1 h).1
    rw[(List.getElem?_inj hlt hn).1 (h.trans h2.symm)]
theorem yD {L d:List Nat} {k i:Nat} (h:placeOf i L 0=some k) (hd:mem i d=true):mem k (Dk L d)=true:=by
  induction d with
  |nil=>exact nomatch hd
  | cons j l ih =>
    simp only[Dk]
    simp only[mem]at hd
    cases hj:Nat.beq j i<;>simp only[hj,cond_true,cond_false]at hd
    · cases placeOf j L 0 with
      |none=>exact ih hd
      |some m=>simp only[mem];cases Nat.beq m k<;>simp[ih hd]
    · have:j=i:=Nat.eq_of_beq_eq_true hj
      subst this
      simp only[h,mem]
      simp
theorem Blk.BI {b b':Blk} (h:b.ren L=some b'):b'.gE=b.gE:=by
  cases b with
  |box cs=>simp only[Blk.ren,Option.bind_eq_some_iff,Option.some.injEq]at h;obtain⟨_,_,rfl⟩:=h;rfl
  |arr sh t xs=>cases sh<;>(cases h;rfl)
theorem s9 (hn:nodup L=true) (hL:jC H L L=some bs) {d:List Nat} {p:Cell} (h:okd H pl d p):okd (aI 0 bs) (pl.out L) (Dk L d) p:=by
  refine⟨h.1,fun k B hB hm hf=>?_⟩
  obtain⟨i,b0,h1,hi,h2,h3⟩:=dw hL hB
  simp only[Pl.out,hi]at hf
  refine h.2 i b0 h2 (fun hd=>?_) hf
  rw[←Blk.BI h3]
  exact hm (yD (iz (cY hn) h1) hd)
mutual
theorem wR (hn:nodup L=true) (hL:jC H L L=some bs):(v:SV)→{v':SV}→{u:Value}→v.ren L=some v'→aj w H pl v u→aj w (aI 0 bs) (pl.out L) v' u
  | .r d x, v', u, h, hv => by
    cases h
    cases hv with
    |r _ _ _ hx=>exact .r _ _ _ (hx.frame fun p u hp hu=>⟨s9 hn hL hp,hu⟩)
  |.bn,v',u,h,hv=>by cases h;cases hv;exact .bn
  |.j7,v',u,h,hv=>by cases h;cases hv;exact .j7
  | .own i, v', u, h, hv => by
    simp only[SV.ren,Option.bind_eq_some_iff,Option.some.injEq]at h
    obtain⟨k,hk,rfl⟩:=h
    cases hv with
    | own _ sh t xs hl =>
      obtain⟨hi,B',g1,g2⟩:=iy hL hk hl
      have e:(pl.out L).hdr k=pl.hdr i:=by simp only[Pl.out,hi]
      rw[←e]
      cases sh with
      |none=>cases g2;exact .own k none t xs g1
      |some d=>cases g2;exact .own k _ t xs g1
  | .sub i o n, v', u, h, hv => by
    simp only[SV.ren,Option.bind_eq_some_iff,Option.some.injEq]at h
    obtain⟨k,hk,rfl⟩:=h
    cases hv with
    | sub _ _ _ sh t xs a a' cap cap' hl hh h1 h2 h3 h4 =>
      obtain⟨hi,B',g1,g2⟩:=iy hL hk hl
      have e:(pl.out L).hdr k=pl.hdr i:=by simp only[Pl.out,hi]
      cases sh with
      |none=>cases g2;exact .sub k o n none t xs a a' cap cap' g1 (e.trans hh) h1 h2 h3 h4
      |some d=>cases g2;exact .sub k o n _ t xs a a' cap cap' g1 (e.trans hh) h1 h2 h3 h4
  | .bsl i n, v', u, h, hv => by
    simp only[SV.ren,Option.bind_eq_some_iff,Option.some.injEq]at h
    obtain⟨k,hk,rfl⟩:=h
    cases hv with
    | bsl _ _ cs a hl hh =>
      obtain⟨hi,B',g1,g2⟩:=iy hL hk hl
      have e:(pl.out L).hdr k=pl.hdr i:=by simp only[Pl.out,hi]
      simp only[Blk.ren,Option.bind_eq_some_iff,Option.some.injEq]at g2
      obtain⟨l,hl',rfl⟩:=g2
      exact .bsl k n l a g1 (e.trans hh)
  | .ptr i x o, v', u, h, hv => by
    simp only[SV.ren,Option.bind_eq_some_iff,Option.some.injEq]at h
    obtain⟨k,hk,rfl⟩:=h
    cases hv with
    | nB _ _ cs b m hl hh =>
      obtain⟨hi,B',g1,g2⟩:=iy hL hk hl
      have e:(pl.out L).hdr k=pl.hdr i:=by simp only[Pl.out,hi]
      simp only[Blk.ren,Option.bind_eq_some_iff,Option.some.injEq]at g2
      obtain⟨l,hl',rfl⟩:=g2
      exact .nB k o l b m g1 (e.trans hh)
    | mi _ _ _ sh t xs b m n cap hl hx hh =>
      obtain⟨hi,B',g1,g2⟩:=iy hL hk hl
      have e:(pl.out L).hdr k=pl.hdr i:=by simp only[Pl.out,hi]
      cases sh with
      |none=>cases g2;exact .mi k x o none t xs b m n cap g1 hx (e.trans hh)
      |some d=>cases g2;exact .mi k x o _ t xs b m n cap g1 hx (e.trans hh)
  |.inn _ _ _,v',u,h,hv=>by cases h
  | .fU d cs, v', u, h, hv => by
    cases h
    cases hv with
    |fU _ _ b o vs h1 h2=>exact .fU _ _ b o vs (fun j r hj=>⟨s9 hn hL (h1 j r hj).1,(h1 j r hj).2⟩) fun j r hj=>(h2 j r hj).frame fun p u hp hu=>⟨s9 hn hL hp,hu⟩
  | .agg cs, v', u, h, hv => by
    simp only[SV.ren,Option.bind_eq_some_iff,Option.some.injEq]at h
    obtain⟨l,hl,rfl⟩:=h
    cases hv with
    | agg _ vs h1 h2 h3 =>
      obtain⟨g1,g2⟩:=mJ hn hL cs hl vs.toList (by simpa using h1) fun j x u hx hu=>h3 j x u hx (by simpa using hu)
      exact .agg _ _ (by simpa using g1) h2 fun j x u hx hu=>g2 j x u hx (by simpa using hu)
  | .tup cs, v', u, h, hv => by
    simp only[SV.ren,Option.bind_eq_some_iff,Option.some.injEq]at h
    obtain⟨l,hl,rfl⟩:=h
    cases hv with
    | tup _ vs h1 h3 =>
      obtain⟨g1,g2⟩:=mJ hn hL cs hl vs.toList (by simpa using h1) fun j x u hx hu=>h3 j x u hx (by simpa using hu)
      exact .tup _ _ (by simpa using g1) fun j x u hx hu=>g2 j x u hx (by simpa using hu)
  | .fn f as bs', v', u, h, hv => by
    simp only[SV.ren,Option.bind_eq_some_iff,Option.some.injEq]at h
    obtain⟨l,hl,l',hl',rfl⟩:=h
    cases hv with
    | fn _ _ _ us vs h1 h3 h1' h3' =>
      obtain⟨g1,g2⟩:=mJ hn hL as hl us.toList (by simpa using h1) fun j x u hx hu=>h3 j x u hx (by simpa using hu)
      obtain⟨g3,g4⟩:=mJ hn hL bs' hl' vs.toList (by simpa using h1') fun j x u hx hu=>h3' j x u hx (by simpa using hu)
      exact .fn _ _ _ _ _ (by simpa using g1) (fun j x u hx hu=>g2 j x u hx (by simpa using hu)) (by simpa using g3) fun j x u hx hu=>g4 j x u hx (by simpa using hu)
  |.undef,v',u,h,hv=>by cases h;exact .undef _
theorem mJ (hn:nodup L=true) (hL:jC H L L=some bs):(cs:List SV)→{l:List SV}→vM L cs=some l→(us:List Value)→cs.length=us.length→
    (∀(j:Nat) (x:SV) (u:Value),cs[j]? =some x→us[j]? =some u→aj w H pl x u)→
    l.length=us.length∧∀(j:Nat) (x:SV) (u:Value),l[j]? =some x→us[j]? =some u→aj w (aI 0 bs) (pl.out L) x u
  |[],l,h,us,hl,_=>by cases h;exact⟨hl,fun j x u hx _=>by simp at hx⟩
  | v :: cs, l, h, u :: us, hl, hp => by
    simp only[vM,Option.bind_eq_some_iff,Option.some.injEq]at h
    obtain⟨v',hv,l',hl',rfl⟩:=h
    obtain⟨g1,g2⟩:=mJ hn hL cs hl' us (by simpa using hl) fun j x u hx hu=>hp (j+1) x u (by simpa using hx) (by simpa using hu)
    refine⟨by simp[g1],fun j x u' hx hu=>?_⟩
    cases j with
    |zero=>simp at hx hu;subst hx hu;exact wR hn hL v hv (hp 0 v u rfl rfl)
    |succ j=>exact g2 j x u' (by simpa using hx) (by simpa using hu)
end
theorem ta {cs l:List SV} (h:vM L cs=some l):∀(j:Nat) (x:SV),l[j]? =some x→∃y,cs[j]? =some y∧y.ren L=some x:=by
  induction cs generalizing l with
  |nil=>cases h;intro j x hx;simp at hx
  | cons v cs ih =>
    simp only[vM,Option.bind_eq_some_iff,Option.some.injEq]at h
    obtain⟨v',hv,l',hl',rfl⟩:=h
    intro j x hx
    cases j with
    |zero=>simp at hx;subst hx;exact⟨v,rfl,hv⟩
    |succ j=>simpa using ih hl' j x (by simpa using hx)
theorem Dl (hr:bH H pl w) (hn:nodup L=true) (hL:jC H L L=some bs):bH (aI 0 bs) (pl.out L) w:=by
  refine⟨fun k B hB=>?_,fun k k' B B' p h1 h2 f1 f2=>?_,fun k B p hB hf=>?_,hr.nb⟩
  · obtain⟨i,b0,h1,hi,h2,h3⟩:=dw hL hB
    have hb:=hr.blk i b0 h2
    have eh:(pl.out L).hdr k=pl.hdr i:=by simp only[Pl.out,hi]
    have ef:(pl.out L).fp k=pl.fp i:=by simp only[Pl.out,hi]
    cases b0 with
    | box cs =>
      simp only[Blk.ren,Option.bind_eq_some_iff,Option.some.injEq]at h3
      obtain⟨l,hl,rfl⟩:=h3
      obtain⟨b,o,q1,q2,q3⟩:=hb
      refine⟨b,o,eh.trans q1,fun p=>by rw[ef,q2,jD hl],fun j v hv=>?_⟩
      obtain⟨y,hy,hy2⟩:=ta hl j v hv
      obtain⟨u,g1,g2,g3,g4⟩:=q3 j y hy
      exact⟨u,g1,g2,g3,wR hn hL y hy2 g4⟩
    | arr sh t xs =>
      cases sh with
      | none =>
        cases h3
        show Nonempty (Row w (dc w) t xs ((pl.out L).hdr k) ((pl.out L).fp k))
        rw[eh,ef];exact hb
      | some d =>
        cases h3
        obtain⟨⟨a,cap,b,o,vs,fs,q1,q2,q3,q4,q5,q6,q7,q8,q9⟩⟩:=hb
        exact⟨⟨a,cap,b,o,vs,fs,eh.trans q1,q2,q3,q4,q5,fun i j r hc=>⟨(q6 i j r hc).1.frame fun p u hp hu=>⟨s9 hn hL hp,hu⟩,(q6 i j r hc).2⟩,q7,q8,fun p=>by rw[ef];exact q9 p⟩⟩
  · obtain⟨i,b0,g1,hi,g2,g3⟩:=dw hL h1
    obtain⟨i',b0',g1',hi',g2',g3'⟩:=dw hL h2
    simp only[Pl.out,hi]at f1
    simp only[Pl.out,hi']at f2
    have:=hr.dis i i' b0 b0' p g2 g2' f1 f2
    subst this
    exact(List.getElem?_inj (List.getElem?_eq_some_iff.1 g1).1 (cY hn)).1 (g1.trans g1'.symm)
  · obtain⟨i,b0,g1,hi,g2,g3⟩:=dw hL hB
    simp only[Pl.out,hi]at hf
    exact hr.ob i b0 p g2 hf
theorem rN {s:List (Nat× SV)}:∀{l:List Nat} {vs:List SV},getAll s l=some vs→vs.length=l.length∧∀(j t:Nat),l[j]? =some t→∃v,vs[j]? =some v∧look s t=some v
  |[],vs,h=>by cases h;exact⟨rfl,fun j t ht=>by simp at ht⟩
  | t :: l, vs, h => by
    simp only[getAll,Option.bind_eq_some_iff,Option.some.injEq]at h
    obtain⟨v,hv,vs',hvs,rfl⟩:=h
    obtain⟨g1,g2⟩:=rN hvs
    refine⟨by simp[g1],fun j t' ht=>?_⟩
    cases j with
    |zero=>simp at ht;subst ht;exact⟨v,rfl,hv⟩
    |succ j=>simpa using g2 j t' (by simpa using ht)
theorem uM:∀{l:List Nat} {vs:List SV} {t:Nat} {v:SV},look (Fc l vs) t=some v→∃j:Nat,l[j]? =some t∧vs[j]? =some v
  |[],_,t,v,h=>by simp[Fc,look]at h
  |_::_,[],t,v,h=>by simp[Fc,look]at h
  | k :: l, x :: vs, t, v, h => by
    rw[Fc,aq]at h
    by_cases e:k=t
    · rw[if_pos e]at h;cases h;exact⟨0,by simp[e],rfl⟩
    · rw[if_neg e]at h
      obtain⟨j,h1,h2⟩:=uM h
      exact⟨j+1,by simpa using h1,by simpa using h2⟩
end
theorem Blk.tb {L:List Nat} {b b':Blk} (h:b.ren L=some b'):b.gQ b':=by
  cases b with
  | box cs =>
    simp only[Blk.ren,Option.bind_eq_some_iff,Option.some.injEq]at h
    obtain⟨l,h1,rfl⟩:=h
    exact(jD h1).symm
  |arr sh t xs=>cases sh<;>(cases h;exact⟨rfl,rfl⟩)
theorem qe {L:List Nat}:∀{gh:List (Option Nat)} {k i:Nat},(s8 L gh)[k]? =some (some i)→∃j,gh[k]? =some (some j)∧placeOf j L 0=some i
  |[],k,i,h=>by simp[s8]at h
  | none :: l, k, i, h => by
    cases k with
    |zero=>simp[s8]at h
    |succ k=>simpa using qe (gh:=l) (by simpa[s8]using h)
  | some j :: l, k, i, h => by
    cases k with
    |zero=>simp[s8]at h;exact⟨j,rfl,h⟩
    |succ k=>simpa using qe (gh:=l) (by simpa[s8]using h)
theorem wS {w0:World} {fp0:G0} {bs:Cell→Prop} {n:Nat} {cP:List Nat} {st:St} {nf:NF} {a:Act} {w:World} (h:Rl w0 fp0 bs n st a w) (hn:norm cP st=some nf):
    Rl w0 fp0 bs n (ak cP n nf) a w:=by
  obtain⟨pl,hr,hb,hnn⟩:=h
  simp only[norm,Option.bind_eq_some_iff]at hn
  obtain⟨vs,hvs,hn⟩:=hn
  generalize reach st.heap 3 (j8 (j8 [] (Aq vs)) (BH st.heap st.gh))=L at hn
  cases hnd:nodup L<;>simp only[hnd,cond_true,cond_false,Option.bind_eq_some_iff,Option.some.injEq]at hn
  · exact nomatch hn
  · obtain⟨vs',hvs',bs',hbs,rfl⟩:=hn
    refine⟨pl.out L,⟨Dl hr.hr hnd hbs,fun t v hv=>?_,hr.sz.trans hnn,hr.df,fun i hi=>?_,hr.gr,fun p u hp hno=>?_,fun k i hk=>?_⟩,hb,rfl⟩
    · obtain⟨j,h1,h2⟩:=uM hv
      obtain⟨x,h3,h4⟩:=(rN hvs).2 j t h1
      obtain⟨y,h5,h6⟩:=ta hvs' j v h2
      rw[h3]at h5;cases h5
      exact wR hnd hbs x h6 (hr.sl t x h4)
    · show look (aI 0 bs') i=none
      rw[aW,if_pos (Nat.zero_le _),Nat.sub_zero]
      exact List.getElem?_eq_none hi
    · obtain⟨g1,g2,g3⟩:=hr.fr p u hp hno
      refine⟨fun k B hB hf=>?_,g2,g3⟩
      obtain⟨i,b0,_,hi,e2,_⟩:=dw hbs hB
      simp only[Pl.out,hi]at hf
      exact g1 i b0 e2 hf
    · obtain⟨j,h1,h2⟩:=qe hk
      obtain⟨q1,q2⟩:=hr.gk k j h1
      obtain⟨p1,p2⟩:=fM h2
      rw[Nat.sub_zero]at p2
      have hlt:i<bs'.length:=by rw[(dv hbs).1];exact(List.getElem?_eq_some_iff.1 p2).1
      refine⟨hlt,fun B hB=>?_⟩
      obtain⟨i',b0,g1,g2,g3,g4⟩:=dw hbs hB
      rw[p2]at g1;cases g1
      obtain⟨r1,r2⟩:=q2 b0 g3
      exact⟨by simp only[Pl.out,g2];exact r1,Blk.cG r2 (Blk.tb g4)⟩
def aS (cP:List Nat) (co:List (aM× Co)) (st:St):Option NF:=
  match co with
  |[]=>norm cP st
  |_=>(norm cP st).bind fun nf=>norm cP (AJ co (ak cP st.n nf))
theorem pf {w0:World} {fp0:G0} {bs:Cell→Prop} {n:Nat} {cP:List Nat} {co:List (aM× Co)} {st:St} {nf:NF} {a:Act} {w:World} (h:Rl w0 fp0 bs n st a w) (hn:aS cP co st=some nf):
    Rl w0 fp0 bs n (ak cP n nf) a w:=by
  unfold aS at hn
  split at hn
  · exact wS h hn
  · simp only[Option.bind_eq_some_iff]at hn
    obtain⟨nf1,h1,h2⟩:=hn
    obtain⟨_,_,_,hnn⟩:=id h
    rw[hnn]at h2
    have:=pe co (wS h h1)
    exact wS this h2
section
variable {ρ:Type}
def BJ (body:Ev ρ) (cP:List Nat) (co:List (aM× Co)) (kx:Ex→List Nat) (cx:Ex→List (aM× Co)):Nat→Ev ρ
  |0,_,_=>none
  | k + 1, st, K => body st fun e st' => match e with
    |.normal=>(aS cP co st').bind fun nf=>BJ body cP co kx cx k (ak cP st'.n nf) K
    |e=>(aS (kx e) (cx e) st').bind fun nf=>K e (ak (kx e) st'.n nf)
theorem Rl.Gw {w0:World} {fp0:G0} {bs:Cell→Prop} {n:Nat} {st:St} {a:Act} {w:World} (h:Rl w0 fp0 bs n st a w):st.n=n:=by
  obtain⟨_,_,_,h⟩:=h;exact h
theorem wT {P:Program} {c:Code} {f:Ev ρ} (hf:Sound P c f) (cP:List Nat) (co:List (aM× Co)) (kx:Ex→List Nat) (cx:Ex→List (aM× Co)) (k:Nat):Sound P (.loop c) (BJ f cP co kx cx k):=by
  intro w0 fp0 bs n st a w K out Q hr h hK
  refine wp_loop_rounds k ?_
  induction k generalizing st a w with
  |zero=>exact nomatch h
  | succ k ih =>
    rw[rounds_succ]
    exact hf w0 fp0 bs n st a w _ out _ hr h fun e st' a' w' h' hr'=>by
      have hn:=hr'.Gw
      cases e with
      | normal =>
        simp only[Option.bind_eq_some_iff]at h'
        obtain⟨nf,h1,h2⟩:=h'
        rw[hn]at h2
        exact ih _ a' w' (pf hr' h1) h2
      | exit j =>
        simp only[Option.bind_eq_some_iff]at h'
        obtain⟨nf,h1,h2⟩:=h'
        rw[hn]at h2
        exact hK (.exit j) _ a' w' h2 (pf hr' h1)
      | ret =>
        simp only[Option.bind_eq_some_iff]at h'
        obtain⟨nf,h1,h2⟩:=h'
        rw[hn]at h2
        exact hK .ret _ a' w' h2 (pf hr' h1)
def bej {α β:Type} (f:α→β) (k:α):β:=f k
def iter {V R:Type} (g:V→(V→Option R)→Option R):Nat→V→Option R
  |0,_=>none
  |k+1,v=>g v (iter g k)
def aT {V:Type} (cP:List Nat) (co:List (aM× Co)) (dec:Nat→NF→Option V) (run:V→(Ex→St→Option ρ)→Option ρ):Ev ρ:=fun st K=>
  (aS cP co st).bind fun nf=>(dec st.n nf).bind fun v=>run v K
theorem tc {P:Program} {c:Code} {f:Ev ρ} {V:Type} (hf:Sound P c f) {cP:List Nat} {co:List (aM× Co)} (kx:Ex→List Nat) (cx:Ex→List (aM× Co)) {dec:Nat→NF→Option V} {run:V→(Ex→St→Option ρ)→Option ρ}
    {tm:V→St} (k:Nat) (hd:∀n nf v,dec n nf=some v→ak cP n nf=tm v)
    (hrun:∀v K,run v K=BJ f cP co kx cx k (tm v) K):Sound P (.loop c) (aT cP co dec run):=by
  intro w0 fp0 bs n st a w K out Q hr h hK
  simp only[aT,Option.bind_eq_some_iff]at h
  obtain⟨nf,h1,v,h2,h3⟩:=h
  have hn:=hr.Gw
  rw[hn]at h2
  rw[hrun v K,←hd n nf v h2]at h3
  exact wT hf cP co kx cx k w0 fp0 bs n _ a w K out Q (pf hr h1) h3 hK
theorem rO {V:Type} {f:Ev ρ} {cP:List Nat} {co:List (aM× Co)} {kx:Ex→List Nat} {cx:Ex→List (aM× Co)} {tm:V→St} {g:V→(V→Option ρ)→(Ex→St→Option ρ)→Option ρ}
    (hg:∀(v:V) (K K1:Ex→St→Option ρ) (next:V→Option ρ),(∀v',(K1 .normal (tm v'))=next v')→
      f (tm v) (fun e st'=>match e with
        |.normal=>(aS cP co st').bind fun nf=>K1 .normal (ak cP st'.n nf)
        |e=>(aS (kx e) (cx e) st').bind fun nf=>K e (ak (kx e) st'.n nf))=g v next K) (K:Ex→St→Option ρ):
    ∀(k:Nat) (v:V),BJ f cP co kx cx k (tm v) K=iter (fun v next=>g v next K) k v
  |0,v=>rfl
  | k + 1, v => by
    show f (tm v) _=g v (iter (fun v next=>g v next K) k) K
    exact hg v K (fun _ st=>BJ f cP co kx cx k st K) _ fun v'=>rO hg K k v'
end
end Go.Proofs.Ev
set_option linter.unusedVariables false
set_option linter.unusedSimpArgs false
namespace Go.Proofs.Ev
variable [Tok]
set_option linter.unusedSectionVars false
structure lI where
  v:SV
  kept:List (Option Blk)
  news:List Blk
def jE:Nat→List (Option Blk)→aD
  |_,[]=>[]
  |n,none::l=>jE (n+1) l
  |n,some b::l=>(n,b)::jE (n+1) l
def lI.heap (o:lI):aD:=jE 0 o.kept++aI o.kept.length o.news
theorem lf:∀(l:List (Option Blk)) (n i:Nat),look (jE n l) i=if n≤i then(l[i-n]?).bind id else none
  |[],n,i=>by simp[jE,look]
  | none :: l, n, i => by
    rw[jE,lf l (n+1) i]
    by_cases c:n+1≤i
    · rw[if_pos c,if_pos (by omega),show i-n=(i-(n+1))+1 from by omega];rfl
    · rw[if_neg c]
      by_cases c2:n≤i
      · rw[if_pos c2,show i-n=0 from by omega];rfl
      · rw[if_neg c2]
  | some b :: l, n, i => by
    rw[jE,aq,lf l (n+1) i]
    by_cases c0:n=i
    · subst c0;simp
    · rw[if_neg c0]
      by_cases c:n+1≤i
      · rw[if_pos c,if_pos (by omega),show i-n=(i-(n+1))+1 from by omega];rfl
      · rw[if_neg c,if_neg (by omega)]
theorem lI.pg (o:lI) {k:Nat} (h:k<o.kept.length):look o.heap k=(o.kept[k]?).bind id:=by
  rw[lI.heap,az,lf,if_pos (Nat.zero_le _),Nat.sub_zero,aW,if_neg (by omega),Option.or_none]
theorem lI.mK (o:lI) {k:Nat} (h:o.kept.length≤k):look o.heap k=o.news[k-o.kept.length]? :=by
  rw[lI.heap,az,lf,if_pos (Nat.zero_le _),Nat.sub_zero,aW,if_pos h,List.getElem?_eq_none h];rfl
def yE (P:Program) (g:FuncId) (args:List SV) (bs:List Blk) (o:lI):Prop:=
  xR P g∧o.kept.length=bs.length∧∀(w:World) (us:Array Value) (pl:Pl),bH (aI 0 bs) pl w→args.length=us.size→
    (∀(j:Nat) (x:SV) (u:Value),args[j]? =some x→us[j]? =some u→aj w (aI 0 bs) pl x u)→
    Calls P g us w fun e w'=>∃u pl',e=.returned u∧bH o.heap pl' w'∧aj w' o.heap pl' o.v u∧pl'.base=pl.base∧b9 w w'∧
      (∀(k:Nat) (B:Blk),o.kept[k]? =some (some B)→pl'.hdr k=pl.hdr k∧∃B0,bs[k]? =some B0∧B0.gQ B)∧
      (∀p u,w.at? p=some u→(∀k B,look (aI 0 bs) k=some B→¬pl.fp k p)→(∀k B,look o.heap k=some B→¬pl'.fp k p)∧w'.at? p=some u∧w'.cD p=w.cD p)
abbrev MG:=(ρ:Type)→List SV→List Blk→(lI→Option ρ)→Option ρ
def EK (P:Program) (g:FuncId) (G:MG):Prop:=
  ∀(ρ:Type) args bs (K:lI→Option ρ) (out:ρ),G ρ args bs K=some out→∃o,K o=some out∧yE P g args bs o
def qS (f:Blk→Blk):List Nat→List (Option Blk)→aD
  |i::L,some b::l=>(i,f b)::qS f L l
  |_::L,none::l=>qS f L l
  |_,_=>[]
def gK:List Nat→List (Option Blk)→List Nat
  |_::L,some _::l=>gK L l
  |i::L,none::l=>i::gK L l
  |_,_=>[]
def hC:List Nat→List (Option Blk)→List Nat
  |i::L,some (.arr _ _ _)::l=>i::hC L l
  |_::L,some (.box _)::l=>hC L l
  |_::L,none::l=>hC L l
  |_,_=>[]
def bk (L:List Nat) (nid m k:Nat):Nat:=cond (Nat.ble (k+1) m) (L.getD k 0) (nid+(k-m))
def bkL (L:List Nat) (nid m:Nat):List Nat→List Nat
  |[]=>[]
  |k::l=>bk L nid m k::bkL L nid m l
mutual
def SV.back (L:List Nat) (nid m:Nat) (D:List Nat):SV→SV
  |.r d x=>mkR (bkL L nid m d++D) x
  |.bn=>.bn
  |.j7=>.j7
  |.own k=>.own (bk L nid m k)
  |.ptr k 0 o=>.ptr (bk L nid m k) 0 o
  |.agg cs=>.agg (j5 L nid m D cs)
  |.tup cs=>.tup (j5 L nid m D cs)
  |.fn f a b=>.fn f (j5 L nid m D a) (j5 L nid m D b)
  |_=>.undef
def j5 (L:List Nat) (nid m:Nat) (D:List Nat):List SV→List SV
  |[]=>[]
  |v::l=>v.back L nid m D::j5 L nid m D l
end
def Blk.back (L:List Nat) (nid m:Nat) (D:List Nat):Blk→Blk
  |.box cs=>.box (j5 L nid m D cs)
  |.arr none t xs=>.arr none t xs
  |.arr (some d) t xs=>.arr (some (bkL L nid m d++D)) t xs
def qf (L:List Nat) (nid m:Nat) (D:List Nat):List Blk→List Blk
  |[]=>[]
  |b::l=>b.back L nid m D::qf L nid m D l
def Fe (L:List Nat):List Nat→List Nat
  |[]=>[]
  |i::l=>cond (mem i L) (Fe L l) (i::Fe L l)
mutual
def SV.FO:SV→List Nat
  |.r d _=>d
  |.fU d _=>d
  |.agg cs=>lz cs
  |.tup cs=>lz cs
  |.fn _ a b=>lz a++lz b
  |_=>[]
def lz:List SV→List Nat
  |[]=>[]
  |v::l=>v.FO++lz l
end
def BK:Blk→List Nat
  |.box cs=>lz cs
  |.arr none _ _=>[]
  |.arr (some d) _ _=>d
def nV (h:aD):List Nat→List Nat
  |[]=>[]
  | i :: l => match look h i with
    |some b=>BK b++nV h l
    |none=>nV h l
def qL (L D:List Nat):List Nat→Bool
  |[]=>true
  |i::l=>cond (mem i L||mem i D) (qL L D l) false
def cb (L:List Nat) (nid m c i:Nat):Option Nat:=
  match placeOf i L 0 with
  |some k=>some k
  |none=>if nid≤i∧i<nid+c then some (m+(i-nid))else none
def nu (H:aD) (pl:Pl) (L D:List Nat):Pl:=
  ⟨fun k=>pl.hdr (L.getD k 0),fun k=>pl.fp (L.getD k 0),fun p=>pl.base p∧∀i B,look H i=some B→mem i L=false→(mem i D=true→B.gE=true)→¬pl.fp i p⟩
def db (pl pl':Pl) (L:List Nat) (nid m c:Nat):Pl:=
  ⟨fun i=>match cb L nid m c i with|some k=>pl'.hdr k|none=>pl.hdr i,fun i=>match cb L nid m c i with|some k=>pl'.fp k|none=>pl.fp i,pl.base⟩
theorem Dm {L D:List Nat} {i:Nat} (h:mem i (Fe L D)=true):mem i L=false:=by
  induction D with
  |nil=>exact nomatch h
  | cons k l ih =>
    simp only[Fe]at h
    cases hk:mem k L<;>simp only[hk,cond_true,cond_false]at h
    · simp only[mem]at h
      cases hb:Nat.beq k i<;>simp only[hb,cond_true,cond_false]at h
      · exact ih h
      · rw[←Nat.eq_of_beq_eq_true hb];exact hk
    · exact ih h
theorem uN {L D:List Nat}:∀{d:List Nat},qL L D d=true→∀i,mem i d=true→mem i L=true∨mem i D=true
  |[],_,i,h=>nomatch h
  | k :: l, hs, i, h => by
    simp only[qL]at hs
    cases hk:(mem k L||mem k D)<;>simp only[hk,cond_true,cond_false]at hs
    · exact nomatch hs
    · simp only[mem]at h
      cases hb:Nat.beq k i<;>simp only[hb,cond_true,cond_false]at h
      · exact uN hs i h
      · rw[←Nat.eq_of_beq_eq_true hb]
        simpa using hk
theorem dU {L D:List Nat}:∀{a b:List Nat},qL L D (a++b)=true→qL L D a=true∧qL L D b=true
  |[],b,h=>⟨rfl,h⟩
  | k :: l, b, h => by
    simp only[List.cons_append,qL]at h
    cases hk:(mem k L||mem k D)<;>simp only[hk,cond_true,cond_false]at h
    · exact nomatch h
    · obtain⟨h1,h2⟩:=dU h
      exact⟨by simp only[qL,hk,cond_true];exact h1,h2⟩
theorem qg {L:List Nat} {i k:Nat} (h:placeOf i L 0=some k):mem i L=true:=(mem_iff i L).2 (List.mem_of_getElem? (by have:=(fM h).2;simpa using this))
section
variable {w:World} {H:aD} {pl:Pl} {L D:List Nat} {bs:List Blk}
theorem ph (hn:nodup L=true) (hL:jC H L L=some bs) {d:List Nat} {p:Cell} (hd:qL L D d=true) (h:okd H pl d p):okd (aI 0 bs) (nu H pl L D) (Dk L d) p:=by
  refine⟨⟨h.1,fun i B hB hm hf=>h.2 i B hB fun hi=>?_⟩,fun k B hB hm hf=>?_⟩
  · rcases uN hd i hi with h1|h1
    · rw[hm]at h1;exact nomatch h1
    · exact hf h1
  · obtain⟨i,b0,h1,hi,h2,h3⟩:=dw hL hB
    simp only[nu,hi]at hf
    refine h.2 i b0 h2 (fun hd=>?_) hf
    rw[←Blk.BI h3]
    exact hm (yD (iz (cY hn) h1) hd)
mutual
theorem yF (hn:nodup L=true) (hL:jC H L L=some bs):(v:SV)→{v':SV}→{u:Value}→qL L D v.FO=true→v.ren L=some v'→aj w H pl v u→aj w (aI 0 bs) (nu H pl L D) v' u
  | .r d x, v', u, hd, h, hv => by
    cases h
    cases hv with
    |r _ _ _ hx=>exact .r _ _ _ (hx.frame fun p u hp hu=>⟨ph hn hL hd hp,hu⟩)
  |.bn,v',u,hd,h,hv=>by cases h;cases hv;exact .bn
  |.j7,v',u,hd,h,hv=>by cases h;cases hv;exact .j7
  | .own i, v', u, hd, h, hv => by
    simp only[SV.ren,Option.bind_eq_some_iff,Option.some.injEq]at h
    obtain⟨k,hk,rfl⟩:=h
    cases hv with
    | own _ sh t xs hl =>
      obtain⟨hi,B',g1,g2⟩:=iy hL hk hl
      have e:(nu H pl L D).hdr k=pl.hdr i:=by simp only[nu,hi]
      rw[←e]
      cases sh with
      |none=>cases g2;exact .own k none t xs g1
      |some d=>cases g2;exact .own k _ t xs g1
  | .sub i o n, v', u, hd, h, hv => by
    simp only[SV.ren,Option.bind_eq_some_iff,Option.some.injEq]at h
    obtain⟨k,hk,rfl⟩:=h
    cases hv with
    | sub _ _ _ sh t xs a a' cap cap' hl hh h1 h2 h3 h4 =>
      obtain⟨hi,B',g1,g2⟩:=iy hL hk hl
      have e:(nu H pl L D).hdr k=pl.hdr i:=by simp only[nu,hi]
      cases sh with
      |none=>cases g2;exact .sub k o n none t xs a a' cap cap' g1 (e.trans hh) h1 h2 h3 h4
      |some d=>cases g2;exact .sub k o n _ t xs a a' cap cap' g1 (e.trans hh) h1 h2 h3 h4
  | .bsl i n, v', u, hd, h, hv => by
    simp only[SV.ren,Option.bind_eq_some_iff,Option.some.injEq]at h
    obtain⟨k,hk,rfl⟩:=h
    cases hv with
    | bsl _ _ cs a hl hh =>
      obtain⟨hi,B',g1,g2⟩:=iy hL hk hl
      have e:(nu H pl L D).hdr k=pl.hdr i:=by simp only[nu,hi]
      simp only[Blk.ren,Option.bind_eq_some_iff,Option.some.injEq]at g2
      obtain⟨l,hl',rfl⟩:=g2
      exact .bsl k n l a g1 (e.trans hh)
  | .ptr i x o, v', u, hd, h, hv => by
    simp only[SV.ren,Option.bind_eq_some_iff,Option.some.injEq]at h
    obtain⟨k,hk,rfl⟩:=h
    cases hv with
    | nB _ _ cs b m hl hh =>
      obtain⟨hi,B',g1,g2⟩:=iy hL hk hl
      have e:(nu H pl L D).hdr k=pl.hdr i:=by simp only[nu,hi]
      simp only[Blk.ren,Option.bind_eq_some_iff,Option.some.injEq]at g2
      obtain⟨l,hl',rfl⟩:=g2
      exact .nB k o l b m g1 (e.trans hh)
    | mi _ _ _ sh t xs b m n cap hl hx hh =>
      obtain⟨hi,B',g1,g2⟩:=iy hL hk hl
      have e:(nu H pl L D).hdr k=pl.hdr i:=by simp only[nu,hi]
      cases sh with
      |none=>cases g2;exact .mi k x o none t xs b m n cap g1 hx (e.trans hh)
      |some d=>cases g2;exact .mi k x o _ t xs b m n cap g1 hx (e.trans hh)
  |.inn _ _ _,v',u,hd,h,hv=>by cases h
  | .fU d cs, v', u, hd, h, hv => by
    cases h
    cases hv with
    |fU _ _ b o vs h1 h2=>exact .fU _ _ b o vs (fun j r hj=>⟨ph hn hL hd (h1 j r hj).1,(h1 j r hj).2⟩) fun j r hj=>(h2 j r hj).frame fun p u hp hu=>⟨ph hn hL hd hp,hu⟩
  | .agg cs, v', u, hd, h, hv => by
    simp only[SV.ren,Option.bind_eq_some_iff,Option.some.injEq]at h
    obtain⟨l,hl,rfl⟩:=h
    cases hv with
    | agg _ vs h1 h2 h3 =>
      obtain⟨g1,g2⟩:=iT hn hL cs hd hl vs.toList (by simpa using h1) fun j x u hx hu=>h3 j x u hx (by simpa using hu)
      exact .agg _ _ (by simpa using g1) h2 fun j x u hx hu=>g2 j x u hx (by simpa using hu)
  | .tup cs, v', u, hd, h, hv => by
    simp only[SV.ren,Option.bind_eq_some_iff,Option.some.injEq]at h
    obtain⟨l,hl,rfl⟩:=h
    cases hv with
    | tup _ vs h1 h3 =>
      obtain⟨g1,g2⟩:=iT hn hL cs hd hl vs.toList (by simpa using h1) fun j x u hx hu=>h3 j x u hx (by simpa using hu)
      exact .tup _ _ (by simpa using g1) fun j x u hx hu=>g2 j x u hx (by simpa using hu)
  | .fn f as bs', v', u, hd, h, hv => by
    simp only[SV.ren,Option.bind_eq_some_iff,Option.some.injEq]at h
    obtain⟨l,hl,l',hl',rfl⟩:=h
    obtain⟨hd1,hd2⟩:=dU (show qL L D (lz as++lz bs')=true from hd)
    cases hv with
    | fn _ _ _ us vs h1 h3 h1' h3' =>
      obtain⟨g1,g2⟩:=iT hn hL as hd1 hl us.toList (by simpa using h1) fun j x u hx hu=>h3 j x u hx (by simpa using hu)
      obtain⟨g3,g4⟩:=iT hn hL bs' hd2 hl' vs.toList (by simpa using h1') fun j x u hx hu=>h3' j x u hx (by simpa using hu)
      exact .fn _ _ _ _ _ (by simpa using g1) (fun j x u hx hu=>g2 j x u hx (by simpa using hu)) (by simpa using g3) fun j x u hx hu=>g4 j x u hx (by simpa using hu)
  |.undef,v',u,hd,h,hv=>by cases h;exact .undef _
theorem iT (hn:nodup L=true) (hL:jC H L L=some bs):(cs:List SV)→{l:List SV}→qL L D (lz cs)=true→vM L cs=some l→(us:List Value)→cs.length=us.length→
    (∀(j:Nat) (x:SV) (u:Value),cs[j]? =some x→us[j]? =some u→aj w H pl x u)→
    l.length=us.length∧∀(j:Nat) (x:SV) (u:Value),l[j]? =some x→us[j]? =some u→aj w (aI 0 bs) (nu H pl L D) x u
  |[],l,hd,h,us,hl,_=>by cases h;exact⟨hl,fun j x u hx _=>by simp at hx⟩
  | v :: cs, l, hd, h, u :: us, hl, hp => by
    simp only[vM,Option.bind_eq_some_iff,Option.some.injEq]at h
    obtain⟨v',hv,l',hl',rfl⟩:=h
    obtain⟨hd1,hd2⟩:=dU (show qL L D (v.FO++lz cs)=true from hd)
    obtain⟨g1,g2⟩:=iT hn hL cs hd2 hl' us (by simpa using hl) fun j x u hx hu=>hp (j+1) x u (by simpa using hx) (by simpa using hu)
    refine⟨by simp[g1],fun j x u' hx hu=>?_⟩
    cases j with
    |zero=>simp at hx hu;subst hx hu;exact yF hn hL v hd1 hv (hp 0 v u rfl rfl)
    |succ j=>exact g2 j x u' (by simpa using hx) (by simpa using hu)
end
theorem BL {cs:List SV} {L D:List Nat} (h:qL L D (lz cs)=true):∀(j:Nat) (x:SV),cs[j]? =some x→qL L D x.FO=true:=by
  induction cs with
  |nil=>intro j x hx;simp at hx
  | cons v l ih =>
    obtain⟨h1,h2⟩:=dU (show qL L D (v.FO++lz l)=true from h)
    intro j x hx
    cases j with
    |zero=>simp at hx;subst hx;exact h1
    |succ j=>exact ih h2 j x (by simpa using hx)
theorem BM {l:List Nat} (h:qL L D (nV H l)=true):∀i∈l,∀B,look H i=some B→qL L D (BK B)=true:=by
  induction l with
  |nil=>intro i hi;exact nomatch hi
  | cons k l ih =>
    intro i hi B hB
    simp only[nV]at h
    rcases List.mem_cons.1 hi with rfl|hi
    · simp only[hB]at h;exact(dU h).1
    · split at h
      · exact ih (dU h).2 i hi B hB
      · exact ih h i hi B hB
theorem BN (hr:bH H pl w) (hn:nodup L=true) (hL:jC H L L=some bs) (hd:qL L D (nV H L)=true):bH (aI 0 bs) (nu H pl L D) w:=by
  have hown:=hr.eN
  refine⟨fun k B hB=>?_,fun k k' B B' p h1 h2 f1 f2=>?_,fun k B p hB hf=>?_,fun p hp=>⟨hr.nb p hp,fun i B hB _ _ hf=>?_⟩⟩
  · obtain⟨i,b0,h1,hi,h2,h3⟩:=dw hL hB
    have hb:=hr.blk i b0 h2
    have hdb:=BM hd i (List.mem_of_getElem? h1) b0 h2
    have eh:(nu H pl L D).hdr k=pl.hdr i:=by simp only[nu,hi]
    have ef:(nu H pl L D).fp k=pl.fp i:=by simp only[nu,hi]
    cases b0 with
    | box cs =>
      simp only[Blk.ren,Option.bind_eq_some_iff,Option.some.injEq]at h3
      obtain⟨l,hl,rfl⟩:=h3
      obtain⟨b,o,q1,q2,q3⟩:=hb
      refine⟨b,o,eh.trans q1,fun p=>by rw[ef,q2,jD hl],fun j v hv=>?_⟩
      obtain⟨y,hy,hy2⟩:=ta hl j v hv
      obtain⟨u,g1,g2,g3,g4⟩:=q3 j y hy
      exact⟨u,g1,g2,g3,yF hn hL y (BL hdb j y hy) hy2 g4⟩
    | arr sh t xs =>
      cases sh with
      | none =>
        cases h3
        show Nonempty (Row w (dc w) t xs ((nu H pl L D).hdr k) ((nu H pl L D).fp k))
        rw[eh,ef];exact hb
      | some d =>
        cases h3
        obtain⟨⟨a,cap,b,o,vs,fs,q1,q2,q3,q4,q5,q6,q7,q8,q9⟩⟩:=hb
        exact⟨⟨a,cap,b,o,vs,fs,eh.trans q1,q2,q3,q4,q5,fun i j r hc=>⟨(q6 i j r hc).1.frame fun p u hp hu=>⟨ph hn hL hdb hp,hu⟩,(q6 i j r hc).2⟩,q7,q8,fun p=>by rw[ef];exact q9 p⟩⟩
  · obtain⟨i,b0,g1,hi,g2,g3⟩:=dw hL h1
    obtain⟨i',b0',g1',hi',g2',g3'⟩:=dw hL h2
    simp only[nu,hi]at f1
    simp only[nu,hi']at f2
    have:=hr.dis i i' b0 b0' p g2 g2' f1 f2
    subst this
    exact(List.getElem?_inj (List.getElem?_eq_some_iff.1 g1).1 (cY hn)).1 (g1.trans g1'.symm)
  · obtain⟨i,b0,g1,hi,g2,g3⟩:=dw hL hB
    simp only[nu,hi]at hf
    refine⟨hr.ob i b0 p g2 hf,fun i' B' hB' hm _ hf'=>?_⟩
    have:=hr.dis i i' b0 B' p g2 hB' hf hf'
    subst this
    rw[(mem_iff i L).2 (List.mem_of_getElem? g1)]at hm;exact nomatch hm
  · obtain⟨u,hu⟩:=hown i B p hB hf
    rw[hp]at hu;exact nomatch hu
end
end Go.Proofs.Ev
set_option linter.unusedVariables false
set_option linter.unusedSimpArgs false
namespace Go.Proofs.Ev
variable [Tok]
set_option linter.unusedSectionVars false
theorem dx {f:Blk→Blk} {i:Nat}:∀{L:List Nat} {kept:List (Option Blk)} {H:aD},(∀(k:Nat) (b:Blk),L[k]? =some i→kept[k]? =some (some b)→False)→look (lD (qS f L kept) H) i=look H i
  |[],_,H,_=>by simp[qS,lD]
  |_::_,[],H,_=>by simp[qS,lD]
  | i0 :: L, none :: l, H, h => by
    rw[qS]
    exact dx fun k b h1 h2=>h (k+1) b (by simpa using h1) (by simpa using h2)
  | i0 :: L, some b0 :: l, H, h => by
    rw[qS,lD,dx fun k b h1 h2=>h (k+1) b (by simpa using h1) (by simpa using h2),cE,if_neg]
    intro e;subst e
    exact h 0 b0 rfl rfl
theorem kz {f:Blk→Blk} {i:Nat} {b:Blk}:∀{L:List Nat} {kept:List (Option Blk)} {H:aD} {k:Nat},L.Nodup→L[k]? =some i→kept[k]? =some (some b)→look (lD (qS f L kept) H) i=some (f b)
  |[],_,H,k,_,h,_=>by simp at h
  |_::_,[],H,k,_,_,h=>by simp at h
  | i0 :: L, ob :: l, H, 0, hn, h1, h2 => by
    simp at h1 h2
    subst h1 h2
    rw[qS,lD,dx fun k b h1 _=>(List.nodup_cons.1 hn).1 (List.mem_of_getElem? h1),cE,if_pos rfl]
  | i0 :: L, none :: l, H, k + 1, hn, h1, h2 => by
    rw[qS]
    exact kz (List.nodup_cons.1 hn).2 (by simpa using h1) (by simpa using h2)
  | i0 :: L, some b0 :: l, H, k + 1, hn, h1, h2 => by
    rw[qS,lD]
    exact kz (List.nodup_cons.1 hn).2 (by simpa using h1) (by simpa using h2)
theorem jF {f:Blk→Blk} {i:Nat} {B:Blk}:∀{L:List Nat} {kept:List (Option Blk)},look (qS f L kept) i=some B→i∈L
  |[],_,h=>by simp[qS,look]at h
  |_::_,[],h=>by simp[qS,look]at h
  |i0::L,none::l,h=>by rw[qS]at h;exact List.mem_cons_of_mem _ (jF h)
  | i0 :: L, some b0 :: l, h => by
    rw[qS,aq]at h
    by_cases e:i0=i
    · subst e;exact List.mem_cons_self ..
    · rw[if_neg e]at h;exact List.mem_cons_of_mem _ (jF h)
theorem gL {i:Nat}:∀{L:List Nat} {kept:List (Option Blk)},mem i (gK L kept)=true↔∃k:Nat,L[k]? =some i∧kept[k]? =some none
  |[],_=>by simp[gK,mem]
  |_::_,[]=>by simp[gK,mem]
  | i0 :: L, some b0 :: l => by
    rw[gK,gL]
    exact⟨fun⟨k,h1,h2⟩=>⟨k+1,by simpa using h1,by simpa using h2⟩,fun⟨k,h1,h2⟩=>by
      cases k with
      |zero=>simp at h2
      |succ k=>exact⟨k,by simpa using h1,by simpa using h2⟩⟩
  | i0 :: L, none :: l => by
    rw[gK,mem_iff,List.mem_cons,←mem_iff,gL]
    exact⟨fun h=>h.elim (fun e=>⟨0,by simp[e],rfl⟩) fun⟨k,h1,h2⟩=>⟨k+1,by simpa using h1,by simpa using h2⟩,fun⟨k,h1,h2⟩=>by
      cases k with
      |zero=>simp at h1;exact .inl h1.symm
      |succ k=>exact .inr ⟨k,by simpa using h1,by simpa using h2⟩⟩
theorem lg {i:Nat}:∀{L:List Nat} {kept:List (Option Blk)},mem i (hC L kept)=true↔∃(k:Nat) (B:Blk),L[k]? =some i∧kept[k]? =some (some B)∧B.gE=false
  |[],_=>by simp[hC,mem]
  |_::_,[]=>by simp[hC,mem]
  | i0 :: L, some (.box cs) :: l => by
    rw[hC,lg]
    exact⟨fun⟨k,B,h1,h2,h3⟩=>⟨k+1,B,by simpa using h1,by simpa using h2,h3⟩,fun⟨k,B,h1,h2,h3⟩=>by
      cases k with
      |zero=>simp at h2;subst h2;exact nomatch h3
      |succ k=>exact⟨k,B,by simpa using h1,by simpa using h2,h3⟩⟩
  | i0 :: L, none :: l => by
    rw[hC,lg]
    exact⟨fun⟨k,B,h1,h2,h3⟩=>⟨k+1,B,by simpa using h1,by simpa using h2,h3⟩,fun⟨k,B,h1,h2,h3⟩=>by
      cases k with
      |zero=>simp at h2
      |succ k=>exact⟨k,B,by simpa using h1,by simpa using h2,h3⟩⟩
  | i0 :: L, some (.arr sh t xs) :: l => by
    rw[hC,mem_iff,List.mem_cons,←mem_iff,lg]
    exact⟨fun h=>h.elim (fun e=>⟨0,_,by simp[e],rfl,rfl⟩) fun⟨k,B,h1,h2,h3⟩=>⟨k+1,B,by simpa using h1,by simpa using h2,h3⟩,fun⟨k,B,h1,h2,h3⟩=>by
      cases k with
      |zero=>simp at h1;exact .inl h1.symm
      |succ k=>exact .inr ⟨k,B,by simpa using h1,by simpa using h2,h3⟩⟩
theorem kA {L:List Nat} {nid m:Nat} {D:List Nat}:(cs:List SV)→(j5 L nid m D cs).length=cs.length
  |[]=>rfl
  |_::l=>by simp[j5,kA l]
theorem hJ {L:List Nat} {nid m:Nat} {D:List Nat}:(cs:List Blk)→(qf L nid m D cs).length=cs.length
  |[]=>rfl
  |_::l=>by simp[qf,hJ l]
theorem uO {L:List Nat} {nid m:Nat} {D:List Nat}:(bs:List Blk)→(j:Nat)→(qf L nid m D bs)[j]? =(bs[j]?).map (Blk.back L nid m D)
  |[],j=>by simp[qf]
  |b::l,0=>by simp[qf]
  |b::l,j+1=>by simpa[qf]using uO l j
theorem uP {L:List Nat} {nid m:Nat} {D:List Nat}:(cs:List SV)→(j:Nat)→(j5 L nid m D cs)[j]? =(cs[j]?).map (SV.back L nid m D)
  |[],j=>by simp[j5]
  |b::l,0=>by simp[j5]
  |b::l,j+1=>by simpa[j5]using uP l j
theorem Blk.mL {L:List Nat} {nid m:Nat} {D:List Nat} (b:Blk):b.gQ (b.back L nid m D):=by
  cases b with
  |box cs=>simp[Blk.back,Blk.gQ,kA]
  |arr sh t xs=>cases sh<;>exact⟨rfl,rfl⟩
structure iA (w w':World) (H H':aD) (pl pl':Pl) (L D:List Nat) (bs:List Blk) (nid:Nat) (o:lI):Prop where
  hr:bH H pl w
  hn:nodup L=true
  hL:jC H L L=some bs
  hm:o.kept.length=L.length
  lU:∀k,k<o.news.length→look H (nid+k)=none
  hD:∀i,mem i D=true→mem i L=false
  hro:bH o.heap pl' w'
  pW:pl'.base=(nu H pl L D).base
  hgr:b9 w w'
  FQ:∀(k:Nat) (B:Blk),o.kept[k]? =some (some B)→pl'.hdr k=pl.hdr (L.getD k 0)∧∃B0,bs[k]? =some B0∧B0.gQ B
  hfr:∀p u,w.at? p=some u→(∀i B,mem i L=true→look H i=some B→¬pl.fp i p)→(∀k B,look o.heap k=some B→¬pl'.fp k p)∧w'.at? p=some u∧w'.cD p=w.cD p
  ha:∃h1,eJ (gK L o.kept,gK L o.kept++hC L o.kept) (lD (qS (Blk.back L nid L.length D) L o.kept) H)=some h1∧H'=h1++aI nid (qf L nid L.length D o.news)
section
variable {w w':World} {H H':aD} {pl pl':Pl} {L D:List Nat} {bs:List Blk} {nid:Nat} {o:lI}
abbrev nW (L:List Nat) (kept:List (Option Blk)):Kil:=(gK L kept,gK L kept++hC L kept)
theorem l0 {L:List Nat} {kept:List (Option Blk)}:∀i,mem i (nW L kept).1=true→mem i (nW L kept).2=true:=fun i h=>by
  show mem i (_++_)=true
  rw[mem_append,h];rfl
theorem iA.inH (c:iA w w' H H' pl pl' L D bs nid o) {i:Nat} (h:mem i L=true):∃k B0 B,L[k]? =some i∧k<L.length∧look H i=some B0∧bs[k]? =some B∧B0.ren L=some B:=by
  obtain⟨k,hk⟩:=List.getElem?_of_mem ((mem_iff i L).1 h)
  have hlt:=(List.getElem?_eq_some_iff.1 hk).1
  have hbl:k<bs.length:=by rw[(dv c.hL).1];exact hlt
  obtain⟨i',b0,e1,e2,e3⟩:=(dv c.hL).2 k _ (List.getElem?_eq_getElem hbl)
  rw[hk]at e1;cases e1
  exact⟨k,b0,_,hk,hlt,e2,List.getElem?_eq_getElem hbl,e3⟩
theorem iA.EL (c:iA w w' H H' pl pl' L D bs nid o) {i k:Nat} (h:L[k]? =some i):cb L nid L.length o.news.length i=some k:=by
  unfold cb;rw[iz (cY c.hn) h]
theorem iA.FR (c:iA w w' H H' pl pl' L D bs nid o) {j:Nat} (h:j<o.news.length):cb L nid L.length o.news.length (nid+j)=some (L.length+j):=by
  unfold cb
  cases hp:placeOf (nid+j) L 0 with
  | some k =>
    obtain⟨_,B0,_,_,_,h1,_⟩:=c.inH (qg hp)
    rw[c.lU j h]at h1;exact nomatch h1
  | none =>
    simp only
    rw[if_pos ⟨by omega,by omega⟩];congr 1;omega
theorem iA.td (c:iA w w' H H' pl pl' L D bs nid o) (i:Nat):(∃k,L[k]? =some i∧k<L.length∧cb L nid L.length o.news.length i=some k)∨(∃j,j<o.news.length∧i=nid+j∧mem i L=false∧cb L nid L.length o.news.length i=some (L.length+j))∨
    (mem i L=false∧¬(nid≤i∧i<nid+o.news.length)∧cb L nid L.length o.news.length i=none):=by
  cases hm:mem i L with
  | true =>
    obtain⟨k,_,_,hk,hlt,_⟩:=c.inH hm
    exact .inl ⟨k,hk,hlt,c.EL hk⟩
  | false =>
    have hp:placeOf i L 0=none:=by
      cases hp:placeOf i L 0 with
      |none=>rfl
      |some k=>rw[qg hp]at hm;exact nomatch hm
    by_cases hr:nid≤i∧i<nid+o.news.length
    · exact .inr (.inl ⟨i-nid,by omega,by omega,rfl,by unfold cb;rw[hp];simp only;rw[if_pos hr]⟩)
    · exact .inr (.inr ⟨rfl,hr,by unfold cb;rw[hp];simp only;rw[if_neg hr]⟩)
theorem iA.Dn (c:iA w w' H H' pl pl' L D bs nid o) {i:Nat} (h:mem i L=false):mem i (gK L o.kept)=false:=by
  cases hg:mem i (gK L o.kept)with
  |false=>rfl
  | true =>
    obtain⟨k,h1,_⟩:=gL.1 hg
    rw[(mem_iff i L).2 (List.mem_of_getElem? h1)]at h;exact nomatch h
def EM (T:Kil) (L:List Nat) (nid m:Nat) (D:List Nat) (B B':Blk):Prop:=(B.back L nid m D).aG T=some B'∨B.back L nid m D=B'
theorem iA.old (c:iA w w' H H' pl pl' L D bs nid o) {i:Nat} (h:mem i L=false) (hr:¬(nid≤i∧i<nid+o.news.length)):look H' i=(look H i).bind (Blk.aG (nW L o.kept)):=by
  obtain⟨h1,e1,rfl⟩:=c.ha
  have vL:look (aI nid (qf L nid L.length D o.news)) i=none:=by
    rw[aW]
    by_cases q:nid≤i
    · rw[if_pos q,List.getElem?_eq_none];rw[hJ];omega
    · rw[if_neg q]
  rw[az,vL,Option.or_none,bA l0 e1 i,show mem i (gK L o.kept)=false from c.Dn h,cond_false,dx fun k b h1 _=>by rw[(mem_iff i L).2 (List.mem_of_getElem? h1)]at h;exact nomatch h]
theorem iA.uniq (c:iA w w' H H' pl pl' L D bs nid o) {i k k':Nat} (h:L[k]? =some i) (h':L[k']? =some i):k=k':=
  (List.getElem?_inj (List.getElem?_eq_some_iff.1 h).1 (cY c.hn)).1 (h.trans h'.symm)
theorem iA.D5 (c:iA w w' H H' pl pl' L D bs nid o) {i:Nat} (h:mem i L=true):look (aI nid (qf L nid L.length D o.news)) i=none:=by
  rw[aW]
  by_cases q:nid≤i
  · rw[if_pos q]
    by_cases q2:i-nid<o.news.length
    · obtain⟨_,_,_,_,_,h1,_⟩:=c.inH h
      have:=c.lU _ q2
      rw[show nid+(i-nid)=i from by omega,h1]at this;exact nomatch this
    · rw[List.getElem?_eq_none];rw[hJ];omega
  · rw[if_neg q]
theorem iA.kept (c:iA w w' H H' pl pl' L D bs nid o) {i k:Nat} {B:Blk} (h:L[k]? =some i) (hB:o.kept[k]? =some (some B)):∃B',look H' i=some B'∧EM (nW L o.kept) L nid L.length D B B':=by
  have hng:mem i (gK L o.kept)=false:=by
    cases hg:mem i (gK L o.kept)with
    |false=>rfl
    | true =>
      obtain⟨k',h1,h2⟩:=gL.1 hg
      have:=c.uniq h h1
      subst this
      rw[hB]at h2;exact nomatch h2
  obtain⟨h1,e1,rfl⟩:=id c.ha
  have hu:look (lD (qS (Blk.back L nid L.length D) L o.kept) H) i=some (B.back L nid L.length D):=kz (cY c.hn) h hB
  obtain⟨B',hB'⟩:=fi l0 e1 i _ hu hng
  refine⟨B',?_,.inl hB'⟩
  rw[az,c.D5 ((mem_iff i L).2 (List.mem_of_getElem? h)),Option.or_none,bA l0 e1 i,show mem i (gK L o.kept)=false from hng,cond_false,hu]
  exact hB'
theorem iA.gone (c:iA w w' H H' pl pl' L D bs nid o) {i k:Nat} (h:L[k]? =some i) (hB:o.kept[k]? =some none):look H' i=none:=by
  have hg:mem i (gK L o.kept)=true:=gL.2 ⟨k,h,hB⟩
  obtain⟨h1,e1,rfl⟩:=id c.ha
  rw[az,c.D5 ((mem_iff i L).2 (List.mem_of_getElem? h)),Option.or_none,bA l0 e1 i,show mem i (gK L o.kept)=true from hg,cond_true]
theorem iA.new (c:iA w w' H H' pl pl' L D bs nid o) {j:Nat} {B:Blk} (h:o.news[j]? =some B):look H' (nid+j)=some (B.back L nid L.length D):=by
  have hj:=(List.getElem?_eq_some_iff.1 h).1
  obtain⟨h1,e1,rfl⟩:=id c.ha
  have hnm:mem (nid+j) L=false:=by
    cases hm:mem (nid+j) L with
    |false=>rfl
    | true =>
      obtain⟨_,_,_,_,_,h1,_⟩:=c.inH hm
      rw[c.lU j hj]at h1;exact nomatch h1
  have oZ:look (lD (qS (Blk.back L nid L.length D) L o.kept) H) (nid+j)=look H (nid+j):=dx fun k b h1 _=>by
    rw[(mem_iff _ L).2 (List.mem_of_getElem? h1)]at hnm
    cases hnm
  rw[az,bA l0 e1,oZ,c.lU j hj,aW,if_pos (by omega),Nat.add_sub_cancel_left,uO,h]
  cases mem (nid+j) (nW L o.kept).1<;>rfl
theorem iA.fD (c:iA w w' H H' pl pl' L D bs nid o) {i:Nat} {B':Blk} (h:look H' i=some B'):
    (∃k B,cb L nid L.length o.news.length i=some k∧look o.heap k=some B∧EM (nW L o.kept) L nid L.length D B B'∧(mem i L=false→look H i=none))∨
    (cb L nid L.length o.news.length i=none∧mem i L=false∧∃B,look H i=some B∧B.aG (nW L o.kept)=some B'):=by
  rcases c.td i with⟨k,hk,hlt,hc⟩|⟨j,hj,rfl,hm,hc⟩|⟨hm,hno,hc⟩
  · have hkl:k<o.kept.length:=by rw[c.hm];exact hlt
    cases hkp:o.kept[k]? with
    |none=>rw[List.getElem?_eq_getElem hkl]at hkp;exact nomatch hkp
    | some ob =>
      cases ob with
      |none=>rw[c.gone hk hkp]at h;exact nomatch h
      | some B =>
        obtain⟨B1,h1,h2⟩:=c.kept hk hkp
        rw[h]at h1;cases h1
        exact .inl ⟨k,B,hc,by rw[o.pg hkl,hkp];rfl,h2,fun hm=>by rw[(mem_iff i L).2 (List.mem_of_getElem? hk)]at hm;exact nomatch hm⟩
  · obtain⟨B,hB⟩:∃B,o.news[j]? =some B:=⟨_,List.getElem?_eq_getElem hj⟩
    rw[c.new hB]at h;cases h
    exact .inl ⟨L.length+j,B,hc,by rw[o.mK (by rw[c.hm];omega),c.hm,Nat.add_sub_cancel_left];exact hB,.inr rfl,fun _=>c.lU j hj⟩
  · rw[c.old hm hno]at h
    obtain⟨B,h1,h2⟩:=Option.bind_eq_some_iff.1 h
    exact .inr ⟨hc,hm,B,h1,h2⟩
theorem iA.nT (c:iA w w' H H' pl pl' L D bs nid o) {k:Nat} {B:Blk} (h:look o.heap k=some B):
    cb L nid L.length o.news.length (bk L nid L.length k)=some k∧∃B',look H' (bk L nid L.length k)=some B'∧EM (nW L o.kept) L nid L.length D B B':=by
  by_cases hk:k<L.length
  · have hkl:k<o.kept.length:=by rw[c.hm];exact hk
    rw[o.pg hkl]at h
    obtain⟨ob,h1,h2⟩:=Option.bind_eq_some_iff.1 h
    have h2:ob=some B:=h2
    subst h2
    have hb:bk L nid L.length k=L[k]:=by
      unfold bk
      rw[show Nat.ble (k+1) L.length=true from Nat.ble_eq_true_of_le hk,cond_true,List.getD_eq_getElem?_getD,List.getElem?_eq_getElem hk];rfl
    rw[hb]
    have hL:L[k]? =some L[k]:=List.getElem?_eq_getElem hk
    exact⟨c.EL hL,c.kept hL h1⟩
  · rw[o.mK (by rw[c.hm];omega),c.hm]at h
    have hb:bk L nid L.length k=nid+(k-L.length):=by
      unfold bk
      cases hq:Nat.ble (k+1) L.length with
      |false=>rfl
      |true=>exact(hk (Nat.le_of_ble_eq_true hq)).elim
    rw[hb]
    have hj:=(List.getElem?_eq_some_iff.1 h).1
    refine⟨?_,_,c.new h,.inr rfl⟩
    rw[c.FR hj];congr 1;omega
theorem EM.box {T:Kil} {nid m:Nat} {B B':Blk} (h:EM T L nid m D B B'):B'.gE=B.gE:=by
  rcases h with h|h
  · rw[←Blk.fC (Blk.dt h),←Blk.fC (Blk.mL B)]
  · rw[←h,←Blk.fC (Blk.mL B)]
theorem EM.gQ {T:Kil} {nid m:Nat} {B B':Blk} (h:EM T L nid m D B B'):B.gQ B':=by
  rcases h with h|h
  · exact Blk.cG (Blk.mL B) (Blk.dt h)
  · rw[←h];exact Blk.mL B
theorem BO {nid m k:Nat}:∀{d:List Nat},mem k d=true→mem (bk L nid m k) (bkL L nid m d)=true
  |[],h=>nomatch h
  | x :: l, h => by
    simp only[bkL]
    rw[mem_iff,List.mem_cons,←mem_iff]
    rw[mem_iff,List.mem_cons,←mem_iff]at h
    rcases h with rfl|h
    · exact .inl rfl
    · exact .inr (BO h)
theorem iA.EN (c:iA w w' H H' pl pl' L D bs nid o) {i k:Nat} (h:cb L nid L.length o.news.length i=some k):bk L nid L.length k=i:=by
  rcases c.td i with⟨k',hk,hlt,hc⟩|⟨j,hj,rfl,hm,hc⟩|⟨hm,hno,hc⟩<;>rw[hc]at h<;>cases h
  · unfold bk
    rw[show Nat.ble (k+1) L.length=true from Nat.ble_eq_true_of_le hlt,cond_true,List.getD_eq_getElem?_getD,hk];rfl
  · unfold bk
    cases hq:Nat.ble (L.length+j+1) L.length with
    |false=>simp
    |true=>have:=Nat.le_of_ble_eq_true hq;omega
theorem iA.okd (c:iA w w' H H' pl pl' L D bs nid o) {d:List Nat} {p:Cell} (h:okd o.heap pl' d p):okd H' (db pl pl' L nid L.length o.news.length) (bkL L nid L.length d++D) p:=by
  have hb:(nu H pl L D).base p:=by rw[←c.pW];exact h.1
  refine⟨hb.1,fun i B' hB' hm hf=>?_⟩
  rcases c.fD hB' with⟨k,B,h1,h2,h3,_⟩|⟨h1,h2,B,h3,h4⟩
  · simp only[db,h1]at hf
    refine h.2 k B h2 (fun hk=>?_) hf
    rw[←h3.box]
    refine hm ?_
    rw[mem_append,←c.EN h1,BO hk];rfl
  · simp only[db,h1]at hf
    refine hb.2 i B h3 h2 (fun hk=>?_) hf
    rw[Blk.fC (Blk.dt h4)]
    exact hm (by rw[mem_append,hk,Bool.or_true])
mutual
theorem iA.rep (c:iA w w' H H' pl pl' L D bs nid o):(v:SV)→{u:Value}→aj w' o.heap pl' v u→aj w' H' (db pl pl' L nid L.length o.news.length) (v.back L nid L.length D) u
  | .r d x, u, h => by
    cases h with
    |r _ _ _ hx=>exact pL (hx.frame fun p u hp hu=>⟨c.okd hp,hu⟩)
  |.bn,u,h=>by cases h;exact .bn
  |.j7,u,h=>by cases h;exact .j7
  | .own k, u, h => by
    cases h with
    | own _ sh t xs hl =>
      obtain⟨h1,B',h2,h3⟩:=c.nT hl
      have e:(db pl pl' L nid L.length o.news.length).hdr (bk L nid L.length k)=pl'.hdr k:=by simp only[db,h1]
      rw[←e]
      have:∃sh',B'=.arr sh' t xs:=by
        rcases h3 with h3|h3
        · cases sh with
          |none=>cases h3;exact⟨_,rfl⟩
          | some d =>
            simp only[Blk.back,Blk.aG]at h3
            cases hh:hit (nW L o.kept).2 (bkL L nid L.length d++D)<;>simp only[hh,cond_true,cond_false]at h3
            · cases h3;exact⟨_,rfl⟩
            · exact nomatch h3
        · cases sh<;>exact⟨_,h3.symm⟩
      obtain⟨sh',rfl⟩:=this
      exact .own _ sh' t xs h2
  | .ptr k 0 off, u, h => by
    cases h with
    | nB _ _ cs b q hl hh =>
      obtain⟨h1,B',h2,h3⟩:=c.nT hl
      have e:(db pl pl' L nid L.length o.news.length).hdr (bk L nid L.length k)=pl'.hdr k:=by simp only[db,h1]
      have:∃cs',B'=.box cs':=by
        rcases h3 with h3|h3
        · cases h3;exact⟨_,rfl⟩
        · exact⟨_,h3.symm⟩
      obtain⟨cs',rfl⟩:=this
      exact .nB _ off cs' b q h2 (e.trans hh)
    | mi _ _ _ sh t xs b q n cap hl hx hh =>
      obtain⟨h1,B',h2,h3⟩:=c.nT hl
      have e:(db pl pl' L nid L.length o.news.length).hdr (bk L nid L.length k)=pl'.hdr k:=by simp only[db,h1]
      have:∃sh',B'=.arr sh' t xs:=by
        rcases h3 with h3|h3
        · cases sh with
          |none=>cases h3;exact⟨_,rfl⟩
          | some d =>
            simp only[Blk.back,Blk.aG]at h3
            cases hh:hit (nW L o.kept).2 (bkL L nid L.length d++D)<;>simp only[hh,cond_true,cond_false]at h3
            · cases h3;exact⟨_,rfl⟩
            · exact nomatch h3
        · cases sh<;>exact⟨_,h3.symm⟩
      obtain⟨sh',rfl⟩:=this
      exact .mi _ 0 off sh' t xs b q n cap h2 hx (e.trans hh)
  |.ptr k (x+1) off,u,h=>.undef _
  | .agg cs, u, h => by
    cases h with
    | agg _ vs h1 h2 h3 =>
      obtain⟨g1,g2⟩:=c.FT cs vs.toList (by simpa using h1) fun j x u hx hu=>h3 j x u hx (by simpa using hu)
      exact .agg _ _ (by simpa using g1) h2 fun j x u hx hu=>g2 j x u hx (by simpa using hu)
  | .tup cs, u, h => by
    cases h with
    | tup _ vs h1 h3 =>
      obtain⟨g1,g2⟩:=c.FT cs vs.toList (by simpa using h1) fun j x u hx hu=>h3 j x u hx (by simpa using hu)
      exact .tup _ _ (by simpa using g1) fun j x u hx hu=>g2 j x u hx (by simpa using hu)
  |.sub _ _ _,_,_=>.undef _
  |.bsl _ _,_,_=>.undef _
  |.inn _ _ _,_,_=>.undef _
  |.fU _ _,_,_=>.undef _
  | .fn f a b, u, h => by
    cases h with
    | fn _ _ _ us vs h1 h3 h1' h3' =>
      obtain⟨g1,g2⟩:=c.FT a us.toList (by simpa using h1) fun j x u hx hu=>h3 j x u hx (by simpa using hu)
      obtain⟨q1,q2⟩:=c.FT b vs.toList (by simpa using h1') fun j x u hx hu=>h3' j x u hx (by simpa using hu)
      exact .fn _ _ _ _ _ (by simpa using g1) (fun j x u hx hu=>g2 j x u hx (by simpa using hu)) (by simpa using q1) fun j x u hx hu=>q2 j x u hx (by simpa using hu)
  |.undef,_,_=>.undef _
theorem iA.FT (c:iA w w' H H' pl pl' L D bs nid o):(cs:List SV)→(us:List Value)→cs.length=us.length→(∀(j:Nat) (x:SV) (u:Value),cs[j]? =some x→us[j]? =some u→aj w' o.heap pl' x u)→
    (j5 L nid L.length D cs).length=us.length∧∀(j:Nat) (x:SV) (u:Value),(j5 L nid L.length D cs)[j]? =some x→us[j]? =some u→aj w' H' (db pl pl' L nid L.length o.news.length) x u
  |[],us,hl,_=>⟨hl,fun j x u hx _=>by simp[j5]at hx⟩
  | v :: cs, u :: us, hl, hp => by
    obtain⟨g1,g2⟩:=c.FT cs us (by simpa using hl) fun j x u hx hu=>hp (j+1) x u (by simpa using hx) (by simpa using hu)
    refine⟨by simp[j5,g1],fun j x u' hx hu=>?_⟩
    cases j with
    |zero=>simp[j5]at hx hu;subst hx hu;exact c.rep v (hp 0 v u rfl rfl)
    |succ j=>exact g2 j x u' (by simpa[j5]using hx) (by simpa using hu)
end
theorem iA.EO (c:iA w w' H H' pl pl' L D bs nid o) {i k:Nat} {B:Blk} (h1:cb L nid L.length o.news.length i=some k) (h2:look o.heap k=some B):
    cC w' H' (db pl pl' L nid L.length o.news.length) i (B.back L nid L.length D):=by
  have eh:(db pl pl' L nid L.length o.news.length).hdr i=pl'.hdr k:=by simp only[db,h1]
  have ef:(db pl pl' L nid L.length o.news.length).fp i=pl'.fp k:=by simp only[db,h1]
  have hb:=c.hro.blk k B h2
  cases B with
  | box cs =>
    obtain⟨b,q,q1,q2,q3⟩:=hb
    refine⟨b,q,eh.trans q1,fun p=>by rw[ef,q2,kA],fun j v hv=>?_⟩
    rw[uP]at hv
    obtain⟨y,hy,rfl⟩:=Option.map_eq_some_iff.1 hv
    obtain⟨u,g1,g2,g3,g4⟩:=q3 j y hy
    exact⟨u,g1,g2,g3,c.rep y g4⟩
  | arr sh t xs =>
    cases sh with
    | none =>
      show Nonempty (Row w' (dc w') t xs _ _)
      rw[eh,ef];exact hb
    | some d =>
      obtain⟨⟨a,cap,b,q,vs,fs,q1,q2,q3,q4,q5,q6,q7,q8,q9⟩⟩:=hb
      exact⟨⟨a,cap,b,q,vs,fs,eh.trans q1,q2,q3,q4,q5,fun i j r hc=>⟨(q6 i j r hc).1.frame fun p u hp hu=>⟨c.okd hp,hu⟩,(q6 i j r hc).2⟩,q7,q8,fun p=>by rw[ef];exact q9 p⟩⟩
theorem zQ (T:Kil) {w:World} {H:aD} {pl:Pl}:gF T w H pl w H pl:=⟨fun i B hB _=>⟨B,hB,B.bR,rfl⟩,fun d p u _ h hp=>⟨h,hp⟩⟩
theorem iA.rP (c:iA w w' H H' pl pl' L D bs nid o) {i:Nat} {B:Blk} {p:Cell} (hB:look H i=some B) (hm:mem i L=false) (hf:pl.fp i p):∀i' B',mem i' L=true→look H i'=some B'→¬pl.fp i' p:=fun i' B' hm' hB' hf'=>by
  have:=c.hr.dis i i' B B' p hB hB' hf hf'
  subst this
  rw[hm]at hm';exact nomatch hm'
theorem iA.keeps (c:iA w w' H H' pl pl' L D bs nid o):gF (nW L o.kept) w H pl w' H' (db pl pl' L nid L.length o.news.length):=by
  refine⟨fun i B hB hg=>?_,fun d p u hd ho hp=>?_⟩
  · cases hm:mem i L with
    | true =>
      obtain⟨k,B0,B1,hk,hlt,e1,e2,e3⟩:=c.inH hm
      rw[hB]at e1;cases e1
      have hkl:k<o.kept.length:=by rw[c.hm];exact hlt
      cases hkp:o.kept[k]? with
      |none=>rw[List.getElem?_eq_getElem hkl]at hkp;exact nomatch hkp
      | some ob =>
        cases ob with
        |none=>rw[show mem i (gK L o.kept)=true from gL.2 ⟨k,hk,hkp⟩]at hg;exact nomatch hg
        | some B2 =>
          obtain⟨B',h1,h2⟩:=c.kept hk hkp
          obtain⟨q1,B3,q2,q3⟩:=c.FQ k B2 hkp
          rw[e2]at q2;cases q2
          refine⟨B',h1,Blk.cG (Blk.tb e3) (Blk.cG q3 h2.gQ),?_⟩
          simp only[db,c.EL hk]
          rw[q1,List.getD_eq_getElem?_getD,hk];rfl
    | false =>
      rcases c.td i with⟨k,hk,_⟩|⟨j,hj,rfl,_,_⟩|⟨_,hno,hc⟩
      · rw[(mem_iff i L).2 (List.mem_of_getElem? hk)]at hm;exact nomatch hm
      · rw[c.lU j hj]at hB;exact nomatch hB
      · obtain⟨h1,e1,_⟩:=id c.ha
        have hu:look (lD (qS (Blk.back L nid L.length D) L o.kept) H) i=some B:=by
          rw[dx fun k b h1 _=>by rw[(mem_iff i L).2 (List.mem_of_getElem? h1)]at hm;exact nomatch hm];exact hB
        obtain⟨B',hB'⟩:=fi l0 e1 i B hu hg
        exact⟨B',by rw[c.old hm hno,hB];exact hB',Blk.dt hB',by simp only[db,hc]⟩
  · have hnp:∀i B,mem i L=true→look H i=some B→¬pl.fp i p:=fun i B hm hB hf=>by
      refine ho.2 i B hB (fun hdi=>?_) hf
      have hT:=hd i hdi
      obtain⟨k,B0,B1,hk,hlt,e1,e2,e3⟩:=c.inH hm
      rw[hB]at e1;cases e1
      have hkl:k<o.kept.length:=by rw[c.hm];exact hlt
      cases hkp:o.kept[k]? with
      |none=>rw[List.getElem?_eq_getElem hkl]at hkp;exact nomatch hkp
      | some ob =>
        cases ob with
        | none =>
          have:mem i (nW L o.kept).2=true:=l0 i (gL.2 ⟨k,hk,hkp⟩)
          rw[hT]at this;exact nomatch this
        | some B2 =>
          obtain⟨_,B3,q2,q3⟩:=c.FQ k B2 hkp
          rw[e2]at q2;cases q2
          have hbx:B2.gE=true:=by
            cases hx:B2.gE with
            |true=>rfl
            | false =>
              have:mem i (gK L o.kept++hC L o.kept)=true:=by rw[mem_append,lg.2 ⟨k,B2,hk,hkp,hx⟩,Bool.or_true]
              rw[show mem i (gK L o.kept++hC L o.kept)=false from hT]at this;exact nomatch this
          rw[Blk.fC (Blk.tb e3),Blk.fC q3,hbx]
    obtain⟨g1,g2,g3⟩:=c.hfr p u hp hnp
    refine⟨⟨ho.1,fun i B' hB' hm hf=>?_⟩,g2⟩
    rcases c.fD hB' with⟨k,B,h1,h2,_,_⟩|⟨h1,h2,B,h3,h4⟩
    · simp only[db,h1]at hf
      exact g1 k B h2 hf
    · simp only[db,h1]at hf
      refine ho.2 i B h3 (fun hk=>?_) hf
      rw[Blk.fC (Blk.dt h4)];exact hm hk
theorem iA.step (c:iA w w' H H' pl pl' L D bs nid o):bG H H' (nW L o.kept) pl (db pl pl' L nid L.length o.news.length) w w':=by
  have hown:=c.hr.eN
  have hk:=c.keeps
  refine⟨⟨fun i B' hB'=>?_,fun i j B B' p h1 h2 f1 f2=>?_,fun i B p hB hf=>?_,fun p hp=>?_⟩,hk,rfl,c.hgr,fun p u hp hno=>?_⟩
  · rcases c.fD hB' with⟨k,B,h1,h2,h3,_⟩|⟨h1,h2,B,h3,h4⟩
    · have hb:=c.EO h1 h2
      rcases h3 with h3|h3
      · exact hb.cP (zQ _) rfl (fun _=>Iff.rfl) (fun p u _ hu=>⟨hu,rfl⟩) h3
      · rw[←h3];exact hb
    · exact(c.hr.blk i B h3).cP hk (by simp only[db,h1]) (fun p=>by simp only[db,h1]) (fun p u hf hu=>(c.hfr p u hu (c.rP h3 h2 hf)).2) h4
  · have cross:∀{i j k:Nat} {B Bk:Blk},look H i=some B→mem i L=false→pl.fp i p→look o.heap k=some Bk→pl'.fp k p→False:=fun{i j k B Bk} hB hm hf hk hf'=>by
      obtain⟨u,hu⟩:=hown i B p hB hf
      exact(c.hfr p u hu (c.rP hB hm hf)).1 k Bk hk hf'
    rcases c.fD h1 with⟨k,B1,a1,a2,_,_⟩|⟨a1,a2,B1,a3,_⟩<;>rcases c.fD h2 with⟨k',B2,b1,b2,_,_⟩|⟨b1,b2,B2,b3,_⟩
    · simp only[db,a1]at f1
      simp only[db,b1]at f2
      have:=c.hro.dis k k' B1 B2 p a2 b2 f1 f2
      subst this
      rw[←c.EN a1,←c.EN b1]
    · simp only[db,a1]at f1
      simp only[db,b1]at f2
      exact(cross (j:=j) b3 b2 f2 a2 f1).elim
    · simp only[db,a1]at f1
      simp only[db,b1]at f2
      exact(cross (j:=j) a3 a2 f1 b2 f2).elim
    · simp only[db,a1]at f1
      simp only[db,b1]at f2
      exact c.hr.dis i j B1 B2 p a3 b3 f1 f2
  · rcases c.fD hB with⟨k,B1,a1,a2,_,_⟩|⟨a1,a2,B1,a3,_⟩
    · simp only[db,a1]at hf
      have:=c.hro.ob k B1 p a2 hf
      rw[c.pW]at this
      exact this.1
    · simp only[db,a1]at hf
      exact c.hr.ob i B1 p a3 hf
  · have:=c.hro.nb p hp
    rw[c.pW]at this
    exact this.1
  · obtain⟨g1,g2⟩:=c.hfr p u hp fun i B _ hB=>hno i B hB
    refine⟨fun i B hB hf=>?_,g2⟩
    rcases c.fD hB with⟨k,B1,a1,a2,_,_⟩|⟨a1,a2,B1,a3,_⟩
    · simp only[db,a1]at hf
      exact g1 k B1 a2 hf
    · simp only[db,a1]at hf
      exact hno i B1 a3 hf
end
inductive Pr where
  |one (t:Ty)
  |agg (ts:List Ty)
  |cP
def zR (h:aD):List Ty→List SV→Option (List SV)
  |[],[]=>some []
  |t::ts,v::vs=>(v.asR h t).bind fun p=>(zR h ts vs).bind fun l=>some (.r p.1 p.2::l)
  |_,_=>none
def wU (h:aD):Pr→SV→Option SV
  |.one t,v=>(v.asR h t).bind fun p=>some (.r p.1 p.2)
  |.agg ts,.agg cs=>(zR h ts cs).bind fun l=>some (.agg l)
  |.agg _,_=>none
  |.cP,v=>some v
def Ff (h:aD):List Pr→List SV→Option (List SV)
  |[],[]=>some []
  |s::ss,v::vs=>(wU h s v).bind fun x=>(Ff h ss vs).bind fun l=>some (x::l)
  |_,_=>none
def yG (pr:List Pr) (G:MG):Orc:=fun ρ nid vs h K=>
  (Ff h pr vs).bind fun vs1=>
    let L:=reach h 3 (j8 [] (Aq vs1))
    let D:=Fe L (lz vs1++nV h L)
    cond (nodup L) (cond (qL L D (lz vs1++nV h L)) ((vM L vs1).bind fun args=>(jC h L L).bind fun bs=>
      G ρ args bs fun o=>cond (Nat.beq o.kept.length L.length)
        (K {v:=o.v.back L nid L.length D,upd:=qS (Blk.back L nid L.length D) L o.kept,news:=qf L nid L.length D o.news,gone:=gK L o.kept,gP:=hC L o.kept}) none) none) none
theorem yH {h h':aD} (hh:Ext h h'):(ts:List Ty)→(vs:List SV)→Le (zR h ts vs) (zR h' ts vs)
  |[],[]=>Le.refl _
  |t::ts,v::vs=>(uc hh _ _).bind fun _=>(yH hh ts vs).bind fun _=>Le.refl _
  |[],_::_=>Le.refl _
  |_::_,[]=>Le.refl _
theorem Dp {h h':aD} (hh:Ext h h') (s:Pr) (v:SV):Le (wU h s v) (wU h' s v):=by
  intro p hp
  unfold wU at hp
  split at hp<;>simp only[wU]
  · exact((uc hh _ _).bind fun _=>Le.refl _) p hp
  · exact((yH hh _ _).bind fun _=>Le.refl _) p hp
  · exact nomatch hp
  · exact hp
theorem BP {h h':aD} (hh:Ext h h'):(ss:List Pr)→(vs:List SV)→Le (Ff h ss vs) (Ff h' ss vs)
  |[],[]=>Le.refl _
  |s::ss,v::vs=>(Dp hh s v).bind fun _=>(BP hh ss vs).bind fun _=>Le.refl _
  |[],_::_=>Le.refl _
  |_::_,[]=>Le.refl _
theorem yI {h h':aD} (hh:Ext h h') {L:List Nat}:(l:List Nat)→Le (jC h L l) (jC h' L l)
  |[]=>Le.refl _
  | i :: l => fun bs hb => by
    simp only[jC,Option.bind_eq_some_iff,Option.some.injEq]at hb⊢
    obtain⟨b,h1,b',h2,l',h3,rfl⟩:=hb
    exact⟨b,hh i b h1,b',h2,l',yI hh l _ h3,rfl⟩
theorem uQ {h h':aD} (hh:Ext h h'):(l:List Nat)→(∀i∈l,∃B,look h i=some B)→nV h' l=nV h l
  |[],_=>rfl
  | i :: l, hl => by
    obtain⟨B,hB⟩:=hl i (by simp)
    simp only[nV,hB,hh i B hB,uQ hh l fun k hk=>hl k (by simp[hk])]
section
variable {w:World} {H:aD} {pl:Pl} {P:Program}
theorem uR (hr:bH H pl w):∀{ts:List Ty} {vs:List SV} {us:List Value} {l:List SV},zR H ts vs=some l→vs.length=us.length→(∀(j:Nat) (x:SV) (u:Value),vs[j]? =some x→us[j]? =some u→aj w H pl x u)→
    l.length=us.length∧∀(j:Nat) (x:SV) (u:Value),l[j]? =some x→us[j]? =some u→aj w H pl x u
  |[],[],us,l,h,hl,_=>by cases h;exact⟨hl,fun j x u hx _=>by simp at hx⟩
  | t :: ts, v :: vs, u :: us, l, h, hl, hp => by
    simp only[zR,Option.bind_eq_some_iff,Option.some.injEq]at h
    obtain⟨⟨d,r⟩,h1,l',h2,rfl⟩:=h
    obtain⟨g1,g2⟩:=uR hr h2 (us:=us) (by simpa using hl) fun j x u hx hu=>hp (j+1) x u (by simpa using hx) (by simpa using hu)
    refine⟨by simp[g1],fun j x u' hx hu=>?_⟩
    cases j with
    |zero=>simp at hx hu;subst hx hu;exact .r _ _ _ (nD hr h1 (hp 0 v u rfl rfl))
    |succ j=>exact g2 j x u' (by simpa using hx) (by simpa using hu)
  |[],_::_,_,_,h,_,_=>nomatch h
  |_::_,[],_,_,h,_,_=>nomatch h
theorem BQ (hr:bH H pl w) {s:Pr} {v x:SV} {u:Value} (h:wU H s v=some x) (hv:aj w H pl v u):aj w H pl x u:=by
  unfold wU at h
  split at h
  · simp only[Option.bind_eq_some_iff,Option.some.injEq]at h
    obtain⟨⟨d,r⟩,h1,rfl⟩:=h
    exact .r _ _ _ (nD hr h1 hv)
  · simp only[Option.bind_eq_some_iff,Option.some.injEq]at h
    obtain⟨l,h1,rfl⟩:=h
    cases hv with
    | agg cs vs h2 h3 h4 =>
      obtain⟨g1,g2⟩:=uR hr h1 (us:=vs.toList) (by simpa using h2) fun j x u hx hu=>h4 j x u hx (by simpa using hu)
      exact .agg _ _ (by simpa using g1) h3 fun j x u hx hu=>g2 j x u hx (by simpa using hu)
  · exact nomatch h
  · cases h;exact hv
theorem yJ (hr:bH H pl w):∀{ss:List Pr} {vs:List SV} {us:List Value} {l:List SV},Ff H ss vs=some l→vs.length=us.length→(∀(j:Nat) (x:SV) (u:Value),vs[j]? =some x→us[j]? =some u→aj w H pl x u)→
    l.length=us.length∧∀(j:Nat) (x:SV) (u:Value),l[j]? =some x→us[j]? =some u→aj w H pl x u
  |[],[],us,l,h,hl,_=>by cases h;exact⟨hl,fun j x u hx _=>by simp at hx⟩
  | t :: ts, v :: vs, u :: us, l, h, hl, hp => by
    simp only[Ff,Option.bind_eq_some_iff,Option.some.injEq]at h
    obtain⟨x0,h1,l',h2,rfl⟩:=h
    obtain⟨g1,g2⟩:=yJ hr h2 (us:=us) (by simpa using hl) fun j x u hx hu=>hp (j+1) x u (by simpa using hx) (by simpa using hu)
    refine⟨by simp[g1],fun j x u' hx hu=>?_⟩
    cases j with
    |zero=>simp at hx hu;subst hx hu;exact BQ hr h1 (hp 0 v u rfl rfl)
    |succ j=>exact g2 j x u' (by simpa using hx) (by simpa using hu)
  |[],_::_,_,_,h,_,_=>nomatch h
  |_::_,[],_,_,h,_,_=>nomatch h
theorem uS {g:FuncId} {pr:List Pr} {G:MG} (h:EK P g G):nM P g (yG pr G):=by
  intro ρ nid vs H K out hK
  simp only[yG,Option.bind_eq_some_iff]at hK
  obtain⟨vs1,hpr,hK⟩:=hK
  generalize hLe:reach H 3 (j8 [] (Aq vs1))=L at hK
  cases hn:nodup L<;>simp only[hn,cond_true,cond_false]at hK
  · exact nomatch hK
  generalize hDe:Fe L (lz vs1++nV H L)=D at hK
  cases hsub:qL L D (lz vs1++nV H L)<;>simp only[hsub,cond_true,cond_false,Option.bind_eq_some_iff]at hK
  · exact nomatch hK
  obtain⟨args,hargs,bs,hbs,hG⟩:=hK
  obtain⟨o,ho,hen,hm,hcalls⟩:=h ρ args bs _ out hG
  cases hbl:Nat.beq o.kept.length L.length<;>simp only[hbl,cond_true,cond_false]at ho
  · exact nomatch ho
  have hbl:=Nat.eq_of_beq_eq_true hbl
  have hin:∀i∈L,∃B,look H i=some B:=fun i hi=>by
    obtain⟨k,hk⟩:=List.getElem?_of_mem hi
    have hlt:=(List.getElem?_eq_some_iff.1 hk).1
    obtain⟨i',b0,e1,e2,_⟩:=(dv hbs).2 k _ (List.getElem?_eq_getElem (show k<bs.length by rw[(dv hbs).1];exact hlt))
    rw[hk]at e1;cases e1
    exact⟨b0,e2⟩
  refine⟨_,ho,hen,fun i B hB=>hin i (jF hB),fun H1 pl w us he hr hnw hl hp H' ha=>?_⟩
  obtain⟨hs1,hs2⟩:=dU hsub
  obtain⟨g1,g2⟩:=yJ (us:=us.toList) hr (BP he _ _ _ hpr) (by simpa using hl) fun j x u hx hu=>hp j x u hx (by simpa using hu)
  have hbs1:=yI he L _ hbs
  have hd1:qL L D (nV H1 L)=true:=by rw[uQ he L hin];exact hs2
  obtain⟨q1,q2⟩:=iT hn hbs1 vs1 hs1 hargs us.toList g1 g2
  have lU:∀k,k<o.news.length→look H1 (nid+k)=none:=fun k hk=>hnw k (by rw[hJ];exact hk)
  refine(hcalls w us (nu H1 pl L D) (BN hr hn hbs1 hd1) (by simpa using q1) fun j x u hx hu=>q2 j x u hx (by simpa using hu)).mono fun e w' ⟨u,pl',he',h1,h2,h3,h4,h5,h6⟩=>?_
  have hc:iA w w' H1 H' pl pl' L D bs nid o:=by
    refine⟨hr,hn,hbs1,hbl,lU,fun i hi=>Dm (hDe▸hi),h1,h3,h4,h5,fun p u hu hno=>h6 p u hu fun k B hB hf=>?_,?_⟩
    · obtain⟨i,b0,e1,e2,e3,_⟩:=dw hbs1 hB
      simp only[nu,e2]at hf
      exact hno i b0 ((mem_iff i L).2 (List.mem_of_getElem? e1)) e3 hf
    · simp only[after,Option.bind_eq_some_iff,Option.some.injEq]at ha
      obtain⟨h1',e1,e2⟩:=ha
      exact⟨h1',e1,e2.symm⟩
  exact⟨u,_,he',hc.step,hc.rep o.v h2⟩
end
end Go.Proofs.Ev
set_option linter.unusedVariables false
set_option linter.unusedSimpArgs false
namespace Go.Proofs.Ev
variable [Tok]
set_option linter.unusedSectionVars false
inductive KD where
  |gone
  |arr
  |box (l:List RT)
def cr:List (Option Nat)→List KD→List Nat
  |some _::g,.gone::l=>cr g l
  |some i::g,_::l=>i::cr g l
  |none::g,_::l=>cr g l
  |_,_=>[]
def kB (h:aD):List (Option Nat)→List KD→Option (List (Bool× Ty× Option Nat))
  |[],[]=>some []
  |_::g,.gone::ks=>kB h g ks
  |some _::g,.arr::ks=>kB h g ks
  | some i :: g, .box l :: ks => match look h i with
    |some (.box cs)=>(s5 l cs).bind fun a=>(kB h g ks).bind fun b=>some (a++b)
    |_=>none
  |_,_=>none
def kC (h:aD) (LL:List Nat) (i:Nat):Option Blk:=
  match look h i with
  |some (.arr none t xs)=>some (.arr none t xs)
  |some (.arr (some d) t xs)=>cond (hit LL d) none (some (.arr (some []) t xs))
  |_=>none
def cI (h:aD) (LL:List Nat) (G:List (Option Nat)):List (Option Nat)→List KD→Nat→Option (List (Option Blk))
  |[],[],_=>some []
  |_::g,.gone::ks,k=>(cI h LL G g ks k).bind fun q=>some (none::q)
  |some i::g,.arr::ks,k=>(kC h LL i).bind fun b=>(cI h LL G g ks k).bind fun q=>some (some b::q)
  | some i :: g, .box l :: ks, k => match look h i with
    |some (.box cs)=>(CE h LL G l k cs).bind fun p=>(cI h LL G g ks p.2).bind fun q=>some (some (.box p.1)::q)
    |_=>none
  |_,_,_=>none
def l4:List (Option Nat)→List KD→List (Option Nat)
  |[],_=>[]
  |_::g,.gone::ks=>none::l4 g ks
  |og::g,.arr::ks=>og::l4 g ks
  |og::g,.box _::ks=>og::l4 g ks
  |_::g,[]=>none::l4 g []
def BR (rt:RT) (ks:List KD) (st:St) (v:SV):Option lI:=
  (rt.zN v).bind fun s0=>(kB st.heap st.gh ks).bind fun s1=>
    let LL:=cr st.gh ks++fm (s0++s1)
    cond (nodup LL) ((ix st.heap LL (s0++s1)).bind fun news=>(rt.out st.heap LL (l4 st.gh ks) st.gh.length v).bind fun p=>(cI st.heap LL (l4 st.gh ks) st.gh ks p.2).bind fun q=>some ⟨p.1,q,news⟩) none
def te (ks:List KD) (v:SV) (gh:List (Option Nat)):List (Option Nat):=
  cond (Nat.beq ks.length (gh.length+1)) (match v with
    |.ptr i 0 _=>gh++[some i]
    |.tup (.ptr i 0 _::_)=>gh++[some i]
    |_=>gh) gh
def yK (m:Nat) (o:lI):Option lI:=match o.kept.drop m with
  |[]=>some o
  |[some b]=>some ⟨o.v,o.kept.take m,b::o.news⟩
  |_=>none
def uT (rt:RT) (ks:List KD) (st:St) (v:SV):Option lI:=
  (BR rt ks {st with gh:=te ks v st.gh} v).bind (yK st.gh.length)
def tf (t:Nat) (st:St):Option St:=
  match look st.au t with
  | some (.sub i 0 n) => match look st.heap i with
    |some (.arr sh ty xs)=>cond (mem i (sh.getD [])) none (st.take (some t) {v:=.own st.nid,news:=[.arr sh ty (xs.take n)],gone:=[i]})
    |_=>some st
  |_=>some st
def yL (fn:Func) (rt:RT) (st:St):Option St:=
  match fn.results.toList,rt with
  |[.tmp t],.own _=>tf t st
  |[.tmp t],.shl _=>tf t st
  |_,_=>some st
def EP {ρ:Type} (P:Program) (fn:Func) (rt:RT) (ks:List KD) (dec:lI→Option ρ):Ex→St→Option ρ
  |.exit _,_=>none
  |.normal,st=>(yL fn rt st).bind fun st=>(D4 P fn st).bind fun v=>(uT rt ks st v).bind dec
  |.ret,st=>(yL fn rt st).bind fun st=>(D4 P fn st).bind fun v=>(uT rt ks st v).bind dec
def uU:Nat→List SV→List (Nat× SV)
  |_,[]=>[]
  |n,a::l=>(n,a)::uU (n+1) l
def rQ:Nat→Nat→List (Option Nat)
  |_,0=>[]
  |n,k+1=>some n::rQ (n+1) k
def D6 (fn:Func) (args:List SV) (bs:List Blk):St:={au:=uU 0 args,heap:=aI 0 bs,nid:=bs.length,n:=fn.ntmps,gh:=rQ 0 bs.length}
theorem wV (args:List SV) (n t:Nat):look (uU n args) t=if n≤t then args[t-n]? else none:=by
  induction args generalizing n with
  |nil=>simp[uU,look]
  | cons a l ih =>
    rw[uU,aq,ih]
    by_cases h:n=t
    · subst h;simp
    · by_cases h2:n≤t
      · rw[if_neg h,if_pos (by omega),if_pos h2,show t-n=(t-(n+1))+1 from by omega];rfl
      · rw[if_neg h,if_neg (by omega),if_neg h2]
theorem rR:∀(c n k:Nat) {i:Nat},(rQ n c)[k]? =some (some i)→i=n+k∧k<c
  |0,n,k,i,h=>by simp[rQ]at h
  |c+1,n,0,i,h=>by simp[rQ]at h;omega
  | c + 1, n, k + 1, i, h => by
    have:=rR c (n+1) k (by simpa[rQ]using h)
    omega
def Pl.xY (pl:Pl) (gh:List (Option Nat)) (S:List (Bool× Ty× Option Nat)):Pl:=
  ⟨fun k=>if k<gh.length then(match gh[k]? with|some (some i)=>pl.hdr i|_=>undef)else(pl.res S).hdr (k-gh.length),
   fun k=>if k<gh.length then(match gh[k]? with|some (some i)=>pl.fp i|_=>fun _=>False)else(pl.res S).fp (k-gh.length),pl.base⟩
section
variable {w:World} {H:aD} {pl:Pl} {gh G:List (Option Nat)} {ks:List KD} {S:List (Bool× Ty× Option Nat)} {LL:List Nat} {news:List Blk} {kept:List (Option Blk)} {v:SV}
theorem ep:∀{gh:List (Option Nat)} {ks:List KD} {k0:Nat} {kept:List (Option Blk)},cI H LL G gh ks k0=some kept→kept.length=gh.length∧
    ∀(k:Nat) (B:Blk),kept[k]? =some (some B)→∃i,gh[k]? =some (some i)∧mem i (cr gh ks)=true∧((∃l cs cs' k1 k2,ks[k]? =some (.box l)∧look H i=some (.box cs)∧CE H LL G l k1 cs=some (cs',k2)∧B=.box cs')∨(ks[k]? =some .arr∧kC H LL i=some B))
  |[],[],k0,kept,h=>by cases h;exact⟨rfl,fun k B hB=>by simp at hB⟩
  | og :: g, .gone :: ks, k0, kept, h => by
    simp only[cI,Option.bind_eq_some_iff,Option.some.injEq]at h
    obtain⟨q,h1,rfl⟩:=h
    obtain⟨g1,g2⟩:=ep h1
    refine⟨by simp[g1],fun k B hB=>?_⟩
    cases k with
    |zero=>simp at hB
    | succ k =>
      obtain⟨i,a1,a2,a3⟩:=g2 k B (by simpa using hB)
      refine⟨i,by simpa using a1,?_,by simpa using a3⟩
      cases og<;>simpa[cr]using a2
  | some i0 :: g, .arr :: ks, k0, kept, h => by
    simp only[cI,Option.bind_eq_some_iff,Option.some.injEq]at h
    obtain⟨b,h0,q,h1,rfl⟩:=h
    obtain⟨g1,g2⟩:=ep h1
    refine⟨by simp[g1],fun k B hB=>?_⟩
    cases k with
    |zero=>simp at hB;subst hB;exact⟨i0,rfl,by simp[cr,mem],.inr ⟨rfl,h0⟩⟩
    | succ k =>
      obtain⟨i,a1,a2,a3⟩:=g2 k B (by simpa using hB)
      refine⟨i,by simpa using a1,?_,by simpa using a3⟩
      rw[mem_iff]at a2⊢;simp[cr,a2]
  | some i0 :: g, .box l :: ks, k0, kept, h => by
    simp only[cI]at h
    split at h
    · rename_i cs hl
      simp only[Option.bind_eq_some_iff,Option.some.injEq]at h
      obtain⟨p,h0,q,h1,rfl⟩:=h
      obtain⟨g1,g2⟩:=ep h1
      refine⟨by simp[g1],fun k B hB=>?_⟩
      cases k with
      |zero=>simp at hB;subst hB;exact⟨i0,rfl,by simp[cr,mem],.inl ⟨l,cs,p.1,k0,p.2,rfl,hl,h0,rfl⟩⟩
      | succ k =>
        obtain⟨i,a1,a2,a3⟩:=g2 k B (by simpa using hB)
        refine⟨i,by simpa using a1,?_,by simpa using a3⟩
        rw[mem_iff]at a2⊢;simp[cr,a2]
    · exact nomatch h
  |[],_::_,_,_,h=>by cases h
  |none::_,[],_,_,h=>by cases h
  |some _::_,[],_,_,h=>by cases h
  |none::_,.arr::_,_,_,h=>by cases h
  |none::_,.box _::_,_,_,h=>by cases h
theorem mM (hr:bH H pl w) {H2:aD} {plR:Pl} {m:Nat} (hown:∀(k:Nat) (b:Bool) (t:Ty) (v:SV) (u:Value),aj w H pl v u→((∃i,v=.own i∧S[k]? =some (b,t,some i))∨(v=.bn∧S[k]? =some (b,t,none)))→aj w H2 plR (.own (m+k)) u)
    (hro:∀d p,hit LL d=false→okd H pl d p→okd H2 plR [] p) (hptr:∀i j o u,posOf i G 0=some j→aj w H pl (.ptr i 0 o) u→aj w H2 plR (.ptr j 0 o) u):∀{gh:List (Option Nat)} {ks:List KD} {j0:Nat} {kept:List (Option Blk)} {s:List (Bool× Ty× Option Nat)},
    kB H gh ks=some s→(∀(j:Nat) (x:Bool× Ty× Option Nat),s[j]? =some x→S[j0+j]? =some x)→cI H LL G gh ks (m+j0)=some kept→
    ∀ (k i : Nat) (cs cs' : List SV), gh[k]? = some (some i) → look H i = some (.box cs) → kept[k]? = some (some (.box cs')) → ∀ us : List Value, cs.length = us.length → (∀ (j : Nat) (x : SV) (u : Value), cs[j]? = some x → us[j]? = some u → aj w H pl x u) →
      cs'.length=us.length∧∀(j:Nat) (x:SV) (u:Value),cs'[j]? =some x→us[j]? =some u→aj w H2 plR x u
  |[],[],j0,kept,s,hs,hS,h,k,i,cs,cs',hk,_,_,_,_,_=>by simp at hk
  | og :: g, .gone :: ks, j0, kept, s, hs, hS, h, k, i, cs, cs', hk, hl, hc, us, hu, hp => by
    simp only[cI,Option.bind_eq_some_iff,Option.some.injEq]at h
    obtain⟨q,h1,rfl⟩:=h
    have hs:kB H g ks=some s:=by cases og<;>exact hs
    cases k with
    |zero=>simp at hc
    |succ k=>exact mM hr hown hro hptr hs hS h1 k i cs cs' (by simpa using hk) hl (by simpa using hc) us hu hp
  | some i0 :: g, .arr :: ks, j0, kept, s, hs, hS, h, k, i, cs, cs', hk, hl, hc, us, hu, hp => by
    simp only[cI,Option.bind_eq_some_iff,Option.some.injEq]at h
    obtain⟨b,h0,q,h1,rfl⟩:=h
    cases k with
    | zero =>
      simp at hk hc
      subst hk hc
      unfold kC at h0
      rw[hl]at h0;exact nomatch h0
    |succ k=>exact mM hr hown hro hptr (show kB H g ks=some s from hs) hS h1 k i cs cs' (by simpa using hk) hl (by simpa using hc) us hu hp
  | some i0 :: g, .box l :: ks, j0, kept, s, hs, hS, h, k, i, cs, cs', hk, hl, hc, us, hu, hp => by
    simp only[cI]at h
    simp only[kB]at hs
    cases hl0:look H i0 with
    |none=>rw[hl0]at h;exact nomatch h
    | some B0 =>
      cases B0 with
      |arr sh t xs=>rw[hl0]at h;exact nomatch h
      | box cs0 =>
        simp only[hl0,Option.bind_eq_some_iff,Option.some.injEq]at h hs
        obtain⟨p,h0,q,h1,rfl⟩:=h
        obtain⟨s1,e1,s2,e2,rfl⟩:=hs
        obtain⟨b,o,q1,q2,q3⟩:=hr.blk i0 _ hl0
        have key:∀us:List Value,cs0.length=us.length→(∀(j:Nat) (x:SV) (u:Value),cs0[j]? =some x→us[j]? =some u→aj w H pl x u)→_:=fun us hu hp=>
          iR hr hown hro hptr l e1 (fun j x hx=>hS j x (by rw[List.getElem?_append_left (List.getElem?_eq_some_iff.1 hx).1];exact hx)) (cs':=p.1) (k':=p.2) (by rw[h0]) us hu hp
        cases k with
        | zero =>
          simp at hk hc
          subst hk hc
          rw[hl0]at hl;cases hl
          obtain⟨g1,g2,_⟩:=key us hu hp
          exact⟨g1,g2⟩
        | succ k =>
          have hk2:p.2=m+(j0+s1.length):=by
            have hus:∃us:List Value,cs0.length=us.length∧∀(j:Nat) (x:SV) (u:Value),cs0[j]? =some x→us[j]? =some u→aj w H pl x u:=by
              have:∀n,n≤cs0.length→∃us:List Value,us.length=n∧∀(j:Nat) (x:SV) (u:Value),cs0[j]? =some x→us[j]? =some u→aj w H pl x u:=fun n=>by
                induction n with
                |zero=>exact fun _=>⟨[],rfl,fun j x u _ h=>by simp at h⟩
                | succ n ih =>
                  intro hn
                  obtain⟨us,a1,a2⟩:=ih (by omega)
                  obtain⟨u,_,_,_,b4⟩:=q3 n cs0[n] (List.getElem?_eq_getElem (by omega))
                  refine⟨us++[u],by simp[a1],fun j x u' hx hu'=>?_⟩
                  by_cases c:j<us.length
                  · rw[List.getElem?_append_left c]at hu';exact a2 j x u' hx hu'
                  · rw[List.getElem?_append_right (by omega)]at hu'
                    have hlt:=(List.getElem?_eq_some_iff.1 hu').1
                    simp at hlt
                    have:j=n:=by omega
                    subst this
                    rw[show j-us.length=0 from by omega]at hu'
                    simp at hu';subst hu'
                    rw[List.getElem?_eq_getElem (by omega)]at hx;cases hx
                    exact b4
              obtain⟨us,a1,a2⟩:=this cs0.length (Nat.le_refl _)
              exact⟨us,a1.symm,a2⟩
            obtain⟨us,a1,a2⟩:=hus
            exact(key us a1 a2).2.2
          rw[hk2]at h1
          exact mM hr hown hro hptr e2 (fun j x hx=>by
            have:=hS (s1.length+j) x (by rw[List.getElem?_append_right (by omega),Nat.add_sub_cancel_left];exact hx)
            rw[Nat.add_assoc];exact this) h1 k i cs cs' (by simpa using hk) hl (by simpa using hc) us hu hp
  |[],_::_,_,_,_,h,_,_,_,_,_,_,_,_,_,_,_,_=>by cases h
  |none::_,[],_,_,_,h,_,_,_,_,_,_,_,_,_,_,_,_=>by cases h
  |some _::_,[],_,_,_,h,_,_,_,_,_,_,_,_,_,_,_,_=>by cases h
  |none::_,.arr::_,_,_,_,h,_,_,_,_,_,_,_,_,_,_,_,_=>by cases h
  |none::_,.box _::_,_,_,_,h,_,_,_,_,_,_,_,_,_,_,_,_=>by cases h
theorem pj:∀{gh:List (Option Nat)} {ks:List KD} {k0 k0':Nat} {kept:List (Option Blk)},cI H LL G gh ks k0=some kept→(cr gh ks).Nodup→∀(k k':Nat) (B B':Blk) (i:Nat),
    kept[k]? =some (some B)→kept[k']? =some (some B')→gh[k]? =some (some i)→gh[k']? =some (some i)→k=k'
  |[],[],k0,k0',kept,h,hn,k,k',B,B',i,h1,h2,h3,h4=>by simp at h3
  | og :: g, .gone :: ks, k0, k0', kept, h, hn, k, k', B, B', i, h1, h2, h3, h4 => by
    simp only[cI,Option.bind_eq_some_iff,Option.some.injEq]at h
    obtain⟨q,e1,rfl⟩:=h
    have hn:(cr g ks).Nodup:=by cases og<;>simpa[cr]using hn
    cases k with
    |zero=>simp at h1
    | succ k => cases k' with
      |zero=>simp at h2
      |succ k'=>rw[pj (k0':=k0') e1 hn k k' B B' i (by simpa using h1) (by simpa using h2) (by simpa using h3) (by simpa using h4)]
  | some i0 :: g, .arr :: ks, k0, k0', kept, h, hn, k, k', B, B', i, h1, h2, h3, h4 => by
    simp only[cI,Option.bind_eq_some_iff,Option.some.injEq]at h
    obtain⟨b,e0,q,e1,rfl⟩:=h
    have hn:i0∉cr g ks∧(cr g ks).Nodup:=by simpa[cr]using hn
    have sub:∀{k B},q[k]? =some (some B)→g[k]? =some (some i0)→False:=fun{k B} q1 q2=>by
      obtain⟨i',a1,a2,_⟩:=(ep e1).2 k B q1
      rw[q2]at a1;cases a1
      exact hn.1 ((mem_iff _ _).1 a2)
    cases k with
    | zero => cases k' with
      |zero=>rfl
      |succ k'=>simp at h3;subst h3;exact(sub (by simpa using h2) (by simpa using h4)).elim
    | succ k => cases k' with
      |zero=>simp at h4;subst h4;exact(sub (by simpa using h1) (by simpa using h3)).elim
      |succ k'=>rw[pj (k0':=k0') e1 hn.2 k k' B B' i (by simpa using h1) (by simpa using h2) (by simpa using h3) (by simpa using h4)]
  | some i0 :: g, .box l :: ks, k0, k0', kept, h, hn, k, k', B, B', i, h1, h2, h3, h4 => by
    simp only[cI]at h
    split at h
    · simp only[Option.bind_eq_some_iff,Option.some.injEq]at h
      obtain⟨b,e0,q,e1,rfl⟩:=h
      have hn:i0∉cr g ks∧(cr g ks).Nodup:=by simpa[cr]using hn
      have sub:∀{k B},q[k]? =some (some B)→g[k]? =some (some i0)→False:=fun{k B} q1 q2=>by
        obtain⟨i',a1,a2,_⟩:=(ep e1).2 k B q1
        rw[q2]at a1;cases a1
        exact hn.1 ((mem_iff _ _).1 a2)
      cases k with
      | zero => cases k' with
        |zero=>rfl
        |succ k'=>simp at h3;subst h3;exact(sub (by simpa using h2) (by simpa using h4)).elim
      | succ k => cases k' with
        |zero=>simp at h4;subst h4;exact(sub (by simpa using h1) (by simpa using h3)).elim
        |succ k'=>rw[pj (k0':=k0') e1 hn.2 k k' B B' i (by simpa using h1) (by simpa using h2) (by simpa using h3) (by simpa using h4)]
    · exact nomatch h
  |[],_::_,_,_,_,h,_,_,_,_,_,_,_,_,_,_=>by cases h
  |none::_,[],_,_,_,h,_,_,_,_,_,_,_,_,_,_=>by cases h
  |some _::_,[],_,_,_,h,_,_,_,_,_,_,_,_,_,_=>by cases h
  |none::_,.arr::_,_,_,_,h,_,_,_,_,_,_,_,_,_,_=>by cases h
  |none::_,.box _::_,_,_,_,h,_,_,_,_,_,_,_,_,_,_=>by cases h
theorem hU:∀{gh:List (Option Nat)} {ks:List KD} {k0:Nat} {kept:List (Option Blk)} {j i:Nat},cI H LL G gh ks k0=some kept→(l4 gh ks)[j]? =some (some i)→∃B,kept[j]? =some (some B)∧gh[j]? =some (some i)
  |[],_,_,_,j,i,_,h=>by simp[l4]at h
  | og :: g, .gone :: ks, k0, kept, j, i, h, hj => by
    simp only[cI,Option.bind_eq_some_iff,Option.some.injEq]at h
    obtain⟨q,h1,rfl⟩:=h
    cases j with
    |zero=>simp[l4]at hj
    |succ j=>simpa using hU h1 (by simpa[l4]using hj)
  | some i0 :: g, .arr :: ks, k0, kept, j, i, h, hj => by
    simp only[cI,Option.bind_eq_some_iff,Option.some.injEq]at h
    obtain⟨b,h0,q,h1,rfl⟩:=h
    cases j with
    |zero=>simp[l4]at hj;subst hj;exact⟨b,rfl,rfl⟩
    |succ j=>simpa using hU h1 (by simpa[l4]using hj)
  | some i0 :: g, .box l :: ks, k0, kept, j, i, h, hj => by
    simp only[cI]at h
    split at h
    · simp only[Option.bind_eq_some_iff,Option.some.injEq]at h
      obtain⟨b,h0,q,h1,rfl⟩:=h
      cases j with
      |zero=>simp[l4]at hj;subst hj;exact⟨_,rfl,rfl⟩
      |succ j=>simpa using hU h1 (by simpa[l4]using hj)
    · exact nomatch h
  |none::_,[],_,_,_,_,h,_=>by cases h
  |some _::_,[],_,_,_,_,h,_=>by cases h
  |none::_,.arr::_,_,_,_,_,h,_=>by cases h
  |none::_,.box _::_,_,_,_,_,h,_=>by cases h
theorem nX {i:Nat}:∀{l:List (Option Nat)} {n k:Nat},posOf i l n=some k→n≤k∧l[k-n]? =some (some i)
  | none :: l, n, k, h => by
    obtain⟨h1,h2⟩:=nX (l:=l) (n:=n+1) h
    exact⟨by omega,by rw[show k-n=(k-(n+1))+1 from by omega];exact h2⟩
  | some j :: l, n, k, h => by
    simp only[posOf]at h
    cases hj:Nat.beq j i<;>simp only[hj,cond_true,cond_false,Option.some.injEq]at h
    · obtain⟨h1,h2⟩:=nX h
      exact⟨by omega,by rw[show k-n=(k-(n+1))+1 from by omega];exact h2⟩
    · subst h;exact⟨Nat.le_refl _,by simp[Nat.eq_of_beq_eq_true hj]⟩
theorem uV {st:St} {rt:RT} {o:lI} {u:Value} (hr:bH st.heap pl w) (h:BR rt ks st v=some o) (hv:aj w st.heap pl v u):
    ∃plM:Pl,bH o.heap plM w∧aj w o.heap plM o.v u∧plM.base=pl.base∧o.kept.length=st.gh.length∧
      (∀(k:Nat) (B:Blk),o.kept[k]? =some (some B)→∃i B0,st.gh[k]? =some (some i)∧look st.heap i=some B0∧plM.hdr k=pl.hdr i∧B0.gQ B)∧
      (∀k B p,look o.heap k=some B→plM.fp k p→∃i B0,look st.heap i=some B0∧pl.fp i p):=by
  simp only[BR,Option.bind_eq_some_iff]at h
  obtain⟨s0,hs0,s1,hs1,h⟩:=h
  generalize hS:s0++s1=S at h
  generalize hLL:cr st.gh ks++fm S=LL at h
  cases hnd:nodup LL<;>simp only[hnd,cond_true,cond_false,Option.bind_eq_some_iff,Option.some.injEq]at h
  · exact nomatch h
  obtain⟨news,hnews,p,hp,q,hq,rfl⟩:=h
  have hnd':=cY hnd
  rw[←hLL,List.nodup_append]at hnd'
  obtain⟨hk1,hk2⟩:=ep hq
  obtain⟨hb1,hb2⟩:=fN hnews
  let o:lI:=⟨p.1,q,news⟩
  let plM:=pl.xY st.gh S
  have hm:o.kept.length=st.gh.length:=hk1
  have origin:∀k B,look o.heap k=some B→(k<st.gh.length∧q[k]? =some (some B)∧∃i,st.gh[k]? =some (some i)∧mem i (cr st.gh ks)=true∧plM.hdr k=pl.hdr i∧plM.fp k=pl.fp i)∨
      (st.gh.length≤k∧∃b t oi,S[k-st.gh.length]? =some (b,t,oi)∧mH st.heap LL (b,t,oi)=some B∧plM.hdr k=(pl.res S).hdr (k-st.gh.length)∧plM.fp k=(pl.res S).fp (k-st.gh.length)):=fun k B hB=>by
    by_cases c:k<st.gh.length
    · rw[o.pg (by omega)]at hB
      obtain⟨ob,e1,e2⟩:=Option.bind_eq_some_iff.1 hB
      have e2:ob=some B:=e2
      subst e2
      obtain⟨i,a1,a2,_⟩:=hk2 k B e1
      exact .inl ⟨c,e1,i,a1,a2,by simp only[plM,Pl.xY,if_pos c,a1],by simp only[plM,Pl.xY,if_pos c,a1]⟩
    · rw[o.mK (by omega),hm]at hB
      obtain⟨⟨b,t,oi⟩,e1,e2⟩:=hb2 _ _ hB
      exact .inr ⟨by omega,b,t,oi,e1,e2,by simp only[plM,Pl.xY,if_neg c],by simp only[plM,Pl.xY,if_neg c]⟩
  have srcIn:∀{k b t i},S[k]? =some (b,t,some i)→mem i LL=true:=fun{k b t i} h=>by
    rw[←hLL,mem_append,(mem_iff i _).2 (iQ h),Bool.or_true]
  have hro:∀d p,hit LL d=false→okd st.heap pl d p→okd o.heap plM [] p:=fun d p hd hok=>by
    refine⟨hok.1,fun k B hB _ hf=>?_⟩
    have no:∀{i B0},look st.heap i=some B0→mem i LL=true→pl.fp i p→False:=fun{i B0} hl hi hf=>hok.2 i B0 hl (fun hm=>by
      have:=cT LL d hd i hm;rw[hi]at this;exact nomatch this) hf
    rcases origin k B hB with⟨c,e1,i,a1,a2,_,a4⟩|⟨c,b,t,oi,e1,e2,_,a4⟩
    · rw[a4]at hf
      have hi:mem i LL=true:=by rw[←hLL,mem_append,a2];rfl
      obtain⟨i',a1',_,hor⟩:=hk2 k B e1
      rw[a1]at a1';cases a1'
      rcases hor with⟨l,cs,cs',k1,k2,_,hl,_⟩|⟨_,ho⟩
      · exact no hl hi hf
      · unfold kC at ho
        cases hl:look st.heap i with
        |none=>rw[hl]at ho;exact nomatch ho
        |some B0=>exact no hl hi hf
    · rw[a4]at hf
      cases oi with
      |none=>simp[Pl.res,e1]at hf
      | some i =>
        simp only[Pl.res,e1]at hf
        obtain⟨sh,xs,hl,_⟩:=bo e2
        exact no hl (srcIn e1) hf
  have hown:∀(k:Nat) (b:Bool) (t:Ty) (v:SV) (u:Value),aj w st.heap pl v u→((∃i,v=.own i∧S[k]? =some (b,t,some i))∨(v=.bn∧S[k]? =some (b,t,none)))→aj w o.heap plM (.own (st.gh.length+k)) u:=fun k b t v u hv hc=>by
    have hget:∀{s},S[k]? =some s→∃B,look o.heap (st.gh.length+k)=some B∧mH st.heap LL s=some B:=fun{s} h=>by
      have hlt:k<news.length:=by rw[hb1];exact(List.getElem?_eq_some_iff.1 h).1
      obtain⟨s',h1,h2⟩:=hb2 k _ (List.getElem?_eq_getElem hlt)
      rw[h]at h1;cases h1
      exact⟨_,by rw[o.mK (by omega),hm,Nat.add_sub_cancel_left];exact List.getElem?_eq_getElem hlt,h2⟩
    have eh:plM.hdr (st.gh.length+k)=(pl.res S).hdr k:=by simp only[plM,Pl.xY,if_neg (show¬st.gh.length+k<st.gh.length by omega),Nat.add_sub_cancel_left]
    rcases hc with⟨i,rfl,h⟩|⟨rfl,h⟩
    · obtain⟨B,h1,h2⟩:=hget h
      obtain⟨sh,xs,hl,h3⟩:=bo h2
      have e:plM.hdr (st.gh.length+k)=pl.hdr i:=by rw[eh];simp only[Pl.res,h]
      cases hv with
      | own _ sh' t' ys hl' =>
        rw[←e]
        rcases h3 with⟨_,rfl⟩|⟨d,_,_,rfl⟩
        · exact .own _ none t xs h1
        · exact .own _ (some []) t xs h1
    · obtain⟨B,h1,h2⟩:=hget h
      have e:plM.hdr (st.gh.length+k)=.slice none 0 0:=by rw[eh];simp only[Pl.res,h]
      cases hv with
      | bn =>
        rw[←e]
        cases b with
        |false=>cases h2;exact .own _ none t [] h1
        |true=>cases h2;exact .own _ (some []) t [] h1
  have hptr:∀i j o' u,posOf i (l4 st.gh ks) 0=some j→aj w st.heap pl (.ptr i 0 o') u→aj w o.heap plM (.ptr j 0 o') u:=fun i j o' u hj hv=>by
    obtain⟨_,g1⟩:=nX hj
    rw[Nat.sub_zero]at g1
    obtain⟨B,g2,g3⟩:=hU hq g1
    have hlt:j<st.gh.length:=(List.getElem?_eq_some_iff.1 g3).1
    have eh:plM.hdr j=pl.hdr i:=by simp only[plM,Pl.xY,if_pos hlt,g3]
    have hl:look o.heap j=some B:=by rw[o.pg (by omega)];show(q[j]?).bind id=some B;rw[g2];rfl
    obtain⟨i',a1',_,hor⟩:=hk2 j B g2
    rw[g3]at a1';cases a1'
    cases hv with
    | nB _ _ cs b m0 hlb hh =>
      rcases hor with⟨l,cs1,cs',k1,k2,_,hl1,_,rfl⟩|⟨_,ho⟩
      · exact .nB j o' cs' b m0 hl (eh.trans hh)
      · unfold kC at ho;rw[hlb]at ho;exact nomatch ho
    | mi _ _ _ sh t xs b m0 n cap hlb hx hh =>
      rcases hor with⟨l,cs1,cs',k1,k2,_,hl1,_,rfl⟩|⟨_,ho⟩
      · rw[hlb]at hl1;exact nomatch hl1
      · unfold kC at ho
        rw[hlb]at ho
        cases sh with
        |none=>cases ho;exact .mi j 0 o' none t xs b m0 n cap hl hx (eh.trans hh)
        | some d =>
          simp only at ho
          cases hd:hit LL d<;>simp only[hd,cond_true,cond_false]at ho
          · cases ho;exact .mi j 0 o' _ t xs b m0 n cap hl hx (eh.trans hh)
          · exact nomatch ho
  have hS0:∀(j:Nat) (x:Bool× Ty× Option Nat),s0[j]? =some x→S[0+j]? =some x:=fun j x hx=>by
    rw[←hS,Nat.zero_add,List.getElem?_append_left (List.getElem?_eq_some_iff.1 hx).1];exact hx
  obtain⟨r1,r2⟩:=s6 (m:=st.gh.length) hr hown hro hptr rt hs0 hS0 (k:=0) (by rw[Nat.add_zero];exact hp) hv
  rw[r2,Nat.zero_add]at hq
  have hS1:∀(j:Nat) (x:Bool× Ty× Option Nat),s1[j]? =some x→S[s0.length+j]? =some x:=fun j x hx=>by
    rw[←hS,List.getElem?_append_right (by omega),Nat.add_sub_cancel_left];exact hx
  have hbx:=mM hr hown hro hptr hs1 hS1 hq
  refine⟨plM,⟨fun k B hB=>?_,fun k k' B B' p h1 h2 f1 f2=>?_,fun k B p hB hf=>?_,hr.nb⟩,r1,rfl,hk1,fun k B hB=>?_,fun k B p hB hf=>?_⟩
  · rcases origin k B hB with⟨c,e1,i,a1,a2,ah,af⟩|⟨c,b,t,oi,e1,e2,ah,af⟩
    · obtain ⟨i', a1', _, hor⟩ := hk2 k B e1
      rw[a1]at a1';cases a1'
      rcases hor with⟨l,cs,cs',k1,k2,_,hl,hol,rfl⟩|⟨_,ho⟩
      · obtain⟨b,off,q1,q2,q3⟩:=hr.blk i _ hl
        have hus:∃us:List Value,cs.length=us.length∧(∀(j:Nat) (u:Value),us[j]? =some u→w.at? (b,off+j)=some u∧calm (w.cD (b,off+j))=true∧one u=true)∧∀(j:Nat) (x:SV) (u:Value),cs[j]? =some x→us[j]? =some u→aj w st.heap pl x u:=by
          refine⟨(List.range cs.length).map fun j=>(w.at? (b,off+j)).getD undef,by simp,fun j u hu=>?_,fun j x u hx hu=>?_⟩
          · have hj:j<cs.length:=by have:=(List.getElem?_eq_some_iff.1 hu).1;simpa using this
            obtain⟨u',g1,g2,g3,g4⟩:=q3 j _ (List.getElem?_eq_getElem hj)
            have:u=u':=by
              rw[List.getElem?_map,List.getElem?_eq_getElem (by simpa using hj)]at hu
              simp[g1]at hu;exact hu.symm
            subst this;exact⟨g1,g2,g3⟩
          · obtain⟨u',g1,g2,g3,g4⟩:=q3 j x hx
            have hj:j<cs.length:=(List.getElem?_eq_some_iff.1 hx).1
            have:u=u':=by
              rw[List.getElem?_map,List.getElem?_eq_getElem (by simpa using hj)]at hu
              simp[g1]at hu;exact hu.symm
            subst this;exact g4
        obtain⟨us,u1,u2,u3⟩:=hus
        obtain⟨g1,g2⟩:=hbx k i cs cs' a1 hl e1 us u1 u3
        refine⟨b,off,ah.trans q1,fun p=>by rw[af,q2,g1,u1],fun j y hy=>?_⟩
        have hj:j<us.length:=by rw[←g1];exact(List.getElem?_eq_some_iff.1 hy).1
        obtain⟨z1,z2,z3⟩:=u2 j us[j] (List.getElem?_eq_getElem hj)
        exact⟨us[j],z1,z2,z3,g2 j y _ hy (List.getElem?_eq_getElem hj)⟩
      · unfold kC at ho
        split at ho
        · rename_i t xs hl
          cases ho
          show Nonempty (Row w (dc w) t xs (plM.hdr k) (plM.fp k))
          rw[ah,af];exact hr.blk i _ hl
        · rename_i d t xs hl
          cases hd:hit LL d<;>simp only[hd,cond_true,cond_false]at ho
          · cases ho
            obtain⟨⟨a,cap,b,q0,vs,fs,q1,q2,q3,q4,q5,q6,q7,q8,q9⟩⟩:=hr.blk i _ hl
            exact⟨⟨a,cap,b,q0,vs,fs,ah.trans q1,q2,q3,q4,q5,fun i j r hc=>⟨(q6 i j r hc).1.frame fun p u hp hu=>⟨hro d p hd hp,hu⟩,(q6 i j r hc).2⟩,q7,q8,fun p=>by rw[af];exact q9 p⟩⟩
          · exact nomatch ho
        · exact nomatch ho
    · cases oi with
      | none =>
        have e:plM.hdr k=.slice none 0 0:=by rw[ah];simp only[Pl.res,e1]
        have ef:plM.fp k=fun _=>False:=by rw[af];simp only[Pl.res,e1]
        have:=Row.nil (w:=w) (t:=t) (pT w o.heap plM (cond b (some []) none))
        rw[←e,←ef]at this
        cases b with
        |false=>cases e2;exact cC.ir this
        |true=>cases e2;exact cC.ir this
      | some i =>
        have e:plM.hdr k=pl.hdr i:=by rw[ah];simp only[Pl.res,e1]
        have ef:plM.fp k=pl.fp i:=by rw[af];simp only[Pl.res,e1]
        obtain⟨sh,xs,hl,h3⟩:=bo e2
        have hb:=hr.blk i _ hl
        rcases h3 with⟨rfl,rfl⟩|⟨d,rfl,hd,rfl⟩
        · show Nonempty (Row w (dc w) t xs (plM.hdr k) (plM.fp k))
          rw[e,ef];exact hb
        · obtain⟨⟨a,cap,b',q0,vs,fs,q1,q2,q3,q4,q5,q6,q7,q8,q9⟩⟩:=hb
          exact⟨⟨a,cap,b',q0,vs,fs,e.trans q1,q2,q3,q4,q5,fun i j r hc=>⟨(q6 i j r hc).1.frame fun p u hp hu=>⟨hro d p hd hp,hu⟩,(q6 i j r hc).2⟩,q7,q8,fun p=>by rw[ef];exact q9 p⟩⟩
  · have there:∀{i k B},q[k]? =some (some B)→st.gh[k]? =some (some i)→∃B0,look st.heap i=some B0:=fun{i k B} e1 a1=>by
      obtain⟨i',a1',_,hor⟩:=hk2 k B e1
      rw[a1]at a1';cases a1'
      rcases hor with⟨l,cs,cs',k1,k2,_,hl,_⟩|⟨_,ho⟩
      · exact⟨_,hl⟩
      · unfold kC at ho
        cases hl:look st.heap i with
        |none=>rw[hl]at ho;exact nomatch ho
        |some B0=>exact⟨_,rfl⟩
    rcases origin k B h1 with⟨c,e1,i,a1,a2,_,a4⟩|⟨c,b,t,oi,e1,e2,_,a4⟩<;>rcases origin k' B' h2 with⟨c',e1',i',a1',a2',_,a4'⟩|⟨c',b',t',oi',e1',e2',_,a4'⟩
    · rw[a4]at f1
      rw[a4']at f2
      obtain⟨B0,hl⟩:=there e1 a1
      obtain⟨B0',hl'⟩:=there e1' a1'
      have:=hr.dis i i' _ _ p hl hl' f1 f2
      subst this
      exact pj (k0':=0) hq hnd'.1 k k' B B' i e1 e1' a1 a1'
    · rw[a4]at f1
      rw[a4']at f2
      cases oi' with
      |none=>simp[Pl.res,e1']at f2
      | some i' =>
        simp only[Pl.res,e1']at f2
        obtain⟨B0,hl⟩:=there e1 a1
        obtain⟨sh,xs,hl',_⟩:=bo e2'
        have:=hr.dis i i' _ _ p hl hl' f1 f2
        subst this
        exact(hnd'.2.2 i ((mem_iff _ _).1 a2) i (iQ e1') rfl).elim
    · rw[a4]at f1
      rw[a4']at f2
      cases oi with
      |none=>simp[Pl.res,e1]at f1
      | some i =>
        simp only[Pl.res,e1]at f1
        obtain⟨B0,hl⟩:=there e1' a1'
        obtain⟨sh,xs,hl',_⟩:=bo e2
        have:=hr.dis i' i _ _ p hl hl' f2 f1
        subst this
        exact(hnd'.2.2 i' ((mem_iff _ _).1 a2') i' (iQ e1) rfl).elim
    · rw [a4] at f1
      rw[a4']at f2
      cases oi with
      |none=>simp[Pl.res,e1]at f1
      | some i =>
        cases oi' with
        |none=>simp[Pl.res,e1']at f2
        | some i' =>
          simp only[Pl.res,e1]at f1
          simp only[Pl.res,e1']at f2
          obtain⟨_,_,hl,_⟩:=bo e2
          obtain⟨_,_,hl',_⟩:=bo e2'
          have:=hr.dis i i' _ _ p hl hl' f1 f2
          subst this
          have:=uI hnd'.2.1 e1 e1'
          omega
  · rcases origin k B hB with⟨c,e1,i,a1,a2,_,a4⟩|⟨c,b,t,oi,e1,e2,_,a4⟩
    · rw[a4]at hf
      obtain⟨i',a1',_,hor⟩:=hk2 k B e1
      rw[a1]at a1';cases a1'
      rcases hor with⟨l,cs,cs',k1,k2,_,hl,_⟩|⟨_,ho⟩
      · exact hr.ob i _ p hl hf
      · unfold kC at ho
        cases hl:look st.heap i with
        |none=>rw[hl]at ho;exact nomatch ho
        |some B0=>exact hr.ob i _ p hl hf
    · rw[a4]at hf
      cases oi with
      |none=>simp[Pl.res,e1]at hf
      | some i =>
        simp only[Pl.res,e1]at hf
        obtain⟨_,_,hl,_⟩:=bo e2
        exact hr.ob i _ p hl hf
  · have hB:q[k]? =some (some B):=hB
    obtain⟨i,a1,a2,hor⟩:=hk2 k B hB
    have hlt:k<st.gh.length:=(List.getElem?_eq_some_iff.1 a1).1
    have ah:plM.hdr k=pl.hdr i:=by simp only[plM,Pl.xY,if_pos hlt,a1]
    rcases hor with⟨l,cs,cs',k1,k2,_,hl,hol,rfl⟩|⟨_,ho⟩
    · obtain⟨b,off,q1,q2,q3⟩:=hr.blk i _ hl
      refine⟨i,_,a1,hl,ah,?_⟩
      obtain⟨g1,_⟩:=hbx k i cs cs' a1 hl hB ((List.range cs.length).map fun j=>(w.at? (b,off+j)).getD undef) (by simp) fun j x u hx hu=>by
        obtain⟨u',g1,g2,g3,g4⟩:=q3 j x hx
        have hj:j<cs.length:=(List.getElem?_eq_some_iff.1 hx).1
        have:u=u':=by
          rw[List.getElem?_map,List.getElem?_eq_getElem (by simpa using hj)]at hu
          simp[g1]at hu;exact hu.symm
        subst this;exact g4
      show cs.length=cs'.length
      rw[g1];simp
    · unfold kC at ho
      split at ho
      · rename_i t xs hl;cases ho;exact⟨i,_,a1,hl,ah,⟨rfl,rfl⟩⟩
      · rename_i d t xs hl
        cases hd:hit LL d<;>simp only[hd,cond_true,cond_false]at ho
        · cases ho;exact⟨i,_,a1,hl,ah,⟨rfl,rfl⟩⟩
        · exact nomatch ho
      · exact nomatch ho
  · rcases origin k B hB with⟨c,e1,i,a1,a2,_,a4⟩|⟨c,b,t,oi,e1,e2,_,a4⟩
    · rw[a4]at hf
      obtain⟨i',a1',_,hor⟩:=hk2 k B e1
      rw[a1]at a1';cases a1'
      rcases hor with⟨l,cs,cs',k1,k2,_,hl,_⟩|⟨_,ho⟩
      · exact⟨i,_,hl,hf⟩
      · unfold kC at ho
        cases hl:look st.heap i with
        |none=>rw[hl]at ho;exact nomatch ho
        |some B0=>exact⟨i,_,hl,hf⟩
    · rw[a4]at hf
      cases oi with
      |none=>simp[Pl.res,e1]at hf
      | some i =>
        simp only[Pl.res,e1]at hf
        obtain⟨_,_,hl,_⟩:=bo e2
        exact⟨i,_,hl,hf⟩
end
theorem Act.Dq (a:Act) (t:Nat):a.put (some t) (a.tmps.getD t undef)=a:=by
  unfold Act.put
  have:a.tmps.setIfInBounds t (a.tmps.getD t undef)=a.tmps:=by
    apply Array.ext_getElem?
    intro i
    rw[Array.getElem?_setIfInBounds]
    by_cases e:t=i
    · subst e
      rw[if_pos rfl]
      by_cases h:t<a.tmps.size
      · rw[if_pos h,Array.getD_eq_getD_getElem?,Array.getElem?_eq_getElem h];rfl
      · rw[if_neg h,Array.getElem?_eq_none (by omega)]
    · rw[if_neg e]
  show({a with tmps:=a.tmps.setIfInBounds t (a.tmps.getD t undef)}:Act)=a
  rw[this]
theorem rS {w0:World} {fp0:G0} {bs:Cell→Prop} {m:Nat} {st st':St} {a:Act} {w:World} {t:Nat} (h:Rl w0 fp0 bs m st a w) (ht:tf t st=some st'):Rl w0 fp0 bs m st' a w:=by
  unfold tf at ht
  split at ht
  · rename_i i n hslot
    split at ht
    · rename_i sh ty xs hl
      cases hmi:mem i (sh.getD [])<;>rw[hmi]at ht
      rotate_left
      · exact nomatch ht
      rw[cond_false]at ht
      obtain⟨pl,hR,hb,hn⟩:=h
      have hv:=hR.sl t _ hslot
      obtain⟨⟨a0,cap,b,o,vs,fs,q1,q2,q3,q4,q5,q6,q7,q8,q9⟩⟩:=(hR.hr.blk i _ hl).Et
      have hu:∃a',a.tmps.getD t undef=.slice a' n cap∧(cap=0∨a'=some ⟨b,o,none⟩)∧n≤xs.length:=by
        generalize a.tmps.getD t undef=u at hv
        cases hv with
        | sub _ _ _ sh2 t2 xs2 a1 a2 cap1 cap2 hl2 hh hn1 hc hc' ha =>
          rw[hl]at hl2;cases hl2
          rw[q1]at hh;cases hh
          have hcc:cap2=cap:=by omega
          subst hcc
          refine⟨a2,rfl,?_,by omega⟩
          rcases ha with h|h
          · exact .inl h
          · rcases q3 with h'|h'
            · exact .inl h'
            · exact .inr (by rw[h,h'];simp[Addr.add])
      obtain⟨a',hu,ha',hnx⟩:=hu
      have htake:=ht
      simp only[St.take,Option.bind_eq_some_iff,Option.some.injEq]at htake
      obtain⟨h1,e1,s,h2,rfl⟩:=htake
      have hfresh:look st.heap st.nid=none:=hR.fresh st.nid (Nat.le_refl _)
      have hlen:(xs.take n).length=n:=by rw[List.length_take];omega
      have hT:iM st.heap (h1++aI st.nid [.arr sh ty (xs.take n)]) ([i],[i]) st.nid (.arr sh ty (xs.take n)):=
        rp (T:=([i],[i])) (fun k hk=>hk) e1 hfresh (fi (T:=([i],[i])) (fun k hk=>hk) e1)
      have hmm:mem i [i]=true:=by simp[mem]
      have hin:∀{i' j r},ax ty (xs.take n) i' j r→ax ty xs i' j r:=fun{i' j r} hx=>by
        obtain⟨x,hx1,hx2⟩:=hx
        have hlt:=(List.getElem?_eq_some_iff.1 hx1).1
        rw[hlen]at hlt
        exact⟨x,by rw[List.getElem?_take,if_pos hlt]at hx1;exact hx1,hx2⟩
      have hst:=fI (hdr:=a.tmps.getD t undef) (fp:=fun p=>reg b o (cap*ty.sz) p∨∃i' j r,ax ty (xs.take n) i' j r∧fs i' j p) (b9.refl w) hR.hr hT (fun k hk=>hk) (fun k hk=>.inl hk) (.inl hfresh) (fun p u hp _=>⟨hp,rfl⟩)
        (fun p hp=>hR.hr.nb p hp) (fun p hp=>.inr ⟨i,_,hmm,hl,(q9 p).2 (hp.elim .inl fun⟨i',j,r,hx,hf⟩=>.inr ⟨i',j,r,hin hx,hf⟩)⟩) (fun hk=>cC.ir ⟨a',cap,b,o,vs,fs,by simp[Pl.set,hu,hlen],by rw[hlen];omega,ha',q4,fun i' j r hx=>q5 i' j r (hin hx),fun i' j r hx=>by
          have hI:=q6 i' j r (hin hx)
          cases sh with
          |none=>exact hI
          | some d =>
            refine⟨hI.1.frame fun p u hp hu=>hk.k2 d p u (fun x hx=>?_) hp hu,hI.2⟩
            have hmi:mem i d=false:=hmi
            show mem x [i]=false
            simp only[mem]
            cases hb:Nat.beq i x
            · rfl
            · have:=Nat.eq_of_beq_eq_true hb
              subst this
              rw[hmi]at hx;exact(nomatch hx),fun i' j r p hx hf=>q7 i' j r p (hin hx) hf,fun i' j r i2 j2 r2 p hx hx' hf hf'=>q8 _ _ _ _ _ _ p (hin hx) (hin hx') hf hf',fun p=>by simp[Pl.set]⟩)
      have hres:=Rel.take hR ht (fun k B hB=>by simp[look]at hB) hst (u:=a.tmps.getD t undef) (by
        have:=aj.own (w:=w) (H:=h1++aI st.nid [.arr sh ty (xs.take n)]) (pl:=pl.set st.nid (a.tmps.getD t undef) fun p=>reg b o (cap*ty.sz) p∨∃i' j r,ax ty (xs.take n) i' j r∧fs i' j p) st.nid sh ty (xs.take n) hT.FJ
        simpa[Pl.set]using this)
      rw[Act.Dq]at hres
      exact⟨_,hres,hb,hn⟩
    · cases ht;exact h
  · cases ht;exact h
theorem uW {w0:World} {fp0:G0} {bs:Cell→Prop} {m:Nat} {fn:Func} {rt:RT} {st st':St} {a:Act} {w:World} (h:Rl w0 fp0 bs m st a w) (ht:yL fn rt st=some st'):Rl w0 fp0 bs m st' a w:=by
  unfold yL at ht
  split at ht
  · exact rS h ht
  · exact rS h ht
  · cases ht;exact h
theorem uX (ks:List KD) (v:SV) (gh:List (Option Nat)) (k:Nat) (h:k<gh.length):(te ks v gh)[k]? =gh[k]? :=by
  unfold te
  cases Nat.beq ks.length (gh.length+1)
  · rfl
  · simp only[cond_true]
    split
    · rw[List.getElem?_append_left h]
    · rw[List.getElem?_append_left h]
    · rfl
theorem BS (ks:List KD) (v:SV) (gh:List (Option Nat)):gh.length≤(te ks v gh).length:=by
  unfold te
  cases Nat.beq ks.length (gh.length+1)
  · exact Nat.le_refl _
  · simp only[cond_true]
    split
    · simp
    · simp
    · exact Nat.le_refl _
theorem kD:∀(a b:List (Option Blk)) (n:Nat),jE n (a++b)=jE n a++jE (n+a.length) b
  |[],b,n=>rfl
  | none :: a, b, n => by
    rw[List.cons_append,jE,jE,kD a b (n+1),List.length_cons]
    congr 2;omega
  | some x :: a, b, n => by
    rw[List.cons_append,jE,jE,kD a b (n+1),List.length_cons,List.cons_append]
    congr 3;omega
theorem uY {w:World} {pl:Pl} {ks:List KD} {v:SV} {st:St} {rt:RT} {o:lI} {u:Value} (hr:bH st.heap pl w) (h:uT rt ks st v=some o) (hv:aj w st.heap pl v u):
    ∃plM:Pl,bH o.heap plM w∧aj w o.heap plM o.v u∧plM.base=pl.base∧o.kept.length=st.gh.length∧
      (∀(k:Nat) (B:Blk),o.kept[k]? =some (some B)→∃i B0,st.gh[k]? =some (some i)∧look st.heap i=some B0∧plM.hdr k=pl.hdr i∧B0.gQ B)∧
      (∀k B p,look o.heap k=some B→plM.fp k p→∃i B0,look st.heap i=some B0∧pl.fp i p):=by
  simp only[uT,Option.bind_eq_some_iff]at h
  obtain⟨o1,h1,h2⟩:=h
  obtain⟨plM,m1,m2,m3,m4,m5,m6⟩:=uV (st:={st with gh:=te ks v st.gh}) hr h1 hv
  have hal:=BS ks v st.gh
  have m4:o1.kept.length=(te ks v st.gh).length:=m4
  unfold yK at h2
  split at h2
  · rename_i hd
    have h2:=Option.some.inj h2
    subst h2
    have hl:o1.kept.length≤st.gh.length:=by
      have:=congrArg List.length hd
      simp at this;omega
    exact⟨plM,m1,m2,m3,by omega,fun k B hB=>by
      obtain⟨i,B0,a1,a2⟩:=m5 k B hB
      have hk:k<o1.kept.length:=(List.getElem?_eq_some_iff.1 hB).1
      have a1:(te ks v st.gh)[k]? =some (some i):=a1
      rw[uX ks v st.gh k (by omega)]at a1
      exact⟨i,B0,a1,a2⟩,m6⟩
  · rename_i b hd
    have h2:=Option.some.inj h2
    subst h2
    have hlen:o1.kept.length=st.gh.length+1:=by
      have:=congrArg List.length hd
      simp at this;omega
    have hk:o1.kept=o1.kept.take st.gh.length++[some b]:=by
      rw[←hd,List.take_append_drop]
    have htl:(o1.kept.take st.gh.length).length=st.gh.length:=by simp;omega
    have hheap:(lI.heap ⟨o1.v,o1.kept.take st.gh.length,b::o1.news⟩)=o1.heap:=by
      unfold lI.heap
      show jE 0 (o1.kept.take st.gh.length)++aI (o1.kept.take st.gh.length).length (b::o1.news)=jE 0 o1.kept++aI o1.kept.length o1.news
      have e:jE 0 o1.kept=jE 0 (o1.kept.take st.gh.length)++jE (0+(o1.kept.take st.gh.length).length) [some b]:=by
        rw[←kD,←hk]
      rw[e,htl,hlen,List.append_assoc,Nat.zero_add]
      rfl
    refine⟨plM,by rw[hheap];exact m1,by rw[hheap];exact m2,m3,htl,fun k B hB=>?_,fun k B p hB hf=>?_⟩
    · have hB:(o1.kept.take st.gh.length)[k]? =some (some B):=hB
      have hkl:k<st.gh.length:=by have:=(List.getElem?_eq_some_iff.1 hB).1;omega
      rw[List.getElem?_take,if_pos hkl]at hB
      obtain⟨i,B0,a1,a2⟩:=m5 k B hB
      have a1:(te ks v st.gh)[k]? =some (some i):=a1
      rw[uX ks v st.gh k hkl]at a1
      exact⟨i,B0,a1,a2⟩
    · rw[hheap]at hB
      exact m6 k B p hB hf
  · exact nomatch h2
theorem BT {ρ:Type} {E:Env} (hE:bY E) {LP:Nat→Ev ρ→Ev ρ} {g:FuncId} {fn:Func} {c:Code} {args:List SV} {bs:List Blk} {r:ρ} {dec:lI→Option ρ} {enc:ρ→lI} (hd:∀o r,dec o=some r→o=enc r)
    (hlen:(enc r).kept.length=bs.length) (hf:E.P.funcs[g]? =some fn) (hc:fn.body=some c)
    (hnm:(fn.name== "runtime.NumGoroutine")=false) (hn:Nat.ble args.length fn.ntmps=true) (hLP:fY E LP 0 c) {rt:RT} {ks:List KD} (h:ev E LP 0 c (D6 fn args bs) (EP E.P fn rt ks dec)=some r):yE E.P g args bs (enc r):=by
  generalize ho:enc r=out at hlen
  refine⟨uu hf (by rw[hc];rfl) hnm,hlen,fun w us pl hrel0 hl hargs=>?_⟩
  have hn:=Nat.le_of_ble_eq_true hn
  refine calls_of_wp hf hc ?_
  let g0:G0:=⟨fun p=>∃k B,look (aI 0 bs) k=some B∧pl.fp k p,pl.hdr,fun k=>bs.getD k (.box [])⟩
  have FK:Rl w g0 pl.base fn.ntmps (D6 fn args bs) {tmps:=us++Array.replicate (fn.ntmps-us.size) undef,defers:=[]} w:=by
    refine⟨pl,⟨hrel0,fun t v hv=>?_,by simp[D6];omega,rfl,fun i hi=>nR (by show 0+bs.length≤i;have hi:bs.length≤i:=hi;omega),b9.refl w,fun p u hp hno=>⟨fun i B hB hf=>hno ⟨i,B,hB,hf⟩,hp,rfl⟩,fun k i hk=>?_⟩,rfl,rfl⟩
    · simp only[D6]at hv
      rw[wV,if_pos (Nat.zero_le _),Nat.sub_zero]at hv
      have ht:t<us.size:=by rw[←hl];exact(List.getElem?_eq_some_iff.1 hv).1
      have hg:(us++Array.replicate (fn.ntmps-us.size) undef).getD t undef=us[t]:=by
        rw[Array.getD_eq_getD_getElem?,Array.getElem?_append_left ht,Array.getElem?_eq_getElem ht];rfl
      rw[hg]
      exact hargs t v _ hv (Array.getElem?_eq_getElem ht)
    · obtain⟨rfl,h2⟩:=rR bs.length 0 k hk
      rw[Nat.zero_add]
      refine⟨h2,fun B hB=>⟨rfl,?_⟩⟩
      have hB:look (aI 0 bs) k=some B:=hB
      rw[aW,if_pos (Nat.zero_le _),Nat.sub_zero]at hB
      show(bs.getD k (.box [])).gQ B
      rw[List.getD_eq_getElem?_getD,hB];exact B.bR
  refine aE hE c 0 hLP w g0 pl.base fn.ntmps _ _ w _ r _ FK h fun e st' a' w' hK hr''=>?_
  have key:∀st',Rl w g0 pl.base fn.ntmps st' a' w'→∀v,D4 E.P fn st'=some v→uT rt ks st' v=some out→a'.defers=[]∧∃u,(results fn a'.tmps).run E.P w'=.ok u w'∧∃u' pl',Ending.returned u=.returned u'∧bH out.heap pl' w'∧aj w' out.heap pl' out.v u'∧pl'.base=pl.base∧b9 w w'∧
      (∀(k:Nat) (B:Blk),out.kept[k]? =some (some B)→pl'.hdr k=pl.hdr k∧∃B0,bs[k]? =some B0∧B0.gQ B)∧
      (∀p u,w.at? p=some u→(∀k B,look (aI 0 bs) k=some B→¬pl.fp k p)→(∀k B,look out.heap k=some B→¬pl'.fp k p)∧w'.at? p=some u∧w'.cD p=w.cD p):=fun st' hr' v hv hcn=>by
    obtain⟨pl1,hr,hb,_⟩:=hr'
    obtain⟨u,hu,hvr⟩:=yA (P:=E.P) hr.hr hr.sl hv
    obtain⟨plM,m1,m2,m3,m4,m5,m6⟩:=uY hr.hr hcn hvr
    refine⟨hr.df,u,hu,u,plM,rfl,m1,m2,m3.trans hb,hr.gr,fun k B hB=>?_,fun p u hp hno=>?_⟩
    · obtain⟨i,B0,a1,a2,a3,a4⟩:=m5 k B hB
      obtain⟨_,t2⟩:=hr.gk k i a1
      obtain⟨t3,t4⟩:=t2 B0 a2
      have hk:k<bs.length:=by rw[←hlen];exact(List.getElem?_eq_some_iff.1 hB).1
      refine⟨a3.trans t3,bs[k],List.getElem?_eq_getElem hk,?_⟩
      have t4:(bs.getD k (.box [])).gQ B0:=t4
      rw[List.getD_eq_getElem?_getD,List.getElem?_eq_getElem hk]at t4
      exact Blk.cG t4 a4
    · obtain⟨f1,f2,f3⟩:=hr.fr p u hp fun⟨k,B,hB,hf⟩=>hno k B hB hf
      exact⟨fun k B hB hf=>by
        obtain⟨i,B0,q1,q2⟩:=m6 k B p hB hf
        exact f1 i B0 q1 q2,f2,f3⟩
  cases e with
  |exit j=>exact nomatch hK
  | normal =>
    simp only[EP,Option.bind_eq_some_iff]at hK
    obtain⟨st2,hst2,v,hv,o,hcn,hdec⟩:=hK
    exact key st2 (uW hr'' hst2) v hv (hcn.trans (congrArg some ((hd o r hdec).trans ho)))
  | ret =>
    simp only[EP,Option.bind_eq_some_iff]at hK
    obtain⟨st2,hst2,v,hv,o,hcn,hdec⟩:=hK
    exact key st2 (uW hr'' hst2) v hv (hcn.trans (congrArg some ((hd o r hdec).trans ho)))
end Go.Proofs.Ev
