/- The evaluator over the model's code, and that it is sound: part 6. -/
import Derived.Test.YtjcmkefhdkccbaaEvK5
set_option linter.unusedVariables false
set_option linter.unusedSimpArgs false
namespace Go.Proofs.Ev
variable [Tok]
set_option linter.unusedSectionVars false
def XB (L:List Nat):List Nat→List Nat
  |[]=>[]
  | i :: l => match placeOf i L 0 with
    |some k=>k::XB L l
    |none=>XB L l
mutual
def SV.ren (L:List Nat):SV→Option SV
  |.r d x=>some (.r (XB L d) x)
  |.H5=>some .H5
  |.K0=>some .K0
  |.own i=>(placeOf i L 0).bind fun k=>some (.own k)
  |.sub i o n=>(placeOf i L 0).bind fun k=>some (.sub k o n)
  |.bsl i n=>(placeOf i L 0).bind fun k=>some (.bsl k n)
  |.ptr i x o=>(placeOf i L 0).bind fun k=>some (.ptr k x o)
  |.inn _ _ _=>none
  |.Jp d cs=>some (.Jp (XB L d) cs)
  |.agg cs=>(R4 L cs).bind fun l=>some (.agg l)
  |.tup cs=>(R4 L cs).bind fun l=>some (.tup l)
  |.fn f a b=>(R4 L a).bind fun a=>(R4 L b).bind fun b=>some (.fn f a b)
  |.undef=>some .undef
def R4 (L:List Nat):List SV→Option (List SV)
  |[]=>some []
  |v::l=>(v.ren L).bind fun v=>(R4 L l).bind fun l=>some (v::l)
end
def Blk.ren (L:List Nat):Blk→Option Blk
  |.box cs=>(R4 L cs).bind fun l=>some (.box l)
  |.arr none t xs=>some (.arr none t xs)
  |.arr (some d) t xs=>some (.arr (some (XB L d)) t xs)
def KK (h:GV) (L:List Nat):List Nat→Option (List Blk)
  |[]=>some []
  |i::l=>(look h i).bind fun b=>(b.ren L).bind fun b=>(KK h L l).bind fun l=>some (b::l)
def getAll (s:List (Nat× SV)):List Nat→Option (List SV)
  |[]=>some []
  |t::l=>(look s t).bind fun v=>(getAll s l).bind fun vs=>some (v::vs)
abbrev NF:=List SV× List Blk× List (Option Nat)
def Wi (h:GV):List (Option Nat)→List Nat
  |[]=>[]
  |none::l=>Wi h l
  | some i :: l => match look h i with
    |some _=>i::Wi h l
    |none=>Wi h l
def Qz (L:List Nat):List (Option Nat)→List (Option Nat)
  |[]=>[]
  |none::l=>none::Qz L l
  |some i::l=>placeOf i L 0::Qz L l
def norm (HL:List Nat) (st:St):Option NF:=
  (getAll st.G2 HL).bind fun vs=>
    let L:=reach st.heap 3 (K2 (K2 [] (Vc vs)) (Wi st.heap st.gh))
    cond (nodup L) ((R4 L vs).bind fun vs'=>(KK st.heap L L).bind fun bs=>some (vs',bs,Qz L st.gh)) none
def YY:List Nat→List SV→List (Nat× SV)
  |t::l,v::vs=>(t,v)::YY l vs
  |_,_=>[]
def G5 (HL:List Nat) (n:Nat) (nf:NF):St:={G2:=YY HL nf.1,heap:=GY 0 nf.2.1,nid:=nf.2.1.length,n:=n,gh:=nf.2.2}
theorem KL {L:List Nat}:{cs l:List SV}→R4 L cs=some l→l.length=cs.length
  |[],l,h=>by cases h;rfl
  | v :: cs, l, h => by
    simp only[R4,Option.bind_eq_some_iff,Option.some.injEq]at h
    obtain⟨v',hv,l',hl',rfl⟩:=h
    simp[KL hl']
section
variable {w:World} {H:GV} {pl:Pl} {L:List Nat} {bs:List Blk}
theorem Nz {i:Nat}:∀{L:List Nat} {n:Nat},placeOf i L n=none→i∉L
  |[],_,_=>fun h=>nomatch h
  | j :: l, n, h => by
    simp only[placeOf]at h
    cases hj:Nat.beq j i<;>simp only[hj,cond_true,cond_false]at h
    · intro hm
      rcases List.mem_cons.1 hm with rfl|hm
      · simp at hj
      · exact Nz h hm
    · exact nomatch h
theorem Im {h:GV} {L:List Nat}:∀{l:List Nat} {bs:List Blk},KK h L l=some bs→bs.length=l.length∧
    (∀(k:Nat) (b:Blk),bs[k]? =some b→∃i b0,l[k]? =some i∧look h i=some b0∧b0.ren L=some b)
  |[],bs,e=>by cases e;exact⟨rfl,fun k b hb=>by simp at hb⟩
  | i :: l, bs, e => by
    simp only[KK,Option.bind_eq_some_iff,Option.some.injEq]at e
    obtain⟨b0,h1,b,h2,l',h3,rfl⟩:=e
    obtain⟨g1,g2⟩:=Im h3
    refine⟨by simp[g1],fun k b' hb=>?_⟩
    cases k with
    |zero=>simp at hb;subst hb;exact⟨i,b0,rfl,h1,h2⟩
    |succ k=>simpa using g2 k b' (by simpa using hb)
theorem Kc (hL:KK H L L=some bs) {i k:Nat} (hk:placeOf i L 0=some k) {B:Blk} (hB:look H i=some B):
    L.getD k 0=i∧∃B',look (GY 0 bs) k=some B'∧B.ren L=some B':=by
  obtain⟨_,h2⟩:=Jm hk
  rw[Nat.sub_zero]at h2
  have hlt:k<bs.length:=by rw[(Im hL).1];exact(List.getElem?_eq_some_iff.1 h2).1
  obtain⟨i',b0,e1,e2,e3⟩:=(Im hL).2 k _ (List.getElem?_eq_getElem hlt)
  rw[h2]at e1;cases e1
  rw[hB]at e2;cases e2
  exact⟨by simp[List.getD,h2],_,by rw[Ha,if_pos (Nat.zero_le _),Nat.sub_zero];exact List.getElem?_eq_getElem hlt,e3⟩
theorem Io (hL:KK H L L=some bs) {k:Nat} {B:Blk} (hB:look (GY 0 bs) k=some B):∃i b0,L[k]? =some i∧L.getD k 0=i∧look H i=some b0∧b0.ren L=some B:=by
  rw[Ha,if_pos (Nat.zero_le _),Nat.sub_zero]at hB
  obtain⟨i,b0,h1,h2,h3⟩:=(Im hL).2 k B hB
  exact⟨i,b0,h1,by simp[List.getD,h1],h2,h3⟩
theorem Kd {L:List Nat} (hn:L.Nodup) {k i:Nat} (h:L[k]? =some i):placeOf i L 0=some k:=by
  cases hp:placeOf i L 0 with
  |none=>exact(Nz hp (List.mem_of_getElem? h)).elim
  | some k' =>
    obtain⟨_,h2⟩:=Jm hp
    rw[Nat.sub_zero]at h2
    have hlt:=(List.getElem?_eq_some_iff.1 h).1
    rw[(List.getElem?_inj hlt hn).1 (h.trans h2.symm)]
theorem TX {L d:List Nat} {k i:Nat} (h:placeOf i L 0=some k) (hd:mem i d=true):mem k (XB L d)=true:=by
  induction d with
  |nil=>exact nomatch hd
  | cons j l ih =>
    simp only[XB]
    simp only[mem]at hd
    cases hj:Nat.beq j i<;>simp only[hj,cond_true,cond_false]at hd
    · cases placeOf j L 0 with
      |none=>exact ih hd
      |some m=>simp only[mem];cases Nat.beq m k<;>simp[ih hd]
    · have:j=i:=Nat.eq_of_beq_eq_true hj
      subst this
      simp only[h,mem]
      simp
theorem Blk.Wj {b b':Blk} (h:b.ren L=some b'):b'.JE=b.JE:=by
  cases b with
  |box cs=>simp only[Blk.ren,Option.bind_eq_some_iff,Option.some.injEq]at h;obtain⟨_,_,rfl⟩:=h;rfl
  |arr sh t xs=>cases sh<;>(cases h;rfl)
theorem QA (hn:nodup L=true) (hL:KK H L L=some bs) {d:List Nat} {p:Cell} (h:okd H pl d p):okd (GY 0 bs) (pl.out L) (XB L d) p:=by
  refine⟨h.1,fun k B hB hm hf=>?_⟩
  obtain⟨i,b0,h1,hi,h2,h3⟩:=Io hL hB
  simp only[Pl.out,hi]at hf
  refine h.2 i b0 h2 (fun hd=>?_) hf
  rw[←Blk.Wj h3]
  exact hm (TX (Kd (Ia hn) h1) hd)
mutual
theorem SW (hn:nodup L=true) (hL:KK H L L=some bs):(v:SV)→{v':SV}→{u:Value}→v.ren L=some v'→GG w H pl v u→GG w (GY 0 bs) (pl.out L) v' u
  | .r d x, v', u, h, hv => by
    cases h
    cases hv with
    |r _ _ _ hx=>exact .r _ _ _ (hx.frame fun p u hp hu=>⟨QA hn hL hp,hu⟩)
  |.H5,v',u,h,hv=>by cases h;cases hv;exact .H5
  |.K0,v',u,h,hv=>by cases h;cases hv;exact .K0
  | .own i, v', u, h, hv => by
    simp only[SV.ren,Option.bind_eq_some_iff,Option.some.injEq]at h
    obtain⟨k,hk,rfl⟩:=h
    cases hv with
    | own _ sh t xs hl =>
      obtain⟨hi,B',g1,g2⟩:=Kc hL hk hl
      have e:(pl.out L).hdr k=pl.hdr i:=by simp only[Pl.out,hi]
      rw[←e]
      cases sh with
      |none=>cases g2;exact .own k none t xs g1
      |some d=>cases g2;exact .own k _ t xs g1
  | .sub i o n, v', u, h, hv => by
    simp only[SV.ren,Option.bind_eq_some_iff,Option.some.injEq]at h
    obtain⟨k,hk,rfl⟩:=h
    cases hv with
    | sub _ _ _ sh t xs a a' cap cap' hl hh h1 h2 h3 h4 =>
      obtain⟨hi,B',g1,g2⟩:=Kc hL hk hl
      have e:(pl.out L).hdr k=pl.hdr i:=by simp only[Pl.out,hi]
      cases sh with
      |none=>cases g2;exact .sub k o n none t xs a a' cap cap' g1 (e.trans hh) h1 h2 h3 h4
      |some d=>cases g2;exact .sub k o n _ t xs a a' cap cap' g1 (e.trans hh) h1 h2 h3 h4
  | .bsl i n, v', u, h, hv => by
    simp only[SV.ren,Option.bind_eq_some_iff,Option.some.injEq]at h
    obtain⟨k,hk,rfl⟩:=h
    cases hv with
    | bsl _ _ cs a hl hh =>
      obtain⟨hi,B',g1,g2⟩:=Kc hL hk hl
      have e:(pl.out L).hdr k=pl.hdr i:=by simp only[Pl.out,hi]
      simp only[Blk.ren,Option.bind_eq_some_iff,Option.some.injEq]at g2
      obtain⟨l,hl',rfl⟩:=g2
      exact .bsl k n l a g1 (e.trans hh)
  | .ptr i x o, v', u, h, hv => by
    simp only[SV.ren,Option.bind_eq_some_iff,Option.some.injEq]at h
    obtain⟨k,hk,rfl⟩:=h
    cases hv with
    | MZ _ _ cs b m hl hh =>
      obtain⟨hi,B',g1,g2⟩:=Kc hL hk hl
      have e:(pl.out L).hdr k=pl.hdr i:=by simp only[Pl.out,hi]
      simp only[Blk.ren,Option.bind_eq_some_iff,Option.some.injEq]at g2
      obtain⟨l,hl',rfl⟩:=g2
      exact .MZ k o l b m g1 (e.trans hh)
    | Mj _ _ _ sh t xs b m n cap hl hx hh =>
      obtain⟨hi,B',g1,g2⟩:=Kc hL hk hl
      have e:(pl.out L).hdr k=pl.hdr i:=by simp only[Pl.out,hi]
      cases sh with
      |none=>cases g2;exact .Mj k x o none t xs b m n cap g1 hx (e.trans hh)
      |some d=>cases g2;exact .Mj k x o _ t xs b m n cap g1 hx (e.trans hh)
  |.inn _ _ _,v',u,h,hv=>by cases h
  | .Jp d cs, v', u, h, hv => by
    cases h
    cases hv with
    |Jp _ _ b o vs h1 h2=>exact .Jp _ _ b o vs (fun j r hj=>⟨QA hn hL (h1 j r hj).1,(h1 j r hj).2⟩) fun j r hj=>(h2 j r hj).frame fun p u hp hu=>⟨QA hn hL hp,hu⟩
  | .agg cs, v', u, h, hv => by
    simp only[SV.ren,Option.bind_eq_some_iff,Option.some.injEq]at h
    obtain⟨l,hl,rfl⟩:=h
    cases hv with
    | agg _ vs h1 h2 h3 =>
      obtain⟨g1,g2⟩:=ME hn hL cs hl vs.toList (by simpa using h1) fun j x u hx hu=>h3 j x u hx (by simpa using hu)
      exact .agg _ _ (by simpa using g1) h2 fun j x u hx hu=>g2 j x u hx (by simpa using hu)
  | .tup cs, v', u, h, hv => by
    simp only[SV.ren,Option.bind_eq_some_iff,Option.some.injEq]at h
    obtain⟨l,hl,rfl⟩:=h
    cases hv with
    | tup _ vs h1 h3 =>
      obtain⟨g1,g2⟩:=ME hn hL cs hl vs.toList (by simpa using h1) fun j x u hx hu=>h3 j x u hx (by simpa using hu)
      exact .tup _ _ (by simpa using g1) fun j x u hx hu=>g2 j x u hx (by simpa using hu)
  | .fn f as bs', v', u, h, hv => by
    simp only[SV.ren,Option.bind_eq_some_iff,Option.some.injEq]at h
    obtain⟨l,hl,l',hl',rfl⟩:=h
    cases hv with
    | fn _ _ _ us vs h1 h3 h1' h3' =>
      obtain⟨g1,g2⟩:=ME hn hL as hl us.toList (by simpa using h1) fun j x u hx hu=>h3 j x u hx (by simpa using hu)
      obtain⟨g3,g4⟩:=ME hn hL bs' hl' vs.toList (by simpa using h1') fun j x u hx hu=>h3' j x u hx (by simpa using hu)
      exact .fn _ _ _ _ _ (by simpa using g1) (fun j x u hx hu=>g2 j x u hx (by simpa using hu)) (by simpa using g3) fun j x u hx hu=>g4 j x u hx (by simpa using hu)
  |.undef,v',u,h,hv=>by cases h;exact .undef _
theorem ME (hn:nodup L=true) (hL:KK H L L=some bs):(cs:List SV)→{l:List SV}→R4 L cs=some l→(us:List Value)→cs.length=us.length→
    (∀(j:Nat) (x:SV) (u:Value),cs[j]? =some x→us[j]? =some u→GG w H pl x u)→
    l.length=us.length∧∀(j:Nat) (x:SV) (u:Value),l[j]? =some x→us[j]? =some u→GG w (GY 0 bs) (pl.out L) x u
  |[],l,h,us,hl,_=>by cases h;exact⟨hl,fun j x u hx _=>by simp at hx⟩
  | v :: cs, l, h, u :: us, hl, hp => by
    simp only[R4,Option.bind_eq_some_iff,Option.some.injEq]at h
    obtain⟨v',hv,l',hl',rfl⟩:=h
    obtain⟨g1,g2⟩:=ME hn hL cs hl' us (by simpa using hl) fun j x u hx hu=>hp (j+1) x u (by simpa using hx) (by simpa using hu)
    refine⟨by simp[g1],fun j x u' hx hu=>?_⟩
    cases j with
    |zero=>simp at hx hu;subst hx hu;exact SW hn hL v hv (hp 0 v u rfl rfl)
    |succ j=>exact g2 j x u' (by simpa using hx) (by simpa using hu)
end
theorem QB {cs l:List SV} (h:R4 L cs=some l):∀(j:Nat) (x:SV),l[j]? =some x→∃y,cs[j]? =some y∧y.ren L=some x:=by
  induction cs generalizing l with
  |nil=>cases h;intro j x hx;simp at hx
  | cons v cs ih =>
    simp only[R4,Option.bind_eq_some_iff,Option.some.injEq]at h
    obtain⟨v',hv,l',hl',rfl⟩:=h
    intro j x hx
    cases j with
    |zero=>simp at hx;subst hx;exact⟨v,rfl,hv⟩
    |succ j=>simpa using ih hl' j x (by simpa using hx)
theorem XC (hr:Hq H pl w) (hn:nodup L=true) (hL:KK H L L=some bs):Hq (GY 0 bs) (pl.out L) w:=by
  refine⟨fun k B hB=>?_,fun k k' B B' p h1 h2 f1 f2=>?_,fun k B p hB hf=>?_,hr.nb⟩
  · obtain⟨i,b0,h1,hi,h2,h3⟩:=Io hL hB
    have hb:=hr.blk i b0 h2
    have eh:(pl.out L).hdr k=pl.hdr i:=by simp only[Pl.out,hi]
    have ef:(pl.out L).fp k=pl.fp i:=by simp only[Pl.out,hi]
    cases b0 with
    | box cs =>
      simp only[Blk.ren,Option.bind_eq_some_iff,Option.some.injEq]at h3
      obtain⟨l,hl,rfl⟩:=h3
      obtain⟨b,o,q1,q2,q3⟩:=hb
      refine⟨b,o,eh.trans q1,fun p=>by rw[ef,q2,KL hl],fun j v hv=>?_⟩
      obtain⟨y,hy,hy2⟩:=QB hl j v hv
      obtain⟨u,g1,g2,g3,g4⟩:=q3 j y hy
      exact⟨u,g1,g2,g3,SW hn hL y hy2 g4⟩
    | arr sh t xs =>
      cases sh with
      | none =>
        cases h3
        show Nonempty (Row w (Ie w) t xs ((pl.out L).hdr k) ((pl.out L).fp k))
        rw[eh,ef];exact hb
      | some d =>
        cases h3
        obtain⟨⟨a,cap,b,o,vs,fs,q1,q2,q3,q4,q5,q6,q7,q8,q9⟩⟩:=hb
        exact⟨⟨a,cap,b,o,vs,fs,eh.trans q1,q2,q3,q4,q5,fun i j r hc=>⟨(q6 i j r hc).1.frame fun p u hp hu=>⟨QA hn hL hp,hu⟩,(q6 i j r hc).2⟩,q7,q8,fun p=>by rw[ef];exact q9 p⟩⟩
  · obtain⟨i,b0,g1,hi,g2,g3⟩:=Io hL h1
    obtain⟨i',b0',g1',hi',g2',g3'⟩:=Io hL h2
    simp only[Pl.out,hi]at f1
    simp only[Pl.out,hi']at f2
    have:=hr.dis i i' b0 b0' p g2 g2' f1 f2
    subst this
    exact(List.getElem?_inj (List.getElem?_eq_some_iff.1 g1).1 (Ia hn)).1 (g1.trans g1'.symm)
  · obtain⟨i,b0,g1,hi,g2,g3⟩:=Io hL hB
    simp only[Pl.out,hi]at hf
    exact hr.ob i b0 p g2 hf
theorem PH {s:List (Nat× SV)}:∀{l:List Nat} {vs:List SV},getAll s l=some vs→vs.length=l.length∧∀(j t:Nat),l[j]? =some t→∃v,vs[j]? =some v∧look s t=some v
  |[],vs,h=>by cases h;exact⟨rfl,fun j t ht=>by simp at ht⟩
  | t :: l, vs, h => by
    simp only[getAll,Option.bind_eq_some_iff,Option.some.injEq]at h
    obtain⟨v,hv,vs',hvs,rfl⟩:=h
    obtain⟨g1,g2⟩:=PH hvs
    refine⟨by simp[g1],fun j t' ht=>?_⟩
    cases j with
    |zero=>simp at ht;subst ht;exact⟨v,rfl,hv⟩
    |succ j=>simpa using g2 j t' (by simpa using ht)
theorem RC:∀{l:List Nat} {vs:List SV} {t:Nat} {v:SV},look (YY l vs) t=some v→∃j:Nat,l[j]? =some t∧vs[j]? =some v
  |[],_,t,v,h=>by simp[YY,look]at h
  |_::_,[],t,v,h=>by simp[YY,look]at h
  | k :: l, x :: vs, t, v, h => by
    rw[YY,GK]at h
    by_cases e:k=t
    · rw[if_pos e]at h;cases h;exact⟨0,by simp[e],rfl⟩
    · rw[if_neg e]at h
      obtain⟨j,h1,h2⟩:=RC h
      exact⟨j+1,by simpa using h1,by simpa using h2⟩
end
theorem Blk.QC {L:List Nat} {b b':Blk} (h:b.ren L=some b'):b.JP b':=by
  cases b with
  | box cs =>
    simp only[Blk.ren,Option.bind_eq_some_iff,Option.some.injEq]at h
    obtain⟨l,h1,rfl⟩:=h
    exact(KL h1).symm
  |arr sh t xs=>cases sh<;>(cases h;exact⟨rfl,rfl⟩)
theorem OA {L:List Nat}:∀{gh:List (Option Nat)} {k i:Nat},(Qz L gh)[k]? =some (some i)→∃j,gh[k]? =some (some j)∧placeOf j L 0=some i
  |[],k,i,h=>by simp[Qz]at h
  | none :: l, k, i, h => by
    cases k with
    |zero=>simp[Qz]at h
    |succ k=>simpa using OA (gh:=l) (by simpa[Qz]using h)
  | some j :: l, k, i, h => by
    cases k with
    |zero=>simp[Qz]at h;exact⟨j,rfl,h⟩
    |succ k=>simpa using OA (gh:=l) (by simpa[Qz]using h)
theorem SX {w0:World} {fp0:G0} {bs:Cell→Prop} {n:Nat} {HL:List Nat} {st:St} {nf:NF} {a:Act} {w:World} (h:Rl w0 fp0 bs n st a w) (hn:norm HL st=some nf):
    Rl w0 fp0 bs n (G5 HL n nf) a w:=by
  obtain⟨pl,hr,hb,hnn⟩:=h
  simp only[norm,Option.bind_eq_some_iff]at hn
  obtain⟨vs,hvs,hn⟩:=hn
  generalize reach st.heap 3 (K2 (K2 [] (Vc vs)) (Wi st.heap st.gh))=L at hn
  cases hnd:nodup L<;>simp only[hnd,cond_true,cond_false,Option.bind_eq_some_iff,Option.some.injEq]at hn
  · exact nomatch hn
  · obtain⟨vs',hvs',bs',hbs,rfl⟩:=hn
    refine⟨pl.out L,⟨XC hr.hr hnd hbs,fun t v hv=>?_,hr.sz.trans hnn,hr.df,fun i hi=>?_,hr.gr,fun p u hp hno=>?_,fun k i hk=>?_⟩,hb,rfl⟩
    · obtain⟨j,h1,h2⟩:=RC hv
      obtain⟨x,h3,h4⟩:=(PH hvs).2 j t h1
      obtain⟨y,h5,h6⟩:=QB hvs' j v h2
      rw[h3]at h5;cases h5
      exact SW hnd hbs x h6 (hr.sl t x h4)
    · show look (GY 0 bs') i=none
      rw[Ha,if_pos (Nat.zero_le _),Nat.sub_zero]
      exact List.getElem?_eq_none hi
    · obtain⟨g1,g2,g3⟩:=hr.fr p u hp hno
      refine⟨fun k B hB hf=>?_,g2,g3⟩
      obtain⟨i,b0,_,hi,e2,_⟩:=Io hbs hB
      simp only[Pl.out,hi]at hf
      exact g1 i b0 e2 hf
    · obtain⟨j,h1,h2⟩:=OA hk
      obtain⟨q1,q2⟩:=hr.gk k j h1
      obtain⟨p1,p2⟩:=Jm h2
      rw[Nat.sub_zero]at p2
      have hlt:i<bs'.length:=by rw[(Im hbs).1];exact(List.getElem?_eq_some_iff.1 p2).1
      refine⟨hlt,fun B hB=>?_⟩
      obtain⟨i',b0,g1,g2,g3,g4⟩:=Io hbs hB
      rw[p2]at g1;cases g1
      obtain⟨r1,r2⟩:=q2 b0 g3
      exact⟨by simp only[Pl.out,g2];exact r1,Blk.HZ r2 (Blk.QC g4)⟩
def HH (HL:List Nat) (co:List (Ht× Co)) (st:St):Option NF:=
  match co with
  |[]=>norm HL st
  |_=>(norm HL st).bind fun nf=>norm HL (Vs co (G5 HL st.n nf))
theorem NP {w0:World} {fp0:G0} {bs:Cell→Prop} {n:Nat} {HL:List Nat} {co:List (Ht× Co)} {st:St} {nf:NF} {a:Act} {w:World} (h:Rl w0 fp0 bs n st a w) (hn:HH HL co st=some nf):
    Rl w0 fp0 bs n (G5 HL n nf) a w:=by
  unfold HH at hn
  split at hn
  · exact SX h hn
  · simp only[Option.bind_eq_some_iff]at hn
    obtain⟨nf1,h1,h2⟩:=hn
    obtain⟨_,_,_,hnn⟩:=id h
    rw[hnn]at h2
    have:=NN co (SX h h1)
    exact SX this h2
section
variable {ρ:Type}
def Wk (body:Ev ρ) (HL:List Nat) (co:List (Ht× Co)) (kx:Ex→List Nat) (cx:Ex→List (Ht× Co)):Nat→Ev ρ
  |0,_,_=>none
  | k + 1, st, K => body st fun e st' => match e with
    |.normal=>(HH HL co st').bind fun nf=>Wk body HL co kx cx k (G5 HL st'.n nf) K
    |e=>(HH (kx e) (cx e) st').bind fun nf=>K e (G5 (kx e) st'.n nf)
theorem Rl.Z5 {w0:World} {fp0:G0} {bs:Cell→Prop} {n:Nat} {st:St} {a:Act} {w:World} (h:Rl w0 fp0 bs n st a w):st.n=n:=by
  obtain⟨_,_,_,h⟩:=h;exact h
theorem SY {P:Program} {c:Code} {f:Ev ρ} (hf:Sound P c f) (HL:List Nat) (co:List (Ht× Co)) (kx:Ex→List Nat) (cx:Ex→List (Ht× Co)) (k:Nat):Sound P (.loop c) (Wk f HL co kx cx k):=by
  intro w0 fp0 bs n st a w K out Q hr h hK
  refine wp_loop_rounds k ?_
  induction k generalizing st a w with
  |zero=>exact nomatch h
  | succ k ih =>
    rw[rounds_succ]
    exact hf w0 fp0 bs n st a w _ out _ hr h fun e st' a' w' h' hr'=>by
      have hn:=hr'.Z5
      cases e with
      | normal =>
        simp only[Option.bind_eq_some_iff]at h'
        obtain⟨nf,h1,h2⟩:=h'
        rw[hn]at h2
        exact ih _ a' w' (NP hr' h1) h2
      | exit j =>
        simp only[Option.bind_eq_some_iff]at h'
        obtain⟨nf,h1,h2⟩:=h'
        rw[hn]at h2
        exact hK (.exit j) _ a' w' h2 (NP hr' h1)
      | ret =>
        simp only[Option.bind_eq_some_iff]at h'
        obtain⟨nf,h1,h2⟩:=h'
        rw[hn]at h2
        exact hK .ret _ a' w' h2 (NP hr' h1)
def bej {α β:Type} (f:α→β) (k:α):β:=f k
def iter {V R:Type} (g:V→(V→Option R)→Option R):Nat→V→Option R
  |0,_=>none
  |k+1,v=>g v (iter g k)
def HM {V:Type} (HL:List Nat) (co:List (Ht× Co)) (dec:Nat→NF→Option V) (run:V→(Ex→St→Option ρ)→Option ρ):Ev ρ:=fun st K=>
  (HH HL co st).bind fun nf=>(dec st.n nf).bind fun v=>run v K
theorem QD {P:Program} {c:Code} {f:Ev ρ} {V:Type} (hf:Sound P c f) {HL:List Nat} {co:List (Ht× Co)} (kx:Ex→List Nat) (cx:Ex→List (Ht× Co)) {dec:Nat→NF→Option V} {run:V→(Ex→St→Option ρ)→Option ρ}
    {tm:V→St} (k:Nat) (hd:∀n nf v,dec n nf=some v→G5 HL n nf=tm v)
    (hrun:∀v K,run v K=Wk f HL co kx cx k (tm v) K):Sound P (.loop c) (HM HL co dec run):=by
  intro w0 fp0 bs n st a w K out Q hr h hK
  simp only[HM,Option.bind_eq_some_iff]at h
  obtain⟨nf,h1,v,h2,h3⟩:=h
  have hn:=hr.Z5
  rw[hn]at h2
  rw[hrun v K,←hd n nf v h2]at h3
  exact SY hf HL co kx cx k w0 fp0 bs n _ a w K out Q (NP hr h1) h3 hK
theorem PI {V:Type} {f:Ev ρ} {HL:List Nat} {co:List (Ht× Co)} {kx:Ex→List Nat} {cx:Ex→List (Ht× Co)} {tm:V→St} {g:V→(V→Option ρ)→(Ex→St→Option ρ)→Option ρ}
    (hg:∀(v:V) (K K1:Ex→St→Option ρ) (next:V→Option ρ),(∀v',(K1 .normal (tm v'))=next v')→
      f (tm v) (fun e st'=>match e with
        |.normal=>(HH HL co st').bind fun nf=>K1 .normal (G5 HL st'.n nf)
        |e=>(HH (kx e) (cx e) st').bind fun nf=>K e (G5 (kx e) st'.n nf))=g v next K) (K:Ex→St→Option ρ):
    ∀(k:Nat) (v:V),Wk f HL co kx cx k (tm v) K=iter (fun v next=>g v next K) k v
  |0,v=>rfl
  | k + 1, v => by
    show f (tm v) _=g v (iter (fun v next=>g v next K) k) K
    exact hg v K (fun _ st=>Wk f HL co kx cx k st K) _ fun v'=>PI hg K k v'
end
end Go.Proofs.Ev
set_option linter.unusedVariables false
set_option linter.unusedSimpArgs false
namespace Go.Proofs.Ev
variable [Tok]
set_option linter.unusedSectionVars false
structure Mk where
  v:SV
  kept:List (Option Blk)
  news:List Blk
def KM:Nat→List (Option Blk)→GV
  |_,[]=>[]
  |n,none::l=>KM (n+1) l
  |n,some b::l=>(n,b)::KM (n+1) l
def Mk.heap (o:Mk):GV:=KM 0 o.kept++GY o.kept.length o.news
theorem LJ:∀(l:List (Option Blk)) (n i:Nat),look (KM n l) i=if n≤i then(l[i-n]?).bind id else none
  |[],n,i=>by simp[KM,look]
  | none :: l, n, i => by
    rw[KM,LJ l (n+1) i]
    by_cases c:n+1≤i
    · rw[if_pos c,if_pos (by omega),show i-n=(i-(n+1))+1 from by omega];rfl
    · rw[if_neg c]
      by_cases c2:n≤i
      · rw[if_pos c2,show i-n=0 from by omega];rfl
      · rw[if_neg c2]
  | some b :: l, n, i => by
    rw[KM,GK,LJ l (n+1) i]
    by_cases c0:n=i
    · subst c0;simp
    · rw[if_neg c0]
      by_cases c:n+1≤i
      · rw[if_pos c,if_pos (by omega),show i-n=(i-(n+1))+1 from by omega];rfl
      · rw[if_neg c,if_neg (by omega)]
theorem Mk.NQ (o:Mk) {k:Nat} (h:k<o.kept.length):look o.heap k=(o.kept[k]?).bind id:=by
  rw[Mk.heap,GR,LJ,if_pos (Nat.zero_le _),Nat.sub_zero,Ha,if_neg (by omega),Option.or_none]
theorem Mk.MF (o:Mk) {k:Nat} (h:o.kept.length≤k):look o.heap k=o.news[k-o.kept.length]? :=by
  rw[Mk.heap,GR,LJ,if_pos (Nat.zero_le _),Nat.sub_zero,Ha,if_pos h,List.getElem?_eq_none h];rfl
def TY (P:Program) (g:FuncId) (args:List SV) (bs:List Blk) (o:Mk):Prop:=
  TJ P g∧o.kept.length=bs.length∧∀(w:World) (us:Array Value) (pl:Pl),Hq (GY 0 bs) pl w→args.length=us.size→
    (∀(j:Nat) (x:SV) (u:Value),args[j]? =some x→us[j]? =some u→GG w (GY 0 bs) pl x u)→
    Calls P g us w fun e w'=>∃u pl',e=.returned u∧Hq o.heap pl' w'∧GG w' o.heap pl' o.v u∧pl'.base=pl.base∧HG w w'∧
      (∀(k:Nat) (B:Blk),o.kept[k]? =some (some B)→pl'.hdr k=pl.hdr k∧∃B0,bs[k]? =some B0∧B0.JP B)∧
      (∀p u,w.at? p=some u→(∀k B,look (GY 0 bs) k=some B→¬pl.fp k p)→(∀k B,look o.heap k=some B→¬pl'.fp k p)∧w'.at? p=some u∧w'.HW p=w.HW p)
abbrev MG:=(ρ:Type)→List SV→List Blk→(Mk→Option ρ)→Option ρ
def Zs (P:Program) (g:FuncId) (G:MG):Prop:=
  ∀(ρ:Type) args bs (K:Mk→Option ρ) (out:ρ),G ρ args bs K=some out→∃o,K o=some out∧TY P g args bs o
def OX (f:Blk→Blk):List Nat→List (Option Blk)→GV
  |i::L,some b::l=>(i,f b)::OX f L l
  |_::L,none::l=>OX f L l
  |_,_=>[]
def JK:List Nat→List (Option Blk)→List Nat
  |_::L,some _::l=>JK L l
  |i::L,none::l=>i::JK L l
  |_,_=>[]
def JX:List Nat→List (Option Blk)→List Nat
  |i::L,some (.arr _ _ _)::l=>i::JX L l
  |_::L,some (.box _)::l=>JX L l
  |_::L,none::l=>JX L l
  |_,_=>[]
def bk (L:List Nat) (nid m k:Nat):Nat:=cond (Nat.ble (k+1) m) (L.getD k 0) (nid+(k-m))
def bkL (L:List Nat) (nid m:Nat):List Nat→List Nat
  |[]=>[]
  |k::l=>bk L nid m k::bkL L nid m l
mutual
def SV.back (L:List Nat) (nid m:Nat) (D:List Nat):SV→SV
  |.r d x=>mkR (bkL L nid m d++D) x
  |.H5=>.H5
  |.K0=>.K0
  |.own k=>.own (bk L nid m k)
  |.ptr k 0 o=>.ptr (bk L nid m k) 0 o
  |.agg cs=>.agg (KX L nid m D cs)
  |.tup cs=>.tup (KX L nid m D cs)
  |.fn f a b=>.fn f (KX L nid m D a) (KX L nid m D b)
  |_=>.undef
def KX (L:List Nat) (nid m:Nat) (D:List Nat):List SV→List SV
  |[]=>[]
  |v::l=>v.back L nid m D::KX L nid m D l
end
def Blk.back (L:List Nat) (nid m:Nat) (D:List Nat):Blk→Blk
  |.box cs=>.box (KX L nid m D cs)
  |.arr none t xs=>.arr none t xs
  |.arr (some d) t xs=>.arr (some (bkL L nid m d++D)) t xs
def OB (L:List Nat) (nid m:Nat) (D:List Nat):List Blk→List Blk
  |[]=>[]
  |b::l=>b.back L nid m D::OB L nid m D l
def YZ (L:List Nat):List Nat→List Nat
  |[]=>[]
  |i::l=>cond (mem i L) (YZ L l) (i::YZ L l)
mutual
def SV.Zt:SV→List Nat
  |.r d _=>d
  |.Jp d _=>d
  |.agg cs=>LS cs
  |.tup cs=>LS cs
  |.fn _ a b=>LS a++LS b
  |_=>[]
def LS:List SV→List Nat
  |[]=>[]
  |v::l=>v.Zt++LS l
end
def Wl:Blk→List Nat
  |.box cs=>LS cs
  |.arr none _ _=>[]
  |.arr (some d) _ _=>d
def Nk (h:GV):List Nat→List Nat
  |[]=>[]
  | i :: l => match look h i with
    |some b=>Wl b++Nk h l
    |none=>Nk h l
def OQ (L D:List Nat):List Nat→Bool
  |[]=>true
  |i::l=>cond (mem i L||mem i D) (OQ L D l) false
def cb (L:List Nat) (nid m c i:Nat):Option Nat:=
  match placeOf i L 0 with
  |some k=>some k
  |none=>if nid≤i∧i<nid+c then some (m+(i-nid))else none
def MS (H:GV) (pl:Pl) (L D:List Nat):Pl:=
  ⟨fun k=>pl.hdr (L.getD k 0),fun k=>pl.fp (L.getD k 0),fun p=>pl.base p∧∀i B,look H i=some B→mem i L=false→(mem i D=true→B.JE=true)→¬pl.fp i p⟩
def Ic (pl pl':Pl) (L:List Nat) (nid m c:Nat):Pl:=
  ⟨fun i=>match cb L nid m c i with|some k=>pl'.hdr k|none=>pl.hdr i,fun i=>match cb L nid m c i with|some k=>pl'.fp k|none=>pl.fp i,pl.base⟩
theorem XD {L D:List Nat} {i:Nat} (h:mem i (YZ L D)=true):mem i L=false:=by
  induction D with
  |nil=>exact nomatch h
  | cons k l ih =>
    simp only[YZ]at h
    cases hk:mem k L<;>simp only[hk,cond_true,cond_false]at h
    · simp only[mem]at h
      cases hb:Nat.beq k i<;>simp only[hb,cond_true,cond_false]at h
      · exact ih h
      · rw[←Nat.eq_of_beq_eq_true hb];exact hk
    · exact ih h
theorem RD {L D:List Nat}:∀{d:List Nat},OQ L D d=true→∀i,mem i d=true→mem i L=true∨mem i D=true
  |[],_,i,h=>nomatch h
  | k :: l, hs, i, h => by
    simp only[OQ]at hs
    cases hk:(mem k L||mem k D)<;>simp only[hk,cond_true,cond_false]at hs
    · exact nomatch hs
    · simp only[mem]at h
      cases hb:Nat.beq k i<;>simp only[hb,cond_true,cond_false]at h
      · exact RD hs i h
      · rw[←Nat.eq_of_beq_eq_true hb]
        simpa using hk
theorem Iw {L D:List Nat}:∀{a b:List Nat},OQ L D (a++b)=true→OQ L D a=true∧OQ L D b=true
  |[],b,h=>⟨rfl,h⟩
  | k :: l, b, h => by
    simp only[List.cons_append,OQ]at h
    cases hk:(mem k L||mem k D)<;>simp only[hk,cond_true,cond_false]at h
    · exact nomatch h
    · obtain⟨h1,h2⟩:=Iw h
      exact⟨by simp only[OQ,hk,cond_true];exact h1,h2⟩
theorem OC {L:List Nat} {i k:Nat} (h:placeOf i L 0=some k):mem i L=true:=(mem_iff i L).2 (List.mem_of_getElem? (by have:=(Jm h).2;simpa using this))
section
variable {w:World} {H:GV} {pl:Pl} {L D:List Nat} {bs:List Blk}
theorem NR (hn:nodup L=true) (hL:KK H L L=some bs) {d:List Nat} {p:Cell} (hd:OQ L D d=true) (h:okd H pl d p):okd (GY 0 bs) (MS H pl L D) (XB L d) p:=by
  refine⟨⟨h.1,fun i B hB hm hf=>h.2 i B hB fun hi=>?_⟩,fun k B hB hm hf=>?_⟩
  · rcases RD hd i hi with h1|h1
    · rw[hm]at h1;exact nomatch h1
    · exact hf h1
  · obtain⟨i,b0,h1,hi,h2,h3⟩:=Io hL hB
    simp only[MS,hi]at hf
    refine h.2 i b0 h2 (fun hd=>?_) hf
    rw[←Blk.Wj h3]
    exact hm (TX (Kd (Ia hn) h1) hd)
mutual
theorem TZ (hn:nodup L=true) (hL:KK H L L=some bs):(v:SV)→{v':SV}→{u:Value}→OQ L D v.Zt=true→v.ren L=some v'→GG w H pl v u→GG w (GY 0 bs) (MS H pl L D) v' u
  | .r d x, v', u, hd, h, hv => by
    cases h
    cases hv with
    |r _ _ _ hx=>exact .r _ _ _ (hx.frame fun p u hp hu=>⟨NR hn hL hd hp,hu⟩)
  |.H5,v',u,hd,h,hv=>by cases h;cases hv;exact .H5
  |.K0,v',u,hd,h,hv=>by cases h;cases hv;exact .K0
  | .own i, v', u, hd, h, hv => by
    simp only[SV.ren,Option.bind_eq_some_iff,Option.some.injEq]at h
    obtain⟨k,hk,rfl⟩:=h
    cases hv with
    | own _ sh t xs hl =>
      obtain⟨hi,B',g1,g2⟩:=Kc hL hk hl
      have e:(MS H pl L D).hdr k=pl.hdr i:=by simp only[MS,hi]
      rw[←e]
      cases sh with
      |none=>cases g2;exact .own k none t xs g1
      |some d=>cases g2;exact .own k _ t xs g1
  | .sub i o n, v', u, hd, h, hv => by
    simp only[SV.ren,Option.bind_eq_some_iff,Option.some.injEq]at h
    obtain⟨k,hk,rfl⟩:=h
    cases hv with
    | sub _ _ _ sh t xs a a' cap cap' hl hh h1 h2 h3 h4 =>
      obtain⟨hi,B',g1,g2⟩:=Kc hL hk hl
      have e:(MS H pl L D).hdr k=pl.hdr i:=by simp only[MS,hi]
      cases sh with
      |none=>cases g2;exact .sub k o n none t xs a a' cap cap' g1 (e.trans hh) h1 h2 h3 h4
      |some d=>cases g2;exact .sub k o n _ t xs a a' cap cap' g1 (e.trans hh) h1 h2 h3 h4
  | .bsl i n, v', u, hd, h, hv => by
    simp only[SV.ren,Option.bind_eq_some_iff,Option.some.injEq]at h
    obtain⟨k,hk,rfl⟩:=h
    cases hv with
    | bsl _ _ cs a hl hh =>
      obtain⟨hi,B',g1,g2⟩:=Kc hL hk hl
      have e:(MS H pl L D).hdr k=pl.hdr i:=by simp only[MS,hi]
      simp only[Blk.ren,Option.bind_eq_some_iff,Option.some.injEq]at g2
      obtain⟨l,hl',rfl⟩:=g2
      exact .bsl k n l a g1 (e.trans hh)
  | .ptr i x o, v', u, hd, h, hv => by
    simp only[SV.ren,Option.bind_eq_some_iff,Option.some.injEq]at h
    obtain⟨k,hk,rfl⟩:=h
    cases hv with
    | MZ _ _ cs b m hl hh =>
      obtain⟨hi,B',g1,g2⟩:=Kc hL hk hl
      have e:(MS H pl L D).hdr k=pl.hdr i:=by simp only[MS,hi]
      simp only[Blk.ren,Option.bind_eq_some_iff,Option.some.injEq]at g2
      obtain⟨l,hl',rfl⟩:=g2
      exact .MZ k o l b m g1 (e.trans hh)
    | Mj _ _ _ sh t xs b m n cap hl hx hh =>
      obtain⟨hi,B',g1,g2⟩:=Kc hL hk hl
      have e:(MS H pl L D).hdr k=pl.hdr i:=by simp only[MS,hi]
      cases sh with
      |none=>cases g2;exact .Mj k x o none t xs b m n cap g1 hx (e.trans hh)
      |some d=>cases g2;exact .Mj k x o _ t xs b m n cap g1 hx (e.trans hh)
  |.inn _ _ _,v',u,hd,h,hv=>by cases h
  | .Jp d cs, v', u, hd, h, hv => by
    cases h
    cases hv with
    |Jp _ _ b o vs h1 h2=>exact .Jp _ _ b o vs (fun j r hj=>⟨NR hn hL hd (h1 j r hj).1,(h1 j r hj).2⟩) fun j r hj=>(h2 j r hj).frame fun p u hp hu=>⟨NR hn hL hd hp,hu⟩
  | .agg cs, v', u, hd, h, hv => by
    simp only[SV.ren,Option.bind_eq_some_iff,Option.some.injEq]at h
    obtain⟨l,hl,rfl⟩:=h
    cases hv with
    | agg _ vs h1 h2 h3 =>
      obtain⟨g1,g2⟩:=Kr hn hL cs hd hl vs.toList (by simpa using h1) fun j x u hx hu=>h3 j x u hx (by simpa using hu)
      exact .agg _ _ (by simpa using g1) h2 fun j x u hx hu=>g2 j x u hx (by simpa using hu)
  | .tup cs, v', u, hd, h, hv => by
    simp only[SV.ren,Option.bind_eq_some_iff,Option.some.injEq]at h
    obtain⟨l,hl,rfl⟩:=h
    cases hv with
    | tup _ vs h1 h3 =>
      obtain⟨g1,g2⟩:=Kr hn hL cs hd hl vs.toList (by simpa using h1) fun j x u hx hu=>h3 j x u hx (by simpa using hu)
      exact .tup _ _ (by simpa using g1) fun j x u hx hu=>g2 j x u hx (by simpa using hu)
  | .fn f as bs', v', u, hd, h, hv => by
    simp only[SV.ren,Option.bind_eq_some_iff,Option.some.injEq]at h
    obtain⟨l,hl,l',hl',rfl⟩:=h
    obtain⟨hd1,hd2⟩:=Iw (show OQ L D (LS as++LS bs')=true from hd)
    cases hv with
    | fn _ _ _ us vs h1 h3 h1' h3' =>
      obtain⟨g1,g2⟩:=Kr hn hL as hd1 hl us.toList (by simpa using h1) fun j x u hx hu=>h3 j x u hx (by simpa using hu)
      obtain⟨g3,g4⟩:=Kr hn hL bs' hd2 hl' vs.toList (by simpa using h1') fun j x u hx hu=>h3' j x u hx (by simpa using hu)
      exact .fn _ _ _ _ _ (by simpa using g1) (fun j x u hx hu=>g2 j x u hx (by simpa using hu)) (by simpa using g3) fun j x u hx hu=>g4 j x u hx (by simpa using hu)
  |.undef,v',u,hd,h,hv=>by cases h;exact .undef _
theorem Kr (hn:nodup L=true) (hL:KK H L L=some bs):(cs:List SV)→{l:List SV}→OQ L D (LS cs)=true→R4 L cs=some l→(us:List Value)→cs.length=us.length→
    (∀(j:Nat) (x:SV) (u:Value),cs[j]? =some x→us[j]? =some u→GG w H pl x u)→
    l.length=us.length∧∀(j:Nat) (x:SV) (u:Value),l[j]? =some x→us[j]? =some u→GG w (GY 0 bs) (MS H pl L D) x u
  |[],l,hd,h,us,hl,_=>by cases h;exact⟨hl,fun j x u hx _=>by simp at hx⟩
  | v :: cs, l, hd, h, u :: us, hl, hp => by
    simp only[R4,Option.bind_eq_some_iff,Option.some.injEq]at h
    obtain⟨v',hv,l',hl',rfl⟩:=h
    obtain⟨hd1,hd2⟩:=Iw (show OQ L D (v.Zt++LS cs)=true from hd)
    obtain⟨g1,g2⟩:=Kr hn hL cs hd2 hl' us (by simpa using hl) fun j x u hx hu=>hp (j+1) x u (by simpa using hx) (by simpa using hu)
    refine⟨by simp[g1],fun j x u' hx hu=>?_⟩
    cases j with
    |zero=>simp at hx hu;subst hx hu;exact TZ hn hL v hd1 hv (hp 0 v u rfl rfl)
    |succ j=>exact g2 j x u' (by simpa using hx) (by simpa using hu)
end
theorem Wm {cs:List SV} {L D:List Nat} (h:OQ L D (LS cs)=true):∀(j:Nat) (x:SV),cs[j]? =some x→OQ L D x.Zt=true:=by
  induction cs with
  |nil=>intro j x hx;simp at hx
  | cons v l ih =>
    obtain⟨h1,h2⟩:=Iw (show OQ L D (v.Zt++LS l)=true from h)
    intro j x hx
    cases j with
    |zero=>simp at hx;subst hx;exact h1
    |succ j=>exact ih h2 j x (by simpa using hx)
theorem Wn {l:List Nat} (h:OQ L D (Nk H l)=true):∀i∈l,∀B,look H i=some B→OQ L D (Wl B)=true:=by
  induction l with
  |nil=>intro i hi;exact nomatch hi
  | cons k l ih =>
    intro i hi B hB
    simp only[Nk]at h
    rcases List.mem_cons.1 hi with rfl|hi
    · simp only[hB]at h;exact(Iw h).1
    · split at h
      · exact ih (Iw h).2 i hi B hB
      · exact ih h i hi B hB
theorem Wo (hr:Hq H pl w) (hn:nodup L=true) (hL:KK H L L=some bs) (hd:OQ L D (Nk H L)=true):Hq (GY 0 bs) (MS H pl L D) w:=by
  have hown:=hr.IK
  refine⟨fun k B hB=>?_,fun k k' B B' p h1 h2 f1 f2=>?_,fun k B p hB hf=>?_,fun p hp=>⟨hr.nb p hp,fun i B hB _ _ hf=>?_⟩⟩
  · obtain⟨i,b0,h1,hi,h2,h3⟩:=Io hL hB
    have hb:=hr.blk i b0 h2
    have hdb:=Wn hd i (List.mem_of_getElem? h1) b0 h2
    have eh:(MS H pl L D).hdr k=pl.hdr i:=by simp only[MS,hi]
    have ef:(MS H pl L D).fp k=pl.fp i:=by simp only[MS,hi]
    cases b0 with
    | box cs =>
      simp only[Blk.ren,Option.bind_eq_some_iff,Option.some.injEq]at h3
      obtain⟨l,hl,rfl⟩:=h3
      obtain⟨b,o,q1,q2,q3⟩:=hb
      refine⟨b,o,eh.trans q1,fun p=>by rw[ef,q2,KL hl],fun j v hv=>?_⟩
      obtain⟨y,hy,hy2⟩:=QB hl j v hv
      obtain⟨u,g1,g2,g3,g4⟩:=q3 j y hy
      exact⟨u,g1,g2,g3,TZ hn hL y (Wm hdb j y hy) hy2 g4⟩
    | arr sh t xs =>
      cases sh with
      | none =>
        cases h3
        show Nonempty (Row w (Ie w) t xs ((MS H pl L D).hdr k) ((MS H pl L D).fp k))
        rw[eh,ef];exact hb
      | some d =>
        cases h3
        obtain⟨⟨a,cap,b,o,vs,fs,q1,q2,q3,q4,q5,q6,q7,q8,q9⟩⟩:=hb
        exact⟨⟨a,cap,b,o,vs,fs,eh.trans q1,q2,q3,q4,q5,fun i j r hc=>⟨(q6 i j r hc).1.frame fun p u hp hu=>⟨NR hn hL hdb hp,hu⟩,(q6 i j r hc).2⟩,q7,q8,fun p=>by rw[ef];exact q9 p⟩⟩
  · obtain⟨i,b0,g1,hi,g2,g3⟩:=Io hL h1
    obtain⟨i',b0',g1',hi',g2',g3'⟩:=Io hL h2
    simp only[MS,hi]at f1
    simp only[MS,hi']at f2
    have:=hr.dis i i' b0 b0' p g2 g2' f1 f2
    subst this
    exact(List.getElem?_inj (List.getElem?_eq_some_iff.1 g1).1 (Ia hn)).1 (g1.trans g1'.symm)
  · obtain⟨i,b0,g1,hi,g2,g3⟩:=Io hL hB
    simp only[MS,hi]at hf
    refine⟨hr.ob i b0 p g2 hf,fun i' B' hB' hm _ hf'=>?_⟩
    have:=hr.dis i i' b0 B' p g2 hB' hf hf'
    subst this
    rw[(mem_iff i L).2 (List.mem_of_getElem? g1)]at hm;exact nomatch hm
  · obtain⟨u,hu⟩:=hown i B p hB hf
    rw[hp]at hu;exact nomatch hu
end
end Go.Proofs.Ev
set_option linter.unusedVariables false
set_option linter.unusedSimpArgs false
namespace Go.Proofs.Ev
variable [Tok]
set_option linter.unusedSectionVars false
theorem Ip {f:Blk→Blk} {i:Nat}:∀{L:List Nat} {kept:List (Option Blk)} {H:GV},(∀(k:Nat) (b:Blk),L[k]? =some i→kept[k]? =some (some b)→False)→look (LV (OX f L kept) H) i=look H i
  |[],_,H,_=>by simp[OX,LV]
  |_::_,[],H,_=>by simp[OX,LV]
  | i0 :: L, none :: l, H, h => by
    rw[OX]
    exact Ip fun k b h1 h2=>h (k+1) b (by simpa using h1) (by simpa using h2)
  | i0 :: L, some b0 :: l, H, h => by
    rw[OX,LV,Ip fun k b h1 h2=>h (k+1) b (by simpa using h1) (by simpa using h2),HX,if_neg]
    intro e;subst e
    exact h 0 b0 rfl rfl
theorem Ll {f:Blk→Blk} {i:Nat} {b:Blk}:∀{L:List Nat} {kept:List (Option Blk)} {H:GV} {k:Nat},L.Nodup→L[k]? =some i→kept[k]? =some (some b)→look (LV (OX f L kept) H) i=some (f b)
  |[],_,H,k,_,h,_=>by simp at h
  |_::_,[],H,k,_,_,h=>by simp at h
  | i0 :: L, ob :: l, H, 0, hn, h1, h2 => by
    simp at h1 h2
    subst h1 h2
    rw[OX,LV,Ip fun k b h1 _=>(List.nodup_cons.1 hn).1 (List.mem_of_getElem? h1),HX,if_pos rfl]
  | i0 :: L, none :: l, H, k + 1, hn, h1, h2 => by
    rw[OX]
    exact Ll (List.nodup_cons.1 hn).2 (by simpa using h1) (by simpa using h2)
  | i0 :: L, some b0 :: l, H, k + 1, hn, h1, h2 => by
    rw[OX,LV]
    exact Ll (List.nodup_cons.1 hn).2 (by simpa using h1) (by simpa using h2)
theorem KN {f:Blk→Blk} {i:Nat} {B:Blk}:∀{L:List Nat} {kept:List (Option Blk)},look (OX f L kept) i=some B→i∈L
  |[],_,h=>by simp[OX,look]at h
  |_::_,[],h=>by simp[OX,look]at h
  |i0::L,none::l,h=>by rw[OX]at h;exact List.mem_cons_of_mem _ (KN h)
  | i0 :: L, some b0 :: l, h => by
    rw[OX,GK]at h
    by_cases e:i0=i
    · subst e;exact List.mem_cons_self ..
    · rw[if_neg e]at h;exact List.mem_cons_of_mem _ (KN h)
theorem JL {i:Nat}:∀{L:List Nat} {kept:List (Option Blk)},mem i (JK L kept)=true↔∃k:Nat,L[k]? =some i∧kept[k]? =some none
  |[],_=>by simp[JK,mem]
  |_::_,[]=>by simp[JK,mem]
  | i0 :: L, some b0 :: l => by
    rw[JK,JL]
    exact⟨fun⟨k,h1,h2⟩=>⟨k+1,by simpa using h1,by simpa using h2⟩,fun⟨k,h1,h2⟩=>by
      cases k with
      |zero=>simp at h2
      |succ k=>exact⟨k,by simpa using h1,by simpa using h2⟩⟩
  | i0 :: L, none :: l => by
    rw[JK,mem_iff,List.mem_cons,←mem_iff,JL]
    exact⟨fun h=>h.elim (fun e=>⟨0,by simp[e],rfl⟩) fun⟨k,h1,h2⟩=>⟨k+1,by simpa using h1,by simpa using h2⟩,fun⟨k,h1,h2⟩=>by
      cases k with
      |zero=>simp at h1;exact .inl h1.symm
      |succ k=>exact .inr ⟨k,by simpa using h1,by simpa using h2⟩⟩
theorem LK {i:Nat}:∀{L:List Nat} {kept:List (Option Blk)},mem i (JX L kept)=true↔∃(k:Nat) (B:Blk),L[k]? =some i∧kept[k]? =some (some B)∧B.JE=false
  |[],_=>by simp[JX,mem]
  |_::_,[]=>by simp[JX,mem]
  | i0 :: L, some (.box cs) :: l => by
    rw[JX,LK]
    exact⟨fun⟨k,B,h1,h2,h3⟩=>⟨k+1,B,by simpa using h1,by simpa using h2,h3⟩,fun⟨k,B,h1,h2,h3⟩=>by
      cases k with
      |zero=>simp at h2;subst h2;exact nomatch h3
      |succ k=>exact⟨k,B,by simpa using h1,by simpa using h2,h3⟩⟩
  | i0 :: L, none :: l => by
    rw[JX,LK]
    exact⟨fun⟨k,B,h1,h2,h3⟩=>⟨k+1,B,by simpa using h1,by simpa using h2,h3⟩,fun⟨k,B,h1,h2,h3⟩=>by
      cases k with
      |zero=>simp at h2
      |succ k=>exact⟨k,B,by simpa using h1,by simpa using h2,h3⟩⟩
  | i0 :: L, some (.arr sh t xs) :: l => by
    rw[JX,mem_iff,List.mem_cons,←mem_iff,LK]
    exact⟨fun h=>h.elim (fun e=>⟨0,_,by simp[e],rfl,rfl⟩) fun⟨k,B,h1,h2,h3⟩=>⟨k+1,B,by simpa using h1,by simpa using h2,h3⟩,fun⟨k,B,h1,h2,h3⟩=>by
      cases k with
      |zero=>simp at h1;exact .inl h1.symm
      |succ k=>exact .inr ⟨k,B,by simpa using h1,by simpa using h2,h3⟩⟩
theorem Lm {L:List Nat} {nid m:Nat} {D:List Nat}:(cs:List SV)→(KX L nid m D cs).length=cs.length
  |[]=>rfl
  |_::l=>by simp[KX,Lm l]
theorem JY {L:List Nat} {nid m:Nat} {D:List Nat}:(cs:List Blk)→(OB L nid m D cs).length=cs.length
  |[]=>rfl
  |_::l=>by simp[OB,JY l]
theorem RE {L:List Nat} {nid m:Nat} {D:List Nat}:(bs:List Blk)→(j:Nat)→(OB L nid m D bs)[j]? =(bs[j]?).map (Blk.back L nid m D)
  |[],j=>by simp[OB]
  |b::l,0=>by simp[OB]
  |b::l,j+1=>by simpa[OB]using RE l j
theorem RF {L:List Nat} {nid m:Nat} {D:List Nat}:(cs:List SV)→(j:Nat)→(KX L nid m D cs)[j]? =(cs[j]?).map (SV.back L nid m D)
  |[],j=>by simp[KX]
  |b::l,0=>by simp[KX]
  |b::l,j+1=>by simpa[KX]using RF l j
theorem Blk.MH {L:List Nat} {nid m:Nat} {D:List Nat} (b:Blk):b.JP (b.back L nid m D):=by
  cases b with
  |box cs=>simp[Blk.back,Blk.JP,Lm]
  |arr sh t xs=>cases sh<;>exact⟨rfl,rfl⟩
structure Ke (w w':World) (H H':GV) (pl pl':Pl) (L D:List Nat) (bs:List Blk) (nid:Nat) (o:Mk):Prop where
  hr:Hq H pl w
  hn:nodup L=true
  hL:KK H L L=some bs
  hm:o.kept.length=L.length
  Mb:∀k,k<o.news.length→look H (nid+k)=none
  hD:∀i,mem i D=true→mem i L=false
  hro:Hq o.heap pl' w'
  Oi:pl'.base=(MS H pl L D).base
  hgr:HG w w'
  Zu:∀(k:Nat) (B:Blk),o.kept[k]? =some (some B)→pl'.hdr k=pl.hdr (L.getD k 0)∧∃B0,bs[k]? =some B0∧B0.JP B
  hfr:∀p u,w.at? p=some u→(∀i B,mem i L=true→look H i=some B→¬pl.fp i p)→(∀k B,look o.heap k=some B→¬pl'.fp k p)∧w'.at? p=some u∧w'.HW p=w.HW p
  ha:∃h1,IG (JK L o.kept,JK L o.kept++JX L o.kept) (LV (OX (Blk.back L nid L.length D) L o.kept) H)=some h1∧H'=h1++GY nid (OB L nid L.length D o.news)
section
variable {w w':World} {H H':GV} {pl pl':Pl} {L D:List Nat} {bs:List Blk} {nid:Nat} {o:Mk}
abbrev Nl (L:List Nat) (kept:List (Option Blk)):Kil:=(JK L kept,JK L kept++JX L kept)
theorem Mg {L:List Nat} {kept:List (Option Blk)}:∀i,mem i (Nl L kept).1=true→mem i (Nl L kept).2=true:=fun i h=>by
  show mem i (_++_)=true
  rw[mem_append,h];rfl
theorem Ke.inH (c:Ke w w' H H' pl pl' L D bs nid o) {i:Nat} (h:mem i L=true):∃k B0 B,L[k]? =some i∧k<L.length∧look H i=some B0∧bs[k]? =some B∧B0.ren L=some B:=by
  obtain⟨k,hk⟩:=List.getElem?_of_mem ((mem_iff i L).1 h)
  have hlt:=(List.getElem?_eq_some_iff.1 hk).1
  have hbl:k<bs.length:=by rw[(Im c.hL).1];exact hlt
  obtain⟨i',b0,e1,e2,e3⟩:=(Im c.hL).2 k _ (List.getElem?_eq_getElem hbl)
  rw[hk]at e1;cases e1
  exact⟨k,b0,_,hk,hlt,e2,List.getElem?_eq_getElem hbl,e3⟩
theorem Ke.YE (c:Ke w w' H H' pl pl' L D bs nid o) {i k:Nat} (h:L[k]? =some i):cb L nid L.length o.news.length i=some k:=by
  unfold cb;rw[Kd (Ia c.hn) h]
theorem Ke.Zv (c:Ke w w' H H' pl pl' L D bs nid o) {j:Nat} (h:j<o.news.length):cb L nid L.length o.news.length (nid+j)=some (L.length+j):=by
  unfold cb
  cases hp:placeOf (nid+j) L 0 with
  | some k =>
    obtain⟨_,B0,_,_,_,h1,_⟩:=c.inH (OC hp)
    rw[c.Mb j h]at h1;exact nomatch h1
  | none =>
    simp only
    rw[if_pos ⟨by omega,by omega⟩];congr 1;omega
theorem Ke.QE (c:Ke w w' H H' pl pl' L D bs nid o) (i:Nat):(∃k,L[k]? =some i∧k<L.length∧cb L nid L.length o.news.length i=some k)∨(∃j,j<o.news.length∧i=nid+j∧mem i L=false∧cb L nid L.length o.news.length i=some (L.length+j))∨
    (mem i L=false∧¬(nid≤i∧i<nid+o.news.length)∧cb L nid L.length o.news.length i=none):=by
  cases hm:mem i L with
  | true =>
    obtain⟨k,_,_,hk,hlt,_⟩:=c.inH hm
    exact .inl ⟨k,hk,hlt,c.YE hk⟩
  | false =>
    have hp:placeOf i L 0=none:=by
      cases hp:placeOf i L 0 with
      |none=>rfl
      |some k=>rw[OC hp]at hm;exact nomatch hm
    by_cases hr:nid≤i∧i<nid+o.news.length
    · exact .inr (.inl ⟨i-nid,by omega,by omega,rfl,by unfold cb;rw[hp];simp only;rw[if_pos hr]⟩)
    · exact .inr (.inr ⟨rfl,hr,by unfold cb;rw[hp];simp only;rw[if_neg hr]⟩)
theorem Ke.XE (c:Ke w w' H H' pl pl' L D bs nid o) {i:Nat} (h:mem i L=false):mem i (JK L o.kept)=false:=by
  cases hg:mem i (JK L o.kept)with
  |false=>rfl
  | true =>
    obtain⟨k,h1,_⟩:=JL.1 hg
    rw[(mem_iff i L).2 (List.mem_of_getElem? h1)]at h;exact nomatch h
def YF (T:Kil) (L:List Nat) (nid m:Nat) (D:List Nat) (B B':Blk):Prop:=(B.back L nid m D).GW T=some B'∨B.back L nid m D=B'
theorem Ke.old (c:Ke w w' H H' pl pl' L D bs nid o) {i:Nat} (h:mem i L=false) (hr:¬(nid≤i∧i<nid+o.news.length)):look H' i=(look H i).bind (Blk.GW (Nl L o.kept)):=by
  obtain⟨h1,e1,rfl⟩:=c.ha
  have R3:look (GY nid (OB L nid L.length D o.news)) i=none:=by
    rw[Ha]
    by_cases q:nid≤i
    · rw[if_pos q,List.getElem?_eq_none];rw[JY];omega
    · rw[if_neg q]
  rw[GR,R3,Option.or_none,Ho Mg e1 i,show mem i (JK L o.kept)=false from c.XE h,cond_false,Ip fun k b h1 _=>by rw[(mem_iff i L).2 (List.mem_of_getElem? h1)]at h;exact nomatch h]
theorem Ke.uniq (c:Ke w w' H H' pl pl' L D bs nid o) {i k k':Nat} (h:L[k]? =some i) (h':L[k']? =some i):k=k':=
  (List.getElem?_inj (List.getElem?_eq_some_iff.1 h).1 (Ia c.hn)).1 (h.trans h'.symm)
theorem Ke.X4 (c:Ke w w' H H' pl pl' L D bs nid o) {i:Nat} (h:mem i L=true):look (GY nid (OB L nid L.length D o.news)) i=none:=by
  rw[Ha]
  by_cases q:nid≤i
  · rw[if_pos q]
    by_cases q2:i-nid<o.news.length
    · obtain⟨_,_,_,_,_,h1,_⟩:=c.inH h
      have:=c.Mb _ q2
      rw[show nid+(i-nid)=i from by omega,h1]at this;exact nomatch this
    · rw[List.getElem?_eq_none];rw[JY];omega
  · rw[if_neg q]
theorem Ke.kept (c:Ke w w' H H' pl pl' L D bs nid o) {i k:Nat} {B:Blk} (h:L[k]? =some i) (hB:o.kept[k]? =some (some B)):∃B',look H' i=some B'∧YF (Nl L o.kept) L nid L.length D B B':=by
  have hng:mem i (JK L o.kept)=false:=by
    cases hg:mem i (JK L o.kept)with
    |false=>rfl
    | true =>
      obtain⟨k',h1,h2⟩:=JL.1 hg
      have:=c.uniq h h1
      subst this
      rw[hB]at h2;exact nomatch h2
  obtain⟨h1,e1,rfl⟩:=id c.ha
  have hu:look (LV (OX (Blk.back L nid L.length D) L o.kept) H) i=some (B.back L nid L.length D):=Ll (Ia c.hn) h hB
  obtain⟨B',hB'⟩:=I6 Mg e1 i _ hu hng
  refine⟨B',?_,.inl hB'⟩
  rw[GR,c.X4 ((mem_iff i L).2 (List.mem_of_getElem? h)),Option.or_none,Ho Mg e1 i,show mem i (JK L o.kept)=false from hng,cond_false,hu]
  exact hB'
theorem Ke.gone (c:Ke w w' H H' pl pl' L D bs nid o) {i k:Nat} (h:L[k]? =some i) (hB:o.kept[k]? =some none):look H' i=none:=by
  have hg:mem i (JK L o.kept)=true:=JL.2 ⟨k,h,hB⟩
  obtain⟨h1,e1,rfl⟩:=id c.ha
  rw[GR,c.X4 ((mem_iff i L).2 (List.mem_of_getElem? h)),Option.or_none,Ho Mg e1 i,show mem i (JK L o.kept)=true from hg,cond_true]
theorem Ke.new (c:Ke w w' H H' pl pl' L D bs nid o) {j:Nat} {B:Blk} (h:o.news[j]? =some B):look H' (nid+j)=some (B.back L nid L.length D):=by
  have hj:=(List.getElem?_eq_some_iff.1 h).1
  obtain⟨h1,e1,rfl⟩:=id c.ha
  have hnm:mem (nid+j) L=false:=by
    cases hm:mem (nid+j) L with
    |false=>rfl
    | true =>
      obtain⟨_,_,_,_,_,h1,_⟩:=c.inH hm
      rw[c.Mb j hj]at h1;exact nomatch h1
  have ND:look (LV (OX (Blk.back L nid L.length D) L o.kept) H) (nid+j)=look H (nid+j):=Ip fun k b h1 _=>by
    rw[(mem_iff _ L).2 (List.mem_of_getElem? h1)]at hnm
    cases hnm
  rw[GR,Ho Mg e1,ND,c.Mb j hj,Ha,if_pos (by omega),Nat.add_sub_cancel_left,RE,h]
  cases mem (nid+j) (Nl L o.kept).1<;>rfl
theorem Ke.Jf (c:Ke w w' H H' pl pl' L D bs nid o) {i:Nat} {B':Blk} (h:look H' i=some B'):
    (∃k B,cb L nid L.length o.news.length i=some k∧look o.heap k=some B∧YF (Nl L o.kept) L nid L.length D B B'∧(mem i L=false→look H i=none))∨
    (cb L nid L.length o.news.length i=none∧mem i L=false∧∃B,look H i=some B∧B.GW (Nl L o.kept)=some B'):=by
  rcases c.QE i with⟨k,hk,hlt,hc⟩|⟨j,hj,rfl,hm,hc⟩|⟨hm,hno,hc⟩
  · have hkl:k<o.kept.length:=by rw[c.hm];exact hlt
    cases hkp:o.kept[k]? with
    |none=>rw[List.getElem?_eq_getElem hkl]at hkp;exact nomatch hkp
    | some ob =>
      cases ob with
      |none=>rw[c.gone hk hkp]at h;exact nomatch h
      | some B =>
        obtain⟨B1,h1,h2⟩:=c.kept hk hkp
        rw[h]at h1;cases h1
        exact .inl ⟨k,B,hc,by rw[o.NQ hkl,hkp];rfl,h2,fun hm=>by rw[(mem_iff i L).2 (List.mem_of_getElem? hk)]at hm;exact nomatch hm⟩
  · obtain⟨B,hB⟩:∃B,o.news[j]? =some B:=⟨_,List.getElem?_eq_getElem hj⟩
    rw[c.new hB]at h;cases h
    exact .inl ⟨L.length+j,B,hc,by rw[o.MF (by rw[c.hm];omega),c.hm,Nat.add_sub_cancel_left];exact hB,.inr rfl,fun _=>c.Mb j hj⟩
  · rw[c.old hm hno]at h
    obtain⟨B,h1,h2⟩:=Option.bind_eq_some_iff.1 h
    exact .inr ⟨hc,hm,B,h1,h2⟩
theorem Ke.Ni (c:Ke w w' H H' pl pl' L D bs nid o) {k:Nat} {B:Blk} (h:look o.heap k=some B):
    cb L nid L.length o.news.length (bk L nid L.length k)=some k∧∃B',look H' (bk L nid L.length k)=some B'∧YF (Nl L o.kept) L nid L.length D B B':=by
  by_cases hk:k<L.length
  · have hkl:k<o.kept.length:=by rw[c.hm];exact hk
    rw[o.NQ hkl]at h
    obtain⟨ob,h1,h2⟩:=Option.bind_eq_some_iff.1 h
    have h2:ob=some B:=h2
    subst h2
    have hb:bk L nid L.length k=L[k]:=by
      unfold bk
      rw[show Nat.ble (k+1) L.length=true from Nat.ble_eq_true_of_le hk,cond_true,List.getD_eq_getElem?_getD,List.getElem?_eq_getElem hk];rfl
    rw[hb]
    have hL:L[k]? =some L[k]:=List.getElem?_eq_getElem hk
    exact⟨c.YE hL,c.kept hL h1⟩
  · rw[o.MF (by rw[c.hm];omega),c.hm]at h
    have hb:bk L nid L.length k=nid+(k-L.length):=by
      unfold bk
      cases hq:Nat.ble (k+1) L.length with
      |false=>rfl
      |true=>exact(hk (Nat.le_of_ble_eq_true hq)).elim
    rw[hb]
    have hj:=(List.getElem?_eq_some_iff.1 h).1
    refine⟨?_,_,c.new h,.inr rfl⟩
    rw[c.Zv hj];congr 1;omega
theorem YF.box {T:Kil} {nid m:Nat} {B B':Blk} (h:YF T L nid m D B B'):B'.JE=B.JE:=by
  rcases h with h|h
  · rw[←Blk.Je (Blk.Ik h),←Blk.Je (Blk.MH B)]
  · rw[←h,←Blk.Je (Blk.MH B)]
theorem YF.JP {T:Kil} {nid m:Nat} {B B':Blk} (h:YF T L nid m D B B'):B.JP B':=by
  rcases h with h|h
  · exact Blk.HZ (Blk.MH B) (Blk.Ik h)
  · rw[←h];exact Blk.MH B
theorem Wp {nid m k:Nat}:∀{d:List Nat},mem k d=true→mem (bk L nid m k) (bkL L nid m d)=true
  |[],h=>nomatch h
  | x :: l, h => by
    simp only[bkL]
    rw[mem_iff,List.mem_cons,←mem_iff]
    rw[mem_iff,List.mem_cons,←mem_iff]at h
    rcases h with rfl|h
    · exact .inl rfl
    · exact .inr (Wp h)
theorem Ke.YG (c:Ke w w' H H' pl pl' L D bs nid o) {i k:Nat} (h:cb L nid L.length o.news.length i=some k):bk L nid L.length k=i:=by
  rcases c.QE i with⟨k',hk,hlt,hc⟩|⟨j,hj,rfl,hm,hc⟩|⟨hm,hno,hc⟩<;>rw[hc]at h<;>cases h
  · unfold bk
    rw[show Nat.ble (k+1) L.length=true from Nat.ble_eq_true_of_le hlt,cond_true,List.getD_eq_getElem?_getD,hk];rfl
  · unfold bk
    cases hq:Nat.ble (L.length+j+1) L.length with
    |false=>simp
    |true=>have:=Nat.le_of_ble_eq_true hq;omega
theorem Ke.okd (c:Ke w w' H H' pl pl' L D bs nid o) {d:List Nat} {p:Cell} (h:okd o.heap pl' d p):okd H' (Ic pl pl' L nid L.length o.news.length) (bkL L nid L.length d++D) p:=by
  have hb:(MS H pl L D).base p:=by rw[←c.Oi];exact h.1
  refine⟨hb.1,fun i B' hB' hm hf=>?_⟩
  rcases c.Jf hB' with⟨k,B,h1,h2,h3,_⟩|⟨h1,h2,B,h3,h4⟩
  · simp only[Ic,h1]at hf
    refine h.2 k B h2 (fun hk=>?_) hf
    rw[←h3.box]
    refine hm ?_
    rw[mem_append,←c.YG h1,Wp hk];rfl
  · simp only[Ic,h1]at hf
    refine hb.2 i B h3 h2 (fun hk=>?_) hf
    rw[Blk.Je (Blk.Ik h4)]
    exact hm (by rw[mem_append,hk,Bool.or_true])
mutual
theorem Ke.rep (c:Ke w w' H H' pl pl' L D bs nid o):(v:SV)→{u:Value}→GG w' o.heap pl' v u→GG w' H' (Ic pl pl' L nid L.length o.news.length) (v.back L nid L.length D) u
  | .r d x, u, h => by
    cases h with
    |r _ _ _ hx=>exact N6 (hx.frame fun p u hp hu=>⟨c.okd hp,hu⟩)
  |.H5,u,h=>by cases h;exact .H5
  |.K0,u,h=>by cases h;exact .K0
  | .own k, u, h => by
    cases h with
    | own _ sh t xs hl =>
      obtain⟨h1,B',h2,h3⟩:=c.Ni hl
      have e:(Ic pl pl' L nid L.length o.news.length).hdr (bk L nid L.length k)=pl'.hdr k:=by simp only[Ic,h1]
      rw[←e]
      have:∃sh',B'=.arr sh' t xs:=by
        rcases h3 with h3|h3
        · cases sh with
          |none=>cases h3;exact⟨_,rfl⟩
          | some d =>
            simp only[Blk.back,Blk.GW]at h3
            cases hh:hit (Nl L o.kept).2 (bkL L nid L.length d++D)<;>simp only[hh,cond_true,cond_false]at h3
            · cases h3;exact⟨_,rfl⟩
            · exact nomatch h3
        · cases sh<;>exact⟨_,h3.symm⟩
      obtain⟨sh',rfl⟩:=this
      exact .own _ sh' t xs h2
  | .ptr k 0 off, u, h => by
    cases h with
    | MZ _ _ cs b q hl hh =>
      obtain⟨h1,B',h2,h3⟩:=c.Ni hl
      have e:(Ic pl pl' L nid L.length o.news.length).hdr (bk L nid L.length k)=pl'.hdr k:=by simp only[Ic,h1]
      have:∃cs',B'=.box cs':=by
        rcases h3 with h3|h3
        · cases h3;exact⟨_,rfl⟩
        · exact⟨_,h3.symm⟩
      obtain⟨cs',rfl⟩:=this
      exact .MZ _ off cs' b q h2 (e.trans hh)
    | Mj _ _ _ sh t xs b q n cap hl hx hh =>
      obtain⟨h1,B',h2,h3⟩:=c.Ni hl
      have e:(Ic pl pl' L nid L.length o.news.length).hdr (bk L nid L.length k)=pl'.hdr k:=by simp only[Ic,h1]
      have:∃sh',B'=.arr sh' t xs:=by
        rcases h3 with h3|h3
        · cases sh with
          |none=>cases h3;exact⟨_,rfl⟩
          | some d =>
            simp only[Blk.back,Blk.GW]at h3
            cases hh:hit (Nl L o.kept).2 (bkL L nid L.length d++D)<;>simp only[hh,cond_true,cond_false]at h3
            · cases h3;exact⟨_,rfl⟩
            · exact nomatch h3
        · cases sh<;>exact⟨_,h3.symm⟩
      obtain⟨sh',rfl⟩:=this
      exact .Mj _ 0 off sh' t xs b q n cap h2 hx (e.trans hh)
  |.ptr k (x+1) off,u,h=>.undef _
  | .agg cs, u, h => by
    cases h with
    | agg _ vs h1 h2 h3 =>
      obtain⟨g1,g2⟩:=c.Zw cs vs.toList (by simpa using h1) fun j x u hx hu=>h3 j x u hx (by simpa using hu)
      exact .agg _ _ (by simpa using g1) h2 fun j x u hx hu=>g2 j x u hx (by simpa using hu)
  | .tup cs, u, h => by
    cases h with
    | tup _ vs h1 h3 =>
      obtain⟨g1,g2⟩:=c.Zw cs vs.toList (by simpa using h1) fun j x u hx hu=>h3 j x u hx (by simpa using hu)
      exact .tup _ _ (by simpa using g1) fun j x u hx hu=>g2 j x u hx (by simpa using hu)
  |.sub _ _ _,_,_=>.undef _
  |.bsl _ _,_,_=>.undef _
  |.inn _ _ _,_,_=>.undef _
  |.Jp _ _,_,_=>.undef _
  | .fn f a b, u, h => by
    cases h with
    | fn _ _ _ us vs h1 h3 h1' h3' =>
      obtain⟨g1,g2⟩:=c.Zw a us.toList (by simpa using h1) fun j x u hx hu=>h3 j x u hx (by simpa using hu)
      obtain⟨q1,q2⟩:=c.Zw b vs.toList (by simpa using h1') fun j x u hx hu=>h3' j x u hx (by simpa using hu)
      exact .fn _ _ _ _ _ (by simpa using g1) (fun j x u hx hu=>g2 j x u hx (by simpa using hu)) (by simpa using q1) fun j x u hx hu=>q2 j x u hx (by simpa using hu)
  |.undef,_,_=>.undef _
theorem Ke.Zw (c:Ke w w' H H' pl pl' L D bs nid o):(cs:List SV)→(us:List Value)→cs.length=us.length→(∀(j:Nat) (x:SV) (u:Value),cs[j]? =some x→us[j]? =some u→GG w' o.heap pl' x u)→
    (KX L nid L.length D cs).length=us.length∧∀(j:Nat) (x:SV) (u:Value),(KX L nid L.length D cs)[j]? =some x→us[j]? =some u→GG w' H' (Ic pl pl' L nid L.length o.news.length) x u
  |[],us,hl,_=>⟨hl,fun j x u hx _=>by simp[KX]at hx⟩
  | v :: cs, u :: us, hl, hp => by
    obtain⟨g1,g2⟩:=c.Zw cs us (by simpa using hl) fun j x u hx hu=>hp (j+1) x u (by simpa using hx) (by simpa using hu)
    refine⟨by simp[KX,g1],fun j x u' hx hu=>?_⟩
    cases j with
    |zero=>simp[KX]at hx hu;subst hx hu;exact c.rep v (hp 0 v u rfl rfl)
    |succ j=>exact g2 j x u' (by simpa[KX]using hx) (by simpa using hu)
end
theorem Ke.YH (c:Ke w w' H H' pl pl' L D bs nid o) {i k:Nat} {B:Blk} (h1:cb L nid L.length o.news.length i=some k) (h2:look o.heap k=some B):
    HV w' H' (Ic pl pl' L nid L.length o.news.length) i (B.back L nid L.length D):=by
  have eh:(Ic pl pl' L nid L.length o.news.length).hdr i=pl'.hdr k:=by simp only[Ic,h1]
  have ef:(Ic pl pl' L nid L.length o.news.length).fp i=pl'.fp k:=by simp only[Ic,h1]
  have hb:=c.hro.blk k B h2
  cases B with
  | box cs =>
    obtain⟨b,q,q1,q2,q3⟩:=hb
    refine⟨b,q,eh.trans q1,fun p=>by rw[ef,q2,Lm],fun j v hv=>?_⟩
    rw[RF]at hv
    obtain⟨y,hy,rfl⟩:=Option.map_eq_some_iff.1 hv
    obtain⟨u,g1,g2,g3,g4⟩:=q3 j y hy
    exact⟨u,g1,g2,g3,c.rep y g4⟩
  | arr sh t xs =>
    cases sh with
    | none =>
      show Nonempty (Row w' (Ie w') t xs _ _)
      rw[eh,ef];exact hb
    | some d =>
      obtain⟨⟨a,cap,b,q,vs,fs,q1,q2,q3,q4,q5,q6,q7,q8,q9⟩⟩:=hb
      exact⟨⟨a,cap,b,q,vs,fs,eh.trans q1,q2,q3,q4,q5,fun i j r hc=>⟨(q6 i j r hc).1.frame fun p u hp hu=>⟨c.okd hp,hu⟩,(q6 i j r hc).2⟩,q7,q8,fun p=>by rw[ef];exact q9 p⟩⟩
theorem UR (T:Kil) {w:World} {H:GV} {pl:Pl}:JF T w H pl w H pl:=⟨fun i B hB _=>⟨B,hB,B.Hz,rfl⟩,fun d p u _ h hp=>⟨h,hp⟩⟩
theorem Ke.PJ (c:Ke w w' H H' pl pl' L D bs nid o) {i:Nat} {B:Blk} {p:Cell} (hB:look H i=some B) (hm:mem i L=false) (hf:pl.fp i p):∀i' B',mem i' L=true→look H i'=some B'→¬pl.fp i' p:=fun i' B' hm' hB' hf'=>by
  have:=c.hr.dis i i' B B' p hB hB' hf hf'
  subst this
  rw[hm]at hm';exact nomatch hm'
theorem Ke.keeps (c:Ke w w' H H' pl pl' L D bs nid o):JF (Nl L o.kept) w H pl w' H' (Ic pl pl' L nid L.length o.news.length):=by
  refine⟨fun i B hB hg=>?_,fun d p u hd ho hp=>?_⟩
  · cases hm:mem i L with
    | true =>
      obtain⟨k,B0,B1,hk,hlt,e1,e2,e3⟩:=c.inH hm
      rw[hB]at e1;cases e1
      have hkl:k<o.kept.length:=by rw[c.hm];exact hlt
      cases hkp:o.kept[k]? with
      |none=>rw[List.getElem?_eq_getElem hkl]at hkp;exact nomatch hkp
      | some ob =>
        cases ob with
        |none=>rw[show mem i (JK L o.kept)=true from JL.2 ⟨k,hk,hkp⟩]at hg;exact nomatch hg
        | some B2 =>
          obtain⟨B',h1,h2⟩:=c.kept hk hkp
          obtain⟨q1,B3,q2,q3⟩:=c.Zu k B2 hkp
          rw[e2]at q2;cases q2
          refine⟨B',h1,Blk.HZ (Blk.QC e3) (Blk.HZ q3 h2.JP),?_⟩
          simp only[Ic,c.YE hk]
          rw[q1,List.getD_eq_getElem?_getD,hk];rfl
    | false =>
      rcases c.QE i with⟨k,hk,_⟩|⟨j,hj,rfl,_,_⟩|⟨_,hno,hc⟩
      · rw[(mem_iff i L).2 (List.mem_of_getElem? hk)]at hm;exact nomatch hm
      · rw[c.Mb j hj]at hB;exact nomatch hB
      · obtain⟨h1,e1,_⟩:=id c.ha
        have hu:look (LV (OX (Blk.back L nid L.length D) L o.kept) H) i=some B:=by
          rw[Ip fun k b h1 _=>by rw[(mem_iff i L).2 (List.mem_of_getElem? h1)]at hm;exact nomatch hm];exact hB
        obtain⟨B',hB'⟩:=I6 Mg e1 i B hu hg
        exact⟨B',by rw[c.old hm hno,hB];exact hB',Blk.Ik hB',by simp only[Ic,hc]⟩
  · have hnp:∀i B,mem i L=true→look H i=some B→¬pl.fp i p:=fun i B hm hB hf=>by
      refine ho.2 i B hB (fun hdi=>?_) hf
      have hT:=hd i hdi
      obtain⟨k,B0,B1,hk,hlt,e1,e2,e3⟩:=c.inH hm
      rw[hB]at e1;cases e1
      have hkl:k<o.kept.length:=by rw[c.hm];exact hlt
      cases hkp:o.kept[k]? with
      |none=>rw[List.getElem?_eq_getElem hkl]at hkp;exact nomatch hkp
      | some ob =>
        cases ob with
        | none =>
          have:mem i (Nl L o.kept).2=true:=Mg i (JL.2 ⟨k,hk,hkp⟩)
          rw[hT]at this;exact nomatch this
        | some B2 =>
          obtain⟨_,B3,q2,q3⟩:=c.Zu k B2 hkp
          rw[e2]at q2;cases q2
          have hbx:B2.JE=true:=by
            cases hx:B2.JE with
            |true=>rfl
            | false =>
              have:mem i (JK L o.kept++JX L o.kept)=true:=by rw[mem_append,LK.2 ⟨k,B2,hk,hkp,hx⟩,Bool.or_true]
              rw[show mem i (JK L o.kept++JX L o.kept)=false from hT]at this;exact nomatch this
          rw[Blk.Je (Blk.QC e3),Blk.Je q3,hbx]
    obtain⟨g1,g2,g3⟩:=c.hfr p u hp hnp
    refine⟨⟨ho.1,fun i B' hB' hm hf=>?_⟩,g2⟩
    rcases c.Jf hB' with⟨k,B,h1,h2,_,_⟩|⟨h1,h2,B,h3,h4⟩
    · simp only[Ic,h1]at hf
      exact g1 k B h2 hf
    · simp only[Ic,h1]at hf
      refine ho.2 i B h3 (fun hk=>?_) hf
      rw[Blk.Je (Blk.Ik h4)];exact hm hk
theorem Ke.step (c:Ke w w' H H' pl pl' L D bs nid o):Hp H H' (Nl L o.kept) pl (Ic pl pl' L nid L.length o.news.length) w w':=by
  have hown:=c.hr.IK
  have hk:=c.keeps
  refine⟨⟨fun i B' hB'=>?_,fun i j B B' p h1 h2 f1 f2=>?_,fun i B p hB hf=>?_,fun p hp=>?_⟩,hk,rfl,c.hgr,fun p u hp hno=>?_⟩
  · rcases c.Jf hB' with⟨k,B,h1,h2,h3,_⟩|⟨h1,h2,B,h3,h4⟩
    · have hb:=c.YH h1 h2
      rcases h3 with h3|h3
      · exact hb.HL (UR _) rfl (fun _=>Iff.rfl) (fun p u _ hu=>⟨hu,rfl⟩) h3
      · rw[←h3];exact hb
    · exact(c.hr.blk i B h3).HL hk (by simp only[Ic,h1]) (fun p=>by simp only[Ic,h1]) (fun p u hf hu=>(c.hfr p u hu (c.PJ h3 h2 hf)).2) h4
  · have cross:∀{i j k:Nat} {B Bk:Blk},look H i=some B→mem i L=false→pl.fp i p→look o.heap k=some Bk→pl'.fp k p→False:=fun{i j k B Bk} hB hm hf hk hf'=>by
      obtain⟨u,hu⟩:=hown i B p hB hf
      exact(c.hfr p u hu (c.PJ hB hm hf)).1 k Bk hk hf'
    rcases c.Jf h1 with⟨k,B1,a1,a2,_,_⟩|⟨a1,a2,B1,a3,_⟩<;>rcases c.Jf h2 with⟨k',B2,b1,b2,_,_⟩|⟨b1,b2,B2,b3,_⟩
    · simp only[Ic,a1]at f1
      simp only[Ic,b1]at f2
      have:=c.hro.dis k k' B1 B2 p a2 b2 f1 f2
      subst this
      rw[←c.YG a1,←c.YG b1]
    · simp only[Ic,a1]at f1
      simp only[Ic,b1]at f2
      exact(cross (j:=j) b3 b2 f2 a2 f1).elim
    · simp only[Ic,a1]at f1
      simp only[Ic,b1]at f2
      exact(cross (j:=j) a3 a2 f1 b2 f2).elim
    · simp only[Ic,a1]at f1
      simp only[Ic,b1]at f2
      exact c.hr.dis i j B1 B2 p a3 b3 f1 f2
  · rcases c.Jf hB with⟨k,B1,a1,a2,_,_⟩|⟨a1,a2,B1,a3,_⟩
    · simp only[Ic,a1]at hf
      have:=c.hro.ob k B1 p a2 hf
      rw[c.Oi]at this
      exact this.1
    · simp only[Ic,a1]at hf
      exact c.hr.ob i B1 p a3 hf
  · have:=c.hro.nb p hp
    rw[c.Oi]at this
    exact this.1
  · obtain⟨g1,g2⟩:=c.hfr p u hp fun i B _ hB=>hno i B hB
    refine⟨fun i B hB hf=>?_,g2⟩
    rcases c.Jf hB with⟨k,B1,a1,a2,_,_⟩|⟨a1,a2,B1,a3,_⟩
    · simp only[Ic,a1]at hf
      exact g1 k B1 a2 hf
    · simp only[Ic,a1]at hf
      exact hno i B1 a3 hf
end
inductive Pr where
  |one (t:Ty)
  |agg (ts:List Ty)
  |HL
def US (h:GV):List Ty→List SV→Option (List SV)
  |[],[]=>some []
  |t::ts,v::vs=>(v.asR h t).bind fun p=>(US h ts vs).bind fun l=>some (.r p.1 p.2::l)
  |_,_=>none
def SZ (h:GV):Pr→SV→Option SV
  |.one t,v=>(v.asR h t).bind fun p=>some (.r p.1 p.2)
  |.agg ts,.agg cs=>(US h ts cs).bind fun l=>some (.agg l)
  |.agg _,_=>none
  |.HL,v=>some v
def Y0 (h:GV):List Pr→List SV→Option (List SV)
  |[],[]=>some []
  |s::ss,v::vs=>(SZ h s v).bind fun x=>(Y0 h ss vs).bind fun l=>some (x::l)
  |_,_=>none
def Wq (pr:List Pr) (G:MG):Orc:=fun ρ nid vs h K=>
  (Y0 h pr vs).bind fun vs1=>
    let L:=reach h 3 (K2 [] (Vc vs1))
    let D:=YZ L (LS vs1++Nk h L)
    cond (nodup L) (cond (OQ L D (LS vs1++Nk h L)) ((R4 L vs1).bind fun args=>(KK h L L).bind fun bs=>
      G ρ args bs fun o=>cond (Nat.beq o.kept.length L.length)
        (K {v:=o.v.back L nid L.length D,upd:=OX (Blk.back L nid L.length D) L o.kept,news:=OB L nid L.length D o.news,gone:=JK L o.kept,JO:=JX L o.kept}) none) none) none
theorem T0 {h h':GV} (hh:Ext h h'):(ts:List Ty)→(vs:List SV)→Le (US h ts vs) (US h' ts vs)
  |[],[]=>Le.refl _
  |t::ts,v::vs=>(Q7 hh _ _).bind fun _=>(T0 hh ts vs).bind fun _=>Le.refl _
  |[],_::_=>Le.refl _
  |_::_,[]=>Le.refl _
theorem XG {h h':GV} (hh:Ext h h') (s:Pr) (v:SV):Le (SZ h s v) (SZ h' s v):=by
  intro p hp
  unfold SZ at hp
  split at hp<;>simp only[SZ]
  · exact((Q7 hh _ _).bind fun _=>Le.refl _) p hp
  · exact((T0 hh _ _).bind fun _=>Le.refl _) p hp
  · exact nomatch hp
  · exact hp
theorem Wr {h h':GV} (hh:Ext h h'):(ss:List Pr)→(vs:List SV)→Le (Y0 h ss vs) (Y0 h' ss vs)
  |[],[]=>Le.refl _
  |s::ss,v::vs=>(XG hh s v).bind fun _=>(Wr hh ss vs).bind fun _=>Le.refl _
  |[],_::_=>Le.refl _
  |_::_,[]=>Le.refl _
theorem T1 {h h':GV} (hh:Ext h h') {L:List Nat}:(l:List Nat)→Le (KK h L l) (KK h' L l)
  |[]=>Le.refl _
  | i :: l => fun bs hb => by
    simp only[KK,Option.bind_eq_some_iff,Option.some.injEq]at hb⊢
    obtain⟨b,h1,b',h2,l',h3,rfl⟩:=hb
    exact⟨b,hh i b h1,b',h2,l',T1 hh l _ h3,rfl⟩
theorem RG {h h':GV} (hh:Ext h h'):(l:List Nat)→(∀i∈l,∃B,look h i=some B)→Nk h' l=Nk h l
  |[],_=>rfl
  | i :: l, hl => by
    obtain⟨B,hB⟩:=hl i (by simp)
    simp only[Nk,hB,hh i B hB,RG hh l fun k hk=>hl k (by simp[hk])]
section
variable {w:World} {H:GV} {pl:Pl} {P:Program}
theorem RH (hr:Hq H pl w):∀{ts:List Ty} {vs:List SV} {us:List Value} {l:List SV},US H ts vs=some l→vs.length=us.length→(∀(j:Nat) (x:SV) (u:Value),vs[j]? =some x→us[j]? =some u→GG w H pl x u)→
    l.length=us.length∧∀(j:Nat) (x:SV) (u:Value),l[j]? =some x→us[j]? =some u→GG w H pl x u
  |[],[],us,l,h,hl,_=>by cases h;exact⟨hl,fun j x u hx _=>by simp at hx⟩
  | t :: ts, v :: vs, u :: us, l, h, hl, hp => by
    simp only[US,Option.bind_eq_some_iff,Option.some.injEq]at h
    obtain⟨⟨d,r⟩,h1,l',h2,rfl⟩:=h
    obtain⟨g1,g2⟩:=RH hr h2 (us:=us) (by simpa using hl) fun j x u hx hu=>hp (j+1) x u (by simpa using hx) (by simpa using hu)
    refine⟨by simp[g1],fun j x u' hx hu=>?_⟩
    cases j with
    |zero=>simp at hx hu;subst hx hu;exact .r _ _ _ (M1 hr h1 (hp 0 v u rfl rfl))
    |succ j=>exact g2 j x u' (by simpa using hx) (by simpa using hu)
  |[],_::_,_,_,h,_,_=>nomatch h
  |_::_,[],_,_,h,_,_=>nomatch h
theorem Ws (hr:Hq H pl w) {s:Pr} {v x:SV} {u:Value} (h:SZ H s v=some x) (hv:GG w H pl v u):GG w H pl x u:=by
  unfold SZ at h
  split at h
  · simp only[Option.bind_eq_some_iff,Option.some.injEq]at h
    obtain⟨⟨d,r⟩,h1,rfl⟩:=h
    exact .r _ _ _ (M1 hr h1 hv)
  · simp only[Option.bind_eq_some_iff,Option.some.injEq]at h
    obtain⟨l,h1,rfl⟩:=h
    cases hv with
    | agg cs vs h2 h3 h4 =>
      obtain⟨g1,g2⟩:=RH hr h1 (us:=vs.toList) (by simpa using h2) fun j x u hx hu=>h4 j x u hx (by simpa using hu)
      exact .agg _ _ (by simpa using g1) h3 fun j x u hx hu=>g2 j x u hx (by simpa using hu)
  · exact nomatch h
  · cases h;exact hv
theorem T3 (hr:Hq H pl w):∀{ss:List Pr} {vs:List SV} {us:List Value} {l:List SV},Y0 H ss vs=some l→vs.length=us.length→(∀(j:Nat) (x:SV) (u:Value),vs[j]? =some x→us[j]? =some u→GG w H pl x u)→
    l.length=us.length∧∀(j:Nat) (x:SV) (u:Value),l[j]? =some x→us[j]? =some u→GG w H pl x u
  |[],[],us,l,h,hl,_=>by cases h;exact⟨hl,fun j x u hx _=>by simp at hx⟩
  | t :: ts, v :: vs, u :: us, l, h, hl, hp => by
    simp only[Y0,Option.bind_eq_some_iff,Option.some.injEq]at h
    obtain⟨x0,h1,l',h2,rfl⟩:=h
    obtain⟨g1,g2⟩:=T3 hr h2 (us:=us) (by simpa using hl) fun j x u hx hu=>hp (j+1) x u (by simpa using hx) (by simpa using hu)
    refine⟨by simp[g1],fun j x u' hx hu=>?_⟩
    cases j with
    |zero=>simp at hx hu;subst hx hu;exact Ws hr h1 (hp 0 v u rfl rfl)
    |succ j=>exact g2 j x u' (by simpa using hx) (by simpa using hu)
  |[],_::_,_,_,h,_,_=>nomatch h
  |_::_,[],_,_,h,_,_=>nomatch h
theorem RI {g:FuncId} {pr:List Pr} {G:MG} (h:Zs P g G):L9 P g (Wq pr G):=by
  intro ρ nid vs H K out hK
  simp only[Wq,Option.bind_eq_some_iff]at hK
  obtain⟨vs1,hpr,hK⟩:=hK
  generalize hLe:reach H 3 (K2 [] (Vc vs1))=L at hK
  cases hn:nodup L<;>simp only[hn,cond_true,cond_false]at hK
  · exact nomatch hK
  generalize hDe:YZ L (LS vs1++Nk H L)=D at hK
  cases hsub:OQ L D (LS vs1++Nk H L)<;>simp only[hsub,cond_true,cond_false,Option.bind_eq_some_iff]at hK
  · exact nomatch hK
  obtain⟨args,hargs,bs,hbs,hG⟩:=hK
  obtain⟨o,ho,hen,hm,hcalls⟩:=h ρ args bs _ out hG
  cases hbl:Nat.beq o.kept.length L.length<;>simp only[hbl,cond_true,cond_false]at ho
  · exact nomatch ho
  have hbl:=Nat.eq_of_beq_eq_true hbl
  have hin:∀i∈L,∃B,look H i=some B:=fun i hi=>by
    obtain⟨k,hk⟩:=List.getElem?_of_mem hi
    have hlt:=(List.getElem?_eq_some_iff.1 hk).1
    obtain⟨i',b0,e1,e2,_⟩:=(Im hbs).2 k _ (List.getElem?_eq_getElem (show k<bs.length by rw[(Im hbs).1];exact hlt))
    rw[hk]at e1;cases e1
    exact⟨b0,e2⟩
  refine⟨_,ho,hen,fun i B hB=>hin i (KN hB),fun H1 pl w us he hr hnw hl hp H' ha=>?_⟩
  obtain⟨hs1,hs2⟩:=Iw hsub
  obtain⟨g1,g2⟩:=T3 (us:=us.toList) hr (Wr he _ _ _ hpr) (by simpa using hl) fun j x u hx hu=>hp j x u hx (by simpa using hu)
  have hbs1:=T1 he L _ hbs
  have hd1:OQ L D (Nk H1 L)=true:=by rw[RG he L hin];exact hs2
  obtain⟨q1,q2⟩:=Kr hn hbs1 vs1 hs1 hargs us.toList g1 g2
  have Mb:∀k,k<o.news.length→look H1 (nid+k)=none:=fun k hk=>hnw k (by rw[JY];exact hk)
  refine(hcalls w us (MS H1 pl L D) (Wo hr hn hbs1 hd1) (by simpa using q1) fun j x u hx hu=>q2 j x u hx (by simpa using hu)).mono fun e w' ⟨u,pl',he',h1,h2,h3,h4,h5,h6⟩=>?_
  have hc:Ke w w' H1 H' pl pl' L D bs nid o:=by
    refine⟨hr,hn,hbs1,hbl,Mb,fun i hi=>XD (hDe▸hi),h1,h3,h4,h5,fun p u hu hno=>h6 p u hu fun k B hB hf=>?_,?_⟩
    · obtain⟨i,b0,e1,e2,e3,_⟩:=Io hbs1 hB
      simp only[MS,e2]at hf
      exact hno i b0 ((mem_iff i L).2 (List.mem_of_getElem? e1)) e3 hf
    · simp only[after,Option.bind_eq_some_iff,Option.some.injEq]at ha
      obtain⟨h1',e1,e2⟩:=ha
      exact⟨h1',e1,e2.symm⟩
  exact⟨u,_,he',hc.step,hc.rep o.v h2⟩
end
end Go.Proofs.Ev
set_option linter.unusedVariables false
set_option linter.unusedSimpArgs false
namespace Go.Proofs.Ev
variable [Tok]
set_option linter.unusedSectionVars false
inductive KD where
  |gone
  |arr
  |box (l:List RT)
def HU:List (Option Nat)→List KD→List Nat
  |some _::g,.gone::l=>HU g l
  |some i::g,_::l=>i::HU g l
  |none::g,_::l=>HU g l
  |_,_=>[]
def Ln (h:GV):List (Option Nat)→List KD→Option (List (Bool× Ty× Option Nat))
  |[],[]=>some []
  |_::g,.gone::ks=>Ln h g ks
  |some _::g,.arr::ks=>Ln h g ks
  | some i :: g, .box l :: ks => match look h i with
    |some (.box cs)=>(Qv l cs).bind fun a=>(Ln h g ks).bind fun b=>some (a++b)
    |_=>none
  |_,_=>none
def Lo (h:GV) (LL:List Nat) (i:Nat):Option Blk:=
  match look h i with
  |some (.arr none t xs)=>some (.arr none t xs)
  |some (.arr (some d) t xs)=>cond (hit LL d) none (some (.arr (some []) t xs))
  |_=>none
def H4 (h:GV) (LL:List Nat) (G:List (Option Nat)):List (Option Nat)→List KD→Nat→Option (List (Option Blk))
  |[],[],_=>some []
  |_::g,.gone::ks,k=>(H4 h LL G g ks k).bind fun q=>some (none::q)
  |some i::g,.arr::ks,k=>(Lo h LL i).bind fun b=>(H4 h LL G g ks k).bind fun q=>some (some b::q)
  | some i :: g, .box l :: ks, k => match look h i with
    |some (.box cs)=>(WY h LL G l k cs).bind fun p=>(H4 h LL G g ks p.2).bind fun q=>some (some (.box p.1)::q)
    |_=>none
  |_,_,_=>none
def Mh:List (Option Nat)→List KD→List (Option Nat)
  |[],_=>[]
  |_::g,.gone::ks=>none::Mh g ks
  |og::g,.arr::ks=>og::Mh g ks
  |og::g,.box _::ks=>og::Mh g ks
  |_::g,[]=>none::Mh g []
def Wt (rt:RT) (ks:List KD) (st:St) (v:SV):Option Mk:=
  (rt.UO v).bind fun s0=>(Ln st.heap st.gh ks).bind fun s1=>
    let LL:=HU st.gh ks++Jb (s0++s1)
    cond (nodup LL) ((Kb st.heap LL (s0++s1)).bind fun news=>(rt.out st.heap LL (Mh st.gh ks) st.gh.length v).bind fun p=>(H4 st.heap LL (Mh st.gh ks) st.gh ks p.2).bind fun q=>some ⟨p.1,q,news⟩) none
def QF (ks:List KD) (v:SV) (gh:List (Option Nat)):List (Option Nat):=
  cond (Nat.beq ks.length (gh.length+1)) (match v with
    |.ptr i 0 _=>gh++[some i]
    |.tup (.ptr i 0 _::_)=>gh++[some i]
    |_=>gh) gh
def T4 (m:Nat) (o:Mk):Option Mk:=match o.kept.drop m with
  |[]=>some o
  |[some b]=>some ⟨o.v,o.kept.take m,b::o.news⟩
  |_=>none
def RJ (rt:RT) (ks:List KD) (st:St) (v:SV):Option Mk:=
  (Wt rt ks {st with gh:=QF ks v st.gh} v).bind (T4 st.gh.length)
def QG (t:Nat) (st:St):Option St:=
  match look st.G2 t with
  | some (.sub i 0 n) => match look st.heap i with
    |some (.arr sh ty xs)=>cond (mem i (sh.getD [])) none (st.take (some t) {v:=.own st.nid,news:=[.arr sh ty (xs.take n)],gone:=[i]})
    |_=>some st
  |_=>some st
def T5 (fn:Func) (rt:RT) (st:St):Option St:=
  match fn.results.toList,rt with
  |[.tmp t],.own _=>QG t st
  |[.tmp t],.shl _=>QG t st
  |_,_=>some st
def Y1 {ρ:Type} (P:Program) (fn:Func) (rt:RT) (ks:List KD) (dec:Mk→Option ρ):Ex→St→Option ρ
  |.exit _,_=>none
  |.normal,st=>(T5 fn rt st).bind fun st=>(X3 P fn st).bind fun v=>(RJ rt ks st v).bind dec
  |.ret,st=>(T5 fn rt st).bind fun st=>(X3 P fn st).bind fun v=>(RJ rt ks st v).bind dec
def RK:Nat→List SV→List (Nat× SV)
  |_,[]=>[]
  |n,a::l=>(n,a)::RK (n+1) l
def PK:Nat→Nat→List (Option Nat)
  |_,0=>[]
  |n,k+1=>some n::PK (n+1) k
def YI (fn:Func) (args:List SV) (bs:List Blk):St:={G2:=RK 0 args,heap:=GY 0 bs,nid:=bs.length,n:=fn.ntmps,gh:=PK 0 bs.length}
theorem S0 (args:List SV) (n t:Nat):look (RK n args) t=if n≤t then args[t-n]? else none:=by
  induction args generalizing n with
  |nil=>simp[RK,look]
  | cons a l ih =>
    rw[RK,GK,ih]
    by_cases h:n=t
    · subst h;simp
    · by_cases h2:n≤t
      · rw[if_neg h,if_pos (by omega),if_pos h2,show t-n=(t-(n+1))+1 from by omega];rfl
      · rw[if_neg h,if_neg (by omega),if_neg h2]
theorem PL:∀(c n k:Nat) {i:Nat},(PK n c)[k]? =some (some i)→i=n+k∧k<c
  |0,n,k,i,h=>by simp[PK]at h
  |c+1,n,0,i,h=>by simp[PK]at h;omega
  | c + 1, n, k + 1, i, h => by
    have:=PL c (n+1) k (by simpa[PK]using h)
    omega
def Pl.TR (pl:Pl) (gh:List (Option Nat)) (S:List (Bool× Ty× Option Nat)):Pl:=
  ⟨fun k=>if k<gh.length then(match gh[k]? with|some (some i)=>pl.hdr i|_=>undef)else(pl.res S).hdr (k-gh.length),
   fun k=>if k<gh.length then(match gh[k]? with|some (some i)=>pl.fp i|_=>fun _=>False)else(pl.res S).fp (k-gh.length),pl.base⟩
section
variable {w:World} {H:GV} {pl:Pl} {gh G:List (Option Nat)} {ks:List KD} {S:List (Bool× Ty× Option Nat)} {LL:List Nat} {news:List Blk} {kept:List (Option Blk)} {v:SV}
theorem IB:∀{gh:List (Option Nat)} {ks:List KD} {k0:Nat} {kept:List (Option Blk)},H4 H LL G gh ks k0=some kept→kept.length=gh.length∧
    ∀(k:Nat) (B:Blk),kept[k]? =some (some B)→∃i,gh[k]? =some (some i)∧mem i (HU gh ks)=true∧((∃l cs cs' k1 k2,ks[k]? =some (.box l)∧look H i=some (.box cs)∧WY H LL G l k1 cs=some (cs',k2)∧B=.box cs')∨(ks[k]? =some .arr∧Lo H LL i=some B))
  |[],[],k0,kept,h=>by cases h;exact⟨rfl,fun k B hB=>by simp at hB⟩
  | og :: g, .gone :: ks, k0, kept, h => by
    simp only[H4,Option.bind_eq_some_iff,Option.some.injEq]at h
    obtain⟨q,h1,rfl⟩:=h
    obtain⟨g1,g2⟩:=IB h1
    refine⟨by simp[g1],fun k B hB=>?_⟩
    cases k with
    |zero=>simp at hB
    | succ k =>
      obtain⟨i,a1,a2,a3⟩:=g2 k B (by simpa using hB)
      refine⟨i,by simpa using a1,?_,by simpa using a3⟩
      cases og<;>simpa[HU]using a2
  | some i0 :: g, .arr :: ks, k0, kept, h => by
    simp only[H4,Option.bind_eq_some_iff,Option.some.injEq]at h
    obtain⟨b,h0,q,h1,rfl⟩:=h
    obtain⟨g1,g2⟩:=IB h1
    refine⟨by simp[g1],fun k B hB=>?_⟩
    cases k with
    |zero=>simp at hB;subst hB;exact⟨i0,rfl,by simp[HU,mem],.inr ⟨rfl,h0⟩⟩
    | succ k =>
      obtain⟨i,a1,a2,a3⟩:=g2 k B (by simpa using hB)
      refine⟨i,by simpa using a1,?_,by simpa using a3⟩
      rw[mem_iff]at a2⊢;simp[HU,a2]
  | some i0 :: g, .box l :: ks, k0, kept, h => by
    simp only[H4]at h
    split at h
    · rename_i cs hl
      simp only[Option.bind_eq_some_iff,Option.some.injEq]at h
      obtain⟨p,h0,q,h1,rfl⟩:=h
      obtain⟨g1,g2⟩:=IB h1
      refine⟨by simp[g1],fun k B hB=>?_⟩
      cases k with
      |zero=>simp at hB;subst hB;exact⟨i0,rfl,by simp[HU,mem],.inl ⟨l,cs,p.1,k0,p.2,rfl,hl,h0,rfl⟩⟩
      | succ k =>
        obtain⟨i,a1,a2,a3⟩:=g2 k B (by simpa using hB)
        refine⟨i,by simpa using a1,?_,by simpa using a3⟩
        rw[mem_iff]at a2⊢;simp[HU,a2]
    · exact nomatch h
  |[],_::_,_,_,h=>by cases h
  |none::_,[],_,_,h=>by cases h
  |some _::_,[],_,_,h=>by cases h
  |none::_,.arr::_,_,_,h=>by cases h
  |none::_,.box _::_,_,_,h=>by cases h
theorem MI (hr:Hq H pl w) {H2:GV} {plR:Pl} {m:Nat} (hown:∀(k:Nat) (b:Bool) (t:Ty) (v:SV) (u:Value),GG w H pl v u→((∃i,v=.own i∧S[k]? =some (b,t,some i))∨(v=.H5∧S[k]? =some (b,t,none)))→GG w H2 plR (.own (m+k)) u)
    (hro:∀d p,hit LL d=false→okd H pl d p→okd H2 plR [] p) (hptr:∀i j o u,posOf i G 0=some j→GG w H pl (.ptr i 0 o) u→GG w H2 plR (.ptr j 0 o) u):∀{gh:List (Option Nat)} {ks:List KD} {j0:Nat} {kept:List (Option Blk)} {s:List (Bool× Ty× Option Nat)},
    Ln H gh ks=some s→(∀(j:Nat) (x:Bool× Ty× Option Nat),s[j]? =some x→S[j0+j]? =some x)→H4 H LL G gh ks (m+j0)=some kept→
    ∀ (k i : Nat) (cs cs' : List SV), gh[k]? = some (some i) → look H i = some (.box cs) → kept[k]? = some (some (.box cs')) → ∀ us : List Value, cs.length = us.length → (∀ (j : Nat) (x : SV) (u : Value), cs[j]? = some x → us[j]? = some u → GG w H pl x u) →
      cs'.length=us.length∧∀(j:Nat) (x:SV) (u:Value),cs'[j]? =some x→us[j]? =some u→GG w H2 plR x u
  |[],[],j0,kept,s,hs,hS,h,k,i,cs,cs',hk,_,_,_,_,_=>by simp at hk
  | og :: g, .gone :: ks, j0, kept, s, hs, hS, h, k, i, cs, cs', hk, hl, hc, us, hu, hp => by
    simp only[H4,Option.bind_eq_some_iff,Option.some.injEq]at h
    obtain⟨q,h1,rfl⟩:=h
    have hs:Ln H g ks=some s:=by cases og<;>exact hs
    cases k with
    |zero=>simp at hc
    |succ k=>exact MI hr hown hro hptr hs hS h1 k i cs cs' (by simpa using hk) hl (by simpa using hc) us hu hp
  | some i0 :: g, .arr :: ks, j0, kept, s, hs, hS, h, k, i, cs, cs', hk, hl, hc, us, hu, hp => by
    simp only[H4,Option.bind_eq_some_iff,Option.some.injEq]at h
    obtain⟨b,h0,q,h1,rfl⟩:=h
    cases k with
    | zero =>
      simp at hk hc
      subst hk hc
      unfold Lo at h0
      rw[hl]at h0;exact nomatch h0
    |succ k=>exact MI hr hown hro hptr (show Ln H g ks=some s from hs) hS h1 k i cs cs' (by simpa using hk) hl (by simpa using hc) us hu hp
  | some i0 :: g, .box l :: ks, j0, kept, s, hs, hS, h, k, i, cs, cs', hk, hl, hc, us, hu, hp => by
    simp only[H4]at h
    simp only[Ln]at hs
    cases hl0:look H i0 with
    |none=>rw[hl0]at h;exact nomatch h
    | some B0 =>
      cases B0 with
      |arr sh t xs=>rw[hl0]at h;exact nomatch h
      | box cs0 =>
        simp only[hl0,Option.bind_eq_some_iff,Option.some.injEq]at h hs
        obtain⟨p,h0,q,h1,rfl⟩:=h
        obtain⟨s1,e1,s2,e2,rfl⟩:=hs
        obtain⟨b,o,q1,q2,q3⟩:=hr.blk i0 _ hl0
        have key:∀us:List Value,cs0.length=us.length→(∀(j:Nat) (x:SV) (u:Value),cs0[j]? =some x→us[j]? =some u→GG w H pl x u)→_:=fun us hu hp=>
          Kq hr hown hro hptr l e1 (fun j x hx=>hS j x (by rw[List.getElem?_append_left (List.getElem?_eq_some_iff.1 hx).1];exact hx)) (cs':=p.1) (k':=p.2) (by rw[h0]) us hu hp
        cases k with
        | zero =>
          simp at hk hc
          subst hk hc
          rw[hl0]at hl;cases hl
          obtain⟨g1,g2,_⟩:=key us hu hp
          exact⟨g1,g2⟩
        | succ k =>
          have hk2:p.2=m+(j0+s1.length):=by
            have hus:∃us:List Value,cs0.length=us.length∧∀(j:Nat) (x:SV) (u:Value),cs0[j]? =some x→us[j]? =some u→GG w H pl x u:=by
              have:∀n,n≤cs0.length→∃us:List Value,us.length=n∧∀(j:Nat) (x:SV) (u:Value),cs0[j]? =some x→us[j]? =some u→GG w H pl x u:=fun n=>by
                induction n with
                |zero=>exact fun _=>⟨[],rfl,fun j x u _ h=>by simp at h⟩
                | succ n ih =>
                  intro hn
                  obtain⟨us,a1,a2⟩:=ih (by omega)
                  obtain⟨u,_,_,_,b4⟩:=q3 n cs0[n] (List.getElem?_eq_getElem (by omega))
                  refine⟨us++[u],by simp[a1],fun j x u' hx hu'=>?_⟩
                  by_cases c:j<us.length
                  · rw[List.getElem?_append_left c]at hu';exact a2 j x u' hx hu'
                  · rw[List.getElem?_append_right (by omega)]at hu'
                    have hlt:=(List.getElem?_eq_some_iff.1 hu').1
                    simp at hlt
                    have:j=n:=by omega
                    subst this
                    rw[show j-us.length=0 from by omega]at hu'
                    simp at hu';subst hu'
                    rw[List.getElem?_eq_getElem (by omega)]at hx;cases hx
                    exact b4
              obtain⟨us,a1,a2⟩:=this cs0.length (Nat.le_refl _)
              exact⟨us,a1.symm,a2⟩
            obtain⟨us,a1,a2⟩:=hus
            exact(key us a1 a2).2.2
          rw[hk2]at h1
          exact MI hr hown hro hptr e2 (fun j x hx=>by
            have:=hS (s1.length+j) x (by rw[List.getElem?_append_right (by omega),Nat.add_sub_cancel_left];exact hx)
            rw[Nat.add_assoc];exact this) h1 k i cs cs' (by simpa using hk) hl (by simpa using hc) us hu hp
  |[],_::_,_,_,_,h,_,_,_,_,_,_,_,_,_,_,_,_=>by cases h
  |none::_,[],_,_,_,h,_,_,_,_,_,_,_,_,_,_,_,_=>by cases h
  |some _::_,[],_,_,_,h,_,_,_,_,_,_,_,_,_,_,_,_=>by cases h
  |none::_,.arr::_,_,_,_,h,_,_,_,_,_,_,_,_,_,_,_,_=>by cases h
  |none::_,.box _::_,_,_,_,h,_,_,_,_,_,_,_,_,_,_,_,_=>by cases h
theorem NS:∀{gh:List (Option Nat)} {ks:List KD} {k0 k0':Nat} {kept:List (Option Blk)},H4 H LL G gh ks k0=some kept→(HU gh ks).Nodup→∀(k k':Nat) (B B':Blk) (i:Nat),
    kept[k]? =some (some B)→kept[k']? =some (some B')→gh[k]? =some (some i)→gh[k']? =some (some i)→k=k'
  |[],[],k0,k0',kept,h,hn,k,k',B,B',i,h1,h2,h3,h4=>by simp at h3
  | og :: g, .gone :: ks, k0, k0', kept, h, hn, k, k', B, B', i, h1, h2, h3, h4 => by
    simp only[H4,Option.bind_eq_some_iff,Option.some.injEq]at h
    obtain⟨q,e1,rfl⟩:=h
    have hn:(HU g ks).Nodup:=by cases og<;>simpa[HU]using hn
    cases k with
    |zero=>simp at h1
    | succ k => cases k' with
      |zero=>simp at h2
      |succ k'=>rw[NS (k0':=k0') e1 hn k k' B B' i (by simpa using h1) (by simpa using h2) (by simpa using h3) (by simpa using h4)]
  | some i0 :: g, .arr :: ks, k0, k0', kept, h, hn, k, k', B, B', i, h1, h2, h3, h4 => by
    simp only[H4,Option.bind_eq_some_iff,Option.some.injEq]at h
    obtain⟨b,e0,q,e1,rfl⟩:=h
    have hn:i0∉HU g ks∧(HU g ks).Nodup:=by simpa[HU]using hn
    have sub:∀{k B},q[k]? =some (some B)→g[k]? =some (some i0)→False:=fun{k B} q1 q2=>by
      obtain⟨i',a1,a2,_⟩:=(IB e1).2 k B q1
      rw[q2]at a1;cases a1
      exact hn.1 ((mem_iff _ _).1 a2)
    cases k with
    | zero => cases k' with
      |zero=>rfl
      |succ k'=>simp at h3;subst h3;exact(sub (by simpa using h2) (by simpa using h4)).elim
    | succ k => cases k' with
      |zero=>simp at h4;subst h4;exact(sub (by simpa using h1) (by simpa using h3)).elim
      |succ k'=>rw[NS (k0':=k0') e1 hn.2 k k' B B' i (by simpa using h1) (by simpa using h2) (by simpa using h3) (by simpa using h4)]
  | some i0 :: g, .box l :: ks, k0, k0', kept, h, hn, k, k', B, B', i, h1, h2, h3, h4 => by
    simp only[H4]at h
    split at h
    · simp only[Option.bind_eq_some_iff,Option.some.injEq]at h
      obtain⟨b,e0,q,e1,rfl⟩:=h
      have hn:i0∉HU g ks∧(HU g ks).Nodup:=by simpa[HU]using hn
      have sub:∀{k B},q[k]? =some (some B)→g[k]? =some (some i0)→False:=fun{k B} q1 q2=>by
        obtain⟨i',a1,a2,_⟩:=(IB e1).2 k B q1
        rw[q2]at a1;cases a1
        exact hn.1 ((mem_iff _ _).1 a2)
      cases k with
      | zero => cases k' with
        |zero=>rfl
        |succ k'=>simp at h3;subst h3;exact(sub (by simpa using h2) (by simpa using h4)).elim
      | succ k => cases k' with
        |zero=>simp at h4;subst h4;exact(sub (by simpa using h1) (by simpa using h3)).elim
        |succ k'=>rw[NS (k0':=k0') e1 hn.2 k k' B B' i (by simpa using h1) (by simpa using h2) (by simpa using h3) (by simpa using h4)]
    · exact nomatch h
  |[],_::_,_,_,_,h,_,_,_,_,_,_,_,_,_,_=>by cases h
  |none::_,[],_,_,_,h,_,_,_,_,_,_,_,_,_,_=>by cases h
  |some _::_,[],_,_,_,h,_,_,_,_,_,_,_,_,_,_=>by cases h
  |none::_,.arr::_,_,_,_,h,_,_,_,_,_,_,_,_,_,_=>by cases h
  |none::_,.box _::_,_,_,_,h,_,_,_,_,_,_,_,_,_,_=>by cases h
theorem JZ:∀{gh:List (Option Nat)} {ks:List KD} {k0:Nat} {kept:List (Option Blk)} {j i:Nat},H4 H LL G gh ks k0=some kept→(Mh gh ks)[j]? =some (some i)→∃B,kept[j]? =some (some B)∧gh[j]? =some (some i)
  |[],_,_,_,j,i,_,h=>by simp[Mh]at h
  | og :: g, .gone :: ks, k0, kept, j, i, h, hj => by
    simp only[H4,Option.bind_eq_some_iff,Option.some.injEq]at h
    obtain⟨q,h1,rfl⟩:=h
    cases j with
    |zero=>simp[Mh]at hj
    |succ j=>simpa using JZ h1 (by simpa[Mh]using hj)
  | some i0 :: g, .arr :: ks, k0, kept, j, i, h, hj => by
    simp only[H4,Option.bind_eq_some_iff,Option.some.injEq]at h
    obtain⟨b,h0,q,h1,rfl⟩:=h
    cases j with
    |zero=>simp[Mh]at hj;subst hj;exact⟨b,rfl,rfl⟩
    |succ j=>simpa using JZ h1 (by simpa[Mh]using hj)
  | some i0 :: g, .box l :: ks, k0, kept, j, i, h, hj => by
    simp only[H4]at h
    split at h
    · simp only[Option.bind_eq_some_iff,Option.some.injEq]at h
      obtain⟨b,h0,q,h1,rfl⟩:=h
      cases j with
      |zero=>simp[Mh]at hj;subst hj;exact⟨_,rfl,rfl⟩
      |succ j=>simpa using JZ h1 (by simpa[Mh]using hj)
    · exact nomatch h
  |none::_,[],_,_,_,_,h,_=>by cases h
  |some _::_,[],_,_,_,_,h,_=>by cases h
  |none::_,.arr::_,_,_,_,_,h,_=>by cases h
  |none::_,.box _::_,_,_,_,_,h,_=>by cases h
theorem Nm {i:Nat}:∀{l:List (Option Nat)} {n k:Nat},posOf i l n=some k→n≤k∧l[k-n]? =some (some i)
  | none :: l, n, k, h => by
    obtain⟨h1,h2⟩:=Nm (l:=l) (n:=n+1) h
    exact⟨by omega,by rw[show k-n=(k-(n+1))+1 from by omega];exact h2⟩
  | some j :: l, n, k, h => by
    simp only[posOf]at h
    cases hj:Nat.beq j i<;>simp only[hj,cond_true,cond_false,Option.some.injEq]at h
    · obtain⟨h1,h2⟩:=Nm h
      exact⟨by omega,by rw[show k-n=(k-(n+1))+1 from by omega];exact h2⟩
    · subst h;exact⟨Nat.le_refl _,by simp[Nat.eq_of_beq_eq_true hj]⟩
theorem RL {st:St} {rt:RT} {o:Mk} {u:Value} (hr:Hq st.heap pl w) (h:Wt rt ks st v=some o) (hv:GG w st.heap pl v u):
    ∃plM:Pl,Hq o.heap plM w∧GG w o.heap plM o.v u∧plM.base=pl.base∧o.kept.length=st.gh.length∧
      (∀(k:Nat) (B:Blk),o.kept[k]? =some (some B)→∃i B0,st.gh[k]? =some (some i)∧look st.heap i=some B0∧plM.hdr k=pl.hdr i∧B0.JP B)∧
      (∀k B p,look o.heap k=some B→plM.fp k p→∃i B0,look st.heap i=some B0∧pl.fp i p):=by
  simp only[Wt,Option.bind_eq_some_iff]at h
  obtain⟨s0,hs0,s1,hs1,h⟩:=h
  generalize hS:s0++s1=S at h
  generalize hLL:HU st.gh ks++Jb S=LL at h
  cases hnd:nodup LL<;>simp only[hnd,cond_true,cond_false,Option.bind_eq_some_iff,Option.some.injEq]at h
  · exact nomatch h
  obtain⟨news,hnews,p,hp,q,hq,rfl⟩:=h
  have hnd':=Ia hnd
  rw[←hLL,List.nodup_append]at hnd'
  obtain⟨hk1,hk2⟩:=IB hq
  obtain⟨hb1,hb2⟩:=Jn hnews
  let o:Mk:=⟨p.1,q,news⟩
  let plM:=pl.TR st.gh S
  have hm:o.kept.length=st.gh.length:=hk1
  have origin:∀k B,look o.heap k=some B→(k<st.gh.length∧q[k]? =some (some B)∧∃i,st.gh[k]? =some (some i)∧mem i (HU st.gh ks)=true∧plM.hdr k=pl.hdr i∧plM.fp k=pl.fp i)∨
      (st.gh.length≤k∧∃b t oi,S[k-st.gh.length]? =some (b,t,oi)∧MC st.heap LL (b,t,oi)=some B∧plM.hdr k=(pl.res S).hdr (k-st.gh.length)∧plM.fp k=(pl.res S).fp (k-st.gh.length)):=fun k B hB=>by
    by_cases c:k<st.gh.length
    · rw[o.NQ (by omega)]at hB
      obtain⟨ob,e1,e2⟩:=Option.bind_eq_some_iff.1 hB
      have e2:ob=some B:=e2
      subst e2
      obtain⟨i,a1,a2,_⟩:=hk2 k B e1
      exact .inl ⟨c,e1,i,a1,a2,by simp only[plM,Pl.TR,if_pos c,a1],by simp only[plM,Pl.TR,if_pos c,a1]⟩
    · rw[o.MF (by omega),hm]at hB
      obtain⟨⟨b,t,oi⟩,e1,e2⟩:=hb2 _ _ hB
      exact .inr ⟨by omega,b,t,oi,e1,e2,by simp only[plM,Pl.TR,if_neg c],by simp only[plM,Pl.TR,if_neg c]⟩
  have srcIn:∀{k b t i},S[k]? =some (b,t,some i)→mem i LL=true:=fun{k b t i} h=>by
    rw[←hLL,mem_append,(mem_iff i _).2 (Kp h),Bool.or_true]
  have hro:∀d p,hit LL d=false→okd st.heap pl d p→okd o.heap plM [] p:=fun d p hd hok=>by
    refine⟨hok.1,fun k B hB _ hf=>?_⟩
    have no:∀{i B0},look st.heap i=some B0→mem i LL=true→pl.fp i p→False:=fun{i B0} hl hi hf=>hok.2 i B0 hl (fun hm=>by
      have:=H9 LL d hd i hm;rw[hi]at this;exact nomatch this) hf
    rcases origin k B hB with⟨c,e1,i,a1,a2,_,a4⟩|⟨c,b,t,oi,e1,e2,_,a4⟩
    · rw[a4]at hf
      have hi:mem i LL=true:=by rw[←hLL,mem_append,a2];rfl
      obtain⟨i',a1',_,hor⟩:=hk2 k B e1
      rw[a1]at a1';cases a1'
      rcases hor with⟨l,cs,cs',k1,k2,_,hl,_⟩|⟨_,ho⟩
      · exact no hl hi hf
      · unfold Lo at ho
        cases hl:look st.heap i with
        |none=>rw[hl]at ho;exact nomatch ho
        |some B0=>exact no hl hi hf
    · rw[a4]at hf
      cases oi with
      |none=>simp[Pl.res,e1]at hf
      | some i =>
        simp only[Pl.res,e1]at hf
        obtain⟨sh,xs,hl,_⟩:=Hl e2
        exact no hl (srcIn e1) hf
  have hown:∀(k:Nat) (b:Bool) (t:Ty) (v:SV) (u:Value),GG w st.heap pl v u→((∃i,v=.own i∧S[k]? =some (b,t,some i))∨(v=.H5∧S[k]? =some (b,t,none)))→GG w o.heap plM (.own (st.gh.length+k)) u:=fun k b t v u hv hc=>by
    have hget:∀{s},S[k]? =some s→∃B,look o.heap (st.gh.length+k)=some B∧MC st.heap LL s=some B:=fun{s} h=>by
      have hlt:k<news.length:=by rw[hb1];exact(List.getElem?_eq_some_iff.1 h).1
      obtain⟨s',h1,h2⟩:=hb2 k _ (List.getElem?_eq_getElem hlt)
      rw[h]at h1;cases h1
      exact⟨_,by rw[o.MF (by omega),hm,Nat.add_sub_cancel_left];exact List.getElem?_eq_getElem hlt,h2⟩
    have eh:plM.hdr (st.gh.length+k)=(pl.res S).hdr k:=by simp only[plM,Pl.TR,if_neg (show¬st.gh.length+k<st.gh.length by omega),Nat.add_sub_cancel_left]
    rcases hc with⟨i,rfl,h⟩|⟨rfl,h⟩
    · obtain⟨B,h1,h2⟩:=hget h
      obtain⟨sh,xs,hl,h3⟩:=Hl h2
      have e:plM.hdr (st.gh.length+k)=pl.hdr i:=by rw[eh];simp only[Pl.res,h]
      cases hv with
      | own _ sh' t' ys hl' =>
        rw[←e]
        rcases h3 with⟨_,rfl⟩|⟨d,_,_,rfl⟩
        · exact .own _ none t xs h1
        · exact .own _ (some []) t xs h1
    · obtain⟨B,h1,h2⟩:=hget h
      have e:plM.hdr (st.gh.length+k)=.slice none 0 0:=by rw[eh];simp only[Pl.res,h]
      cases hv with
      | H5 =>
        rw[←e]
        cases b with
        |false=>cases h2;exact .own _ none t [] h1
        |true=>cases h2;exact .own _ (some []) t [] h1
  have hptr:∀i j o' u,posOf i (Mh st.gh ks) 0=some j→GG w st.heap pl (.ptr i 0 o') u→GG w o.heap plM (.ptr j 0 o') u:=fun i j o' u hj hv=>by
    obtain⟨_,g1⟩:=Nm hj
    rw[Nat.sub_zero]at g1
    obtain⟨B,g2,g3⟩:=JZ hq g1
    have hlt:j<st.gh.length:=(List.getElem?_eq_some_iff.1 g3).1
    have eh:plM.hdr j=pl.hdr i:=by simp only[plM,Pl.TR,if_pos hlt,g3]
    have hl:look o.heap j=some B:=by rw[o.NQ (by omega)];show(q[j]?).bind id=some B;rw[g2];rfl
    obtain⟨i',a1',_,hor⟩:=hk2 j B g2
    rw[g3]at a1';cases a1'
    cases hv with
    | MZ _ _ cs b m0 hlb hh =>
      rcases hor with⟨l,cs1,cs',k1,k2,_,hl1,_,rfl⟩|⟨_,ho⟩
      · exact .MZ j o' cs' b m0 hl (eh.trans hh)
      · unfold Lo at ho;rw[hlb]at ho;exact nomatch ho
    | Mj _ _ _ sh t xs b m0 n cap hlb hx hh =>
      rcases hor with⟨l,cs1,cs',k1,k2,_,hl1,_,rfl⟩|⟨_,ho⟩
      · rw[hlb]at hl1;exact nomatch hl1
      · unfold Lo at ho
        rw[hlb]at ho
        cases sh with
        |none=>cases ho;exact .Mj j 0 o' none t xs b m0 n cap hl hx (eh.trans hh)
        | some d =>
          simp only at ho
          cases hd:hit LL d<;>simp only[hd,cond_true,cond_false]at ho
          · cases ho;exact .Mj j 0 o' _ t xs b m0 n cap hl hx (eh.trans hh)
          · exact nomatch ho
  have hS0:∀(j:Nat) (x:Bool× Ty× Option Nat),s0[j]? =some x→S[0+j]? =some x:=fun j x hx=>by
    rw[←hS,Nat.zero_add,List.getElem?_append_left (List.getElem?_eq_some_iff.1 hx).1];exact hx
  obtain⟨r1,r2⟩:=Qw (m:=st.gh.length) hr hown hro hptr rt hs0 hS0 (k:=0) (by rw[Nat.add_zero];exact hp) hv
  rw[r2,Nat.zero_add]at hq
  have hS1:∀(j:Nat) (x:Bool× Ty× Option Nat),s1[j]? =some x→S[s0.length+j]? =some x:=fun j x hx=>by
    rw[←hS,List.getElem?_append_right (by omega),Nat.add_sub_cancel_left];exact hx
  have hbx:=MI hr hown hro hptr hs1 hS1 hq
  refine⟨plM,⟨fun k B hB=>?_,fun k k' B B' p h1 h2 f1 f2=>?_,fun k B p hB hf=>?_,hr.nb⟩,r1,rfl,hk1,fun k B hB=>?_,fun k B p hB hf=>?_⟩
  · rcases origin k B hB with⟨c,e1,i,a1,a2,ah,af⟩|⟨c,b,t,oi,e1,e2,ah,af⟩
    · obtain ⟨i', a1', _, hor⟩ := hk2 k B e1
      rw[a1]at a1';cases a1'
      rcases hor with⟨l,cs,cs',k1,k2,_,hl,hol,rfl⟩|⟨_,ho⟩
      · obtain⟨b,off,q1,q2,q3⟩:=hr.blk i _ hl
        have hus:∃us:List Value,cs.length=us.length∧(∀(j:Nat) (u:Value),us[j]? =some u→w.at? (b,off+j)=some u∧calm (w.HW (b,off+j))=true∧one u=true)∧∀(j:Nat) (x:SV) (u:Value),cs[j]? =some x→us[j]? =some u→GG w st.heap pl x u:=by
          refine⟨(List.range cs.length).map fun j=>(w.at? (b,off+j)).getD undef,by simp,fun j u hu=>?_,fun j x u hx hu=>?_⟩
          · have hj:j<cs.length:=by have:=(List.getElem?_eq_some_iff.1 hu).1;simpa using this
            obtain⟨u',g1,g2,g3,g4⟩:=q3 j _ (List.getElem?_eq_getElem hj)
            have:u=u':=by
              rw[List.getElem?_map,List.getElem?_eq_getElem (by simpa using hj)]at hu
              simp[g1]at hu;exact hu.symm
            subst this;exact⟨g1,g2,g3⟩
          · obtain⟨u',g1,g2,g3,g4⟩:=q3 j x hx
            have hj:j<cs.length:=(List.getElem?_eq_some_iff.1 hx).1
            have:u=u':=by
              rw[List.getElem?_map,List.getElem?_eq_getElem (by simpa using hj)]at hu
              simp[g1]at hu;exact hu.symm
            subst this;exact g4
        obtain⟨us,u1,u2,u3⟩:=hus
        obtain⟨g1,g2⟩:=hbx k i cs cs' a1 hl e1 us u1 u3
        refine⟨b,off,ah.trans q1,fun p=>by rw[af,q2,g1,u1],fun j y hy=>?_⟩
        have hj:j<us.length:=by rw[←g1];exact(List.getElem?_eq_some_iff.1 hy).1
        obtain⟨z1,z2,z3⟩:=u2 j us[j] (List.getElem?_eq_getElem hj)
        exact⟨us[j],z1,z2,z3,g2 j y _ hy (List.getElem?_eq_getElem hj)⟩
      · unfold Lo at ho
        split at ho
        · rename_i t xs hl
          cases ho
          show Nonempty (Row w (Ie w) t xs (plM.hdr k) (plM.fp k))
          rw[ah,af];exact hr.blk i _ hl
        · rename_i d t xs hl
          cases hd:hit LL d<;>simp only[hd,cond_true,cond_false]at ho
          · cases ho
            obtain⟨⟨a,cap,b,q0,vs,fs,q1,q2,q3,q4,q5,q6,q7,q8,q9⟩⟩:=hr.blk i _ hl
            exact⟨⟨a,cap,b,q0,vs,fs,ah.trans q1,q2,q3,q4,q5,fun i j r hc=>⟨(q6 i j r hc).1.frame fun p u hp hu=>⟨hro d p hd hp,hu⟩,(q6 i j r hc).2⟩,q7,q8,fun p=>by rw[af];exact q9 p⟩⟩
          · exact nomatch ho
        · exact nomatch ho
    · cases oi with
      | none =>
        have e:plM.hdr k=.slice none 0 0:=by rw[ah];simp only[Pl.res,e1]
        have ef:plM.fp k=fun _=>False:=by rw[af];simp only[Pl.res,e1]
        have:=Row.nil (w:=w) (t:=t) (Oe w o.heap plM (cond b (some []) none))
        rw[←e,←ef]at this
        cases b with
        |false=>cases e2;exact HV.J7 this
        |true=>cases e2;exact HV.J7 this
      | some i =>
        have e:plM.hdr k=pl.hdr i:=by rw[ah];simp only[Pl.res,e1]
        have ef:plM.fp k=pl.fp i:=by rw[af];simp only[Pl.res,e1]
        obtain⟨sh,xs,hl,h3⟩:=Hl e2
        have hb:=hr.blk i _ hl
        rcases h3 with⟨rfl,rfl⟩|⟨d,rfl,hd,rfl⟩
        · show Nonempty (Row w (Ie w) t xs (plM.hdr k) (plM.fp k))
          rw[e,ef];exact hb
        · obtain⟨⟨a,cap,b',q0,vs,fs,q1,q2,q3,q4,q5,q6,q7,q8,q9⟩⟩:=hb
          exact⟨⟨a,cap,b',q0,vs,fs,e.trans q1,q2,q3,q4,q5,fun i j r hc=>⟨(q6 i j r hc).1.frame fun p u hp hu=>⟨hro d p hd hp,hu⟩,(q6 i j r hc).2⟩,q7,q8,fun p=>by rw[ef];exact q9 p⟩⟩
  · have there:∀{i k B},q[k]? =some (some B)→st.gh[k]? =some (some i)→∃B0,look st.heap i=some B0:=fun{i k B} e1 a1=>by
      obtain⟨i',a1',_,hor⟩:=hk2 k B e1
      rw[a1]at a1';cases a1'
      rcases hor with⟨l,cs,cs',k1,k2,_,hl,_⟩|⟨_,ho⟩
      · exact⟨_,hl⟩
      · unfold Lo at ho
        cases hl:look st.heap i with
        |none=>rw[hl]at ho;exact nomatch ho
        |some B0=>exact⟨_,rfl⟩
    rcases origin k B h1 with⟨c,e1,i,a1,a2,_,a4⟩|⟨c,b,t,oi,e1,e2,_,a4⟩<;>rcases origin k' B' h2 with⟨c',e1',i',a1',a2',_,a4'⟩|⟨c',b',t',oi',e1',e2',_,a4'⟩
    · rw[a4]at f1
      rw[a4']at f2
      obtain⟨B0,hl⟩:=there e1 a1
      obtain⟨B0',hl'⟩:=there e1' a1'
      have:=hr.dis i i' _ _ p hl hl' f1 f2
      subst this
      exact NS (k0':=0) hq hnd'.1 k k' B B' i e1 e1' a1 a1'
    · rw[a4]at f1
      rw[a4']at f2
      cases oi' with
      |none=>simp[Pl.res,e1']at f2
      | some i' =>
        simp only[Pl.res,e1']at f2
        obtain⟨B0,hl⟩:=there e1 a1
        obtain⟨sh,xs,hl',_⟩:=Hl e2'
        have:=hr.dis i i' _ _ p hl hl' f1 f2
        subst this
        exact(hnd'.2.2 i ((mem_iff _ _).1 a2) i (Kp e1') rfl).elim
    · rw[a4]at f1
      rw[a4']at f2
      cases oi with
      |none=>simp[Pl.res,e1]at f1
      | some i =>
        simp only[Pl.res,e1]at f1
        obtain⟨B0,hl⟩:=there e1' a1'
        obtain⟨sh,xs,hl',_⟩:=Hl e2
        have:=hr.dis i' i _ _ p hl hl' f2 f1
        subst this
        exact(hnd'.2.2 i' ((mem_iff _ _).1 a2') i' (Kp e1) rfl).elim
    · rw [a4] at f1
      rw[a4']at f2
      cases oi with
      |none=>simp[Pl.res,e1]at f1
      | some i =>
        cases oi' with
        |none=>simp[Pl.res,e1']at f2
        | some i' =>
          simp only[Pl.res,e1]at f1
          simp only[Pl.res,e1']at f2
          obtain⟨_,_,hl,_⟩:=Hl e2
          obtain⟨_,_,hl',_⟩:=Hl e2'
          have:=hr.dis i i' _ _ p hl hl' f1 f2
          subst this
          have:=Rx hnd'.2.1 e1 e1'
          omega
  · rcases origin k B hB with⟨c,e1,i,a1,a2,_,a4⟩|⟨c,b,t,oi,e1,e2,_,a4⟩
    · rw[a4]at hf
      obtain⟨i',a1',_,hor⟩:=hk2 k B e1
      rw[a1]at a1';cases a1'
      rcases hor with⟨l,cs,cs',k1,k2,_,hl,_⟩|⟨_,ho⟩
      · exact hr.ob i _ p hl hf
      · unfold Lo at ho
        cases hl:look st.heap i with
        |none=>rw[hl]at ho;exact nomatch ho
        |some B0=>exact hr.ob i _ p hl hf
    · rw[a4]at hf
      cases oi with
      |none=>simp[Pl.res,e1]at hf
      | some i =>
        simp only[Pl.res,e1]at hf
        obtain⟨_,_,hl,_⟩:=Hl e2
        exact hr.ob i _ p hl hf
  · have hB:q[k]? =some (some B):=hB
    obtain⟨i,a1,a2,hor⟩:=hk2 k B hB
    have hlt:k<st.gh.length:=(List.getElem?_eq_some_iff.1 a1).1
    have ah:plM.hdr k=pl.hdr i:=by simp only[plM,Pl.TR,if_pos hlt,a1]
    rcases hor with⟨l,cs,cs',k1,k2,_,hl,hol,rfl⟩|⟨_,ho⟩
    · obtain⟨b,off,q1,q2,q3⟩:=hr.blk i _ hl
      refine⟨i,_,a1,hl,ah,?_⟩
      obtain⟨g1,_⟩:=hbx k i cs cs' a1 hl hB ((List.range cs.length).map fun j=>(w.at? (b,off+j)).getD undef) (by simp) fun j x u hx hu=>by
        obtain⟨u',g1,g2,g3,g4⟩:=q3 j x hx
        have hj:j<cs.length:=(List.getElem?_eq_some_iff.1 hx).1
        have:u=u':=by
          rw[List.getElem?_map,List.getElem?_eq_getElem (by simpa using hj)]at hu
          simp[g1]at hu;exact hu.symm
        subst this;exact g4
      show cs.length=cs'.length
      rw[g1];simp
    · unfold Lo at ho
      split at ho
      · rename_i t xs hl;cases ho;exact⟨i,_,a1,hl,ah,⟨rfl,rfl⟩⟩
      · rename_i d t xs hl
        cases hd:hit LL d<;>simp only[hd,cond_true,cond_false]at ho
        · cases ho;exact⟨i,_,a1,hl,ah,⟨rfl,rfl⟩⟩
        · exact nomatch ho
      · exact nomatch ho
  · rcases origin k B hB with⟨c,e1,i,a1,a2,_,a4⟩|⟨c,b,t,oi,e1,e2,_,a4⟩
    · rw[a4]at hf
      obtain⟨i',a1',_,hor⟩:=hk2 k B e1
      rw[a1]at a1';cases a1'
      rcases hor with⟨l,cs,cs',k1,k2,_,hl,_⟩|⟨_,ho⟩
      · exact⟨i,_,hl,hf⟩
      · unfold Lo at ho
        cases hl:look st.heap i with
        |none=>rw[hl]at ho;exact nomatch ho
        |some B0=>exact⟨i,_,hl,hf⟩
    · rw[a4]at hf
      cases oi with
      |none=>simp[Pl.res,e1]at hf
      | some i =>
        simp only[Pl.res,e1]at hf
        obtain⟨_,_,hl,_⟩:=Hl e2
        exact⟨i,_,hl,hf⟩
end
theorem Act.XH (a:Act) (t:Nat):a.put (some t) (a.tmps.getD t undef)=a:=by
  unfold Act.put
  have:a.tmps.setIfInBounds t (a.tmps.getD t undef)=a.tmps:=by
    apply Array.ext_getElem?
    intro i
    rw[Array.getElem?_setIfInBounds]
    by_cases e:t=i
    · subst e
      rw[if_pos rfl]
      by_cases h:t<a.tmps.size
      · rw[if_pos h,Array.getD_eq_getD_getElem?,Array.getElem?_eq_getElem h];rfl
      · rw[if_neg h,Array.getElem?_eq_none (by omega)]
    · rw[if_neg e]
  show({a with tmps:=a.tmps.setIfInBounds t (a.tmps.getD t undef)}:Act)=a
  rw[this]
theorem PM {w0:World} {fp0:G0} {bs:Cell→Prop} {m:Nat} {st st':St} {a:Act} {w:World} {t:Nat} (h:Rl w0 fp0 bs m st a w) (ht:QG t st=some st'):Rl w0 fp0 bs m st' a w:=by
  unfold QG at ht
  split at ht
  · rename_i i n hslot
    split at ht
    · rename_i sh ty xs hl
      cases hmi:mem i (sh.getD [])<;>rw[hmi]at ht
      rotate_left
      · exact nomatch ht
      rw[cond_false]at ht
      obtain⟨pl,hR,hb,hn⟩:=h
      have hv:=hR.sl t _ hslot
      obtain⟨⟨a0,cap,b,o,vs,fs,q1,q2,q3,q4,q5,q6,q7,q8,q9⟩⟩:=(hR.hr.blk i _ hl).Yp
      have hu:∃a',a.tmps.getD t undef=.slice a' n cap∧(cap=0∨a'=some ⟨b,o,none⟩)∧n≤xs.length:=by
        generalize a.tmps.getD t undef=u at hv
        cases hv with
        | sub _ _ _ sh2 t2 xs2 a1 a2 cap1 cap2 hl2 hh hn1 hc hc' ha =>
          rw[hl]at hl2;cases hl2
          rw[q1]at hh;cases hh
          have hcc:cap2=cap:=by omega
          subst hcc
          refine⟨a2,rfl,?_,by omega⟩
          rcases ha with h|h
          · exact .inl h
          · rcases q3 with h'|h'
            · exact .inl h'
            · exact .inr (by rw[h,h'];simp[Addr.add])
      obtain⟨a',hu,ha',hnx⟩:=hu
      have htake:=ht
      simp only[St.take,Option.bind_eq_some_iff,Option.some.injEq]at htake
      obtain⟨h1,e1,s,h2,rfl⟩:=htake
      have hfresh:look st.heap st.nid=none:=hR.fresh st.nid (Nat.le_refl _)
      have hlen:(xs.take n).length=n:=by rw[List.length_take];omega
      have hT:Kl st.heap (h1++GY st.nid [.arr sh ty (xs.take n)]) ([i],[i]) st.nid (.arr sh ty (xs.take n)):=
        Ph (T:=([i],[i])) (fun k hk=>hk) e1 hfresh (I6 (T:=([i],[i])) (fun k hk=>hk) e1)
      have hmm:mem i [i]=true:=by simp[mem]
      have hin:∀{i' j r},GM ty (xs.take n) i' j r→GM ty xs i' j r:=fun{i' j r} hx=>by
        obtain⟨x,hx1,hx2⟩:=hx
        have hlt:=(List.getElem?_eq_some_iff.1 hx1).1
        rw[hlen]at hlt
        exact⟨x,by rw[List.getElem?_take,if_pos hlt]at hx1;exact hx1,hx2⟩
      have hst:=Jh (hdr:=a.tmps.getD t undef) (fp:=fun p=>reg b o (cap*ty.sz) p∨∃i' j r,GM ty (xs.take n) i' j r∧fs i' j p) (HG.refl w) hR.hr hT (fun k hk=>hk) (fun k hk=>.inl hk) (.inl hfresh) (fun p u hp _=>⟨hp,rfl⟩)
        (fun p hp=>hR.hr.nb p hp) (fun p hp=>.inr ⟨i,_,hmm,hl,(q9 p).2 (hp.elim .inl fun⟨i',j,r,hx,hf⟩=>.inr ⟨i',j,r,hin hx,hf⟩)⟩) (fun hk=>HV.J7 ⟨a',cap,b,o,vs,fs,by simp[Pl.set,hu,hlen],by rw[hlen];omega,ha',q4,fun i' j r hx=>q5 i' j r (hin hx),fun i' j r hx=>by
          have hI:=q6 i' j r (hin hx)
          cases sh with
          |none=>exact hI
          | some d =>
            refine⟨hI.1.frame fun p u hp hu=>hk.k2 d p u (fun x hx=>?_) hp hu,hI.2⟩
            have hmi:mem i d=false:=hmi
            show mem x [i]=false
            simp only[mem]
            cases hb:Nat.beq i x
            · rfl
            · have:=Nat.eq_of_beq_eq_true hb
              subst this
              rw[hmi]at hx;exact(nomatch hx),fun i' j r p hx hf=>q7 i' j r p (hin hx) hf,fun i' j r i2 j2 r2 p hx hx' hf hf'=>q8 _ _ _ _ _ _ p (hin hx) (hin hx') hf hf',fun p=>by simp[Pl.set]⟩)
      have hres:=Rel.take hR ht (fun k B hB=>by simp[look]at hB) hst (u:=a.tmps.getD t undef) (by
        have:=GG.own (w:=w) (H:=h1++GY st.nid [.arr sh ty (xs.take n)]) (pl:=pl.set st.nid (a.tmps.getD t undef) fun p=>reg b o (cap*ty.sz) p∨∃i' j r,GM ty (xs.take n) i' j r∧fs i' j p) st.nid sh ty (xs.take n) hT.Zn
        simpa[Pl.set]using this)
      rw[Act.XH]at hres
      exact⟨_,hres,hb,hn⟩
    · cases ht;exact h
  · cases ht;exact h
theorem RM {w0:World} {fp0:G0} {bs:Cell→Prop} {m:Nat} {fn:Func} {rt:RT} {st st':St} {a:Act} {w:World} (h:Rl w0 fp0 bs m st a w) (ht:T5 fn rt st=some st'):Rl w0 fp0 bs m st' a w:=by
  unfold T5 at ht
  split at ht
  · exact PM h ht
  · exact PM h ht
  · cases ht;exact h
theorem RN (ks:List KD) (v:SV) (gh:List (Option Nat)) (k:Nat) (h:k<gh.length):(QF ks v gh)[k]? =gh[k]? :=by
  unfold QF
  cases Nat.beq ks.length (gh.length+1)
  · rfl
  · simp only[cond_true]
    split
    · rw[List.getElem?_append_left h]
    · rw[List.getElem?_append_left h]
    · rfl
theorem Wu (ks:List KD) (v:SV) (gh:List (Option Nat)):gh.length≤(QF ks v gh).length:=by
  unfold QF
  cases Nat.beq ks.length (gh.length+1)
  · exact Nat.le_refl _
  · simp only[cond_true]
    split
    · simp
    · simp
    · exact Nat.le_refl _
theorem Lp:∀(a b:List (Option Blk)) (n:Nat),KM n (a++b)=KM n a++KM (n+a.length) b
  |[],b,n=>rfl
  | none :: a, b, n => by
    rw[List.cons_append,KM,KM,Lp a b (n+1),List.length_cons]
    congr 2;omega
  | some x :: a, b, n => by
    rw[List.cons_append,KM,KM,Lp a b (n+1),List.length_cons,List.cons_append]
    congr 3;omega
theorem RO {w:World} {pl:Pl} {ks:List KD} {v:SV} {st:St} {rt:RT} {o:Mk} {u:Value} (hr:Hq st.heap pl w) (h:RJ rt ks st v=some o) (hv:GG w st.heap pl v u):
    ∃plM:Pl,Hq o.heap plM w∧GG w o.heap plM o.v u∧plM.base=pl.base∧o.kept.length=st.gh.length∧
      (∀(k:Nat) (B:Blk),o.kept[k]? =some (some B)→∃i B0,st.gh[k]? =some (some i)∧look st.heap i=some B0∧plM.hdr k=pl.hdr i∧B0.JP B)∧
      (∀k B p,look o.heap k=some B→plM.fp k p→∃i B0,look st.heap i=some B0∧pl.fp i p):=by
  simp only[RJ,Option.bind_eq_some_iff]at h
  obtain⟨o1,h1,h2⟩:=h
  obtain⟨plM,m1,m2,m3,m4,m5,m6⟩:=RL (st:={st with gh:=QF ks v st.gh}) hr h1 hv
  have hal:=Wu ks v st.gh
  have m4:o1.kept.length=(QF ks v st.gh).length:=m4
  unfold T4 at h2
  split at h2
  · rename_i hd
    have h2:=Option.some.inj h2
    subst h2
    have hl:o1.kept.length≤st.gh.length:=by
      have:=congrArg List.length hd
      simp at this;omega
    exact⟨plM,m1,m2,m3,by omega,fun k B hB=>by
      obtain⟨i,B0,a1,a2⟩:=m5 k B hB
      have hk:k<o1.kept.length:=(List.getElem?_eq_some_iff.1 hB).1
      have a1:(QF ks v st.gh)[k]? =some (some i):=a1
      rw[RN ks v st.gh k (by omega)]at a1
      exact⟨i,B0,a1,a2⟩,m6⟩
  · rename_i b hd
    have h2:=Option.some.inj h2
    subst h2
    have hlen:o1.kept.length=st.gh.length+1:=by
      have:=congrArg List.length hd
      simp at this;omega
    have hk:o1.kept=o1.kept.take st.gh.length++[some b]:=by
      rw[←hd,List.take_append_drop]
    have htl:(o1.kept.take st.gh.length).length=st.gh.length:=by simp;omega
    have hheap:(Mk.heap ⟨o1.v,o1.kept.take st.gh.length,b::o1.news⟩)=o1.heap:=by
      unfold Mk.heap
      show KM 0 (o1.kept.take st.gh.length)++GY (o1.kept.take st.gh.length).length (b::o1.news)=KM 0 o1.kept++GY o1.kept.length o1.news
      have e:KM 0 o1.kept=KM 0 (o1.kept.take st.gh.length)++KM (0+(o1.kept.take st.gh.length).length) [some b]:=by
        rw[←Lp,←hk]
      rw[e,htl,hlen,List.append_assoc,Nat.zero_add]
      rfl
    refine⟨plM,by rw[hheap];exact m1,by rw[hheap];exact m2,m3,htl,fun k B hB=>?_,fun k B p hB hf=>?_⟩
    · have hB:(o1.kept.take st.gh.length)[k]? =some (some B):=hB
      have hkl:k<st.gh.length:=by have:=(List.getElem?_eq_some_iff.1 hB).1;omega
      rw[List.getElem?_take,if_pos hkl]at hB
      obtain⟨i,B0,a1,a2⟩:=m5 k B hB
      have a1:(QF ks v st.gh)[k]? =some (some i):=a1
      rw[RN ks v st.gh k hkl]at a1
      exact⟨i,B0,a1,a2⟩
    · rw[hheap]at hB
      exact m6 k B p hB hf
  · exact nomatch h2
theorem Wv {ρ:Type} {E:Env} (hE:I8 E) {LP:Nat→Ev ρ→Ev ρ} {g:FuncId} {fn:Func} {c:Code} {args:List SV} {bs:List Blk} {r:ρ} {dec:Mk→Option ρ} {enc:ρ→Mk} (hd:∀o r,dec o=some r→o=enc r)
    (hlen:(enc r).kept.length=bs.length) (hf:E.P.funcs[g]? =some fn) (hc:fn.body=some c)
    (hnm:(fn.name== "runtime.NumGoroutine")=false) (hn:Nat.ble args.length fn.ntmps=true) (hLP:Js E LP 0 c) {rt:RT} {ks:List KD} (h:ev E LP 0 c (YI fn args bs) (Y1 E.P fn rt ks dec)=some r):TY E.P g args bs (enc r):=by
  generalize ho:enc r=out at hlen
  refine⟨Rj hf (by rw[hc];rfl) hnm,hlen,fun w us pl hrel0 hl hargs=>?_⟩
  have hn:=Nat.le_of_ble_eq_true hn
  refine calls_of_wp hf hc ?_
  let g0:G0:=⟨fun p=>∃k B,look (GY 0 bs) k=some B∧pl.fp k p,pl.hdr,fun k=>bs.getD k (.box [])⟩
  have Zo:Rl w g0 pl.base fn.ntmps (YI fn args bs) {tmps:=us++Array.replicate (fn.ntmps-us.size) undef,defers:=[]} w:=by
    refine⟨pl,⟨hrel0,fun t v hv=>?_,by simp[YI];omega,rfl,fun i hi=>Ng (by show 0+bs.length≤i;have hi:bs.length≤i:=hi;omega),HG.refl w,fun p u hp hno=>⟨fun i B hB hf=>hno ⟨i,B,hB,hf⟩,hp,rfl⟩,fun k i hk=>?_⟩,rfl,rfl⟩
    · simp only[YI]at hv
      rw[S0,if_pos (Nat.zero_le _),Nat.sub_zero]at hv
      have ht:t<us.size:=by rw[←hl];exact(List.getElem?_eq_some_iff.1 hv).1
      have hg:(us++Array.replicate (fn.ntmps-us.size) undef).getD t undef=us[t]:=by
        rw[Array.getD_eq_getD_getElem?,Array.getElem?_append_left ht,Array.getElem?_eq_getElem ht];rfl
      rw[hg]
      exact hargs t v _ hv (Array.getElem?_eq_getElem ht)
    · obtain⟨rfl,h2⟩:=PL bs.length 0 k hk
      rw[Nat.zero_add]
      refine⟨h2,fun B hB=>⟨rfl,?_⟩⟩
      have hB:look (GY 0 bs) k=some B:=hB
      rw[Ha,if_pos (Nat.zero_le _),Nat.sub_zero]at hB
      show(bs.getD k (.box [])).JP B
      rw[List.getD_eq_getElem?_getD,hB];exact B.Hz
  refine Hk hE c 0 hLP w g0 pl.base fn.ntmps _ _ w _ r _ Zo h fun e st' a' w' hK hr''=>?_
  have key:∀st',Rl w g0 pl.base fn.ntmps st' a' w'→∀v,X3 E.P fn st'=some v→RJ rt ks st' v=some out→a'.defers=[]∧∃u,(results fn a'.tmps).run E.P w'=.ok u w'∧∃u' pl',Ending.returned u=.returned u'∧Hq out.heap pl' w'∧GG w' out.heap pl' out.v u'∧pl'.base=pl.base∧HG w w'∧
      (∀(k:Nat) (B:Blk),out.kept[k]? =some (some B)→pl'.hdr k=pl.hdr k∧∃B0,bs[k]? =some B0∧B0.JP B)∧
      (∀p u,w.at? p=some u→(∀k B,look (GY 0 bs) k=some B→¬pl.fp k p)→(∀k B,look out.heap k=some B→¬pl'.fp k p)∧w'.at? p=some u∧w'.HW p=w.HW p):=fun st' hr' v hv hcn=>by
    obtain⟨pl1,hr,hb,_⟩:=hr'
    obtain⟨u,hu,hvr⟩:=TU (P:=E.P) hr.hr hr.sl hv
    obtain⟨plM,m1,m2,m3,m4,m5,m6⟩:=RO hr.hr hcn hvr
    refine⟨hr.df,u,hu,u,plM,rfl,m1,m2,m3.trans hb,hr.gr,fun k B hB=>?_,fun p u hp hno=>?_⟩
    · obtain⟨i,B0,a1,a2,a3,a4⟩:=m5 k B hB
      obtain⟨_,t2⟩:=hr.gk k i a1
      obtain⟨t3,t4⟩:=t2 B0 a2
      have hk:k<bs.length:=by rw[←hlen];exact(List.getElem?_eq_some_iff.1 hB).1
      refine⟨a3.trans t3,bs[k],List.getElem?_eq_getElem hk,?_⟩
      have t4:(bs.getD k (.box [])).JP B0:=t4
      rw[List.getD_eq_getElem?_getD,List.getElem?_eq_getElem hk]at t4
      exact Blk.HZ t4 a4
    · obtain⟨f1,f2,f3⟩:=hr.fr p u hp fun⟨k,B,hB,hf⟩=>hno k B hB hf
      exact⟨fun k B hB hf=>by
        obtain⟨i,B0,q1,q2⟩:=m6 k B p hB hf
        exact f1 i B0 q1 q2,f2,f3⟩
  cases e with
  |exit j=>exact nomatch hK
  | normal =>
    simp only[Y1,Option.bind_eq_some_iff]at hK
    obtain⟨st2,hst2,v,hv,o,hcn,hdec⟩:=hK
    exact key st2 (RM hr'' hst2) v hv (hcn.trans (congrArg some ((hd o r hdec).trans ho)))
  | ret =>
    simp only[Y1,Option.bind_eq_some_iff]at hK
    obtain⟨st2,hst2,v,hv,o,hcn,hdec⟩:=hK
    exact key st2 (RM hr'' hst2) v hv (hcn.trans (congrArg some ((hd o r hdec).trans ho)))
end Go.Proofs.Ev
