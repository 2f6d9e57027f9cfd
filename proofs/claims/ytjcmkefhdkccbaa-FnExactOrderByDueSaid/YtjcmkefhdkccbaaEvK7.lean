/- The evaluator over the model's code, and that it is sound: part 7. -/
import Derived.Test.YtjcmkefhdkccbaaEvK6
import Derived.KernelRfl
import GoSem.ClaimChange
import Derived.Deep.Slices
import Derived.DataReads
import Derived.ProofKit
import Derived.WideKeyArgs
import Derived.IntWalk
set_option linter.unusedVariables false
set_option linter.unusedSimpArgs false
set_option linter.unusedVariables false
namespace Go.Proofs.Ev
variable [Tok]
set_option linter.unusedSectionVars false
def PN:SV→Bool
  |.r _ (.int _ _)=>true
  |.r _ (.bool _)=>true
  |.r _ (.str _)=>true
  |_=>false
def RP:List SV→Bool
  |[]=>true
  |v::l=>cond (PN v) (RP l) false
theorem PO:∀{l:List SV},RP l=true→∀v∈l,PN v=true
  |[],_,v,hv=>nomatch hv
  | x :: l, h, v, hv => by
    simp only[RP]at h
    cases hx:PN x<;>simp only[hx,cond_true,cond_false]at h
    · exact nomatch h
    · rcases List.mem_cons.1 hv with rfl|hv
      · exact hx
      · exact PO h v hv
theorem RQ {w w':World} {H H':GV} {pl pl':Pl} {v:SV} {u:Value} (h:PN v=true) (hv:GG w H pl v u):GG w' H' pl' v u:=by
  cases hv with
  | r d x _ hx => cases hx with
    |int=>exact .r _ _ _ (.int _ _)
    |bool=>exact .r _ _ _ (.bool _)
    |str=>exact .r _ _ _ (.str _)
    |tok=>first|exact .r _ _ _ (.tok _)|exact nomatch h
    |KT=>exact nomatch h
    |sl=>exact nomatch h
  |_=>exact nomatch h
def Ww (o:Orc):Orc:=fun ρ nid vs h K=>match vs with
  | .inn i x c :: rest => cond (RP rest) (match look h i with
    | some (.arr none t xs) => (xs[x]?).bind fun e => match (t.cells e)[c]? with
      | some (.sl t' ys) => o ρ nid (.own i :: rest) [(i, .arr none t' ys)] fun q =>
        cond (PN q.v&&(isNil q.news&&isNil q.gone)) (match q.upd with
          |[(_,.arr none t2 zs)]=>if he:t2=t' then(t.Is ((t.cells e).take c++[.sl t' (he▸zs)]++(t.cells e).drop (c+1))).bind fun y=>K {v:=q.v,upd:=[(i,.arr none t (xs.set x y))],JO:=[i]}else none
          |_=>none) none
      |_=>none
    |_=>none) none
  |_=>o ρ nid vs h K
section
variable {w w':World} {H H':GV} {pl:Pl}
theorem XI {i x c cap b o:Nat} {t t':Ty} {xs:List t.El} {e y:t.El} {ys zs:List t'.El} {vs:Nat→Nat→Value} {fs:Nat→Nat→Cell→Prop} {T2:Kil} {pl2 pl2':Pl}
    (hr:Hq H pl w) (hli:look H i=some (.arr none t xs)) (hx:xs[x]? =some e) (hc:(t.cells e)[c]? =some (.sl t' ys)) (hy:t.cells y=(t.cells e).take c++[.sl t' zs]++(t.cells e).drop (c+1))
    (hh:pl.hdr i=.slice (some ⟨b,o,none⟩) xs.length cap) (h2:xs.length≤cap) (h4:∀j,j<cap*t.sz→(∃v,w.at? (b,o+j)=some v)∧whole (w.HW (b,o+j)) o (cap*t.sz)=true)
    (h5:∀i j r,GM t xs i j r→w.at? (b,o+(i*t.sz+j))=some (vs i j)) (h6:∀i j r,GM t xs i j r→Ie w r (vs i j) (fs i j))
    (h7:∀i j r p,GM t xs i j r→fs i j p→¬reg b o (cap*t.sz) p) (h8:∀i j r i' j' r' p,GM t xs i j r→GM t xs i' j' r'→fs i j p→fs i' j' p→i=i'∧j=j')
    (h9:∀p,pl.fp i p↔reg b o (cap*t.sz) p∨∃i j r,GM t xs i j r∧fs i j p)
    (hb2:pl2.base=pl.base) (hf2:pl2.fp i=fs x c) (hd2:pl2.hdr i=vs x c) (hg2:mem i T2.1=false) (hst:Hp [(i,.arr none t' ys)] [(i,.arr none t' zs)] T2 pl2 pl2' w w')
    (ht:Kl H H' ([],[i]) i (.arr none t (xs.set x y))):∃pl',Hp H H' ([],[i]) pl pl' w w':=by
  have hxl:x<xs.length:=(List.getElem?_eq_some_iff.1 hx).1
  have hcl:c<t.sz:=by rw[←Ty.Hn t e];exact(List.getElem?_eq_some_iff.1 hc).1
  have hcell:GM t xs x c (.sl t' ys):=⟨e,hx,hc⟩
  have hl1:∀{t':Ty} {ys:List t'.El} {j B},look [(i,Blk.arr none t' ys)] j=some B→j=i∧B=.arr none t' ys:=fun{t' ys j B} h=>by
    rw[GK]at h
    by_cases e:i=j
    · rw[if_pos e]at h;cases h;exact⟨e.symm,rfl⟩
    · rw[if_neg e]at h;exact nomatch h
  have ND:∀p u,w.at? p=some u→¬fs x c p→¬pl2'.fp i p∧w'.at? p=some u∧w'.HW p=w.HW p:=fun p u hp hn=>by
    obtain⟨g1,g2⟩:=hst.fr p u hp fun j B hB hf=>by
      obtain⟨rfl,_⟩:=hl1 hB
      rw[hf2]at hf;exact hn hf
    exact⟨g1 i _ (by rw[GK,if_pos rfl]),g2⟩
  have hfsin:∀p,fs x c p→pl.fp i p:=fun p hp=>(h9 p).2 (.inr ⟨_,_,_,hcell,hp⟩)
  have hmem:∀j,mem j [i]=true→j=i:=fun j hj=>by
    simp only[mem]at hj
    cases hb:Nat.beq i j<;>simp only[hb,cond_true,cond_false]at hj
    · exact nomatch hj
    · exact(Nat.eq_of_beq_eq_true hb).symm
  have hmi:mem i [i]=true:=by simp[mem]
  have R3:∀p,pl2'.fp i p→∃u,w'.at? p=some u:=fun p hp=>hst.hr.IK i _ p (by rw[GK,if_pos rfl]) hp
  refine⟨_,Jh (hdr:=pl.hdr i) (fp:=fun p=>(pl.fp i p∧¬fs x c p)∨pl2'.fp i p) hst.gr hr ht (fun j hj=>nomatch hj) (fun j hj=>.inr (hmem j hj)) (.inr ⟨_,hli,hmi,⟨rfl,by simp⟩,rfl⟩)
    (fun p u hp hno=>(ND p u hp fun hf=>hno i _ hmi hli (hfsin p hf)).2) (fun p hp=>?_) (fun p hp=>?_) fun hk=>?_⟩
  · have:=hst.hr.nb p hp
    rw[hst.bs,hb2]at this;exact this
  · rcases hp with hp|hp
    · exact .inr ⟨i,_,hmi,hli,hp.1⟩
    · cases hq:w.at? p with
      |none=>exact .inl rfl
      | some u =>
        by_cases hf:fs x c p
        · exact .inr ⟨i,_,hmi,hli,hfsin p hf⟩
        · exact((ND p u hq hf).1 hp).elim
  · have hsplit:∀{i' j r},GM t (xs.set x y) i' j r→(i'=x∧j=c∧r=.sl t' zs)∨(¬(i'=x∧j=c)∧GM t xs i' j r):=fun{i' j r} h=>by
      obtain⟨z,hz,hzj⟩:=h
      by_cases e1:i'=x
      · subst e1
        rw[List.getElem?_set_self hxl]at hz
        cases hz
        rw[hy]at hzj
        have hto:((t.cells e).take c).length=c:=by rw[List.length_take,Ty.Hn];omega
        by_cases c1:j<c
        · rw[List.append_assoc,List.getElem?_append_left (by omega),List.getElem?_take,if_pos c1]at hzj
          exact .inr ⟨fun h=>by omega,e,hx,hzj⟩
        · by_cases c2:j=c
          · subst c2
            rw[List.append_assoc,List.getElem?_append_right (by omega),hto,Nat.sub_self]at hzj
            cases hzj
            exact .inl ⟨rfl,rfl,rfl⟩
          · rw[List.append_assoc,List.getElem?_append_right (by omega),hto,List.getElem?_append_right (by simp;omega),List.getElem?_drop]at hzj
            simp only[List.length_singleton]at hzj
            rw[show c+1+(j-c-1)=j from by omega]at hzj
            exact .inr ⟨fun h=>c2 h.2,e,hx,hzj⟩
      · rw[List.getElem?_set_ne (fun e=>e1 e.symm)]at hz
        exact .inr ⟨fun h=>e1 h.1,z,hz,hzj⟩
    have hback:∀{i' j r},GM t xs i' j r→∃r',GM t (xs.set x y) i' j r':=fun{i' j r} h=>by
      obtain⟨a1,a2⟩:=GZ h
      exact HP (by simpa using a1) a2
    have hreg0:∀p,reg b o (cap*t.sz) p→¬fs x c p:=fun p hp hf=>h7 _ _ _ p hcell hf hp
    have hsl:Ie w' (.sl t' zs) (vs x c) (pl2'.fp i):=by
      have h1:=hst.hr.blk i _ (by rw[GK,if_pos rfl]:look [(i,Blk.arr none t' zs)] i=some (.arr none t' zs))
      obtain⟨_,_,_,h3⟩:=hst.kp.k1 i _ (by rw[GK,if_pos rfl]) hg2
      rw[←hd2,←h3]
      obtain⟨R⟩:=h1
      exact R.ZH
    have e1:(pl.set i (pl.hdr i) fun p=>(pl.fp i p∧¬fs x c p)∨pl2'.fp i p).hdr i=pl.hdr i:=by simp[Pl.set]
    have e2:(pl.set i (pl.hdr i) fun p=>(pl.fp i p∧¬fs x c p)∨pl2'.fp i p).fp i=fun p=>(pl.fp i p∧¬fs x c p)∨pl2'.fp i p:=by simp[Pl.set]
    show Nonempty (Row w' (Ie w') t (xs.set x y) ((pl.set i (pl.hdr i) fun p=>(pl.fp i p∧¬fs x c p)∨pl2'.fp i p).hdr i) ((pl.set i (pl.hdr i) fun p=>(pl.fp i p∧¬fs x c p)∨pl2'.fp i p).fp i))
    rw[e1,e2]
    refine⟨⟨some ⟨b,o,none⟩,cap,b,o,vs,fun i' j=>if i'=x∧j=c then pl2'.fp i else fs i' j,by rw[hh,List.length_set],by rw[List.length_set];exact h2,.inr rfl,fun j hj=>?_,fun i' j r h=>?_,fun i' j r h=>?_,fun i' j r p h hf=>?_,fun i' j r i'' j' r' p h h' hf hf'=>?_,fun p=>?_⟩⟩
    · obtain⟨⟨v,hv⟩,hi⟩:=h4 j hj
      obtain⟨_,g1,g2⟩:=ND _ v hv (hreg0 _ ⟨rfl,by simp,by simp;omega⟩)
      exact⟨⟨v,g1⟩,by rw[g2];exact hi⟩
    · obtain⟨a1,a2⟩:=GZ h
      rw[List.length_set]at a1
      obtain⟨r0,hr0⟩:=HP a1 a2
      exact(ND _ _ (h5 _ _ _ hr0) (hreg0 _ ⟨rfl,by simp,by have:=K8 a1 a2 h2;simp;omega⟩)).2.1
    · rcases hsplit h with⟨rfl,rfl,rfl⟩|⟨hne,h⟩
      · rw[if_pos ⟨rfl,rfl⟩];exact hsl
      · rw[if_neg hne]
        refine(h6 _ _ _ h).frame fun p u hp hu=>(ND p u hu fun hf=>hne ?_).2
        exact h8 _ _ _ _ _ _ p h hcell hp hf
    · rcases hsplit h with⟨rfl,rfl,rfl⟩|⟨hne,h⟩
      · rw[if_pos ⟨rfl,rfl⟩]at hf
        intro hre
        obtain⟨p1,p2⟩:=p
        obtain⟨q1,q2,q3⟩:=hre
        simp only at q1 q2 q3
        subst q1
        obtain⟨⟨v,hv⟩,_⟩:=h4 (p2-o) (by omega)
        rw[show o+(p2-o)=p2 from by omega]at hv
        exact(ND _ v hv (hreg0 _ ⟨rfl,q2,q3⟩)).1 hf
      · rw[if_neg hne]at hf;exact h7 _ _ _ p h hf
    · have cross:∀{i' j r},¬(i'=x∧j=c)→GM t xs i' j r→fs i' j p→pl2'.fp i p→False:=fun{i' j r} hne h hf hf'=>by
        obtain⟨u,hu⟩:=(h6 _ _ _ h).there p hf
        exact(ND p u hu fun hq=>hne (h8 _ _ _ _ _ _ p h hcell hf hq)).1 hf'
      rcases hsplit h with⟨rfl,rfl,rfl⟩|⟨hne,hc1⟩<;>rcases hsplit h' with⟨rfl,rfl,rfl⟩|⟨hne',hc2⟩
      · exact⟨rfl,rfl⟩
      · rw[if_pos ⟨rfl,rfl⟩]at hf
        rw[if_neg hne']at hf'
        exact(cross hne' hc2 hf' hf).elim
      · rw[if_pos ⟨rfl,rfl⟩]at hf'
        rw[if_neg hne]at hf
        exact(cross hne hc1 hf hf').elim
      · rw[if_neg hne]at hf
        rw[if_neg hne']at hf'
        exact h8 _ _ _ _ _ _ p hc1 hc2 hf hf'
    · constructor
      · rintro (⟨hp,hn⟩|hp)
        · rcases(h9 p).1 hp with hp|⟨i',j,r,h,hf⟩
          · exact .inl hp
          · have hne:¬(i'=x∧j=c):=fun⟨q1,q2⟩=>by subst q1 q2;exact hn hf
            obtain⟨r',h'⟩:=hback h
            exact .inr ⟨i',j,r',h',by rw[if_neg hne];exact hf⟩
        · obtain⟨r',h'⟩:=hback hcell
          exact .inr ⟨x,c,r',h',by rw[if_pos ⟨rfl,rfl⟩];exact hp⟩
      · rintro (hp|⟨i',j,r,h,hf⟩)
        · exact .inl ⟨(h9 p).2 (.inl hp),hreg0 p hp⟩
        · rcases hsplit h with⟨rfl,rfl,rfl⟩|⟨hne,h⟩
          · rw[if_pos ⟨rfl,rfl⟩]at hf;exact .inr hf
          · rw[if_neg hne]at hf
            exact .inl ⟨(h9 p).2 (.inr ⟨_,_,_,h,hf⟩),fun hq=>hne (h8 _ _ _ _ _ _ p h hcell hf hq)⟩
end
theorem Wx {P:Program} {g:FuncId} {o:Orc} (ho:L9 P g o):L9 P g (Ww o):=by
  intro ρ nid vs H K out hK
  unfold Ww at hK
  split at hK
  case h_2=>exact ho ρ nid _ H K _ hK
  rename_i i x c rest
  cases hpl:RP rest<;>simp only[hpl,cond_true,cond_false]at hK
  · exact nomatch hK
  split at hK
  case h_2=>exact nomatch hK
  rename_i t xs hli
  simp only[Option.bind_eq_some_iff]at hK
  obtain⟨e,hx,hK⟩:=hK
  split at hK
  case h_2=>exact nomatch hK
  rename_i t' ys hc
  obtain⟨q,hq,hen,hup,hcall⟩:=ho ρ nid _ _ _ _ hK
  cases hpv:(PN q.v&&(isNil q.news&&isNil q.gone))<;>simp only[hpv,cond_true,cond_false]at hq
  · exact nomatch hq
  simp only[Bool.and_eq_true]at hpv
  obtain⟨hpv,hnw,hgn⟩:=hpv
  have hnw:=HQ hnw
  have hgn:=HQ hgn
  split at hq
  case h_2=>exact nomatch hq
  rename_i i' t2 zs hqu
  split at hq
  case isFalse=>exact nomatch hq
  rename_i het
  subst het
  simp only[Option.bind_eq_some_iff]at hq
  obtain⟨y,hy,hK⟩:=hq
  have hy:=Ty.Hy _ _ _ hy
  have hii:i'=i:=by
    obtain⟨B',hB'⟩:=hup i' _ (by rw[hqu,GK,if_pos rfl])
    rw[GK]at hB'
    by_cases e:i=i'
    · exact e.symm
    · rw[if_neg e]at hB';exact nomatch hB'
  subst hii
  refine⟨_,hK,hen,fun j B hB=>?_,fun H1 pl w us he hr hn hl hp H' ha=>?_⟩
  · rw[GK]at hB
    by_cases e:i'=j
    · subst e;exact⟨_,hli⟩
    · rw[if_neg e]at hB;exact nomatch hB
  have hli1:=he _ _ hli
  obtain⟨u0,hu0⟩:∃u0,us[0]? =some u0:=⟨us[0]'(by rw[←hl];simp),by simp⟩
  have hi0:=hp 0 _ u0 rfl hu0
  cases hi0 with
  | inn _ _ _ sh t1 xs1 b o n cap _ hl1 hx1 hc1 hh hok hat hone =>
    rw[hli1]at hl1;cases hl1
    obtain⟨⟨a',cap',b',o',vs,fs,h1,h2,h3,h4,h5,h6,h7,h8,h9⟩⟩:=hr.blk _ _ hli1
    rw[hh]at h1;cases h1
    have h3:=h3.resolve_left (by omega)
    cases h3
    have hcell:GM t xs x c (.sl t2 ys):=⟨e,hx,hc⟩
    have hu:u0=vs x c:=by rw[h5 _ _ _ hcell]at hat;cases hat;rfl
    subst hu
    let pl2:Pl:=⟨fun _=>vs x c,fun _=>fs x c,pl.base⟩
    have hl1:∀{j B},look [(i',Blk.arr none t2 ys)] j=some B→j=i'∧B=.arr none t2 ys:=fun{j B} h=>by
      rw[GK]at h
      by_cases e:i'=j
      · rw[if_pos e]at h;cases h;exact⟨e.symm,rfl⟩
      · rw[if_neg e]at h;exact nomatch h
    have hr2:Hq [(i',.arr none t2 ys)] pl2 w:=by
      refine⟨fun j B hB=>?_,fun j k B B' p q1 q2 _ _=>?_,fun j B p hB hf=>?_,hr.nb⟩
      · obtain⟨rfl,rfl⟩:=hl1 hB
        exact(h6 _ _ _ hcell).row
      · rw[(hl1 q1).1,(hl1 q2).1]
      · exact hr.ob _ _ p hli1 ((h9 p).2 (.inr ⟨_,_,_,hcell,hf⟩))
    have haf:after [(i',.arr none t2 ys)] nid q=some [(i',.arr none t2 zs)]:=by
      unfold after
      rw[hqu,hnw]
      have:LV [(i',Blk.arr none t2 zs)] [(i',Blk.arr none t2 ys)]=[(i',.arr none t2 zs)]:=by simp[LV,put]
      rw[this]
      have:IG q.kil [(i',Blk.arr none t2 zs)]=some [(i',.arr none t2 zs)]:=by
        unfold IG
        split
        · rfl
        · simp[NY,CR.kil,hgn,mem,Blk.GW]
      rw[this]
      simp[GY]
    refine(hcall _ pl2 w us .rfl' hr2 (fun k hk=>by rw[hnw]at hk;exact nomatch hk) (by simpa using hl) (fun j v u hv hu=>?_) _ haf).mono fun e' w' ⟨u,pl2',he',hst,hv'⟩=>?_
    · cases j with
      | zero =>
        rw[hu0]at hu;cases hu
        cases hv
        exact GG.own (pl:=pl2) i' none t2 ys (by rw[GK,if_pos rfl])
      |succ j=>exact RQ (PO hpl v (List.mem_of_getElem? (by simpa using hv))) (hp (j+1) v u (by simpa using hv) hu)
    · obtain⟨ht,_⟩:=Mt (c:={v:=q.v,upd:=[(i',.arr none t (xs.set x y))],JO:=[i']}) hli1 rfl rfl rfl ha
      obtain⟨pl',hst'⟩:=XI hr hli1 hx hc hy hh h2 h4 h5 h6 h7 h8 h9 (pl2:=pl2) rfl rfl rfl (by show mem i' q.gone=false;rw[hgn];rfl) hst ht
      exact⟨u,pl',he',hst',RQ hpv hv'⟩
end Go.Proofs.Ev
namespace Go.Proofs.Ev
variable [Tok]
set_option linter.unusedSectionVars false
section
variable {ρ:Type}
def Hg:Nat→Code→List (Nat× Code)
  |cb,.seq a b=>Hg cb a++Hg cb b
  |cb,.cond _ a b=>Hg cb a++Hg cb b
  |_,.block id c=>Hg id c
  |cb,.scope c=>Hg cb c
  |cb,.loop c=>[(cb,c)]
  |_,_=>[]
theorem Ix {E:Env} {LP:Nat→Ev ρ→Ev ρ}:∀(c:Code) (cb:Nat),(∀x∈Hg cb c,Sound E.P (.loop x.2) (LP x.1 fun st K=>ev E LP x.1 x.2 st K))→Js E LP cb c
  |.seq a b,cb,h=>⟨Ix a cb fun x hx=>h x (by simp[Hg,hx]),Ix b cb fun x hx=>h x (by simp[Hg,hx])⟩
  |.cond _ a b,cb,h=>⟨Ix a cb fun x hx=>h x (by simp[Hg,hx]),Ix b cb fun x hx=>h x (by simp[Hg,hx])⟩
  |.block id c,_,h=>Ix c id h
  |.scope c,cb,h=>Ix c cb h
  |.loop c,cb,h=>h (cb,c) (by simp[Hg])
  |.skip,_,_=>trivial
  |.label _,_,_=>trivial
  |.region _ _ _,_,_=>trivial
  |.exit _,_,_=>trivial
  |.ret,_,_=>trivial
  |.rangeFunc _ _ _ _,_,_=>trivial
  |.goto _,_,_=>trivial
  |.refuse _,_,_=>trivial
def YJ (p:Nat× Code→Prop):List (Nat× Code)→Prop
  |[]=>True
  |x::l=>p x∧YJ p l
theorem RR {p:Nat× Code→Prop}:∀{l:List (Nat× Code)},YJ p l→∀x∈l,p x
  | y :: l, h, x, hx => by
    rcases List.mem_cons.1 hx with rfl|hx
    · exact h.1
    · exact RR h.2 x hx
theorem HI {E:Env} {LP:Nat→Ev ρ→Ev ρ} {c:Code} {cb:Nat} {l:List (Nat× Code)} (hl:Hg cb c=l)
    (h:YJ (fun x=>Sound E.P (.loop x.2) (LP x.1 fun st K=>ev E LP x.1 x.2 st K)) l):Js E LP cb c:=
  Ix c cb (by rw[hl];exact RR h)
theorem Hf {E:Env} {LP:Nat→Ev ρ→Ev ρ} {c:Code} {cb:Nat} (hl:Hg cb c=[]):Js E LP cb c:=HI hl trivial
theorem XJ {P:Program} {n g:Nat} {o o':Orc} (h:L9 P n o) (h':L9 P g o'):L9 P g (cond (Nat.beq g n) o o'):=by
  cases hb:Nat.beq g n
  · exact h'
  · have:g=n:=Nat.eq_of_beq_eq_true hb
    subst this;exact h
theorem H7 {P:Program} {c:Code} {f:Ev ρ} {p V:Type} (hf:Sound P c f) {HL:List Nat} {co:List (Ht× Co)} (kx:Ex→List Nat) (cx:Ex→List (Ht× Co)) (k:Nat) {dec:Nat→NF→Option (p× V)} {tm:p× V→St}
    {g:p→V→(V→Option ρ)→(Ex→St→Option ρ)→Option ρ} (hd:∀n nf v,dec n nf=some v→G5 HL n nf=tm v)
    (hg:∀(q:p) (v:V) (K K1:Ex→St→Option ρ),f (tm (q,v)) (fun e st'=>match e with
        |.normal=>(HH HL co st').bind fun nf=>K1 .normal (G5 HL st'.n nf)
        |e=>(HH (kx e) (cx e) st').bind fun nf=>K e (G5 (kx e) st'.n nf))=g q v (fun v'=>K1 .normal (tm (q,v'))) K):
    Sound P (.loop c) (HM HL co dec fun pv K=>iter (fun v next=>g pv.1 v next K) k pv.2):=
  QD hf kx cx k hd fun pv K=>(PI (tm:=fun v=>tm (pv.1,v)) (g:=fun v next K=>g pv.1 v next K) (fun v K K1 next hn=>by
    have:next=fun v'=>K1 .normal (tm (pv.1,v')):=funext fun v'=>(hn v').symm
    rw[this];exact hg pv.1 v K K1) K k pv.2).symm
theorem IQ {T:Type} {HL:List Nat} {N:Nat} {d:NF→Option T} {tm:T→St} (h:∀nf v,d nf=some v→G5 HL N nf=tm v) (n:Nat) (nf:NF) (v:T)
    (e:cond (Nat.beq n N) (d nf) none=some v):G5 HL n nf=tm v:=by
  cases hb:Nat.beq n N<;>simp only[hb,cond_true,cond_false]at e
  · exact nomatch e
  · have:n=N:=Nat.eq_of_beq_eq_true hb
    subst this;exact h nf v e
theorem Lq {A R:Type} {E:Env} (hE:I8 E) {LP:Nat→Ev R→Ev R} {g:FuncId} {fn:Func} (hf:E.P.funcs[g]? =some fn) (hc:fn.body.isSome=true)
    (hnm:(fn.name== "runtime.NumGoroutine")=false) (argsOf:A→List Arg) (WZ:List Arg→Option A) (hA:∀l a,WZ l=some a→l=argsOf a)
    (hn:∀a,Nat.ble (argsOf a).length fn.ntmps=true) (hLP:Js E LP 0 (fn.body.getD .skip)) {rt:RT} {dec:Out→Option R} {enc:R→Out} (hd:∀o r,dec o=some r→o=enc r)
    {F:A→Option R} (h:∀a,ev E LP 0 (fn.body.getD .skip) (st0 fn (argsOf a)) (fin E.P fn rt dec)=F a):
    Ry E.P g fun _ l K=>(WZ l).bind fun a=>(F a).bind fun r=>K (enc r):=by
  intro ρ l K out hK
  simp only[Option.bind_eq_some_iff]at hK
  obtain⟨a,ha,r,hr,hK⟩:=hK
  obtain⟨c,hcb⟩:=Option.isSome_iff_exists.1 hc
  have hgc:fn.body.getD .skip=c:=by rw[hcb];rfl
  rw[hA l a ha]
  exact⟨enc r,hK,UP hE hd hf hcb hnm (hn a) (hgc▸hLP) (by rw[←hgc,h a];exact hr)⟩
theorem S1 {A R:Type} {E:Env} (hE:I8 E) {LP:Nat→Ev R→Ev R} {g:FuncId} {fn:Func} (hf:E.P.funcs[g]? =some fn) (hc:fn.body.isSome=true)
    (hnm:(fn.name== "runtime.NumGoroutine")=false) (argsOf:A→List SV) (blksOf:A→List Blk) (WZ:List SV→List Blk→Option A) (hA:∀l b a,WZ l b=some a→l=argsOf a∧b=blksOf a)
    (hn:∀a,Nat.ble (argsOf a).length fn.ntmps=true) (hLP:Js E LP 0 (fn.body.getD .skip)) {rt:RT} {ks:List KD} {dec:A→Mk→Option R} {enc:A→R→Mk}
    (hlen:∀a r,(enc a r).kept.length=(blksOf a).length) (hd:∀a o r,dec a o=some r→o=enc a r)
    {F:A→Option R} (h:∀a,ev E LP 0 (fn.body.getD .skip) (YI fn (argsOf a) (blksOf a)) (Y1 E.P fn rt ks (dec a))=F a):
    Zs E.P g fun _ l b K=>(WZ l b).bind fun a=>(F a).bind fun r=>K (enc a r):=by
  intro ρ l b K out hK
  simp only[Option.bind_eq_some_iff]at hK
  obtain⟨a,ha,r,hr,hK⟩:=hK
  obtain⟨c,hcb⟩:=Option.isSome_iff_exists.1 hc
  have hgc:fn.body.getD .skip=c:=by rw[hcb];rfl
  obtain⟨rfl,rfl⟩:=hA l b a ha
  exact⟨enc a r,hK,Wv hE (hd a) (hlen a r) hf hcb hnm (hn a) (hgc▸hLP) (by rw[←hgc,h a];exact hr)⟩
def Wy {α:Type}:Option α→Bool
  |some _=>true
  |none=>false
def S2 {α:Type} [DecidableEq α] (x y:α):Bool:=decide (x=y)
end
end Go.Proofs.Ev
set_option linter.unusedVariables false
set_option linter.unusedSimpArgs false
namespace Go.Proofs.Ev
variable [Tok]
set_option linter.unusedSectionVars false
section
variable {ρ:Type}
end
end Go.Proofs.Ev
set_option linter.unusedVariables false
namespace Go.Proofs.Ev
variable [Tok]
set_option linter.unusedSectionVars false
structure Cd (α:Type) where
  n:Nat
  to:α→List R
  of:List R→Option α
  h:∀rs a,of rs=some a→to a=rs
def R.one (k:IntKind):R→Option Int
  |.int k' n=>cond (decide (k'=k)) (some n) none
  |_=>none
def cdI (k:IntKind):Cd Int:=⟨1,fun n=>[.int k n],fun
  |[.int k' n]=>cond (decide (k'=k)) (some n) none
  | _ => none, fun rs a h => by
    split at h
    · rename_i k' n
      by_cases c:k'=k
      · rw[decide_eq_true c]at h;cases h;rw[c]
      · rw[decide_eq_false c]at h;exact nomatch h
    · exact nomatch h⟩
def cdZ:Cd Int:=cdI .i64
def cdB:Cd Bool:=⟨1,fun b=>[.bool b],fun
  |[.bool b]=>some b
  | _ => none, fun rs a h => by
    split at h
    · cases h;rfl
    · exact nomatch h⟩
def cdL (t:Ty):Cd (List t.El):=⟨1,fun xs=>[.sl t xs],fun
  |[r]=>r.asL t
  | _ => none, fun rs a h => by
    split at h
    · rw[R.Ib h]
    · exact nomatch h⟩
def Cd.p {α β:Type} (A:Cd α) (B:Cd β):Cd (α× β):=⟨A.n+B.n,fun x=>A.to x.1++B.to x.2,fun rs=>(A.of (rs.take A.n)).bind fun a=>(B.of (rs.drop A.n)).bind fun b=>some (a,b),fun rs x h=>by
  simp only[Option.bind_eq_some_iff,Option.some.injEq]at h
  obtain⟨a,ha,b,hb,rfl⟩:=h
  rw[A.h _ _ ha,B.h _ _ hb,List.take_append_drop]⟩
def Cd.m {α β:Type} (A:Cd α) (f:α→β) (g:β→α) (e:∀x,g (f x)=x):Cd β:=⟨A.n,fun x=>A.to (g x),fun rs=>(A.of rs).bind fun a=>some (f a),fun rs x h=>by
  simp only[Option.bind_eq_some_iff,Option.some.injEq]at h
  obtain⟨a,ha,rfl⟩:=h
  rw[e,A.h _ _ ha]⟩
inductive Sk where
  |r (d:List Nat) (j:Nat)
  |v (x:SV)
  |sub (i j l:Nat)
  |ptr (i j o:Nat)
  |agg (l:List Sk)
  |tup (l:List Sk)
  |fn (f:Nat) (a b:List Sk)
  |Jp (d js:List Nat)
inductive SkB where
  |box (l:List Sk)
  |arr (sh:Option (List Nat)) (t:Ty) (j:Nat)
abbrev Sk.h (j:Nat):Sk:=.r [] j
def hs (j:Nat):Nat→List Sk
  |0=>[]
  |n+1=>.r [] j::hs (j+1) n
abbrev Sk.own (i:Nat):Sk:=.v (.own i)
def R.tk:R→Nat
  |.tok n=>n
  |_=>0
def R.ls (t:Ty) (r:R):List t.El:=(r.asL t).getD []
def at0:List R→Nat→R
  |[],_=>.tok 0
  |r::_,0=>r
  |_::l,j+1=>at0 l j
def atL (f:Nat→R):List Nat→List R
  |[]=>[]
  |j::l=>f j::atL f l
mutual
def Sk.fill (f:Nat→R):Sk→SV
  |.r d j=>.r d (f j)
  |.v x=>x
  |.sub i j l=>.sub i (f j).tk (f l).tk
  |.ptr i j o=>.ptr i (f j).tk o
  |.agg l=>.agg (MJ f l)
  |.tup l=>.tup (MJ f l)
  |.fn g a b=>.fn (.func g) (MJ f a) (MJ f b)
  |.Jp d js=>.Jp d (atL f js)
def MJ (f:Nat→R):List Sk→List SV
  |[]=>[]
  |s::l=>s.fill f::MJ f l
end
def SkB.fill (f:Nat→R):SkB→Blk
  |.box l=>.box (MJ f l)
  |.arr sh t j=>.arr sh t ((f j).ls t)
def OY (f:Nat→R):List SkB→List Blk
  |[]=>[]
  |b::l=>b.fill f::OY f l
abbrev Ps:=List (Nat× R)
def eqL:List Nat→List Nat→Bool
  |[],[]=>true
  |a::l,b::m=>cond (Nat.beq a b) (eqL l m) false
  |_,_=>false
def XK:SV→SV→Bool
  |.own i,.own j=>Nat.beq i j
  |.H5,.H5=>true
  |.K0,.K0=>true
  |.undef,.undef=>true
  |.ptr i x o,.ptr i' x' o'=>cond (Nat.beq i i') (cond (Nat.beq x x') (Nat.beq o o') false) false
  |.bsl i n,.bsl i' n'=>cond (Nat.beq i i') (Nat.beq n n') false
  |_,_=>false
def ZJ:List Nat→List R→Option Ps
  |[],[]=>some []
  |j::l,r::m=>(ZJ l m).bind fun q=>some ((j,r)::q)
  |_,_=>none
mutual
def Sk.mt:Sk→SV→Option Ps
  | .r d j, v => match v with
    |.r d' x=>cond (eqL d d') (some [(j,x)]) none
    |_=>none
  |.v x,v=>cond (XK x v) (some []) none
  | .sub i j l, v => match v with
    |.sub i' o n=>cond (Nat.beq i i') (some [(j,.tok o),(l,.tok n)]) none
    |_=>none
  | .ptr i j o, v => match v with
    |.ptr i' x o'=>cond (Nat.beq i i') (cond (Nat.beq o o') (some [(j,.tok x)]) none) none
    |_=>none
  | .agg l, v => match v with
    |.agg cs=>mtL l cs
    |_=>none
  | .tup l, v => match v with
    |.tup cs=>mtL l cs
    |_=>none
  | .fn g a b, v => match v with
    |.fn (.func g') a' b'=>cond (Nat.beq g g') ((mtL a a').bind fun p=>(mtL b b').bind fun q=>some (p++q)) none
    |_=>none
  | .Jp d js, v => match v with
    |.Jp d' cs=>cond (eqL d d') (ZJ js cs) none
    |_=>none
def mtL:List Sk→List SV→Option Ps
  | [], l => match l with
    |[]=>some []
    |_=>none
  | s :: m, l => match l with
    |v::l=>(s.mt v).bind fun p=>(mtL m l).bind fun q=>some (p++q)
    |_=>none
end
def ZY:Option (List Nat)→Option (List Nat)→Bool
  |none,none=>true
  |some a,some b=>eqL a b
  |_,_=>false
def SkB.mt:SkB→Blk→Option Ps
  | .box l, b => match b with
    |.box cs=>mtL l cs
    |_=>none
  | .arr sh t j, b => match b with
    |.arr sh' t' xs=>cond (ZY sh sh') (cond (decide (t'=t)) (some [(j,.sl t' xs)]) none) none
    |_=>none
def mtB:List SkB→List Blk→Option Ps
  | [], l => match l with
    |[]=>some []
    |_=>none
  | s :: m, l => match l with
    |v::l=>(s.mt v).bind fun p=>(mtB m l).bind fun q=>some (p++q)
    |_=>none
theorem T6:∀{a b:List Nat},eqL a b=true→a=b
  |[],[],_=>rfl
  |[],_::_,h=>nomatch h
  |_::_,[],h=>nomatch h
  | a :: l, b :: m, h => by
    simp only[eqL]at h
    cases hb:Nat.beq a b<;>rw[hb]at h<;>simp only[cond_true,cond_false]at h
    · exact nomatch h
    · rw[Nat.eq_of_beq_eq_true hb,T6 h]
theorem YK {a b:Option (List Nat)} (h:ZY a b=true):a=b:=by
  cases a with
  | none => cases b with
    |none=>rfl
    |some _=>exact nomatch h
  | some x => cases b with
    |none=>exact nomatch h
    |some y=>exact congrArg some (T6 h)
theorem XL {a b:SV} (h:XK a b=true):a=b:=by
  unfold XK at h
  split at h
  · rw[Nat.eq_of_beq_eq_true h]
  · rfl
  · rfl
  · rfl
  · rename_i i x o i' x' o'
    cases h1:Nat.beq i i'<;>rw[h1]at h<;>simp only[cond_true,cond_false]at h
    · exact nomatch h
    · cases h2:Nat.beq x x'<;>rw[h2]at h<;>simp only[cond_true,cond_false]at h
      · exact nomatch h
      · rw[Nat.eq_of_beq_eq_true h1,Nat.eq_of_beq_eq_true h2,Nat.eq_of_beq_eq_true h]
  · rename_i i n i' n'
    cases h1:Nat.beq i i'<;>rw[h1]at h<;>simp only[cond_true,cond_false]at h
    · exact nomatch h
    · rw[Nat.eq_of_beq_eq_true h1,Nat.eq_of_beq_eq_true h]
  · exact nomatch h
def J0 (f:Nat→R) (ps:Ps):Prop:=∀p∈ps,f p.1=p.2
theorem J0.left {f:Nat→R} {p q:Ps} (h:J0 f (p++q)):J0 f p:=fun x hx=>h x (List.mem_append_left _ hx)
theorem J0.right {f:Nat→R} {p q:Ps} (h:J0 f (p++q)):J0 f q:=fun x hx=>h x (List.mem_append_right _ hx)
theorem Wz {f:Nat→R}:∀{js:List Nat} {cs:List R} {ps:Ps},ZJ js cs=some ps→J0 f ps→atL f js=cs
  |[],[],_,_,_=>rfl
  |[],_::_,_,h,_=>nomatch h
  |_::_,[],_,h,_=>nomatch h
  | j :: l, r :: m, ps, h, hf => by
    simp only[ZJ,Option.bind_eq_some_iff,Option.some.injEq]at h
    obtain⟨q,hq,rfl⟩:=h
    rw[atL,Wz hq fun p hp=>hf p (List.mem_cons_of_mem _ hp),hf (j,r) List.mem_cons_self]
mutual
theorem Sk.UT {f:Nat→R}:(s:Sk)→{v:SV}→{ps:Ps}→s.mt v=some ps→J0 f ps→s.fill f=v
  | .r d j, v, ps, h, hf => by
    simp only[Sk.mt]at h
    split at h
    · rename_i d' x
      cases hd:eqL d d'<;>rw[hd]at h<;>simp only[cond_true,cond_false]at h
      · exact nomatch h
      · cases h
        rw[Sk.fill,T6 hd,hf (j,x) List.mem_cons_self]
    · exact nomatch h
  | .v x, v, ps, h, hf => by
    simp only[Sk.mt]at h
    cases hd:XK x v<;>rw[hd]at h<;>simp only[cond_true,cond_false]at h
    · exact nomatch h
    · rw[Sk.fill,XL hd]
  | .sub i j l, v, ps, h, hf => by
    simp only[Sk.mt]at h
    split at h
    · rename_i i' o n
      cases hd:Nat.beq i i'<;>rw[hd]at h<;>simp only[cond_true,cond_false]at h
      · exact nomatch h
      · cases h
        rw[Sk.fill,Nat.eq_of_beq_eq_true hd,hf (j,.tok o) List.mem_cons_self,hf (l,.tok n) (List.mem_cons_of_mem _ List.mem_cons_self)];rfl
    · exact nomatch h
  | .ptr i j o, v, ps, h, hf => by
    simp only[Sk.mt]at h
    split at h
    · rename_i i' x o'
      cases hd:Nat.beq i i'<;>rw[hd]at h<;>simp only[cond_true,cond_false]at h
      · exact nomatch h
      · cases hd2:Nat.beq o o'<;>rw[hd2]at h<;>simp only[cond_true,cond_false]at h
        · exact nomatch h
        · cases h
          rw[Sk.fill,Nat.eq_of_beq_eq_true hd,Nat.eq_of_beq_eq_true hd2,hf (j,.tok x) List.mem_cons_self];rfl
    · exact nomatch h
  | .agg l, v, ps, h, hf => by
    simp only[Sk.mt]at h
    split at h
    · rw[Sk.fill,OD l h hf]
    · exact nomatch h
  | .tup l, v, ps, h, hf => by
    simp only[Sk.mt]at h
    split at h
    · rw[Sk.fill,OD l h hf]
    · exact nomatch h
  | .fn g a b, v, ps, h, hf => by
    simp only[Sk.mt]at h
    split at h
    · rename_i g' a' b'
      cases hd:Nat.beq g g'<;>rw[hd]at h<;>simp only[cond_true,cond_false]at h
      · exact nomatch h
      · simp only[Option.bind_eq_some_iff,Option.some.injEq]at h
        obtain⟨p,hp,q,hq,rfl⟩:=h
        rw[Sk.fill,Nat.eq_of_beq_eq_true hd,OD a hp hf.left,OD b hq hf.right]
    · exact nomatch h
  | .Jp d js, v, ps, h, hf => by
    simp only[Sk.mt]at h
    split at h
    · rename_i d' cs
      cases hd:eqL d d'<;>rw[hd]at h<;>simp only[cond_true,cond_false]at h
      · exact nomatch h
      · rw[Sk.fill,T6 hd,Wz h hf]
    · exact nomatch h
theorem OD {f:Nat→R}:(s:List Sk)→{v:List SV}→{ps:Ps}→mtL s v=some ps→J0 f ps→MJ f s=v
  | [], v, ps, h, hf => by
    simp only[mtL]at h
    split at h
    · rfl
    · exact nomatch h
  | s :: m, v, ps, h, hf => by
    simp only[mtL]at h
    split at h
    · simp only[Option.bind_eq_some_iff,Option.some.injEq]at h
      obtain⟨p,hp,q,hq,rfl⟩:=h
      rw[MJ,Sk.UT s hp hf.left,OD m hq hf.right]
    · exact nomatch h
end
theorem SkB.UT {f:Nat→R} (s:SkB) {b:Blk} {ps:Ps} (h:s.mt b=some ps) (hf:J0 f ps):s.fill f=b:=by
  cases s with
  | box l =>
    simp only[SkB.mt]at h
    split at h
    · rw[SkB.fill,OD l h hf]
    · exact nomatch h
  | arr sh t j =>
    simp only[SkB.mt]at h
    split at h
    · rename_i sh' t' xs
      cases hd:ZY sh sh'<;>rw[hd]at h<;>simp only[cond_true,cond_false]at h
      · exact nomatch h
      · by_cases c:t'=t
        · subst c
          rw[decide_eq_true rfl]at h
          cases h
          rw[SkB.fill,YK hd,hf (j,.sl t' xs) List.mem_cons_self]
          simp[R.ls,R.asL]
        · rw[decide_eq_false c]at h;exact nomatch h
    · exact nomatch h
theorem T7 {f:Nat→R}:(s:List SkB)→{v:List Blk}→{ps:Ps}→mtB s v=some ps→J0 f ps→OY f s=v
  | [], v, ps, h, hf => by
    simp only[mtB]at h
    split at h
    · rfl
    · exact nomatch h
  | s :: m, v, ps, h, hf => by
    simp only[mtB]at h
    split at h
    · simp only[Option.bind_eq_some_iff,Option.some.injEq]at h
      obtain⟨p,hp,q,hq,rfl⟩:=h
      rw[OY,SkB.UT s hp hf.left,T7 m hq hf.right]
    · exact nomatch h
def ord (ps:Ps):Nat→Nat→Option (List R)
  |_,0=>some []
  |j,n+1=>(look ps j).bind fun r=>(ord ps (j+1) n).bind fun l=>some (r::l)
theorem X5 {ps:Ps}:∀{n j:Nat} {rs:List R},ord ps j n=some rs→∀i,i<n→look ps (j+i)=some (at0 rs i)
  |0,_,_,_,i,hi=>absurd hi (Nat.not_lt_zero _)
  | n + 1, j, rs, h, i, hi => by
    simp only[ord,Option.bind_eq_some_iff,Option.some.injEq]at h
    obtain⟨r,hr,l,hl,rfl⟩:=h
    cases i with
    |zero=>exact hr
    |succ i=>have:=X5 hl i (by omega);rwa [show j+1+i=j+(i+1)from by omega]at this
def WA (n:Nat):Ps→Bool
  |[]=>true
  |(j,_)::l=>cond (Nat.ble (j+1) n) (cond (Wy (look l j)) false (WA n l)) false
theorem PQ {n:Nat}:∀{ps:Ps},WA n ps=true→∀p∈ps,p.1<n∧look ps p.1=some p.2
  |[],_,_,h=>nomatch h
  | (j, r) :: l, h, p, hp => by
    simp only[WA]at h
    cases h1:Nat.ble (j+1) n<;>rw[h1]at h<;>simp only[cond_true,cond_false]at h
    · exact nomatch h
    · cases h2:Wy (look l j)<;>rw[h2]at h<;>simp only[cond_true,cond_false]at h
      · rcases List.mem_cons.1 hp with rfl|hp
        · exact⟨Nat.le_of_ble_eq_true h1,by simp[look]⟩
        · obtain⟨g1,g2⟩:=PQ h p hp
          refine⟨g1,?_⟩
          rw[GK]
          by_cases c:j=p.1
          · subst c;rw[g2]at h2;exact nomatch h2
          · rw[if_neg c];exact g2
      · exact nomatch h
def rd {α:Type} (c:Cd α) (ps:Ps):Option α:=cond (WA c.n ps) ((ord ps 0 c.n).bind c.of) none
theorem S3 {α:Type} {c:Cd α} {ps:Ps} {a:α} (h:rd c ps=some a):J0 (at0 (c.to a)) ps:=by
  unfold rd at h
  cases hk:WA c.n ps<;>rw[hk]at h<;>simp only[cond_true,cond_false]at h
  · exact nomatch h
  · rw[Option.bind_eq_some_iff]at h
    obtain⟨rs,hrs,ha⟩:=h
    intro p hp
    obtain⟨g1,g2⟩:=PQ hk p hp
    have:=X5 hrs p.1 g1
    rw[Nat.zero_add,g2]at this
    rw[c.h _ _ ha]
    exact(Option.some.inj this).symm
end Go.Proofs.Ev
set_option linter.unusedVariables false
namespace Go.Proofs.Ev
variable [Tok]
set_option linter.unusedSectionVars false
structure SkI where
  a:List Sk
  b:List SkB
structure SkO where
  v:Sk
  kept:List (Option SkB)
  news:List SkB
def SkI.WZ {A:Type} (i:SkI) (c:Cd A) (l:List SV) (b:List Blk):Option A:=(mtL i.a l).bind fun p=>(mtB i.b b).bind fun q=>rd c (p++q)
theorem SkI.YL {A:Type} {i:SkI} {c:Cd A} {l:List SV} {b:List Blk} {a:A} (h:i.WZ c l b=some a):l=MJ (at0 (c.to a)) i.a∧b=OY (at0 (c.to a)) i.b:=by
  simp only[SkI.WZ,Option.bind_eq_some_iff]at h
  obtain⟨p,hp,q,hq,h⟩:=h
  have:=S3 h
  exact⟨(OD _ hp this.left).symm,(T7 _ hq this.right).symm⟩
def S4 (f:Nat→R):List (Option SkB)→List (Option Blk)
  |[]=>[]
  |none::l=>none::S4 f l
  |some b::l=>some (b.fill f)::S4 f l
def mtK:List (Option SkB)→List (Option Blk)→Option Ps
  | [], l => match l with
    |[]=>some []
    |_=>none
  | none :: m, l => match l with
    |none::l=>mtK m l
    |_=>none
  | some s :: m, l => match l with
    |some b::l=>(s.mt b).bind fun p=>(mtK m l).bind fun q=>some (p++q)
    |_=>none
theorem WB {f:Nat→R}:(s:List (Option SkB))→{v:List (Option Blk)}→{ps:Ps}→mtK s v=some ps→J0 f ps→S4 f s=v
  | [], v, ps, h, hf => by
    simp only[mtK]at h
    split at h
    · rfl
    · exact nomatch h
  | none :: m, v, ps, h, hf => by
    simp only[mtK]at h
    split at h
    · rw[S4,WB m h hf]
    · exact nomatch h
  | some s :: m, v, ps, h, hf => by
    simp only[mtK]at h
    split at h
    · simp only[Option.bind_eq_some_iff,Option.some.injEq]at h
      obtain⟨p,hp,q,hq,rfl⟩:=h
      rw[S4,SkB.UT s hp hf.left,WB m hq hf.right]
    · exact nomatch h
theorem Lr {f:Nat→R}:(s:List (Option SkB))→(S4 f s).length=s.length
  |[]=>rfl
  |none::l=>congrArg (·+1) (Lr l)
  |some _::l=>congrArg (·+1) (Lr l)
theorem NA {f:Nat→R}:(s:List SkB)→(OY f s).length=s.length
  |[]=>rfl
  |_::l=>congrArg (·+1) (NA l)
def S.dec:(s:S)→DecidableEq s.E
  |.shape=>(inferInstance:DecidableEq Shape)|.KZ=>(inferInstance:DecidableEq Kf)|.Kg=>(inferInstance:DecidableEq Uf)|.model=>(inferInstance:DecidableEq Model)|.task=>(inferInstance:DecidableEq Task)|.request=>(inferInstance:DecidableEq Request)
  |.step=>(inferInstance:DecidableEq Step)|.event=>(inferInstance:DecidableEq Event)|.entry=>(inferInstance:DecidableEq Entry)|.Tj=>(inferInstance:DecidableEq Y2)|.NV=>(inferInstance:DecidableEq Vf)|.ID=>(inferInstance:DecidableEq Ml)
def Ty.dec:(t:Ty)→DecidableEq t.El
  |.int _=>(inferInstance:DecidableEq Int)
  |.bool=>(inferInstance:DecidableEq Bool)
  |.str=>(inferInstance:DecidableEq (List UInt8))
  |.sl t=>@instDecidableEqList _ t.dec
  |.st s=>s.dec
  |.tok=>(inferInstance:DecidableEq Nat)
  |.ho s=>letI:=s.dec;(inferInstance:DecidableEq (Option s.E))
  |.hl t=>letI:=t.dec;(inferInstance:DecidableEq (Option (List t.El)))
def YM {α:Type} (z e:R) (K:Option α):Option α:=
  match z,e with
  |.int k a,.int k' b=>cond (decide (k=k')) (cond (S2 a b) K none) none
  |.bool a,.bool b=>cond (S2 a b) K none
  |.str a,.str b=>cond (S2 a b) K none
  |.tok a,.tok b=>cond (S2 a b) K none
  |.sl t a,.sl t' b=>if h:t'=t then cond (@S2 _ (@instDecidableEqList _ t.dec) a (h▸b)) K none else none
  |_,_=>none
theorem XM {α:Type} {z e:R} {K:Option α} {x:α} (h:YM z e K=some x):z=e∧K=some x:=by
  unfold YM at h
  have go:∀{β:Type} [DecidableEq β] {a b:β} {K:Option α},cond (S2 a b) K none=some x→a=b∧K=some x:=fun{β} _ {a b K} h=>by
    unfold S2 at h
    by_cases c:a=b
    · rw[decide_eq_true c]at h;exact⟨c,h⟩
    · rw[decide_eq_false c]at h;exact nomatch h
  split at h
  · rename_i k a k' b
    by_cases c:k=k'
    · rw[decide_eq_true c]at h;obtain⟨h1,h2⟩:=go h;exact⟨by rw[c,h1],h2⟩
    · rw[decide_eq_false c]at h;exact nomatch h
  · obtain⟨h1,h2⟩:=go h;exact⟨by rw[h1],h2⟩
  · obtain⟨h1,h2⟩:=go h;exact⟨by rw[h1],h2⟩
  · obtain⟨h1,h2⟩:=go h;exact⟨by rw[h1],h2⟩
  · split at h
    · rename_i t a t' b c
      subst c
      obtain⟨h1,h2⟩:=@go _ (@instDecidableEqList _ (Ty.dec _)) _ _ _ h
      exact⟨by rw[h1],h2⟩
    · exact nomatch h
  · exact nomatch h
def Zx {α:Type} (n:Nat) (f:Nat→R):Ps→(Ps→Option α)→Option α
  |[],K=>K []
  |(j,z)::l,K=>cond (Nat.ble (j+1) n) (YM z (f j) (Zx n f l K)) (Zx n f l fun q=>K ((j-n,z)::q))
theorem S5 {α:Type} {n:Nat} {f:Nat→R} {x:α}:∀{ps:Ps} {K:Ps→Option α},Zx n f ps K=some x→∃q,K q=some x∧∀p∈ps,(p.1<n∧f p.1=p.2)∨(n≤p.1∧(p.1-n,p.2)∈q)
  |[],K,h=>⟨[],h,fun _ hp=>nomatch hp⟩
  | (j, z) :: l, K, h => by
    simp only[Zx]at h
    cases hb:Nat.ble (j+1) n<;>rw[hb]at h<;>simp only[cond_true,cond_false]at h
    · obtain⟨q,hq,hp⟩:=S5 h
      refine⟨_,hq,fun p h=>?_⟩
      rcases List.mem_cons.1 h with rfl|h
      · have:¬j+1≤n:=fun c=>by rw[Nat.ble_eq_true_of_le c]at hb;exact nomatch hb
        exact .inr ⟨by simp only;omega,List.mem_cons_self⟩
      · rcases hp p h with h|⟨h1,h2⟩
        · exact .inl h
        · exact .inr ⟨h1,List.mem_cons_of_mem _ h2⟩
    · obtain⟨h1,h2⟩:=XM h
      obtain⟨q,hq,hp⟩:=S5 h2
      refine⟨q,hq,fun p h=>?_⟩
      rcases List.mem_cons.1 h with rfl|h
      · exact .inl ⟨Nat.le_of_ble_eq_true hb,h1.symm⟩
      · exact hp p h
theorem WC:∀(l m:List R) (j:Nat),at0 (l++m) j=if j<l.length then at0 l j else at0 m (j-l.length)
  |[],m,j=>by simp
  |r::l,m,0=>by simp[at0]
  | r :: l, m, j + 1 => by
    rw[List.cons_append,at0,WC l m j]
    by_cases c:j<l.length
    · rw[if_pos c,if_pos (by simpa using c),at0]
    · rw[if_neg c,if_neg (by simpa using c),List.length_cons,Nat.add_sub_add_right]
def Zy {A B:Type} (cA:Cd A) (cB:Cd B) (a:A) (b:B):Nat→R:=at0 (cA.to a++cB.to b)
def SkO.enc {A B:Type} (o:SkO) (cA:Cd A) (cB:Cd B) (a:A) (b:B):Mk:=⟨o.v.fill (Zy cA cB a b),S4 (Zy cA cB a b) o.kept,OY (Zy cA cB a b) o.news⟩
def SkO.dec {A B:Type} (o:SkO) (cA:Cd A) (cB:Cd B) (a:A) (m:Mk):Option B:=
  (o.v.mt m.v).bind fun p=>(mtK o.kept m.kept).bind fun q=>(mtB o.news m.news).bind fun r=>
    cond (Nat.beq (cA.to a).length cA.n) (Zx cA.n (at0 (cA.to a)) (p++(q++r)) (rd cB)) none
theorem SkO.WD {A B:Type} {o:SkO} {cA:Cd A} {cB:Cd B} {a:A} {m:Mk} {b:B} (h:o.dec cA cB a m=some b):m=o.enc cA cB a b:=by
  simp only[SkO.dec,Option.bind_eq_some_iff]at h
  obtain⟨p,hp,q,hq,r,hr,h⟩:=h
  cases hb:Nat.beq (cA.to a).length cA.n<;>rw[hb]at h<;>simp only[cond_true,cond_false]at h
  · exact nomatch h
  have hn:=Nat.eq_of_beq_eq_true hb
  obtain⟨s,hs,hf⟩:=S5 h
  have hr':=S3 hs
  have hF:J0 (Zy cA cB a b) (p++(q++r)):=fun x hx=>by
    unfold Zy
    rw[WC,hn]
    rcases hf x hx with⟨h1,h2⟩|⟨h1,h2⟩
    · rw[if_pos h1,h2]
    · rw[if_neg (by omega)];exact hr' _ h2
  cases m
  simp only[SkO.enc,Sk.UT _ hp hF.left,WB _ hq hF.right.left,T7 _ hr hF.right.right]
def oM {A B:Type} (pr:List Pr) (i:SkI) (cA:Cd A) (o:SkO) (cB:Cd B) (F:A→Option B):Orc:=Wq pr fun _ l b K=>(i.WZ cA l b).bind fun a=>(F a).bind fun r=>K (o.enc cA cB a r)
theorem okM {A B:Type} {E:Env} (hE:I8 E) {LP:Nat→Ev B→Ev B} {g:FuncId} {fn:Func} (hf:E.P.funcs[g]? =some fn) (hc:fn.body.isSome=true) (hnm:(fn.name== "runtime.NumGoroutine")=false)
    {pr:List Pr} {i:SkI} {cA:Cd A} {o:SkO} {cB:Cd B} {F:A→Option B} (hn:Nat.ble i.a.length fn.ntmps=true) (hl:Nat.beq o.kept.length i.b.length=true)
    (hLP:Js E LP 0 (fn.body.getD .skip)) (rt:RT) (ks:List KD)
    (h:∀a,ev E LP 0 (fn.body.getD .skip) (YI fn (MJ (at0 (cA.to a)) i.a) (OY (at0 (cA.to a)) i.b)) (Y1 E.P fn rt ks (o.dec cA cB a))=F a):
    L9 E.P g (oM pr i cA o cB F):=by
  have hln:∀(f:Nat→R) (l:List Sk),(MJ f l).length=l.length:=fun f l=>by
    induction l with
    |nil=>rfl
    |cons s l ih=>rw[MJ,List.length_cons,ih];rfl
  exact RI (S1 hE hf hc hnm (fun a=>MJ (at0 (cA.to a)) i.a) (fun a=>OY (at0 (cA.to a)) i.b) (i.WZ cA) (fun l b a h=>SkI.YL h)
    (fun a=>by rw[hln];exact hn) hLP (enc:=o.enc cA cB) (fun a r=>by simp only[SkO.enc,Lr,NA];exact Nat.eq_of_beq_eq_true hl) (fun a m r h=>SkO.WD h) h)
def QH:List Sh→List R→List Arg
  |.one _::l,r::rs=>.one r::QH l rs
  |.agg ts::l,rs=>.agg (rs.take ts.length)::QH l (rs.drop ts.length)
  |_,_=>[]
def rsP:List Sh→List Arg→Option (List R)
  | [], l => match l with
    |[]=>some []
    |_=>none
  | .one _ :: m, l => match l with
    |.one r::l=>(rsP m l).bind fun q=>some (r::q)
    |_=>none
  | .agg ts :: m, l => match l with
    |.agg rs::l=>cond (Nat.beq rs.length ts.length) ((rsP m l).bind fun q=>some (rs++q)) none
    |_=>none
  |.fn::_,_=>none
theorem WE:∀{sh:List Sh} {l:List Arg} {rs:List R},rsP sh l=some rs→QH sh rs=l
  | [], l, rs, h => by
    simp only[rsP]at h
    split at h
    · rfl
    · exact nomatch h
  | .one t :: m, l, rs, h => by
    simp only[rsP]at h
    split at h
    · simp only[Option.bind_eq_some_iff,Option.some.injEq]at h
      obtain⟨q,hq,rfl⟩:=h
      rw[QH,WE hq]
    · exact nomatch h
  | .agg ts :: m, l, rs, h => by
    simp only[rsP]at h
    split at h
    · rename_i rs' l'
      cases hb:Nat.beq rs'.length ts.length<;>rw[hb]at h<;>simp only[cond_true,cond_false]at h
      · exact nomatch h
      · simp only[Option.bind_eq_some_iff,Option.some.injEq]at h
        obtain⟨q,hq,rfl⟩:=h
        have e:=Nat.eq_of_beq_eq_true hb
        rw[QH,←e,List.take_left,List.drop_left,WE hq]
    · exact nomatch h
  |.fn::m,l,rs,h=>nomatch h
theorem Ls:∀(sh:List Sh) (rs:List R),(QH sh rs).length≤sh.length
  |[],[]=>Nat.le_refl _
  |[],_::_=>Nat.le_refl _
  |.one _::l,r::rs=>Nat.succ_le_succ (Ls l rs)
  |.one _::_,[]=>Nat.zero_le _
  |.agg ts::l,rs=>Nat.succ_le_succ (Ls l _)
  |.fn::_,[]=>Nat.zero_le _
  |.fn::_,_::_=>Nat.zero_le _
structure SkP where
  v:Sk
  news:List SkB:=[]
def SkP.enc {B:Type} (o:SkP) (cB:Cd B) (b:B):Out:=(o.v.fill (at0 (cB.to b)),OY (at0 (cB.to b)) o.news)
def SkP.dec {B:Type} (o:SkP) (cB:Cd B) (m:Out):Option B:=(o.v.mt m.1).bind fun p=>(mtB o.news m.2).bind fun r=>rd cB (p++r)
theorem SkP.WD {B:Type} {o:SkP} {cB:Cd B} {m:Out} {b:B} (h:o.dec cB m=some b):m=o.enc cB b:=by
  simp only[SkP.dec,Option.bind_eq_some_iff]at h
  obtain⟨p,hp,r,hr,h⟩:=h
  have hF:=S3 h
  cases m
  simp only[SkP.enc,Sk.UT _ hp hF.left,T7 _ hr hF.right]
def oP {A B:Type} (sh:List Sh) (cA:Cd A) (o:SkP) (cB:Cd B) (F:A→Option B):Orc:=Qy sh fun _ l K=>((rsP sh l).bind cA.of).bind fun a=>(F a).bind fun r=>K (o.enc cB r)
theorem okP {A B:Type} {E:Env} (hE:I8 E) {LP:Nat→Ev B→Ev B} {g:FuncId} {fn:Func} (hf:E.P.funcs[g]? =some fn) (hc:fn.body.isSome=true) (hnm:(fn.name== "runtime.NumGoroutine")=false)
    {sh:List Sh} {cA:Cd A} {o:SkP} {cB:Cd B} {F:A→Option B} (hn:Nat.ble sh.length fn.ntmps=true)
    (hLP:Js E LP 0 (fn.body.getD .skip)) (rt:RT)
    (h:∀a,ev E LP 0 (fn.body.getD .skip) (st0 fn (QH sh (cA.to a))) (fin E.P fn rt (o.dec cB))=F a):
    L9 E.P g (oP sh cA o cB F):=
  PF (Lq hE hf hc hnm (fun a=>QH sh (cA.to a)) (fun l=>(rsP sh l).bind cA.of) (fun l a h=>by
    rw[Option.bind_eq_some_iff]at h
    obtain⟨rs,h1,h2⟩:=h
    rw[cA.h _ _ h2,WE h1]) (fun a=>Nat.ble_eq_true_of_le (Nat.le_trans (Ls _ _) (Nat.le_of_ble_eq_true hn))) hLP (fun m r h=>SkP.WD h) h)
end Go.Proofs.Ev
set_option linter.unusedVariables false
namespace Go.Proofs.Ev
variable [Tok]
set_option linter.unusedSectionVars false
structure O (P:Program) (g:FuncId) where
  o:Orc
  ok:L9 P g o
abbrev OL (P:Program):=List (Sigma fun g=>O P g)
def ZZ {P:Program}:OL P→FuncId→Orc
  |[],_=>Y7
  |⟨n,x⟩::l,g=>cond (Nat.beq g n) x.o (ZZ l g)
theorem IU {P:Program}:∀(l:OL P) (g:FuncId),L9 P g (ZZ l g)
  |[],g=>Xl P g
  |⟨_,x⟩::l,g=>XJ x.ok (IU l g)
def QI {P:Program} (tt:TT) (l:OL P):Env:={P:=P,tt:=tt,orc:=ZZ l}
structure Zz where
  f:Env→Env
  hP:∀E,(f E).P=E.P:=by exact fun _=>rfl
  hO:∀E,(f E).orc=E.orc:=by exact fun _=>rfl
def Zz.id:Zz:={f:=fun E=>E}
theorem WG {P:Program} (tt:TT) (l:OL P) (m:Zz):I8 (m.f (QI tt l)):=by
  intro g
  rw[m.hO,m.hP]
  exact IU l g
def O.inn {P:Program} {g:FuncId} (a:O P g):O P g:=⟨Ww a.o,Wx a.ok⟩
def ZK (fn:Func) (n:Nat):Bool:=fn.body.isSome&&(!(fn.name== "runtime.NumGoroutine")&&Nat.ble n fn.ntmps)
theorem RS {fn:Func} {n:Nat} (h:ZK fn n=true):fn.body.isSome=true∧(fn.name== "runtime.NumGoroutine")=false∧Nat.ble n fn.ntmps=true:=by
  simp only[ZK,Bool.and_eq_true,Bool.not_eq_true']at h
  exact⟨h.1,h.2.1,h.2.2⟩
theorem YN {A B:Type} {P:Program} {g:FuncId} {pr:List Pr} {i:SkI} {cA:Cd A} {o:SkO} {cB:Cd B}:L9 P g (oM pr i cA o cB fun _=>none):=by
  refine RI fun ρ args bs K out h=>?_
  simp only[Option.bind_none,Option.bind_eq_some_iff]at h
  obtain⟨_,_,h⟩:=h
  exact nomatch h
def Z6 (ρ:Type):Nat→Ev ρ→Ev ρ:=fun _ _ _ _=>none
def ZA {A B:Type} {P:Program} {tt:TT} (l:OL P) (m:Zz) {g:FuncId} {fn:Func} (hf:P.funcs[g]? =some fn) (sh:List Sh) (cA:Cd A) (o:SkP) (cB:Cd B) (rt:RT) (F:A→Option B)
    (hk:(ZK fn sh.length&&isNil (Hg 0 (fn.body.getD .skip)))=true)
    (h:∀a,ev (m.f (QI tt l)) (Z6 B) 0 (fn.body.getD .skip) (st0 fn (QH sh (cA.to a))) (fin P fn rt (o.dec cB))=F a):O P g:=
  ⟨oP sh cA o cB F,by
    rw[Bool.and_eq_true]at hk
    obtain⟨h1,h2,h3⟩:=RS hk.1
    have e:(m.f (QI tt l)).P=P:=m.hP _
    have:=okP (E:=m.f (QI tt l)) (sh:=sh) (cA:=cA) (o:=o) (cB:=cB) (F:=F) (g:=g) (fn:=fn) (WG tt l m) (by rw[e];exact hf) h1 h2 h3 (Hf (HQ hk.2)) rt (fun a=>by rw[e];exact h a)
    rwa [e]at this⟩
def Z7 {A B:Type} {P:Program} {tt:TT} (l:OL P) (m:Zz) {g:FuncId} {fn:Func} (hf:P.funcs[g]? =some fn) (pr:List Pr) (i:SkI) (cA:Cd A) (o:SkO) (cB:Cd B) (rt:RT) (ks:List KD) (F:A→Option B)
    (hk:(ZK fn i.a.length&&(Nat.beq o.kept.length i.b.length&&isNil (Hg 0 (fn.body.getD .skip))))=true)
    (h:∀a,ev (m.f (QI tt l)) (Z6 B) 0 (fn.body.getD .skip) (YI fn (MJ (at0 (cA.to a)) i.a) (OY (at0 (cA.to a)) i.b)) (Y1 P fn rt ks (o.dec cA cB a))=F a):O P g:=
  ⟨oM pr i cA o cB F,by
    simp only[Bool.and_eq_true]at hk
    obtain⟨h1,h2,h3⟩:=RS hk.1
    have e:(m.f (QI tt l)).P=P:=m.hP _
    have:=okM (E:=m.f (QI tt l)) (pr:=pr) (i:=i) (cA:=cA) (o:=o) (cB:=cB) (F:=F) (g:=g) (fn:=fn) (WG tt l m) (by rw[e];exact hf) h1 h2 h3 hk.2.1 (Hf (HQ hk.2.2)) rt ks (fun a=>by rw[e];exact h a)
    rwa [e]at this⟩
end Go.Proofs.Ev
set_option linter.unusedVariables false
set_option linter.unusedSimpArgs false
set_option linter.unusedSectionVars false
namespace Go.Proofs.Ev
def Ty.plain:Ty→Bool
  |.tok=>false
  |.st .NV|.st .ID=>false
  |.sl t=>t.plain
  |.ho _|.hl _=>false
  |_=>true
def R.plain:R→Bool
  |.tok _=>false
  |.sl t _=>t.plain
  |_=>true
def OE:List R→Bool
  |[]=>true
  |r::l=>cond r.plain (OE l) false
def PR (i:Nat):List Nat→Bool
  |[]=>true
  |k::l=>cond (Nat.beq k i) false (PR i l)
mutual
def SV.less (k:Nat):SV→Bool
  |.r d x=>x.plain&&PR k d
  |.Jp d cs=>OE cs&&PR k d
  |.inn _ _ _=>false
  |.agg cs=>OZ k cs
  |.tup cs=>OZ k cs
  |.fn _ a b=>OZ k a&&OZ k b
  |_=>true
def OZ (k:Nat):List SV→Bool
  |[]=>true
  |v::l=>v.less k&&OZ k l
end
def Blk.less (k:Nat):Blk→Bool
  |.box cs=>OZ k cs
  |.arr none t _=>t.plain
  |.arr (some d) t _=>t.plain&&PR k d
variable {ρ:Type}
section
variable [Tok]
theorem KO {k:Nat}:∀{d:List Nat},PR k d=true→mem k d=false
  |[],_=>rfl
  | x :: l, h => by
    simp only[PR]at h
    cases hb:Nat.beq x k<;>simp only[hb,cond_true,cond_false]at h
    · simp only[mem,hb,cond_false];exact KO h
    · exact nomatch h
theorem Lu:∀{l:List R},OE l=true→∀(j:Nat) (r:R),l[j]? =some r→r.plain=true
  |[],_,j,r,h=>by simp at h
  | x :: l, h, j, r, hj => by
    simp only[OE]at h
    cases hx:x.plain<;>simp only[hx,cond_true,cond_false]at h
    · exact nomatch h
    · cases j with
      |zero=>simp at hj;subst hj;exact hx
      |succ j=>exact Lu h j r (by simpa using hj)
theorem KP {t:Ty} (h:t.plain=true) {xs:List t.El} {i j:Nat} {r:R} (hc:GM t xs i j r):r.plain=true:=by
  obtain⟨x,_,hr⟩:=hc
  have hm:=List.mem_of_getElem? hr
  cases t with
  |tok=>exact nomatch h
  |ho s=>exact nomatch h
  |hl t=>exact nomatch h
  |sl t=>simp[Ty.cells]at hm;subst hm;exact h
  |int k=>simp[Ty.cells]at hm;subst hm;rfl
  |bool=>simp[Ty.cells]at hm;subst hm;rfl
  |str=>simp[Ty.cells]at hm;subst hm;rfl
  | st s =>
    have key:∀l:List R,OE l=true→r∈l→r.plain=true:=fun l hl hrl=>by
      obtain⟨j,hj⟩:=List.getElem?_of_mem hrl
      exact Lu hl j r hj
    cases s<;>first|(refine key _ ?_ hm;rfl)|exact nomatch h
theorem Ks {k:Nat}:∀{l:List SV},OZ k l=true→∀(j:Nat) (x:SV),l[j]? =some x→x.less k=true
  |[],_,j,x,h=>by simp at h
  | v :: l, h, j, x, hj => by
    simp only[OZ,Bool.and_eq_true]at h
    cases j with
    |zero=>simp at hj;subst hj;exact h.1
    |succ j=>exact Ks h.2 j x (by simpa using hj)
end
theorem Nn {T T':Tok} {w:World} {ok:Cell→Prop} {r:R} {v:Value} (h:@I4 T w ok r v):r.plain=true→@I4 T' w ok r v:=by
  induction h with
  |int=>exact fun _=>.int _ _
  |bool=>exact fun _=>.bool _
  |str=>exact fun _=>.str _
  |tok=>exact fun h=>nomatch h
  |KT v h=>exact fun _=>.KT v h
  |sl t xs a cap b o vs IH ha hc _ ih=>exact fun h=>.sl t xs a cap b o vs IH ha hc fun i j r hr=>ih i j r hr (KP h hr)
theorem UU {T T':Tok} {w:World} {r:R} {v:Value} {fp:Cell→Prop} (h:@Ie T w r v fp):r.plain=true→@Ie T' w r v fp:=by
  induction h with
  |int=>exact fun _=>.int _ _
  |bool=>exact fun _=>.bool _
  |str=>exact fun _=>.str _
  |tok=>exact fun h=>nomatch h
  |KT v h=>exact fun _=>.KT v h
  |sl t xs a cap b o vs fs fp IH ha JR hc _ hd1 hd2 hfp ih=>exact fun h=>.sl t xs a cap b o vs fs fp IH ha JR hc (fun i j r hr=>ih i j r hr (KP h hr)) hd1 hd2 hfp
def Blk.sim:Blk→Blk→Prop
  |.box _,.box _=>True
  |.arr _ t xs,.arr _ t' ys=>t.sz=t'.sz∧xs.length=ys.length
  |_,_=>False
theorem S6 {sh:Option (List Nat)} {t:Ty} {xs:List t.El} {B:Blk} (h:(Blk.arr sh t xs).sim B):∃sh' t' xs',B=.arr sh' t' xs'∧t.sz=t'.sz∧xs.length=xs'.length:=by
  cases B with
  |box=>exact h.elim
  |arr sh' t' xs'=>exact⟨sh',t',xs',rfl,h.1,h.2⟩
theorem X6 {cs:List SV} {B:Blk} (h:(Blk.box cs).sim B):∃cs',B=.box cs':=by
  cases B with
  |box cs'=>exact⟨cs',rfl⟩
  |arr=>exact h.elim
theorem GG.move {T T':Tok} {w:World} {H H':GV} {pl pl':Pl} {k:Nat} (hH:∀i B,look H i=some B→∃B',look H' i=some B'∧B.sim B') (hh:∀i,pl'.hdr i=pl.hdr i)
    (ho:∀d p,mem k d=false→okd H pl d p→okd H' pl' d p) {v:SV} {u:Value} (h:@GG T w H pl v u):v.less k=true→@GG T' w H' pl' v u:=by
  induction h with
  | r d x v hx =>
    intro hl
    simp only[SV.less,Bool.and_eq_true]at hl
    exact .r d x v ((Nn hx hl.1).frame fun p u hp hu=>⟨ho d p (KO hl.2) hp,hu⟩)
  |H5=>exact fun _=>.H5
  |K0=>exact fun _=>.K0
  | own i sh t xs hi =>
    intro _
    obtain⟨B',h1,h2⟩:=hH i _ hi
    obtain⟨sh',t',xs',rfl,h3,h4⟩:=S6 h2
    rw[←hh i]
    exact .own i sh' t' xs' h1
  | sub i o n sh t xs a a' cap cap' hi hhd hn hc hc' ha =>
    intro _
    obtain⟨B',h1,h2⟩:=hH i _ hi
    obtain⟨sh',t',xs',rfl,h3,h4⟩:=S6 h2
    exact .sub i o n sh' t' xs' a a' cap cap' h1 (by rw[hh i,hhd,h4]) (by omega) hc hc' (by rw[←h3];exact ha)
  | bsl i n cs a hi hhd =>
    intro _
    obtain⟨B',h1,h2⟩:=hH i _ hi
    obtain⟨cs',rfl⟩:=X6 h2
    exact .bsl i n cs' a h1 ((hh i).trans hhd)
  | MZ i o cs b m hi hhd =>
    intro _
    obtain⟨B',h1,h2⟩:=hH i _ hi
    obtain⟨cs',rfl⟩:=X6 h2
    exact .MZ i o cs' b m h1 ((hh i).trans hhd)
  | Mj i x o sh t xs b m n cap hi hx hhd =>
    intro _
    obtain⟨B',h1,h2⟩:=hH i _ hi
    obtain⟨sh',t',xs',rfl,h3,h4⟩:=S6 h2
    rw[h3]
    exact .Mj i x o sh' t' xs' b m n cap h1 (by omega) ((hh i).trans hhd)
  |inn=>exact fun h=>nomatch h
  | Jp d cs b o vs hc hr =>
    intro hl
    simp only[SV.less,Bool.and_eq_true]at hl
    have hk:=KO hl.2
    exact .Jp d cs b o vs (fun j r hj=>⟨ho d _ hk (hc j r hj).1,(hc j r hj).2⟩) fun j r hj=>(Nn (hr j r hj) (Lu hl.1 j r hj)).frame fun p u hp hu=>⟨ho d p hk hp,hu⟩
  |agg cs vs h1 h2 _ ih=>exact fun hl=>.agg cs vs h1 h2 fun j x v hx hv=>ih j x v hx hv (Ks hl j x hx)
  |tup cs vs h1 _ ih=>exact fun hl=>.tup cs vs h1 fun j x v hx hv=>ih j x v hx hv (Ks hl j x hx)
  | fn f as bs us vs h1 _ h2 _ ih1 ih2 =>
    intro hl
    have hl:(OZ k as&&OZ k bs)=true:=hl
    rw[Bool.and_eq_true]at hl
    exact .fn f as bs us vs h1 (fun j x v hx hv=>ih1 j x v hx hv (Ks hl.1 j x hx)) h2 fun j x v hx hv=>ih2 j x v hx hv (Ks hl.2 j x hx)
  |undef v=>exact fun _=>.undef v
theorem HV.move {T T':Tok} {w:World} {H H':GV} {pl pl':Pl} {k i:Nat} (hH:∀i B,look H i=some B→∃B',look H' i=some B'∧B.sim B') (hh:∀i,pl'.hdr i=pl.hdr i)
    (ho:∀d p,mem k d=false→okd H pl d p→okd H' pl' d p) {B:Blk} (hf:pl'.fp i=pl.fp i) (h:@HV T w H pl i B) (hl:B.less k=true):@HV T' w H' pl' i B:=by
  cases B with
  | box cs =>
    obtain⟨b,o,h1,h2,h3⟩:=h
    refine⟨b,o,(hh i).trans h1,fun p=>by rw[hf];exact h2 p,fun j v hv=>?_⟩
    obtain⟨u,g1,g2,g3,g4⟩:=h3 j v hv
    exact⟨u,g1,g2,g3,g4.move hH hh ho (Ks hl j v hv)⟩
  | arr sh t xs =>
    cases sh with
    | none =>
      obtain⟨⟨a,cap,b,o,vs,fs,q1,q2,q3,q4,q5,q6,q7,q8,q9⟩⟩:=h
      exact⟨⟨a,cap,b,o,vs,fs,(hh i).trans q1,q2,q3,q4,q5,fun i j r hc=>UU (q6 i j r hc) (KP hl hc),q7,q8,fun p=>by rw[hf];exact q9 p⟩⟩
    | some d =>
      simp only[Blk.less,Bool.and_eq_true]at hl
      obtain⟨⟨a,cap,b,o,vs,fs,q1,q2,q3,q4,q5,q6,q7,q8,q9⟩⟩:=h
      exact⟨⟨a,cap,b,o,vs,fs,(hh i).trans q1,q2,q3,q4,q5,fun i j r hc=>⟨(Nn (q6 i j r hc).1 (KP hl.1 hc)).frame fun p u hp hu=>⟨ho d p (KO hl.2) hp,hu⟩,(q6 i j r hc).2⟩,q7,q8,fun p=>by rw[hf];exact q9 p⟩⟩
section
variable [Tok]
end
end Go.Proofs.Ev
set_option linter.unusedVariables false
set_option linter.unusedSimpArgs false
namespace Go.Proofs.Ev
variable [Tok]
set_option linter.unusedSectionVars false
def R.ty:R→Ty
  |.int k _=>.int k
  |.bool _=>.bool
  |.str _=>.str
  |.sl t _=>.sl t
  |.tok _=>.tok
  |.KT=>.st .shape
inductive R.Wf:R→Prop
  |int (k:IntKind) (n:Int) (h:(Lit.int k n).wf=true):R.Wf (.int k n)
  |bool (b:Bool):R.Wf (.bool b)
  |str (l:List UInt8) (h:l.length≤maxLen):R.Wf (.str l)
  |sl (t:Ty) (xs:List t.El) (h:∀i j r,GM t xs i j r→R.Wf r) (hl:xs.length≤maxLen):R.Wf (.sl t xs)
theorem Jo (t:Ty) (r:R) (h:r.ty=t) (hs:∀s,t≠.st s):∃x,t.Nr r=some x:=by
  subst h
  cases r with
  |int k n=>exact⟨n,by simp[Ty.Nr,R.ty]⟩
  |bool b=>exact⟨b,by simp[Ty.Nr,R.ty]⟩
  |str l=>exact⟨l,by simp[Ty.Nr,R.ty]⟩
  |sl t xs=>exact⟨xs,by simp[Ty.Nr,R.ty]⟩
  |tok n=>exact⟨n,by simp[Ty.Nr,R.ty]⟩
  |KT=>exact(hs .shape rfl).elim
theorem YO {r:R} (h:r.ty=.tok):∃n,r=.tok n:=by cases r<;>simp_all [R.ty]
theorem Hh {r:R} {k:IntKind} (h:r.ty=.int k):∃n,r=.int k n:=by cases r<;>simp_all [R.ty]
theorem Z0 {r:R} (h:r.ty=.bool):∃n,r=.bool n:=by cases r<;>simp_all [R.ty]
theorem MK {r:R} {t:Ty} (h:r.ty=.sl t):∃xs,r=.sl t xs:=by
  cases r with
  |sl t' xs=>cases h;exact⟨xs,rfl⟩
  |_=>exact nomatch h
theorem S7:(rs:List R)→rs.map R.ty=S.tys .shape→∃x,QS rs=some x
  | [x0, x1, x2], h => by
    simp only[S.tys,List.map_cons,List.map_nil,List.cons.injEq,and_true]at h
    obtain⟨h0,h1,h2⟩:=h
    obtain⟨_,rfl⟩:=Hh h0
    obtain⟨_,rfl⟩:=Hh h1
    obtain⟨_,rfl⟩:=Hh h2
    simp[QS,R.asI,R.asB,R.asL]
  |[],h=>by have:=congrArg List.length h;simp[S.tys]at this
  |[_],h=>by have:=congrArg List.length h;simp[S.tys]at this
  |[_,_],h=>by have:=congrArg List.length h;simp[S.tys]at this
  |_::_::_::_::_,h=>by have:=congrArg List.length h;simp[S.tys]at this
theorem RU:(rs:List R)→rs.map R.ty=S.tys .KZ→∃x,NX rs=some x
  | [x0, x1, x2, x3], h => by
    simp only[S.tys,List.map_cons,List.map_nil,List.cons.injEq,and_true]at h
    obtain⟨h0,h1,h2,h3⟩:=h
    obtain⟨_,rfl⟩:=Hh h0
    obtain⟨_,rfl⟩:=Hh h1
    obtain⟨_,rfl⟩:=Hh h2
    obtain⟨_,rfl⟩:=MK h3
    simp[NX,R.asI,R.asB,R.asL]
  |[],h=>by have:=congrArg List.length h;simp[S.tys]at this
  |[_],h=>by have:=congrArg List.length h;simp[S.tys]at this
  |[_,_],h=>by have:=congrArg List.length h;simp[S.tys]at this
  |[_,_,_],h=>by have:=congrArg List.length h;simp[S.tys]at this
  |_::_::_::_::_::_,h=>by have:=congrArg List.length h;simp[S.tys]at this
theorem S8:(rs:List R)→rs.map R.ty=S.tys .Kg→∃x,QU rs=some x
  | [x0, x1, x2, x3, x4, x5, x6, x7, x8], h => by
    simp only[S.tys,List.map_cons,List.map_nil,List.cons.injEq,and_true]at h
    obtain⟨h0,h1,h2,h3,h4,h5,h6,h7,h8⟩:=h
    obtain⟨_,rfl⟩:=Hh h0
    obtain⟨_,rfl⟩:=Hh h1
    obtain⟨_,rfl⟩:=Hh h2
    obtain⟨_,rfl⟩:=Hh h3
    obtain⟨_,rfl⟩:=Hh h4
    obtain⟨_,rfl⟩:=Hh h5
    obtain⟨_,rfl⟩:=Hh h6
    obtain⟨_,rfl⟩:=MK h7
    obtain⟨_,rfl⟩:=MK h8
    simp[QU,R.asI,R.asB,R.asL]
  |[],h=>by have:=congrArg List.length h;simp[S.tys]at this
  |[_],h=>by have:=congrArg List.length h;simp[S.tys]at this
  |[_,_],h=>by have:=congrArg List.length h;simp[S.tys]at this
  |[_,_,_],h=>by have:=congrArg List.length h;simp[S.tys]at this
  |[_,_,_,_],h=>by have:=congrArg List.length h;simp[S.tys]at this
  |[_,_,_,_,_],h=>by have:=congrArg List.length h;simp[S.tys]at this
  |[_,_,_,_,_,_],h=>by have:=congrArg List.length h;simp[S.tys]at this
  |[_,_,_,_,_,_,_],h=>by have:=congrArg List.length h;simp[S.tys]at this
  |[_,_,_,_,_,_,_,_],h=>by have:=congrArg List.length h;simp[S.tys]at this
  |_::_::_::_::_::_::_::_::_::_::_,h=>by have:=congrArg List.length h;simp[S.tys]at this
theorem S9:(rs:List R)→rs.map R.ty=S.tys .model→∃x,QV rs=some x
  | [x0, x1, x2, x3], h => by
    simp only[S.tys,List.map_cons,List.map_nil,List.cons.injEq,and_true]at h
    obtain⟨h0,h1,h2,h3⟩:=h
    obtain⟨_,rfl⟩:=Hh h0
    obtain⟨_,rfl⟩:=Hh h1
    obtain⟨_,rfl⟩:=Hh h2
    obtain⟨_,rfl⟩:=MK h3
    simp[QV,R.asI,R.asB,R.asL]
  |[],h=>by have:=congrArg List.length h;simp[S.tys]at this
  |[_],h=>by have:=congrArg List.length h;simp[S.tys]at this
  |[_,_],h=>by have:=congrArg List.length h;simp[S.tys]at this
  |[_,_,_],h=>by have:=congrArg List.length h;simp[S.tys]at this
  |_::_::_::_::_::_,h=>by have:=congrArg List.length h;simp[S.tys]at this
theorem UW:(rs:List R)→rs.map R.ty=S.tys .task→∃x,Vj rs=some x
  | [x0, x1, x2, x3, x4], h => by
    simp only[S.tys,List.map_cons,List.map_nil,List.cons.injEq,and_true]at h
    obtain⟨h0,h1,h2,h3,h4⟩:=h
    obtain⟨_,rfl⟩:=Hh h0
    obtain⟨_,rfl⟩:=MK h1
    obtain⟨_,rfl⟩:=Hh h2
    obtain⟨_,rfl⟩:=Hh h3
    obtain⟨_,rfl⟩:=Hh h4
    simp[Vj,R.asI,R.asB,R.asL]
  |[],h=>by have:=congrArg List.length h;simp[S.tys]at this
  |[_],h=>by have:=congrArg List.length h;simp[S.tys]at this
  |[_,_],h=>by have:=congrArg List.length h;simp[S.tys]at this
  |[_,_,_],h=>by have:=congrArg List.length h;simp[S.tys]at this
  |[_,_,_,_],h=>by have:=congrArg List.length h;simp[S.tys]at this
  |_::_::_::_::_::_::_,h=>by have:=congrArg List.length h;simp[S.tys]at this
theorem QJ:(rs:List R)→rs.map R.ty=S.tys .request→∃x,Mm rs=some x
  | [x0, x1, x2, x3, x4, x5, x6, x7, x8, x9, x10, x11, x12], h => by
    simp only[S.tys,List.map_cons,List.map_nil,List.cons.injEq,and_true]at h
    obtain⟨h0,h1,h2,h3,h4,h5,h6,h7,h8,h9,h10,h11,h12⟩:=h
    obtain⟨_,rfl⟩:=Hh h0
    obtain⟨_,rfl⟩:=Hh h1
    obtain⟨_,rfl⟩:=Hh h2
    obtain⟨_,rfl⟩:=Hh h3
    obtain⟨_,rfl⟩:=Hh h4
    obtain⟨_,rfl⟩:=MK h5
    obtain⟨_,rfl⟩:=Hh h6
    obtain⟨_,rfl⟩:=Hh h7
    obtain⟨_,rfl⟩:=Hh h8
    obtain⟨_,rfl⟩:=Hh h9
    obtain⟨_,rfl⟩:=MK h10
    obtain⟨_,rfl⟩:=Hh h11
    obtain⟨_,rfl⟩:=Hh h12
    simp[Mm,R.asI,R.asB,R.asL]
  |[],h=>by have:=congrArg List.length h;simp[S.tys]at this
  |[_],h=>by have:=congrArg List.length h;simp[S.tys]at this
  |[_,_],h=>by have:=congrArg List.length h;simp[S.tys]at this
  |[_,_,_],h=>by have:=congrArg List.length h;simp[S.tys]at this
  |[_,_,_,_],h=>by have:=congrArg List.length h;simp[S.tys]at this
  |[_,_,_,_,_],h=>by have:=congrArg List.length h;simp[S.tys]at this
  |[_,_,_,_,_,_],h=>by have:=congrArg List.length h;simp[S.tys]at this
  |[_,_,_,_,_,_,_],h=>by have:=congrArg List.length h;simp[S.tys]at this
  |[_,_,_,_,_,_,_,_],h=>by have:=congrArg List.length h;simp[S.tys]at this
  |[_,_,_,_,_,_,_,_,_],h=>by have:=congrArg List.length h;simp[S.tys]at this
  |[_,_,_,_,_,_,_,_,_,_],h=>by have:=congrArg List.length h;simp[S.tys]at this
  |[_,_,_,_,_,_,_,_,_,_,_],h=>by have:=congrArg List.length h;simp[S.tys]at this
  |[_,_,_,_,_,_,_,_,_,_,_,_],h=>by have:=congrArg List.length h;simp[S.tys]at this
  |_::_::_::_::_::_::_::_::_::_::_::_::_::_::_,h=>by have:=congrArg List.length h;simp[S.tys]at this
theorem UX:(rs:List R)→rs.map R.ty=S.tys .step→∃x,Vk rs=some x
  | [x0, x1, x2, x3, x4, x5, x6, x7], h => by
    simp only[S.tys,List.map_cons,List.map_nil,List.cons.injEq,and_true]at h
    obtain⟨h0,h1,h2,h3,h4,h5,h6,h7⟩:=h
    obtain⟨_,rfl⟩:=Hh h0
    obtain⟨_,rfl⟩:=Hh h1
    obtain⟨_,rfl⟩:=Hh h2
    obtain⟨_,rfl⟩:=MK h3
    obtain⟨_,rfl⟩:=Hh h4
    obtain⟨_,rfl⟩:=Hh h5
    obtain⟨_,rfl⟩:=Hh h6
    obtain⟨_,rfl⟩:=MK h7
    simp[Vk,R.asI,R.asB,R.asL]
  |[],h=>by have:=congrArg List.length h;simp[S.tys]at this
  |[_],h=>by have:=congrArg List.length h;simp[S.tys]at this
  |[_,_],h=>by have:=congrArg List.length h;simp[S.tys]at this
  |[_,_,_],h=>by have:=congrArg List.length h;simp[S.tys]at this
  |[_,_,_,_],h=>by have:=congrArg List.length h;simp[S.tys]at this
  |[_,_,_,_,_],h=>by have:=congrArg List.length h;simp[S.tys]at this
  |[_,_,_,_,_,_],h=>by have:=congrArg List.length h;simp[S.tys]at this
  |[_,_,_,_,_,_,_],h=>by have:=congrArg List.length h;simp[S.tys]at this
  |_::_::_::_::_::_::_::_::_::_,h=>by have:=congrArg List.length h;simp[S.tys]at this
theorem Ta:(rs:List R)→rs.map R.ty=S.tys .event→∃x,QW rs=some x
  | [x0, x1, x2, x3, x4, x5, x6], h => by
    simp only[S.tys,List.map_cons,List.map_nil,List.cons.injEq,and_true]at h
    obtain⟨h0,h1,h2,h3,h4,h5,h6⟩:=h
    obtain⟨_,rfl⟩:=Hh h0
    obtain⟨_,rfl⟩:=Hh h1
    obtain⟨_,rfl⟩:=Hh h2
    obtain⟨_,rfl⟩:=Hh h3
    obtain⟨_,rfl⟩:=Hh h4
    obtain⟨_,rfl⟩:=Hh h5
    obtain⟨_,rfl⟩:=MK h6
    simp[QW,R.asI,R.asB,R.asL]
  |[],h=>by have:=congrArg List.length h;simp[S.tys]at this
  |[_],h=>by have:=congrArg List.length h;simp[S.tys]at this
  |[_,_],h=>by have:=congrArg List.length h;simp[S.tys]at this
  |[_,_,_],h=>by have:=congrArg List.length h;simp[S.tys]at this
  |[_,_,_,_],h=>by have:=congrArg List.length h;simp[S.tys]at this
  |[_,_,_,_,_],h=>by have:=congrArg List.length h;simp[S.tys]at this
  |[_,_,_,_,_,_],h=>by have:=congrArg List.length h;simp[S.tys]at this
  |_::_::_::_::_::_::_::_::_,h=>by have:=congrArg List.length h;simp[S.tys]at this
theorem Tb:(rs:List R)→rs.map R.ty=S.tys .entry→∃x,QX rs=some x
  | [x0, x1, x2, x3, x4, x5, x6, x7, x8, x9, x10, x11, x12], h => by
    simp only[S.tys,List.map_cons,List.map_nil,List.cons.injEq,and_true]at h
    obtain⟨h0,h1,h2,h3,h4,h5,h6,h7,h8,h9,h10,h11,h12⟩:=h
    obtain⟨_,rfl⟩:=Hh h0
    obtain⟨_,rfl⟩:=Hh h1
    obtain⟨_,rfl⟩:=Hh h2
    obtain⟨_,rfl⟩:=Hh h3
    obtain⟨_,rfl⟩:=MK h4
    obtain⟨_,rfl⟩:=Hh h5
    obtain⟨_,rfl⟩:=Hh h6
    obtain⟨_,rfl⟩:=Hh h7
    obtain⟨_,rfl⟩:=MK h8
    obtain⟨_,rfl⟩:=Hh h9
    obtain⟨_,rfl⟩:=Hh h10
    obtain⟨_,rfl⟩:=Hh h11
    obtain⟨_,rfl⟩:=Z0 h12
    simp[QX,R.asI,R.asB,R.asL]
  |[],h=>by have:=congrArg List.length h;simp[S.tys]at this
  |[_],h=>by have:=congrArg List.length h;simp[S.tys]at this
  |[_,_],h=>by have:=congrArg List.length h;simp[S.tys]at this
  |[_,_,_],h=>by have:=congrArg List.length h;simp[S.tys]at this
  |[_,_,_,_],h=>by have:=congrArg List.length h;simp[S.tys]at this
  |[_,_,_,_,_],h=>by have:=congrArg List.length h;simp[S.tys]at this
  |[_,_,_,_,_,_],h=>by have:=congrArg List.length h;simp[S.tys]at this
  |[_,_,_,_,_,_,_],h=>by have:=congrArg List.length h;simp[S.tys]at this
  |[_,_,_,_,_,_,_,_],h=>by have:=congrArg List.length h;simp[S.tys]at this
  |[_,_,_,_,_,_,_,_,_],h=>by have:=congrArg List.length h;simp[S.tys]at this
  |[_,_,_,_,_,_,_,_,_,_],h=>by have:=congrArg List.length h;simp[S.tys]at this
  |[_,_,_,_,_,_,_,_,_,_,_],h=>by have:=congrArg List.length h;simp[S.tys]at this
  |[_,_,_,_,_,_,_,_,_,_,_,_],h=>by have:=congrArg List.length h;simp[S.tys]at this
  |_::_::_::_::_::_::_::_::_::_::_::_::_::_::_,h=>by have:=congrArg List.length h;simp[S.tys]at this
theorem UY:(rs:List R)→rs.map R.ty=S.tys .Tj→∃x,Vl rs=some x
  | [x0, x1, x2], h => by
    simp only[S.tys,List.map_cons,List.map_nil,List.cons.injEq,and_true]at h
    obtain⟨h0,h1,h2⟩:=h
    obtain⟨_,rfl⟩:=Hh h0
    obtain⟨_,rfl⟩:=Hh h1
    obtain⟨_,rfl⟩:=Hh h2
    simp[Vl,R.asI,R.asB,R.asL]
  |[],h=>by have:=congrArg List.length h;simp[S.tys]at this
  |[_],h=>by have:=congrArg List.length h;simp[S.tys]at this
  |[_,_],h=>by have:=congrArg List.length h;simp[S.tys]at this
  |_::_::_::_::_,h=>by have:=congrArg List.length h;simp[S.tys]at this
theorem Hb {α β:Type} {f:α→β} {rs:List α} {t:β} {ts:List β} (h:rs.map f=t::ts):∃r rs',rs=r::rs'∧f r=t∧rs'.map f=ts:=by
  cases rs with
  |nil=>exact nomatch h
  |cons r rs=>rw[List.map_cons,List.cons.injEq]at h;exact⟨r,rs,rfl,h.1,h.2⟩
theorem Tc (rs:List R) (h:rs.map R.ty=S.tys .NV):∃x,Tl rs=some x:=by
  obtain⟨a0,rs,rfl,g0,h⟩:=Hb h
  obtain⟨a1,rs,rfl,g1,h⟩:=Hb h
  obtain⟨a2,rs,rfl,g2,h⟩:=Hb h
  obtain⟨a3,rs,rfl,g3,h⟩:=Hb h
  obtain⟨a4,rs,rfl,g4,h⟩:=Hb h
  rw[List.map_eq_nil_iff]at h
  subst h
  obtain⟨x0,rfl⟩:=Hh g0
  obtain⟨x1,rfl⟩:=YO g1
  obtain⟨x2,rfl⟩:=Hh g2
  obtain⟨x3,rfl⟩:=Hh g3
  obtain⟨x4,rfl⟩:=Hh g4
  exact⟨_,rfl⟩
theorem O0 (rs:List R) (h:rs.map R.ty=S.tys .ID):∃x,Mn rs=some x:=by
  obtain⟨a0,rs,rfl,g0,h⟩:=Hb h
  obtain⟨a1,rs,rfl,g1,h⟩:=Hb h
  obtain⟨a2,rs,rfl,g2,h⟩:=Hb h
  obtain⟨a3,rs,rfl,g3,h⟩:=Hb h
  obtain⟨a4,rs,rfl,g4,h⟩:=Hb h
  obtain⟨a5,rs,rfl,g5,h⟩:=Hb h
  obtain⟨a6,rs,rfl,g6,h⟩:=Hb h
  obtain⟨a7,rs,rfl,g7,h⟩:=Hb h
  obtain⟨a8,rs,rfl,g8,h⟩:=Hb h
  obtain⟨a9,rs,rfl,g9,h⟩:=Hb h
  obtain⟨a10,rs,rfl,g10,h⟩:=Hb h
  obtain⟨a11,rs,rfl,g11,h⟩:=Hb h
  obtain⟨a12,rs,rfl,g12,h⟩:=Hb h
  rw[List.map_eq_nil_iff]at h
  subst h
  obtain⟨x0,rfl⟩:=Hh g0
  obtain⟨x1,rfl⟩:=Hh g1
  obtain⟨x2,rfl⟩:=Hh g2
  obtain⟨x3,rfl⟩:=Hh g3
  obtain⟨x4,rfl⟩:=Hh g4
  obtain⟨x5,rfl⟩:=YO g5
  obtain⟨x6,rfl⟩:=Hh g6
  obtain⟨x7,rfl⟩:=Hh g7
  obtain⟨x8,rfl⟩:=Hh g8
  obtain⟨x9,rfl⟩:=Hh g9
  obtain⟨x10,rfl⟩:=YO g10
  obtain⟨x11,rfl⟩:=Hh g11
  obtain⟨x12,rfl⟩:=Hh g12
  exact⟨_,rfl⟩
theorem QK (t:Ty) (rs:List R) (h:rs.map R.ty=t.tys):∃x,t.Is rs=some x:=by
  have single:∀{t:Ty},(∀s,t≠.st s)→t.tys=[t]→rs.map R.ty=t.tys→∃r,rs=[r]∧r.ty=t:=fun{t} _ e h=>by
    rw[e]at h
    match rs,h with
    |[r],h=>simp at h;exact⟨r,rfl,h⟩
  have key:∀s:S,rs.map R.ty=s.tys→∃x,s.Is rs=some x:=fun s h=>by
    cases s with
    |shape=>exact S7 rs h
    |KZ=>exact RU rs h
    |Kg=>exact S8 rs h
    |model=>exact S9 rs h
    |task=>exact UW rs h
    |request=>exact QJ rs h
    |step=>exact UX rs h
    |event=>exact Ta rs h
    |entry=>exact Tb rs h
    |Tj=>exact UY rs h
    |NV=>exact Tc rs h
    |ID=>exact O0 rs h
  cases t with
  |st s=>exact key s h
  | ho s =>
    obtain⟨x,hx⟩:=key s h
    exact⟨some x,by show(s.Is rs).bind _=_;rw[hx];rfl⟩
  | hl t =>
    have h:rs.map R.ty=[.sl t]:=h
    obtain⟨r,rs',rfl,hr,h⟩:=List.map_eq_cons_iff.1 h
    rw[List.map_eq_nil_iff]at h
    subst h
    obtain⟨xs,rfl⟩:=MK hr
    exact⟨some xs,by show(if h:t=t then some (some (h▸xs))else none)=_;rw[dif_pos rfl];rfl⟩
  |tok=>obtain⟨r,rfl,e⟩:=single (t:=.tok) (fun s h=>nomatch h) rfl h;exact Jo _ r e (fun s h=>nomatch h)
  |int k=>obtain⟨r,rfl,e⟩:=single (t:=.int k) (fun s h=>nomatch h) rfl h;exact Jo _ r e (fun s h=>nomatch h)
  |bool=>obtain⟨r,rfl,e⟩:=single (t:=.bool) (fun s h=>nomatch h) rfl h;exact Jo _ r e (fun s h=>nomatch h)
  |str=>obtain⟨r,rfl,e⟩:=single (t:=.str) (fun s h=>nomatch h) rfl h;exact Jo _ r e (fun s h=>nomatch h)
  |sl t=>obtain⟨r,rfl,e⟩:=single (t:=.sl t) (fun s h=>nomatch h) rfl h;exact Jo _ r e (fun s h=>nomatch h)
def T8 (P:Program) (g:TypeId→Option (List Ty)):Nat→List Field→Option (List Ty)
  |_,[]=>some []
  |off,f::l=>cond (Nat.beq f.offset off) ((g f.type).bind fun ts=>cond (Nat.beq (P.cellsOf f.type) ts.length) ((T8 P g (off+ts.length) l).bind fun us=>some (ts++us)) none) none
def NG (P:Program) (tt:TT):Nat→TypeId→Option (List Ty)
  |0,_=>none
  | n + 1, T => match P.underlying T with
    |some (.int k)=>some [.int k]
    |some .bool=>some [.bool]
    |some .string=>some [.str]
    |some (.slice e)=>(tt e).bind fun t=>(NG P tt n e).bind fun ts=>if ts=t.tys∧P.cellsOf e=ts.length then some [.sl t]else none
    |some (.struct fs)=>(T8 P (NG P tt n) 0 fs.toList).bind fun ts=>cond (Nat.beq (P.cellsOf T) ts.length) (some ts) none
    |_=>none
def J1 (w:World) (ts:List Ty) (cs:List Value):Prop:=
  ∃rs:List R,rs.map R.ty=ts∧rs.length=cs.length∧∀(j:Nat) (r:R) (v:Value),rs[j]? =some r→cs[j]? =some v→I4 w (fun _=>True) r v∧r.Wf
theorem J1.one {w:World} {r:R} {v:Value} (h:I4 w (fun _=>True) r v) (hw:r.Wf):J1 w [r.ty] [v]:=
  ⟨[r],rfl,rfl,fun j r' v' h1 h2=>by
    cases j with
    |zero=>simp at h1 h2;subst h1 h2;exact⟨h,hw⟩
    |succ j=>simp at h1⟩
theorem J1.append {w:World} {ts us:List Ty} {cs ds:List Value} (h:J1 w ts cs) (g:J1 w us ds):J1 w (ts++us) (cs++ds):=by
  obtain⟨rs,h1,h2,h3⟩:=h
  obtain⟨qs,g1,g2,g3⟩:=g
  refine⟨rs++qs,by simp[h1,g1],by simp[h2,g2],fun j r v hr hv=>?_⟩
  by_cases c:j<rs.length
  · rw[List.getElem?_append_left c]at hr
    rw[List.getElem?_append_left (by omega)]at hv
    exact h3 j r v hr hv
  · rw[List.getElem?_append_right (by omega)]at hr
    rw[List.getElem?_append_right (by omega),←h2]at hv
    exact g3 _ r v hr hv
section
variable {H:Type} {enc:TypeId× Value→H} {P:Program} {tt:TT} {w:World} {base:Nat} {sp:Nat→Bool} {held:Bool}
theorem OG {g:TypeId→Option (List Ty)} {F:TypeId→List Value→Option (DataW H× List MemPlace)} (hg:∀T cs x ts,F T cs=some x→g T=some ts→cs.length=P.cellsOf T→J1 w ts cs) (cs:List Value):
    ∀(fs:List Field) (off:Nat) (ts:List Ty) (xs:List (DataW H× List MemPlace)),T8 P g off fs=some ts→fs.mapM (fun f=>F f.type ((cs.drop f.offset).take (P.cellsOf f.type)))=some xs→off+ts.length=cs.length→J1 w ts (cs.drop off)
  | [], off, ts, xs, h, _, hl => by
    cases h
    have:cs.drop off=[]:=List.drop_eq_nil_of_le (by simp at hl;omega)
    rw[this];exact⟨[],rfl,rfl,fun j r v hr _=>by simp at hr⟩
  | f :: fs, off, ts, xs, h, hm, hl => by
    simp only[T8]at h
    cases ho:Nat.beq f.offset off<;>simp only[ho,cond_true,cond_false,Option.bind_eq_some_iff]at h
    · exact nomatch h
    have ho:=Nat.eq_of_beq_eq_true ho
    obtain⟨us,hu,h⟩:=h
    cases hc:Nat.beq (P.cellsOf f.type) us.length<;>simp only[hc,cond_true,cond_false,Option.bind_eq_some_iff,Option.some.injEq]at h
    · exact nomatch h
    have hc:=Nat.eq_of_beq_eq_true hc
    obtain⟨vs,hv,rfl⟩:=h
    rw[List.mapM_cons]at hm
    cases hF:F f.type ((cs.drop f.offset).take (P.cellsOf f.type))with
    |none=>rw[hF]at hm;exact nomatch hm
    | some y =>
      cases hR:fs.mapM (fun f=>F f.type ((cs.drop f.offset).take (P.cellsOf f.type)))with
      |none=>rw[hF,hR]at hm;exact nomatch hm
      | some ys =>
        rw[List.length_append]at hl
        have h1:=hg _ _ _ _ hF hu (by rw[List.length_take,List.length_drop];omega)
        have h2:=OG hg cs fs (off+us.length) vs ys hv hR (by omega)
        rw[ho,hc]at h1
        have:=h1.append h2
        rwa [←List.drop_drop,List.take_append_drop]at this
theorem trod_int {fuel:Nat} {T:TypeId} {cs:List Value} {x:DataW H× List MemPlace} {k:IntKind} (hu:P.underlying T=some (.int k)) (h:DataW.trod enc P w base sp held fuel T cs=some x):∃n,cs=[.int k n]∧(Lit.int k n).wf=true:=by
  cases fuel with
  |zero=>exact nomatch h
  | succ fuel =>
    unfold DataW.trod at h
    simp only[hu]at h
    match cs,h with
    | [.int k' n], h =>
      simp only at h
      split at h
      · rename_i hc;obtain⟨rfl,hw⟩:=hc;exact⟨n,rfl,hw⟩
      · exact nomatch h
theorem trod_bool {fuel:Nat} {T:TypeId} {cs:List Value} {x:DataW H× List MemPlace} (hu:P.underlying T=some .bool) (h:DataW.trod enc P w base sp held fuel T cs=some x):∃b,cs=[.bool b]:=by
  cases fuel with
  |zero=>exact nomatch h
  | succ fuel =>
    unfold DataW.trod at h
    simp only[hu]at h
    match cs,h with
    |[.bool b],h=>exact⟨b,rfl⟩
theorem XN {fuel:Nat} {T:TypeId} {cs:List Value} {x:DataW H× List MemPlace} (hu:P.underlying T=some .string) (h:DataW.trod enc P w base sp held fuel T cs=some x):∃s,cs=[.string s]∧s.size≤maxLen:=by
  cases fuel with
  |zero=>exact nomatch h
  | succ fuel =>
    unfold DataW.trod at h
    simp only[hu]at h
    match cs,h with
    | [.string s], h =>
      simp only at h
      split at h
      · rename_i hc;exact⟨s,rfl,hc⟩
      · exact nomatch h
theorem Td {fuel:Nat} {T:TypeId} {cs:List Value} {x:DataW H× List MemPlace} {fs:Array Field} (hu:P.underlying T=some (.struct fs)) (h:DataW.trod enc P w base sp held fuel T cs=some x):
    ∃fuel' xs,cs.length=P.cellsOf T∧fs.toList.mapM (fun f=>DataW.trod enc P w base sp held fuel' f.type ((cs.drop f.offset).take (P.cellsOf f.type)))=some xs:=by
  cases fuel with
  |zero=>exact nomatch h
  | succ fuel =>
    unfold DataW.trod at h
    simp only[hu]at h
    split at h
    · rename_i hl
      obtain⟨xs,hx,_⟩:=Option.map_eq_some_iff.1 h
      exact⟨fuel,xs,hl,hx⟩
    · exact nomatch h
theorem OH {α:Type} {Q:Nat→α→Prop}:∀(n:Nat),(∀i,i<n→∃x,Q i x)→∃l:List α,l.length=n∧∀(i:Nat) (x:α),l[i]? =some x→Q i x
  |0,_=>⟨[],rfl,fun i x h=>by simp at h⟩
  | n + 1, h => by
    obtain⟨l,h1,h2⟩:=OH n fun i hi=>h i (by omega)
    obtain⟨x,hx⟩:=h n (by omega)
    refine⟨l++[x],by simp[h1],fun i y hy=>?_⟩
    by_cases c:i<l.length
    · rw[List.getElem?_append_left c]at hy;exact h2 i y hy
    · rw[List.getElem?_append_right (by omega)]at hy
      have hi:i-l.length<1:=by have:=(List.getElem?_eq_some_iff.1 hy).1;simpa using this
      have:i=n:=by omega
      subst this
      have:i-l.length=0:=by omega
      rw[this]at hy;simp at hy;subst hy;exact hx
theorem WH {a:Addr} {v:Value} (h:w.cell? a=some v):a.spot=none:=by
  unfold World.cell? at h
  cases hs:a.spot with
  |none=>rfl
  |some s=>simp[hs]at h;split at h<;>simp_all
theorem PS {n j:Nat} (h:j<n):(List.range n)[j]? =some j:=by rw[List.getElem?_eq_getElem (by simpa using h)];simp
theorem Np:∀(n fuel:Nat) (T:TypeId) (cs:List Value) (x:DataW H× List MemPlace) (ts:List Ty),DataW.trod enc P w base sp held fuel T cs=some x→NG P tt n T=some ts→J1 w ts cs
  |0,_,_,_,_,_,_,h=>nomatch h
  | n + 1, fuel, T, cs, x, ts, h, hf => by
    unfold NG at hf
    split at hf
    · rename_i k hu
      cases hf
      obtain⟨m,rfl,hw⟩:=trod_int hu h
      exact J1.one (.int k m) (.int k m hw)
    · rename_i hu
      cases hf
      obtain⟨b,rfl⟩:=trod_bool hu h
      exact J1.one (.bool b) (.bool b)
    · rename_i hu
      cases hf
      obtain⟨s,rfl,hsl⟩:=XN hu h
      have:s=⟨s.data.toList.toArray⟩:=by simp
      rw[this]
      exact J1.one (.str s.data.toList) (.str _ (by simpa using hsl))
    · rename_i e hu
      simp only[Option.bind_eq_some_iff]at hf
      obtain⟨t,ht,us,hus,hf⟩:=hf
      split at hf
      · rename_i hc
        obtain⟨rfl,hsz⟩:=hc
        cases hf
        rw[Ty.M6]at hsz
        rcases DataW.trod_slice hu h with⟨rfl,_⟩|⟨a,len,cap,elems,rest,n',_,rfl,_,hb,hlc,IH,hlen,hel,_⟩
        · exact J1.one (.sl t [] none 0 0 0 (fun _ _=>undef) (Nat.le_refl _) (.inl rfl) (fun i j r ⟨x,hx,_⟩=>by simp at hx) (fun i j r ⟨x,hx,_⟩=>by simp at hx)) (.sl t [] (fun i j r ⟨x,hx,_⟩=>by simp at hx) (Nat.zero_le _))
        · subst hlen
          have hel':∀i,i<elems.length→∃x:t.El,∃ds,w.cells? base (a.add (i*P.cellsOf e)) (P.cellsOf e)=some ds∧(t.cells x).length=ds.length∧
              ∀(j:Nat) (r:R) (v:Value),(t.cells x)[j]? =some r→ds[j]? =some v→I4 w (fun _=>True) r v∧r.Wf:=fun i hi=>by
            have:=hel i hi
            rw[List.getElem?_eq_getElem hi]at this
            obtain⟨ds,h1,h2⟩:=Option.bind_eq_some_iff.1 this
            obtain⟨rs,g1,g2,g3⟩:=Np n n' e ds _ _ h2 hus
            obtain⟨x,hx⟩:=QK t rs g1
            have hc:=Ty.Hy t rs x hx
            exact⟨x,ds,h1,by rw[hc];exact g2,by rw[hc];exact g3⟩
          obtain⟨xs,hxl,hxs⟩:=OH elems.length hel'
          have key:∀i j r,GM t xs i j r→a.spot=none∧∃v,w.at? (a.block,a.off+(i*t.sz+j))=some v∧I4 w (fun _=>True) r v∧r.Wf:=fun i j r ⟨x,hx,hr⟩=>by
            obtain⟨ds,h1,h2,h3⟩:=hxs i x hx
            have hj:j<ds.length:=by rw[←h2];exact(List.getElem?_eq_some_iff.1 hr).1
            unfold World.cells? at h1
            rw[if_pos (by unfold Addr.add;split<;>exact hb)]at h1
            have hl:=mapM_some_length h1
            rw[List.length_range]at hl
            have hg:=mapM_some_get h1 j j (PS (by omega))
            rw[List.getElem?_eq_getElem hj]at hg
            have hsp:a.spot=none:=by
              have hi:i<xs.length:=(List.getElem?_eq_some_iff.1 hx).1
              obtain⟨es,q1,q2,_⟩:=hxs 0 _ (List.getElem?_eq_getElem (by omega))
              have hpos:=t.IE
              rw[Ty.Hn]at q2
              unfold World.cells? at q1
              rw[if_pos (by unfold Addr.add;split<;>exact hb)]at q1
              have h0:=mapM_some_get q1 0 0 (PS (by omega))
              rw[List.getElem?_eq_getElem (by omega)]at h0
              have hs:=WH h0
              simpa[Addr.add]using hs
            refine⟨hsp,ds[j],?_,h3 j r _ hr (List.getElem?_eq_getElem hj)⟩
            have:(a.add (i*P.cellsOf e)).add j=⟨a.block,a.off+(i*t.sz+j),none⟩:=by
              obtain⟨b0,o0,s0⟩:=a
              simp only at hsp;subst hsp
              rw[hsz]
              simp only[Addr.add]
              split<;>split<;>simp<;>omega
            rw[this]at hg
            exact hg
          rw[←hxl]
          have hrep:I4 w (fun _=>True) (.sl t xs) (.slice (some a) xs.length cap):=by
            refine .sl t xs (some a) cap a.block a.off (fun i j=>(w.at? (a.block,a.off+(i*t.sz+j))).getD undef) (by omega) ?_ (fun i j r hc=>?_) (fun i j r hc=>?_)
            · cases xs with
              |nil=>exact .inl rfl
              | cons x l =>
                right
                obtain⟨r,hr⟩:=HP (t:=t) (xs:=x::l) (i:=0) (j:=0) (by simp) t.IE
                have:=(key 0 0 r hr).1
                obtain⟨b0,o0,s0⟩:=a
                simp only at this;subst this;rfl
            · obtain⟨_,v,hv,_⟩:=key i j r hc
              exact⟨trivial,by rw[hv];rfl⟩
            · obtain⟨_,v,hv,hr,_⟩:=key i j r hc
              rw[hv];exact hr
          exact J1.one hrep (.sl t xs (fun i j r hc=>by obtain⟨_,v,_,_,hw⟩:=key i j r hc;exact hw) (by omega))
      · exact nomatch hf
    · rename_i fs hu
      simp only[Option.bind_eq_some_iff]at hf
      obtain⟨us,hus,hf⟩:=hf
      cases hc:Nat.beq (P.cellsOf T) us.length<;>simp only[hc,cond_true,cond_false]at hf
      · exact nomatch hf
      cases hf
      have hc:=Nat.eq_of_beq_eq_true hc
      obtain⟨fuel',xs,hl,hx⟩:=Td hu h
      have:=OG (F:=DataW.trod enc P w base sp held fuel') (fun T cs x ts h1 h2 _=>Np n fuel' T cs x ts h1 h2) cs fs.toList 0 _ xs hus hx (by omega)
      simpa using this
    · exact nomatch hf
end
end Go.Proofs.Ev
set_option linter.unusedVariables false
set_option linter.unusedSimpArgs false
namespace Go.Proofs.Ev
variable [Tok]
set_option linter.unusedSectionVars false
open Go.ChangeShapes Go.WideShapes Go.ChangeAt Go.RowKit
def WI (P:Program) (tt:TT) (T:TypeId) (a:Arg):Prop:=
  ∃ts,NG P tt 8 T=some ts∧((∃fs,P.underlying T=some (.struct fs))→∃rs:List R,a=.agg rs∧rs.map R.ty=ts∧∀r∈rs,r.Wf)∧
    ((∀fs,P.underlying T≠some (.struct fs))→∃r:R,a=.one r∧[r.ty]=ts∧r.Wf)
def OI (P:Program) (tt:TT):List TypeId→List Arg→Prop
  |[],[]=>True
  |T::Ts,a::as=>WI P tt T a∧OI P tt Ts as
  |_,_=>False
section
variable {H:Type} {enc:TypeId× Value→H} {P:Program} {tt:TT} {w:World} {base:Nat} {sp:Nat→Bool} {held:Bool}
theorem XO {b0:Nat} {T:TypeId} {v:Value} {d:DataW H} {p:List MemPlace} {ts:List Ty} (hd:DataW.Trod enc P w base sp held T v d p) (hv:Value.okWide P w .any b0 T v) (hf:NG P tt 8 T=some ts):
    ∃a,WI P tt T a∧MB w (fun _=>True) a v:=by
  obtain⟨fuel,hd⟩:=hd
  obtain⟨rs,h1,h2,h3⟩:=Np 8 fuel T _ _ ts hd hf
  by_cases hs:∃fs,P.underlying T=some (.struct fs)
  · obtain⟨fs,hfs⟩:=hs
    simp only[Value.okWide,hfs]at hv
    obtain⟨cs,rfl,hsz,_⟩:=hv
    refine⟨.agg rs,⟨ts,hf,fun _=>⟨rs,rfl,h1,fun r hr=>?_⟩,fun h=>(h fs hfs).elim⟩,cs,rfl,by simpa[Value.cells]using h2,fun j r u hr hu=>?_⟩
    · obtain⟨j,hj⟩:=List.getElem?_of_mem hr
      have hlt:j<cs.size:=by
        have:=(List.getElem?_eq_some_iff.1 hj).1
        simp[Value.cells]at h2;omega
      exact(h3 j r cs[j] hj (by simp[Value.cells,hlt])).2
    · exact(h3 j r u hr (by simpa[Value.cells]using hu)).1
  · have one1:∀{t},rs.map R.ty=[t]→∃r,rs=[r]:=fun h=>List.length_eq_one_iff.1 (by simpa using congrArg List.length h)
    have hone:∃r,rs=[r]:=by
      unfold NG at hf
      split at hf
      · cases hf;exact one1 h1
      · cases hf;exact one1 h1
      · cases hf;exact one1 h1
      · simp only[Option.bind_eq_some_iff]at hf
        obtain⟨t,_,us,_,hf⟩:=hf
        split at hf
        · cases hf;exact one1 h1
        · exact nomatch hf
      · rename_i fs hu;exact(hs ⟨fs,hu⟩).elim
      · exact nomatch hf
    obtain⟨r,rfl⟩:=hone
    have hcells:v.cells.toList=[v]:=by
      have hnag:∀cs,v≠.agg cs:=fun cs e=>by
        subst e
        unfold NG at hf
        split at hf
        · rename_i k hu;obtain⟨n,e⟩:=okWide_int hu hv;exact nomatch e
        · rename_i hu;obtain⟨n,e⟩:=okWide_bool hu hv;exact nomatch e
        · rename_i hu;obtain⟨n,e⟩:=okWide_string hu hv;exact nomatch e
        · rename_i e hu;obtain⟨a,l,c,e⟩:=okWide_slice hu hv;exact nomatch e
        · rename_i fs hu;exact(hs ⟨fs,hu⟩).elim
        · exact nomatch hf
      cases v<;>first|rfl|exact(hnag _ rfl).elim
    rw[hcells]at h3
    have:=h3 0 r v rfl rfl
    exact⟨.one r,⟨ts,hf,fun h=>(hs h).elim,fun _=>⟨r,rfl,by simpa using h1,this.2⟩⟩,this.1⟩
theorem RV {b0:Nat}:∀{Ts:List TypeId} {vs:List Value} {ds:List (DataW H)} {ps:List MemPlace},DataW.TrodAll enc P w base sp held Ts vs ds ps→
    (∀(j:Nat) t v,Ts[j]? =some t→vs[j]? =some v→Value.okWide P w .any b0 t v)→(Ts.all fun T=>(NG P tt 8 T).isSome)=true→
    ∃as,OI P tt Ts as∧as.length=vs.length∧ds.length=Ts.length∧∀(j:Nat) (x:Arg) (u:Value),as[j]? =some x→vs[j]? =some u→MB w (fun _=>True) x u
  |[],[],[],_,_,_,_=>⟨[],trivial,rfl,rfl,fun j x u h=>by simp at h⟩
  | T :: Ts, v :: vs, d :: ds, ps, ⟨p, q, h1, h2, _⟩, hv, hf => by
    simp only[List.all_cons,Bool.and_eq_true]at hf
    obtain⟨ts,hts⟩:=Option.isSome_iff_exists.1 hf.1
    obtain⟨a,g1,g2⟩:=XO h1 (hv 0 T v rfl rfl) hts
    obtain⟨as,g3,g4,g5,g6⟩:=RV h2 (fun j t v ht hw=>hv (j+1) t v (by simpa using ht) (by simpa using hw)) hf.2
    refine⟨a::as,⟨g1,g3⟩,by simp[g4],by simp[g5],fun j x u hx hu=>?_⟩
    cases j with
    |zero=>simp at hx hu;subst hx hu;exact g2
    |succ j=>exact g6 j x u (by simpa using hx) (by simpa using hu)
  |[],_::_,_,_,h,_,_=>nomatch h
  |[],[],_::_,_,h,_,_=>nomatch h
  |_::_,[],_,_,h,_,_=>nomatch h
  |_::_,_::_,[],_,h,_,_=>nomatch h
variable {w':World}
theorem Te (hg:HG w w') (hc:∀(p:Cell) x,w.at? p=some x→w'.at? p=some x∧w'.HW p=w.HW p) (may:MemPlace→Prop):w.keptBut w' may:=by
  obtain⟨h1,h2,h3⟩:=hg
  refine⟨h1,h2,fun i hi=>?_⟩
  have:=h3 i hi
  split at this
  · rename_i c t fr c' t' fr' e1 e2
    obtain⟨q1,q2,q3⟩:=this
    rw[e1,e2]
    refine⟨q1,?_,q3,fun j _=>?_⟩
    · rcases q2 with q2|q2
      · exact q2
      · have h0:w.at? (i,0)=some c[0]:=by simp[World.at?,World.cell?,e1,q2]
        have:=(hc _ _ h0).2
        simp only[World.HW,e1,e2,Prod.mk.injEq]at this
        exact Prod.ext this.1 this.2.1
    · by_cases hj:j<c.size
      · have:w.at? (i,j)=some c[j]:=by simp[World.at?,World.cell?,e1,hj]
        have:=(hc _ _ this).1
        simp only[World.at?,World.cell?,e2,Option.isSome_none,Bool.false_eq_true,if_false]at this
        rw[this,Array.getElem?_eq_getElem hj]
      · rw[Array.getElem?_eq_none (by omega),Array.getElem?_eq_none (by omega)]
  · rename_i x y h4
    rw[this]
    split
    · rename_i e1 e2
      rw[e1]at e2;cases e2
      exact⟨rfl,rfl,rfl,fun _ _=>rfl⟩
    · rename_i e1 e2
      rw[e1]at e2;cases e2
      exact .inr ⟨rfl,rfl⟩
    · rfl
theorem WJ {may:MemPlace→Prop} (h:w.keptBut w' may) {a:Addr} (ha:a.block<w.heap.size):w'.frozen? a=w.frozen? a:=by
  have:=h.2.2 a.block ha
  unfold World.frozen?
  split at this
  · rename_i e1 e2
    obtain⟨_,q2,_⟩:=this
    rw[e1,e2,q2]
  · rename_i e1 e2
    rw[e1,e2]
  · rw[this]
theorem YP (hg:HG w w') (hc:∀(p:Cell) x,w.at? p=some x→w'.at? p=some x∧w'.HW p=w.HW p) {p:MemPlace} (hp:p.block<w.heap.size):w.sameAt w' p:=by
  obtain⟨_,_,h3⟩:=Te hg hc fun _=>False
  cases p with
  | cell b o =>
    have:=h3 b hp
    show w'.cell? ⟨b,o,none⟩=w.cell? ⟨b,o,none⟩
    split at this
    · rename_i c t fr c' t' fr' e1 e2
      obtain⟨q1,q2,q3,q4⟩:=this
      simp only[World.cell?,e1,e2,Option.isSome_none,Bool.false_eq_true,if_false]
      exact q4 o (fun h=>h)
    · rename_i es ck es' ck' e1 e2
      simp[World.cell?,e1,e2]
    · simp only[World.cell?,this]
  | map b =>
    have:=h3 b hp
    show w'.heap[b]? =w.heap[b]?
    split at this
    · rename_i c t fr c' t' fr' e1 e2
      obtain⟨rfl,rfl,q3,q4⟩:=this
      rw[e1,e2]
      have:c'=c:=Array.ext_getElem? fun j=>q4 j (fun h=>h)
      rw[this]
    · rename_i es ck es' ck' e1 e2
      rcases this with h|⟨rfl,rfl⟩
      · exact h.elim
      · rw[e1,e2]
    · exact this
theorem ML (hl:laidOutB P=true):∀{Ts:List TypeId} {vs:List Value} {ds:List (DataW H)} {ps:List MemPlace},(∀t∈Ts,P.readableRec t=true∧t<P.types.size)→
    DataW.TrodAll enc P w 0 (fun _=>true) true Ts vs ds ps→(∀p∈ps,w.sameAt w' p)→(∀p∈ps,sp p.block=true)→DataW.TrodAll enc P w' 0 sp true Ts vs ds ps
  |[],[],[],_,_,h,_,_=>h
  | T :: Ts, v :: vs, d :: ds, ps, hT, ⟨p, q, h1, h2, e⟩, hs, hp =>
    ⟨p,q,WideElems.Trod_stays hl (hT T (by simp)).1 (hT T (by simp)).2 h1 (fun x hx=>hs x (by rw[e];exact List.mem_append_left _ hx)) (fun x hx=>hp x (by rw[e];exact List.mem_append_left _ hx)),
      ML hl (fun t ht=>hT t (by simp[ht])) h2 (fun x hx=>hs x (by rw[e];exact List.mem_append_right _ hx)) (fun x hx=>hp x (by rw[e];exact List.mem_append_right _ hx)),e⟩
  |[],_::_,_,_,_,h,_,_=>nomatch h
  |[],[],_::_,_,_,h,_,_=>nomatch h
  |_::_,[],_,_,_,h,_,_=>nomatch h
  |_::_,_::_,[],_,_,h,_,_=>nomatch h
end
theorem WK {H:Type} {enc:TypeId× Value→H} {P:Program} {f:Func} {s:ChangeSpec} {apart fresh handsOn again:Bool} {W W':World} {args:Array Value} {v:Value} {ds gs:List (DataW H)} {before pa pv:List MemPlace}
    (hW:DataW.Whole enc P f.params.toList s.vars apart W args.toList ds gs before)
    (hres:∀(b:Nat) (sp:Nat→Bool) (hd:Bool),DataW.TrodAll enc P W' b sp hd f.resultTypes.toList (v.resultList f.resultTypes.size) (s.fn H (ds++gs)).results [])
    (hargs:∀sp:Nat→Bool,(∀p∈before,sp p.block=true)→DataW.TrodAll enc P W' 0 sp true f.params.toList args.toList (s.fn H (ds++gs)).args pa)
    (hvars:∀sp:Nat→Bool,(∀p∈before,sp p.block=true)→DataW.TrodVars enc P W' sp s.vars (s.fn H (ds++gs)).vars pv)
    (hps:before=pa++pv) (hk:W.keptBut W' (·∈before)) (hfz:∀b off,MemPlace.cell b off∈before→W'.frozen? ⟨b,off,none⟩=W.frozen? ⟨b,off,none⟩)
    (hok:∀(j:Nat) (t:TypeId) (r:Value),f.resultTypes[j]? =some t→(v.resultList f.resultTypes.size)[j]? =some r→Value.okWide P W' .any 0 t r):s.post enc P f apart fresh handsOn again W args v W':=by
  have hin:∀p∈before,(decide (p.block<W.heap.size))=true:=fun p hp=>decide_eq_true (hW.lt p hp)
  subst hps
  refine⟨ds,gs,_,[],pa,pv,hW,hres _ _ _,hargs (fun b=>decide (b<W.heap.size)) hin,hvars _ hin,World.keptBut_mono (fun p hp=>⟨hp,.inr (List.mem_append.1 hp)⟩) hk,fun _=>?_⟩
  obtain⟨_,_,_,_,_,hz,hn⟩:=id hW
  refine⟨hok,_,_,([]++pa)++pv,⟨[]++pa,pv,trodAll_append (hargs _ fun _ _=>rfl) (hres _ _ _),hvars _ fun _ _=>rfl,rfl,fun b off hp=>?_,fun ha=>?_⟩,fun p hp _=>?_⟩
  · have hp:MemPlace.cell b off∈pa++pv:=by simpa using hp
    rw[hfz b off hp];exact hz b off hp
  · simpa using hn ha
  · simpa using hp
theorem UZ {C:Checked} {os:Os} {g:FuncId} {fn:Func} {s:ChangeSpec} {tt:TT} {H:Type} {enc:TypeId× Value→H} {conds:List PathCond} {apart fresh handsOn again:Bool}
    (own:ownKnob C.prog.godebug=none) (started:os.Started) (noInit:C.prog.inits.idxOf? g=none) (hfn:C.prog.funcs[g]? =some fn)
    (witness:∃(w:World) (tape:Tape) (i:Input),w.os=os∧(w.forCall tape i).Shaped C.prog∧i.vars=[]∧Input.okWide C.prog (w.forCall tape i) .any w.heap.size g i∧
      s.pre6 enc C.prog fn conds apart (w.forCall tape i).memory i.args∧Assume.holds {} C.prog (lone (Frame.enter C.prog g i.args .normal) [] (w.forCall tape i)))
    (hlaid:laidOutB C.prog=true) (hread:∀t∈fn.params.toList,C.prog.readableRec t=true∧t<C.prog.types.size) (hflat:(fn.params.toList.all fun T=>(NG C.prog tt 8 T).isSome)=true)
    (hvars:s.vars=[]) (hspec:∀ds:List (DataW H),ds.length=fn.params.toList.length→s.fn H (ds++[])={results:=[.lit (.bool true)],args:=ds,vars:=[]})
    {bt:TypeId} (hres:fn.resultTypes=#[bt]) (hbt:C.prog.underlying bt=some .bool)
    (hcon:∀as:List Arg,OI C.prog tt fn.params.toList as→Lk C.prog g as (.b true,[])):
    ReturnsInHanded {} C os g .any (s.pre6 enc C.prog fn conds apart) (s.post enc C.prog fn apart fresh handsOn again):=by
  refine returnsInHanded_of_change (C:=C) own started noInit hfn witness ?_
  intro W base args ds gs before hval hW _ _
  have hW':=hW
  obtain⟨p,q,hA,hV,rfl,hfz,_⟩:=hW
  rw[hvars]at hV
  obtain⟨rfl,rfl⟩:=trodVars_none hV
  obtain⟨as,g1,g2,g3,g4⟩:=RV hA (fun j t v ht hv=>hval j t v (by simpa using ht) (by simpa using hv)) hflat
  obtain⟨_,hc⟩:=hcon as g1
  refine(hc W args (fun _=>True) (by simpa using g2) (fun j x u hx hu=>g4 j x u hx (by simpa using hu))).mono fun e W' ⟨u,pl,he,_,hu,_,hkeep,_,hgr⟩=>?_
  have hu:u=.bool true:=by
    cases hu with
    |r _ _ _ h=>cases h;rfl
  subst hu he
  have hc':∀(p:Cell) x,W.at? p=some x→W'.at? p=some x∧W'.HW p=W.HW p:=hkeep
  have hlt:∀x∈p,x.block<W.heap.size:=fun x hx=>hW'.lt x (by simpa using hx)
  refine⟨_,rfl,WK (pa:=p) (pv:=[]) hW' (fun _ _ _=>?_) (fun sp hsp=>?_) (fun _ _=>?_) rfl (Te hgr hc' _) (fun b off hp=>WJ (Te hgr hc' fun _=>False) (hW'.lt _ hp)) (ok_one hres rfl (okWide_bool_mk hbt true))⟩
  · rw[hspec ds g3,hres]
    exact trodAll_mk1 (shut_bool hbt true)
  · rw[hspec ds g3]
    exact ML hlaid hread hA (fun x hx=>YP hgr hc' (hlt x hx)) (fun x hx=>hsp x (by simpa using hx))
  · rw[hspec ds g3,hvars]
    exact rfl
end Go.Proofs.Ev
namespace Go.Proofs.Ev
instance ZL:Tok:=⟨fun _=>.slice none 0 0,fun _=>rfl,rfl⟩
def okI (n:Int):Prop:=-9223372036854775808≤n∧n≤9223372036854775807
theorem HN {n:Int} (h1:-9223372036854775808≤n) (h2:n≤9223372036854775807):IntKind.i64.wrap n=n:=Go.IntWalk.i64_in n ⟨h1,h2⟩
theorem NT {n m:Nat} (h:n<m) (hm:m≤9223372036854775807):IntKind.i64.wrap ((n:Int)+1)=((n+1:Nat):Int):=by
  rw[HN (by omega) (by omega)];omega
@[simp] theorem OJ {α:Type} (xs:List α) (i:Nat):idx xs (i:Int)=xs[i]? :=by
  have:(0:Int)≤(i:Int):=by omega
  simp[idx,this]
theorem Tf {α:Type} (xs:List α) {i:Int} (h:0≤i):idx xs i=xs[i.toNat]? :=by simp[idx,h]
section
variable {R V:Type} {g:V→(V→Option R)→Option R}
theorem HT (k:Nat) (v:V):iter g (k+1) v=g v (iter g k):=rfl
theorem QL {st:Nat→V} {n:Nat} {P:Nat→Option R} (h:∀i,i<n→∀next:V→Option R,next (st (i+1))=P (i+1)→g (st i) next=P i)
    (hn:∀next,g (st n) next=P n):∀(k i:Nat),i≤n→n-i<k→iter g k (st i)=P i
  |0,i,hi,hk=>by omega
  | k + 1, i, hi, hk => by
    rw[HT]
    by_cases c:i<n
    · exact h i c _ (QL h hn k (i+1) (by omega) (by omega))
    · have:i=n:=by omega
      subst this;exact hn _
theorem QM {st:Nat→V} {n:Nat} {r:Option R} (h:∀i,i<n→∀next:V→Option R,g (st i) next=next (st (i+1))) (hn:∀next,g (st n) next=r) {k:Nat} (hk:n<k):
    iter g k (st 0)=r:=QL (P:=fun _=>r) (fun i hi next e=>(h i hi next).trans e) hn k 0 (Nat.zero_le _) (by omega)
end
theorem Jg {α:Type} {p:Prop} [Decidable p] (x y:α):cond (decide p) x y=if p then x else y:=by by_cases h:p<;>simp[h]
theorem T9 {α:Type} (a b:Int) (x y:α):cond (a !=b) x y=if a=b then y else x:=by
  by_cases h:a=b
  · simp[h]
  · have:(a !=b)=true:=by simpa using h
    rw[this,if_neg h];rfl
theorem YQ (a b:Int):(a !=b)=decide (a≠b):=by
  by_cases h:a=b
  · simp[h]
  · rw[decide_eq_true h];simpa using h
theorem J2 {α:Type} {xs:List α} {i:Nat} (h:i<xs.length):xs[i]? =some xs[i]:=List.getElem?_eq_getElem h
theorem OK {α:Type} {xs:List α} {i:Nat} (h:i<xs.length):xs.drop i=xs[i]::xs.drop (i+1):=(List.getElem_cons_drop h).symm
theorem WL {α:Type} {xs:List α} {i:Nat} (h:i<xs.length):xs.take (i+1)=xs.take i++[xs[i]]:=(List.take_append_getElem h).symm
theorem XP {α:Type} (xs:List α) (z:α) {i:Nat} (h:i<xs.length):(xs.take i++List.replicate (xs.length-i) z).set i xs[i]=xs.take (i+1)++List.replicate (xs.length-(i+1)) z:=by
  rw[List.set_append_right _ _ (by simp;omega)]
  have e:i-(xs.take i).length=0:=by simp;omega
  rw[e,show xs.length-i=(xs.length-(i+1))+1 from by omega,List.replicate_succ,List.set_cons_zero,WL h,List.append_assoc]
  rfl
theorem WM {α R:Type} (xs:List α) (z:α) {g:Int× List α→(Int× List α→Option R)→Option R} {fin:List α→Option R}
    (h:∀(i:Nat) (ys:List α) (hi:i<xs.length) (next:Int× List α→Option R),ys.length=xs.length→g ((i:Int),ys) next=next (((i+1:Nat):Int),ys.set i xs[i]))
    (hn:∀ys next,g ((xs.length:Int),ys) next=fin ys) {k:Nat} (hk:xs.length<k):iter g k (0,List.replicate xs.length z)=fin xs:=by
  have:=QM (g:=g) (st:=fun i=>((i:Int),xs.take i++List.replicate (xs.length-i) z)) (n:=xs.length) (r:=fin xs) (fun i hi next=>by
    rw[h i _ hi next (by simp;omega),XP xs z hi]) (fun next=>by
    simp only[List.take_length,Nat.sub_self,List.replicate_zero,List.append_nil];exact hn _ _) hk
  simpa using this
theorem WN {α R:Type} [DecidableEq α] (xs ys:List α) (hl:xs.length=ys.length) {g:Int→(Int→Option R)→Option R} {yes no:Option R}
    (h:∀(i:Nat) (hi:i<xs.length) (hi':i<ys.length) (next:Int→Option R),g (i:Int) next=if xs[i]=ys[i]then next ((i+1:Nat):Int)else no)
    (hn:∀next,g (xs.length:Int) next=yes) {k:Nat} (hk:xs.length<k):iter g k 0=if xs=ys then yes else no:=by
  have:=QL (g:=g) (st:=fun i=>(i:Int)) (n:=xs.length) (P:=fun i=>if xs.drop i=ys.drop i then yes else no) (fun i hi next e=>by
    have hi':i<ys.length:=by omega
    rw[h i hi hi' next]
    have he:(xs.drop i=ys.drop i)↔(xs[i]=ys[i]∧xs.drop (i+1)=ys.drop (i+1)):=by rw[OK hi,OK hi',List.cons.injEq]
    by_cases c:xs[i]=ys[i]
    · rw[if_pos c,e];simp only[he,c,true_and]
    · rw[if_neg c,if_neg (fun q=>c (he.1 q).1)]) (fun next=>by
    rw[List.drop_length,List.drop_of_length_le (by omega)];simp;exact hn next) k 0 (Nat.zero_le _) (by omega)
  simpa using this
end Go.Proofs.Ev
set_option linter.unusedVariables false
namespace Go.Proofs.Ev
theorem GS {α β:Type} (a:α) (f:α→Option β):(some a).bind f=f a:=rfl
end Go.Proofs.Ev
set_option linter.unusedVariables false
namespace Go.Proofs.Ev
theorem Nq:Ns=274877906944:=rfl
end Go.Proofs.Ev
set_option linter.unusedVariables false
namespace Go.Proofs.Ev
variable [Tok]
set_option linter.unusedSectionVars false
def ZB:Nat:=9223372036854775807
def okS {α:Type} (p:α→Prop) (xs:List α):Prop:=xs.length≤ZB∧∀x∈xs,p x
def okB (n:Int):Prop:=0≤n∧n≤255
theorem wf_i {n:Int} (h:(R.int .i64 n).Wf):okI n:=by
  cases h with
  |int _ _ h=>simp[Lit.wf,IntKind.min,IntKind.max,IntKind.signed,IntKind.bits]at h;exact h
theorem Z1 {t:Ty} {xs:List t.El} {p:t.El→Prop} (h:(R.sl t xs).Wf) (hp:∀x∈xs,(∀r∈t.cells x,r.Wf)→p x):okS p xs:=by
  cases h with
  | sl _ _ h hl =>
    refine⟨by unfold ZB;unfold maxLen at hl;omega,fun x hx=>hp x hx fun r hr=>?_⟩
    obtain⟨i,hi⟩:=List.getElem?_of_mem hx
    obtain⟨j,hj⟩:=List.getElem?_of_mem hr
    exact h i j r ⟨x,hi,hj⟩
theorem YR {xs:List Int} (h:(R.ints xs).Wf):okS okI xs:=Z1 h fun x _ hx=>wf_i (hx _ (by simp[Ty.cells]))
section
variable {P:Program} {tt:TT} {T:TypeId} {a:Arg}
def OM (P:Program) (T:TypeId):Bool:=
  match P.underlying T with
  |some (.struct _)=>true
  |_=>false
theorem WO {t:Ty} (hf:NG P tt 8 T=some [t]) (hs:OM P T=false) (h:WI P tt T a):∃r:R,a=.one r∧r.ty=t∧r.Wf:=by
  obtain⟨ts,h1,_,h3⟩:=h
  rw[hf]at h1;cases h1
  obtain⟨r,rfl,g1,g2⟩:=h3 (fun fs e=>by simp[OM,e]at hs)
  exact⟨r,rfl,by simpa using g1,g2⟩
theorem XQ {t:Ty} (hf:NG P tt 8 T=some [.sl t]) (hs:OM P T=false) (h:WI P tt T a):∃xs:List t.El,a=.one (.sl t xs)∧(R.sl t xs).Wf:=by
  obtain⟨r,rfl,h1,h2⟩:=WO hf hs h
  obtain⟨n,rfl⟩:=MK h1
  exact⟨n,rfl,h2⟩
theorem Tg {as:List Arg} {T:TypeId} (h:OI P tt [T] as):∃a,as=[a]∧WI P tt T a:=by
  match as,h with
  |[a],h=>exact⟨a,rfl,h.1⟩
end
theorem U0 {P:Program} {g:FuncId} {G:PG} (h:Ry P g G) {as:List Arg} {o:Out} (hG:G Out as some=some o):Lk P g as o:=by
  obtain⟨o',h1,h2⟩:=h Out as some o hG
  cases h1;exact h2
theorem XR {p:TypeId→Bool} {l:List TypeId} (h:l.all p=true):∀t∈l,p t=true:=fun t ht=>List.all_eq_true.1 h t ht
end Go.Proofs.Ev
set_option linter.unusedVariables false
namespace Go.Proofs.Ev
variable [Tok]
set_option linter.unusedSectionVars false
section
variable {P:Program} {tt:TT} {T:TypeId} {a:Arg}
end
end Go.Proofs.Ev
