/- The evaluator over the model's code, and that it is sound: part 3. -/
import Derived.Test.YtjcmkefhdkccbaaEvK2
import Derived.IntWalk
set_option linter.unusedVariables false
set_option linter.unusedSimpArgs false
set_option linter.unusedVariables false
namespace Go.Proofs.Ev
variable [Tok]
set_option linter.unusedSectionVars false
def Oe (w:World) (H:GV) (pl:Pl) (sh:Option (List Nat)) (r:R) (u:Value) (f:Cell→Prop):Prop:=
  match sh with
  |none=>Ie w r u f
  |some d=>I4 w (okd H pl d) r u∧∀p,¬f p
theorem KA {u:Value} (h:one u=true):u.oneCell'=true:=by cases u<;>simp_all [one,Value.oneCell']
theorem Ie.L3 {w:World} {r:R} {u:Value} {f:Cell→Prop} (h:Ie w r u f):one u=true:=by cases h<;>first|rfl|exact Tok.Vz _|assumption
theorem Oe.L3 {w:World} {H:GV} {pl:Pl} {sh:Option (List Nat)} {r:R} {u:Value} {f:Cell→Prop} (h:Oe w H pl sh r u f):one u=true:=by
  cases sh with
  |none=>exact Ie.L3 h
  |some d=>exact I4.L3 h.1
theorem HV.Yp {w:World} {H:GV} {pl:Pl} {i:Nat} {sh:Option (List Nat)} {t:Ty} {xs:List t.El} (h:HV w H pl i (.arr sh t xs)):Nonempty (Row w (Oe w H pl sh) t xs (pl.hdr i) (pl.fp i)):=by
  cases sh<;>exact h
theorem HV.J7 {w:World} {H:GV} {pl:Pl} {i:Nat} {sh:Option (List Nat)} {t:Ty} {xs:List t.El} (h:Nonempty (Row w (Oe w H pl sh) t xs (pl.hdr i) (pl.fp i))):HV w H pl i (.arr sh t xs):=by
  cases sh<;>exact h
structure Src (w:World) (H:GV) (pl:Pl) (sh:Option (List Nat)) (ids:List Nat) (t:Ty) (ys:List t.El) (u:Value):Prop where
  ex:∃(x:Option Addr) (c:Nat) (news:List Value) (fs:Nat→Nat→Cell→Prop),u=.slice x ys.length c∧news.length=ys.length*t.sz∧
    (ys.length=0∨∃A,x=some A∧∀(j:Nat) (v:Value),news[j]? =some v→w.cell? (A.add j)=some v)∧(∀v∈news,one v=true)∧
    (∀i j r,GM t ys i j r→∃v,news[i*t.sz+j]? =some v∧Oe w H pl sh r v (fs i j))∧
    (∀i j r p,GM t ys i j r→fs i j p→∃k B,mem k ids=true∧look H k=some B∧B.JE=false∧pl.fp k p)∧
    (∀i j r i' j' r' p,GM t ys i j r→GM t ys i' j' r'→fs i j p→fs i' j' p→i=i'∧j=j')
theorem Yq {t:Ty} (h:K5 t=true) {xs:List t.El} {i j:Nat} {r:R} (hc:GM t xs i j r):∀t' l,r≠.sl t' l:=by
  obtain⟨x,_,hr⟩:=hc
  intro t' l e
  subst e
  have hm:=List.mem_of_getElem? hr
  cases t with
  |sl t=>exact nomatch h
  |int k=>simp[Ty.cells]at hm
  |bool=>simp[Ty.cells]at hm
  |str=>simp[Ty.cells]at hm
  | st s => cases s with
    |shape=>simp[Ty.cells,S.cells,Vg]at hm
    |Tj=>simp[Ty.cells,S.cells,Yb]at hm
    |NV=>simp[Ty.cells,S.cells,Vi]at hm
    |ID=>simp[Ty.cells,S.cells,NW]at hm
    |_=>exact nomatch h
  |tok=>simp[Ty.cells]at hm
  |ho s=>exact nomatch h
  |hl t=>exact nomatch h
theorem I4.toD {w:World} {ok:Cell→Prop} {r:R} {u:Value} (h:I4 w ok r u) (hs:∀t l,r≠.sl t l):Ie w r u (fun _=>False):=by
  cases h with
  |int k n=>exact .int k n
  |bool b=>exact .bool b
  |str l=>exact .str l
  |tok n=>exact .tok n
  |KT _ h=>exact .KT _ h
  |sl t xs=>exact(hs t xs rfl).elim
section
variable {w:World} {H:GV} {pl:Pl} {t:Ty}
theorem IL {f:Nat→Value} {n k:Nat} (h:k<n):((List.range n).map f)[k]? =some (f k):=by simp[h]
theorem L6 {t:Ty} {xs:List t.El} {i j:Nat} {r:R} (h:GM t xs i j r):i*t.sz+j<xs.length*t.sz:=K8 (GZ h).1 (GZ h).2 (Nat.le_refl _)
theorem Og (hr:Hq H pl w) {v:SV} {u:Value} {d:List Nat} {ys:List t.El} (h:v.list H t=some (d,ys)) (hv:GG w H pl v u) (sh:Option (List Nat)) (hsh:(K5 t=true∧sh=none)∨sh=some d):
    Src w H pl sh [] t ys u:=by
  have hl:=(NL hr h hv).1
  cases hl with
  | sl _ _ a cap b o vs IH ha hc hrr =>
    have hk:∀i j r,GM t ys i j r→(i*t.sz+j)/t.sz=i∧(i*t.sz+j) %t.sz=j:=fun i j r hx=>by
      have hj:=(GZ hx).2
      refine⟨by rw[Nat.mul_comm,Nat.mul_add_div t.IE,Nat.div_eq_of_lt hj];simp,by rw[Nat.mul_comm,Nat.mul_add_mod,Nat.mod_eq_of_lt hj]⟩
    have hback:∀k,k<ys.length*t.sz→∃r,GM t ys (k/t.sz) (k %t.sz) r:=fun k hk=>HP (by rw[Nat.div_lt_iff_lt_mul t.IE];exact hk) (Nat.mod_lt _ t.IE)
    refine⟨a,cap,(List.range (ys.length*t.sz)).map (fun k=>vs (k/t.sz) (k %t.sz)),fun _ _ _=>False,rfl,by simp,?_,fun v hv=>?_,fun i j r hx=>⟨vs i j,?_,?_⟩,fun i j r p _ hf=>hf.elim,fun i j r i' j' r' p _ _ hf=>hf.elim⟩
    · rcases ha with rfl|ha
      · exact .inl rfl
      · refine .inr ⟨_,ha,fun k v hv=>?_⟩
        have hlt:k<ys.length*t.sz:=by have:=(List.getElem?_eq_some_iff.1 hv).1;simpa using this
        rw[IL hlt]at hv;cases hv
        obtain⟨r,hx⟩:=hback k hlt
        have:=(hc _ _ _ hx).2
        rw[Addr.add_lit]
        rw[show k/t.sz*t.sz+k %t.sz=k from by rw[Nat.mul_comm];exact Nat.div_add_mod _ _]at this
        exact this
    · obtain⟨k,hk',rfl⟩:=List.mem_map.1 hv
      have hlt:k<ys.length*t.sz:=by simpa using hk'
      obtain⟨r,hx⟩:=hback k hlt
      exact(hrr _ _ _ hx).L3
    · rw[IL (L6 hx),(hk i j r hx).1,(hk i j r hx).2]
    · rcases hsh with⟨hf,rfl⟩|rfl
      · exact(hrr i j r hx).toD (Yq hf hx)
      · exact⟨hrr i j r hx,fun _ h=>h⟩
theorem UA (hr:Hq H pl w) {i:Nat} {d:List Nat} {t:Ty} {xs:List t.El} {u:Value} (hl:look H i=some (.arr (some d) t xs)) (hv:GG w H pl (.own i) u):Src w H pl (some d) [] t xs u:=by
  obtain⟨R⟩:=hr.blk i _ hl
  have hu:u=pl.hdr i:=by cases hv;rfl
  subst hu
  have hback:∀k,k<xs.length*t.sz→∃r,GM t xs (k/t.sz) (k %t.sz) r:=fun k hk=>HP (by rw[Nat.div_lt_iff_lt_mul t.IE];exact hk) (Nat.mod_lt _ t.IE)
  have hk:∀i j r,GM t xs i j r→(i*t.sz+j)/t.sz=i∧(i*t.sz+j) %t.sz=j:=fun i j r hx=>by
    have hj:=(GZ hx).2
    refine⟨by rw[Nat.mul_comm,Nat.mul_add_div t.IE,Nat.div_eq_of_lt hj];simp,by rw[Nat.mul_comm,Nat.mul_add_mod,Nat.mod_eq_of_lt hj]⟩
  refine⟨R.a,R.cap,(List.range (xs.length*t.sz)).map (fun k=>R.vs (k/t.sz) (k %t.sz)),fun _ _ _=>False,R.Ra,by simp,?_,fun v hv=>?_,fun i j r hx=>⟨R.vs i j,?_,(R.hr i j r hx).1,fun _ h=>h⟩,fun i j r p _ hf=>hf.elim,fun i j r i' j' r' p _ _ hf=>hf.elim⟩
  · rcases R.ha with h0|ha
    · exact .inl (by have:=R.IH;omega)
    · refine .inr ⟨_,ha,fun k v hv=>?_⟩
      have hlt:k<xs.length*t.sz:=by have:=(List.getElem?_eq_some_iff.1 hv).1;simpa using this
      rw[IL hlt]at hv;cases hv
      obtain⟨r,hx⟩:=hback k hlt
      have:=R.hc _ _ _ hx
      rw[Addr.add_lit]
      rw[show k/t.sz*t.sz+k %t.sz=k from by rw[Nat.mul_comm];exact Nat.div_add_mod _ _]at this
      exact this
  · obtain⟨k,hk',rfl⟩:=List.mem_map.1 hv
    have hlt:k<xs.length*t.sz:=by simpa using hk'
    obtain⟨r,hx⟩:=hback k hlt
    exact(R.hr _ _ _ hx).1.L3
  · rw[IL (L6 hx),(hk i j r hx).1,(hk i j r hx).2]
theorem Pk {h:GV} {t:Ty}:∀{n:Nat} {cs:List SV} {d:List Nat} {xs:List t.El},Uk h t n cs=some (d,xs)→
    xs.length=n∧n*t.sz≤cs.length∧∀i j r,GM t xs i j r→∃v ty d',cs[i*t.sz+j]? =some v∧v.asR h ty=some (d',r)∧∀k,mem k d'=true→mem k d=true
  |0,cs,ids,xs,e=>by cases e;exact⟨rfl,by simp,fun i j r h=>by obtain⟨x,hx,_⟩:=h;simp at hx⟩
  | n + 1, cs, ids, xs, e => by
    simp only[Uk,ZD,Option.bind_eq_some_iff,Option.some.injEq,Prod.mk.injEq]at e
    obtain⟨⟨d,x⟩,⟨⟨d0,rs⟩,h1,x',hx,hx0⟩,⟨d',ys⟩,h2,rfl,rfl⟩:=e
    obtain⟨rfl,rfl⟩:=hx0
    have key:∀{ts:List Ty} {vs:List SV} {d:List Nat} {rs:List R},Vb h ts vs=some (d,rs)→vs.length=ts.length∧∀(j:Nat) (r:R),rs[j]? =some r→∃v ty d',vs[j]? =some v∧v.asR h ty=some (d',r)∧∀k,mem k d'=true→mem k d=true:=by
      intro ts
      induction ts with
      | nil => intro vs d rs e; cases vs with
        |nil=>cases e;exact⟨rfl,fun j r hr=>by simp at hr⟩
        |cons v vs=>exact nomatch e
      | cons t ts ih =>
        intro vs d rs e
        cases vs with
        |nil=>exact nomatch e
        | cons v vs =>
          simp only[Vb,Option.bind_eq_some_iff,Option.some.injEq,Prod.mk.injEq]at e
          obtain⟨⟨d1,r1⟩,q1,⟨d2,r2⟩,q2,rfl,rfl⟩:=e
          obtain⟨g1,g2⟩:=ih q2
          refine⟨by simp[g1],fun j r hr=>?_⟩
          cases j with
          |zero=>simp at hr;subst hr;exact⟨v,t,d1,rfl,q1,fun k hk=>by rw[mem_append,hk];rfl⟩
          | succ j =>
            obtain⟨v',ty,d',p1,p2,p3⟩:=g2 j r (by simpa using hr)
            exact⟨v',ty,d',by simpa using p1,p2,fun k hk=>by rw[mem_append,p3 k hk,Bool.or_true]⟩
    obtain⟨g1,g4⟩:=key h1
    obtain⟨k1,k2,k4⟩:=Pk h2
    have hc:=Ty.Hy t rs _ hx
    rw[Ty.M6,List.length_take]at g1
    rw[List.length_drop]at k2
    refine⟨by simp[k1],by rw[Nat.succ_mul];omega,fun i j r hc'=>?_⟩
    rcases Od.1 hc' with⟨rfl,hr⟩|⟨i',rfl,hr⟩
    · rw[hc]at hr
      obtain⟨v,ty,d',q1,q2,q3⟩:=g4 j r hr
      rw[List.getElem?_take]at q1
      split at q1
      · exact⟨v,ty,d',by rw[Nat.zero_mul,Nat.zero_add];exact q1,q2,fun k hk=>by rw[mem_append,q3 k hk];rfl⟩
      · exact nomatch q1
    · obtain⟨v,ty,d'',q1,q2,q3⟩:=k4 i' j r hr
      rw[List.getElem?_drop]at q1
      exact⟨v,ty,d'',by rw[Nat.succ_mul,show i'*t.sz+t.sz+j=t.sz+(i'*t.sz+j)from by omega];exact q1,q2,fun k hk=>by rw[mem_append,q3 k hk,Bool.or_true]⟩
theorem KB:∀{l:List Nat},KU l=true→l.Nodup
  |[],_=>List.nodup_nil
  | x :: l, h => by
    simp only[KU]at h
    cases hm:mem x l<;>simp only[hm,cond_true,cond_false]at h
    · exact List.nodup_cons.2 ⟨fun h'=>by rw[(mem_iff _ _).2 h']at hm;exact(nomatch hm),KB h⟩
    · exact nomatch h
theorem Yr (hr:Hq H pl w) {n:Nat} {cs:List SV} {ids:List Nat} {xs:List t.El} (h:IZ H t n cs=some (ids,xs)) (hn:ids.Nodup):
    (∀i j r p v,GM t xs i j r→cs[i*t.sz+j]? =some v→SA pl v p→∃k B,mem k ids=true∧look H k=some B∧B.JE=false∧pl.fp k p)∧
    (∀i j r i' j' r' p v v',GM t xs i j r→GM t xs i' j' r'→cs[i*t.sz+j]? =some v→cs[i'*t.sz+j']? =some v'→SA pl v p→SA pl v' p→i=i'∧j=j'):=by
  obtain⟨h1,h2,h3,h4⟩:=JG h
  have there:∀i j r v k,GM t xs i j r→cs[i*t.sz+j]? =some v→v=.own k→(cs.take (n*t.sz))[i*t.sz+j]? =some (.own k)∧∃B,look H k=some B∧B.JE=false:=fun i j r v k hc hv e=>by
    subst e
    have hlt:=L6 hc
    rw[h1]at hlt
    refine⟨by rw[List.getElem?_take,if_pos hlt];exact hv,?_⟩
    obtain⟨v,ty,g1,g2⟩:=h4 i j r hc
    rw[hv]at g1;cases g1
    obtain⟨t1,ys,hl⟩:=M7 g2 rfl
    exact⟨_,hl,rfl⟩
  refine⟨fun i j r p v hc hv ⟨k,e,hf⟩=>?_,fun i j r i' j' r' p v v' hc hc' hv hv' ⟨k,e,hf⟩ ⟨k',e',hf'⟩=>?_⟩
  · obtain⟨g1,B,g2,g3⟩:=there i j r v k hc hv e
    exact⟨k,B,(mem_iff _ _).2 (by rw[h3];exact Km g1),g2,g3,hf⟩
  · obtain⟨g1,B,g2,_⟩:=there i j r v k hc hv e
    obtain⟨g1',B',g2',_⟩:=there i' j' r' v' k' hc' hv' e'
    have:=hr.dis k k' B B' p g2 g2' hf hf'
    subst this
    have hk:=Oc (h3▸hn) g1 g1'
    have hj:=(GZ hc).2
    have hj':=(GZ hc').2
    have e1:(i*t.sz+j)/t.sz=i:=by rw[Nat.mul_comm,Nat.mul_add_div t.IE,Nat.div_eq_of_lt hj];simp
    have e2:(i'*t.sz+j')/t.sz=i':=by rw[Nat.mul_comm,Nat.mul_add_div t.IE,Nat.div_eq_of_lt hj'];simp
    have e3:(i*t.sz+j) %t.sz=j:=by rw[Nat.mul_comm,Nat.mul_add_mod,Nat.mod_eq_of_lt hj]
    have e4:(i'*t.sz+j') %t.sz=j':=by rw[Nat.mul_comm,Nat.mul_add_mod,Nat.mod_eq_of_lt hj']
    exact⟨by rw[←e1,←e2,hk],by rw[←e3,←e4,hk]⟩
theorem UB (hr:Hq H pl w) {v:SV} {u:Value} {sh:Option (List Nat)} {ids:List Nat} {ys:List t.El} (h:L1 H t v=some (sh,ids,ys)) (hv:GG w H pl v u):Src w H pl sh ids t ys u:=by
  have lst : ∀ {v : SV}, GG w H pl v u → ((v.list H t).bind fun p => cond (K5 t) (some (none, [], p.2)) (some (some (KV H v p.1), [], p.2))) = some (sh, ids, ys) → Src w H pl sh ids t ys u := fun {v} hv h => by
    rw[Option.bind_eq_some_iff]at h
    obtain⟨⟨d,zs⟩,h1,h2⟩:=h
    cases hf:K5 t<;>simp only[hf,cond_true,cond_false,Option.some.injEq,Prod.mk.injEq]at h2
    · obtain ⟨rfl, rfl, rfl⟩ := h2
      have plain:KV H v d=d→Src w H pl (some (KV H v d)) [] t zs u:=fun e=>by rw[e];exact Og hr h1 hv _ (.inr rfl)
      cases v with
      | own i =>
        simp only[SV.list]at h1
        cases hl:look H i with
        |none=>rw[hl]at h1;exact nomatch h1
        | some B =>
          rw[hl]at h1
          cases B with
          |box _=>exact nomatch h1
          | arr sh t' xs =>
            cases sh with
            |none=>exact plain (by simp only[KV,hl])
            | some d' =>
              simp only at h1
              split at h1
              · rename_i e
                subst e
                cases h1
                have:KV H (.own i) (i::(some d').getD [])=d':=by simp only[KV,hl]
                rw[this]
                exact UA hr hl hv
              · exact nomatch h1
      |_=>exact plain rfl
    · obtain⟨rfl,rfl,rfl⟩:=h2
      exact Og hr h1 hv _ (.inl ⟨hf,rfl⟩)
  unfold L1 at h
  split at h
  · rename_i i n
    split at h
    · rename_i cs hl
      simp only[Option.bind_eq_some_iff,Option.some.injEq,Prod.mk.injEq]at h
      obtain⟨⟨sh',ids',zs⟩,h1,rfl,rfl,rfl⟩:=h
      cases hv with
      | bsl _ _ cs2 a hl2 hh =>
        rw[hl]at hl2;cases hl2
        obtain⟨b,o,q1,q2,q3⟩:=hr.blk i _ hl
        rw[q1]at hh;cases hh
        have mk:∀(fs:Nat→Nat→Cell→Prop),zs.length=n→n*t.sz≤cs.length→
            (∀i' j r,GM t zs i' j r→∀v,cs[i'*t.sz+j]? =some v→∀u,GG w H pl v u→Oe w H pl sh' r u (fs i' j))→
            (∀i' j r p,GM t zs i' j r→fs i' j p→∃k B,mem k ids'=true∧look H k=some B∧B.JE=false∧pl.fp k p)→
            (∀i j r i' j' r' p,GM t zs i j r→GM t zs i' j' r'→fs i j p→fs i' j' p→i=i'∧j=j')→Src w H pl sh' (i::ids') t zs (.slice (some ⟨b,o,none⟩) n n):=fun fs e1 e2 f1 f2 f3=>by
          subst e1
          have hcell:∀k,k<zs.length*t.sz→∃v u,cs[k]? =some v∧w.at? (b,o+k)=some u∧one u=true∧GG w H pl v u:=fun k hk=>by
            have hk':k<cs.length:=by omega
            obtain⟨u,g1,_,g3,g4⟩:=q3 k _ (List.getElem?_eq_getElem hk')
            exact⟨_,u,List.getElem?_eq_getElem hk',g1,g3,g4⟩
          refine⟨some ⟨b,o,none⟩,zs.length,(List.range (zs.length*t.sz)).map (fun k=>(w.at? (b,o+k)).getD undef),fs,rfl,by simp,.inr ⟨_,rfl,fun k v hv=>?_⟩,fun v hv=>?_,fun i' j r hc=>?_,fun i' j r p hc hf=>?_,f3⟩
          · have hlt:k<zs.length*t.sz:=by have:=(List.getElem?_eq_some_iff.1 hv).1;simpa using this
            rw[IL hlt]at hv;cases hv
            obtain⟨v,u,g1,g2,_⟩:=hcell k hlt
            rw[Addr.add_lit,g2];exact g2
          · obtain⟨k,hk',rfl⟩:=List.mem_map.1 hv
            obtain⟨v,u,g1,g2,g3,_⟩:=hcell k (by simpa using hk')
            rw[g2];exact g3
          · obtain⟨v,u,g1,g2,g3,g4⟩:=hcell _ (L6 hc)
            exact⟨u,by rw[IL (L6 hc),g2];rfl,f1 i' j r hc v g1 u g4⟩
          · obtain⟨k,B,g1,g2⟩:=f2 i' j r p hc hf
            exact⟨k,B,by simp only[mem];cases Nat.beq i k<;>simp[g1],g2⟩
        unfold Tp at h1
        rw[Option.bind_eq_some_iff]at h1
        obtain⟨bb,hbb,h1⟩:=h1
        cases bb<;>simp only[cond_true,cond_false]at h1
        rotate_left
        · rw [Option.bind_eq_some_iff] at h1
          obtain⟨q,hq,h1⟩:=h1
          obtain⟨ids0,zs0⟩:=q
          cases hn:KU ids0<;>simp only[hn,cond_true,cond_false,Option.some.injEq,Prod.mk.injEq]at h1
          · exact nomatch h1
          · obtain⟨rfl,rfl,rfl⟩:=h1
            obtain⟨k1,k2,k3,k4⟩:=JG hq
            obtain⟨p1,p2⟩:=Yr hr hq (KB hn)
            refine mk (fun i' j p=>∃v,cs[i'*t.sz+j]? =some v∧SA pl v p) k1 k2 (fun i' j r hc v hv u hu=>?_) (fun i' j r p hc ⟨v,hv,hf⟩=>p1 i' j r p v hc hv hf)
              (fun i j r i' j' r' p hc hc' ⟨v,hv,hf⟩ ⟨v',hv',hf'⟩=>p2 i j r i' j' r' p v v' hc hc' hv hv' hf hf')
            obtain⟨v',ty,g1,g2⟩:=k4 i' j r hc
            rw[hv]at g1;cases g1
            exact(Qh hr g2 hu).congr fun p=>⟨fun h=>⟨v,hv,h⟩,fun⟨v',hv',h⟩=>by rw[hv]at hv';cases hv';exact h⟩
        · simp only[Option.bind_eq_some_iff,Option.some.injEq,Prod.mk.injEq]at h1
          obtain⟨⟨d,zs0⟩,hq,rfl,rfl,rfl⟩:=h1
          obtain⟨k1,k2,k4⟩:=Pk hq
          refine mk (fun _ _ _=>False) k1 k2 (fun i' j r hc v hv u hu=>?_) (fun _ _ _ _ _ hf=>hf.elim) (fun _ _ _ _ _ _ _ _ _ hf=>hf.elim)
          obtain⟨v',ty,d',g1,g2,g3⟩:=k4 i' j r hc
          rw[hv]at g1;cases g1
          exact⟨(M1 hr g2 hu).frame fun p u hp hu=>⟨IJ g3 hp,hu⟩,fun _ h=>h⟩
    · exact nomatch h
  · exact lst hv h
end
end Go.Proofs.Ev
set_option linter.unusedVariables false
namespace Go.Proofs.Ev
variable [Tok]
set_option linter.unusedSectionVars false
section
variable {w:World} {H:GV} {pl:Pl} {t:Ty}
theorem Il {xs ys:List t.El} {i j:Nat} {r:R} (h:GM t (xs++ys) i j r):(i<xs.length∧GM t xs i j r)∨(xs.length≤i∧GM t ys (i-xs.length) j r):=by
  obtain⟨x,hx,hr⟩:=h
  by_cases c:i<xs.length
  · exact .inl ⟨c,x,by rwa [List.getElem?_append_left c]at hx,hr⟩
  · exact .inr ⟨by omega,x,by rwa [List.getElem?_append_right (by omega)]at hx,hr⟩
theorem Row.nil (inner:R→Value→(Cell→Prop)→Prop):Nonempty (Row w inner t [] (.slice none 0 0) (fun _=>False)):=
  ⟨none,0,0,0,fun _ _=>undef,fun _ _ _=>False,rfl,Nat.le_refl _,.inl rfl,fun j hj=>by simp at hj,fun i j r ⟨x,hx,_⟩=>by simp at hx,fun i j r ⟨x,hx,_⟩=>by simp at hx,
    fun i j r p ⟨x,hx,_⟩=>by simp at hx,fun i j r _ _ _ p ⟨x,hx,_⟩=>by simp at hx,fun p=>⟨fun h=>h.elim,fun h=>h.elim (fun h=>by have:=h.2;simp at this) fun⟨i,j,r,⟨x,hx,_⟩,_⟩=>by simp at hx⟩⟩
theorem Oh {xs:List t.El} {i j:Nat} {r:R} (hx:GM t xs i j r):(i*t.sz+j)/t.sz=i∧(i*t.sz+j) %t.sz=j:=by
  have hj:=(GZ hx).2
  exact⟨by rw[Nat.mul_comm,Nat.mul_add_div t.IE,Nat.div_eq_of_lt hj];simp,by rw[Nat.mul_comm,Nat.mul_add_mod,Nat.mod_eq_of_lt hj]⟩
theorem VL {xs:List t.El} {k:Nat} (hk:k<xs.length*t.sz):∃r,GM t xs (k/t.sz) (k %t.sz) r:=HP (by rw[Nat.div_lt_iff_lt_mul t.IE];exact hk) (Nat.mod_lt _ t.IE)
theorem SB (k:Nat):k/t.sz*t.sz+k %t.sz=k:=by rw[Nat.mul_comm];exact Nat.div_add_mod _ _
theorem UC {sh sh1 sh':Option (List Nat)} {xs ys:List t.El} {fp0:Cell→Prop} {u0 ux:Value} {ids G:List Nat} {T ty e:TypeId} {ti:TypeInfo} {z:Value} {P:Program} {n:Nat} {H':GV}
    (hr:Hq H pl w) (hT:P.underlying T=some (.slice e)) (hi:P.info? e=some ti) (hz:ti.zero=some z) (hzs:z.cells.size=ti.size) (hsz:ti.size=t.sz) (hb:ti.bytes≤512)
    (hrow:Nonempty (Row w (Oe w H pl sh) t xs u0 fp0)) (hfp0:∀p,fp0 p→∃k B,mem k G=true∧mem k ids=false∧look H k=some B∧pl.fp k p)
    (hsrc:Src w H pl sh1 ids t ys ux) (hids:∀k,mem k ids=true→mem k G=true) (hj:Tq sh sh1=some sh') (hhit:hit G (sh'.getD [])=false)
    (hlen:xs.length+ys.length≤Ns) (hn:look H n=none) (hH':Kl H H' (G,G++[]) n (.arr sh' t (xs++ys))):
    ∃u' fp' w',(Builtin.append_ #[T,T] ty #[u0,ux]).run P w=.ok u' w'∧Hp H H' (G,G++[]) pl (pl.set n u' fp') w w':=by
  obtain⟨⟨a,cap,b,o,vs,fs,rfl,IH,ha,JR,hc,hrr,hd1,hd2,hfp⟩⟩:=hrow
  obtain⟨⟨x,c,news,fs1,rfl,hnl,hnews,hone,hin1,hown1,hdis1⟩⟩:=hsrc
  have hown:=hr.IK
  have holds:∀j u,((List.range (xs.length*t.sz)).map (fun k=>vs (k/t.sz) (k %t.sz)))[j]? =some u→w.at? (b,o+j)=some u:=fun j u hu=>by
    have hlt:j<xs.length*t.sz:=by have:=(List.getElem?_eq_some_iff.1 hu).1;simpa using this
    rw[IL hlt]at hu;cases hu
    obtain⟨r,hx⟩:=VL hlt
    have:=hc _ _ _ hx
    rwa [SB]at this
  obtain⟨a',cap',b',o',w',hrun,A⟩:=Uz (P:=P) (w:=w) (ty:=ty) (n:=ys.length) (c:=c) (x:=x) (news:=news) hT hi hz hzs IH ha (by rw[hsz];exact JR) (by rw[hsz];simp) holds (by rw[hsz];exact hnl) hnews (fun u hu=>KA (hone u hu)) hb hlen
  rw[hsz]at A
  have hreg0:∀p,reg b o (cap*t.sz) p→∃k B,mem k G=true∧mem k ids=false∧look H k=some B∧pl.fp k p:=fun p hp=>hfp0 p ((hfp p).2 (.inl hp))
  have hfs0:∀i j r p,GM t xs i j r→fs i j p→∃k B,mem k G=true∧mem k ids=false∧look H k=some B∧pl.fp k p:=fun i j r p hx hf=>hfp0 p ((hfp p).2 (.inr ⟨i,j,r,hx,hf⟩))
  have hsep:∀p,(∃k B,mem k G=true∧mem k ids=false∧look H k=some B∧pl.fp k p)→(∃k B,mem k ids=true∧look H k=some B∧B.JE=false∧pl.fp k p)→False:=fun p ⟨k,B,_,g2,g3,g4⟩ ⟨k',B',q1,q2,_,q4⟩=>by
    have:=hr.dis k k' B B' p g3 q2 g4 q4
    subst this
    rw[g2]at q1;exact nomatch q1
  have hfs1reg:∀i j r p,GM t ys i j r→fs1 i j p→¬reg b o (cap*t.sz) p:=fun i j r p hx hf hp=>hsep p (hreg0 p hp) (hown1 i j r p hx hf)
  have hnewreg:∀p,reg b' o' (cap'*t.sz) p→¬reg b o (cap*t.sz) p→w.at? p=none:=fun p hp hno=>(A.hfp p hp).resolve_right hno
  have nocase:∀p,reg b' o' (cap'*t.sz) p→¬reg b o (cap*t.sz) p→(∃k B,look H k=some B∧pl.fp k p)→False:=fun p hp hno ⟨k,B,g1,g2⟩=>by
    obtain⟨u,hu⟩:=hown k B p g1 g2
    rw[hnewreg p hp hno]at hu;exact nomatch hu
  let F:Nat→Nat→Cell→Prop:=fun i j p=>sh'=none∧(if i<xs.length then fs i j p else fs1 (i-xs.length) j p)
  have hF:∀i j r p,GM t (xs++ys) i j r→F i j p→(∃i j r,GM t xs i j r∧fs i j p)∨∃i j r,GM t ys i j r∧fs1 i j p:=fun i j r p hx hf=>by
    rcases Il hx with⟨hlt,hx⟩|⟨hge,hx⟩
    · have h2:=hf.2;rw[if_pos hlt]at h2;exact .inl ⟨_,_,_,hx,h2⟩
    · have h2:=hf.2;rw[if_neg (by omega)]at h2;exact .inr ⟨_,_,_,hx,h2⟩
  let FP:Cell→Prop:=fun p=>reg b' o' (cap'*t.sz) p∨∃i j r,GM t (xs++ys) i j r∧F i j p
  refine⟨_,FP,w',hrun,?_⟩
  have toRO:∀{r:R} {u:Value} {f:Cell→Prop} {d:List Nat},sh'=some d→Ie w r u f→(∀p,f p→∃k B,mem k G=true∧look H k=some B∧pl.fp k p)→(∀p,f p→¬reg b o (cap*t.sz) p)→
      I4 w' (okd H' (pl.set n (.slice a' (xs.length+ys.length) cap') FP) d) r u:=fun{r u f d} hs h hk hno=>
    (h.WX (ok:=f) fun p hp=>hp).frame fun p u hp hu=>⟨⟨by obtain⟨k,B,_,g2,g3⟩:=hk p hp;exact hr.ob k B p g2 g3,fun i' B' hB' _ hf'=>by
      obtain⟨k,B,g1,g2,g3⟩:=hk p hp
      by_cases c:i'=n
      · subst c
        simp only[Pl.set,if_true]at hf'
        rcases hf' with hf'|⟨_,_,_,_,hf'⟩
        · exact nocase p hf' (hno p hp) ⟨k,B,g2,g3⟩
        · exact nomatch (hs.symm.trans hf'.1)
      · obtain⟨q1,B0,q2,_⟩:=hH'.bwd i' B' hB' c
        simp only[Pl.set,if_neg c]at hf'
        have:=hr.dis i' k B0 B p q2 g2 hf' g3
        subst this
        have q1:mem i' G=false:=q1
        rw[q1]at g1;exact nomatch g1⟩,(A.ND p u hu (hno p hp)).1⟩
  refine Jh A.gr hr hH' (fun i hi=>by show mem i (G++[])=true;rw[List.append_nil];exact hi) (fun i hi=>.inl (by have hi:mem i (G++[])=true:=hi;rwa [List.append_nil]at hi)) (.inl hn) (fun p u hp hno=>A.ND p u hp fun hre=>?_) (fun p hp=>hr.nb p (A.ZT p hp)) (fun p hp=>?_) fun hk=>?_
  · obtain⟨k,B,g1,_,g3,g4⟩:=hreg0 p hre
    exact hno k B (by rw[List.append_nil];exact g1) g3 g4
  · rcases hp with hp|⟨i,j,r,hx,hf⟩
    · rcases A.hfp p hp with h|h
      · exact .inl h
      · obtain⟨k,B,g1,_,g3,g4⟩:=hreg0 p h
        exact .inr ⟨k,B,by rw[List.append_nil];exact g1,g3,g4⟩
    rcases hF i j r p hx hf with⟨i,j,r,hx,hf⟩|⟨i,j,r,hx,hf⟩
    · obtain⟨k,B,g1,_,g3,g4⟩:=hfs0 i j r p hx hf
      exact .inr ⟨k,B,by rw[List.append_nil];exact g1,g3,g4⟩
    · obtain⟨k,B,g1,g2,_,g4⟩:=hown1 i j r p hx hf
      exact .inr ⟨k,B,by rw[List.append_nil];exact hids k g1,g2,g4⟩
  · refine HV.J7 ⟨a',cap',b',o',fun i j=>if i<xs.length then vs i j else(news[(i-xs.length)*t.sz+j]?).getD undef,F,?_,by rw[List.length_append];exact A.le,A.ha,A.JR,fun i j r hx=>?_,fun i j r hx=>?_,fun i j r p hx hf=>?_,fun i j r i' j' r' p hx hx' hf hf'=>?_,fun p=>?_⟩
    · simp[Pl.set]
    · rcases Il hx with⟨hlt,hx⟩|⟨hge,hx⟩
      · rw[if_pos hlt]
        refine A.hold _ _ ?_
        rw[IL (L6 hx),(Oh hx).1,(Oh hx).2]
      · rw[if_neg (by omega)]
        obtain⟨v,g1,_⟩:=hin1 _ _ _ hx
        rw[g1,Option.getD_some]
        have:=A.R3 _ _ g1
        rw[show i*t.sz+j=xs.length*t.sz+((i-xs.length)*t.sz+j)from by rw[←Nat.add_assoc,←Nat.add_mul];congr 2;omega]
        exact this
    · have frameD:∀{r:R} {u:Value} {f:Cell→Prop},Ie w r u f→(∀p,f p→¬reg b o (cap*t.sz) p)→Ie w' r u f:=fun h hno=>h.frame fun p u hf hu=>A.ND p u hu (hno p hf)
      have frameR:∀{r:R} {u:Value} {d d':List Nat},I4 w (okd H pl d) r u→(∀k,mem k d=true→mem k d'=true)→hit G d'=false→I4 w' (okd H' (pl.set n (.slice a' (xs.length+ys.length) cap') FP) d') r u:=fun{r u d d'} h hd hh=>
        h.frame fun p u hp hu=>hk.k2 d' p u (fun i hi=>by show mem i (G++[])=false;rw[List.append_nil];exact H9 G d' hh i hi) (IJ hd hp) hu
      have nof:∀{d:List Nat},sh'=some d→∀p,¬F i j p:=fun e p hf=>nomatch (e.symm.trans hf.1)
      rcases Il hx with⟨hlt,hx⟩|⟨hge,hx⟩
      · rw [if_pos hlt]
        have:=hrr i j r hx
        cases sh with
        | none =>
          cases sh1 with
          |none=>cases hj;exact(frameD this fun p hf=>hd1 i j r p hx hf).congr fun p=>by simp only[F,true_and,if_pos hlt]
          | some d1 =>
            cases hj
            exact⟨toRO rfl this (fun p hf=>by obtain⟨k,B,g1,_,g3,g4⟩:=hfs0 i j r p hx hf;exact⟨k,B,g1,g3,g4⟩) fun p hf=>hd1 i j r p hx hf,nof rfl⟩
        | some d0 =>
          cases sh1 with
          |none=>cases hj;exact⟨frameR this.1 (fun k hk=>hk) hhit,nof rfl⟩
          | some d1 =>
            cases hj
            exact⟨frameR this.1 (fun k hk=>by rw[mem_append,hk];rfl) hhit,nof rfl⟩
      · rw [if_neg (show ¬ i < xs.length by omega)]
        obtain⟨v,g1,g2⟩:=hin1 _ _ _ hx
        rw[g1,Option.getD_some]
        cases sh with
        | none =>
          cases sh1 with
          |none=>cases hj;exact(frameD g2 fun p hf=>hfs1reg _ _ _ p hx hf).congr fun p=>by simp only[F,true_and,if_neg (show¬i<xs.length by omega)]
          |some d1=>cases hj;exact⟨frameR g2.1 (fun k hk=>hk) hhit,nof rfl⟩
        | some d0 =>
          cases sh1 with
          | none =>
            cases hj
            exact⟨toRO rfl g2 (fun p hf=>by obtain⟨k,B,g1,g2,_,g4⟩:=hown1 _ j r p hx hf;exact⟨k,B,hids k g1,g2,g4⟩) fun p hf=>hfs1reg _ _ _ p hx hf,nof rfl⟩
          | some d1 =>
            cases hj
            exact⟨frameR g2.1 (fun k hk=>by rw[mem_append,hk,Bool.or_true]) hhit,nof rfl⟩
    · intro hre
      have hf:=hf.2
      rcases Il hx with⟨hlt,hx⟩|⟨hge,hx⟩
      · simp only[if_pos hlt]at hf
        obtain⟨k,B,g1,_,g3,g4⟩:=hfs0 i j r p hx hf
        exact nocase p hre (hd1 i j r p hx hf) ⟨k,B,g3,g4⟩
      · simp only[if_neg (show¬i<xs.length by omega)]at hf
        obtain⟨k,B,g1,g2,_,g4⟩:=hown1 _ j r p hx hf
        exact nocase p hre (hfs1reg _ j r p hx hf) ⟨k,B,g2,g4⟩
    · have hf:=hf.2
      have hf':=hf'.2
      rcases Il hx with⟨hlt,hx⟩|⟨hge,hx⟩<;>rcases Il hx' with⟨hlt',hx'⟩|⟨hge',hx'⟩
      · simp only[if_pos hlt]at hf
        simp only[if_pos hlt']at hf'
        exact hd2 i j r i' j' r' p hx hx' hf hf'
      · simp only[if_pos hlt]at hf
        simp only[if_neg (show¬i'<xs.length by omega)]at hf'
        exact(hsep p (hfs0 i j r p hx hf) (hown1 _ _ _ p hx' hf')).elim
      · simp only[if_neg (show¬i<xs.length by omega)]at hf
        simp only[if_pos hlt']at hf'
        exact(hsep p (hfs0 _ _ _ p hx' hf') (hown1 _ _ _ p hx hf)).elim
      · simp only[if_neg (show¬i<xs.length by omega)]at hf
        simp only[if_neg (show¬i'<xs.length by omega)]at hf'
        have:=hdis1 _ _ _ _ _ _ p hx hx' hf hf'
        exact⟨by omega,this.2⟩
    · simp only[Pl.set,if_true];exact Iff.rfl
end
end Go.Proofs.Ev
set_option linter.unusedVariables false
namespace Go.Proofs.Ev
variable [Tok]
set_option linter.unusedSectionVars false
section
variable {w:World} {H:GV} {pl:Pl} {P:Program}
theorem Jy {T e:TypeId} (h:JN P T=some e):P.underlying T=some (.slice e):=by
  unfold JN at h
  split at h
  · rename_i e' hu;cases h;exact hu
  · exact nomatch h
theorem Jz {T:TypeId} {n:Nat} (h:IY P T=some n):∃i,P.info? T=some i∧i.size=n:=by
  simp only[IY,Option.bind_eq_some_iff,Option.some.injEq]at h
  exact h
theorem I7 (hr:Hq H pl w) {T:TypeId} {z:List SV} {i:TypeInfo} (hi:P.info? T=some i) (h:Ir P T=some z):∃u,i.zero=some u∧Uv w H pl z u.cells:=by
  simp only[Ir,Option.bind_eq_some_iff]at h
  obtain⟨i',hi',v,hv,x,hx,hc⟩:=h
  rw[hi]at hi';cases hi'
  exact⟨v,hv,(M0 hx).cells hc hr⟩
theorem L7 {T:TypeId} {i:TypeInfo} (hi:P.info? T=some i) (h:K6 P T=true):i.bytes≤512:=by
  unfold K6 at h
  rw[hi]at h
  exact Nat.le_of_ble_eq_true h
theorem UD {c:CR} {n:Nat} {B:Blk} {H':GV} (hn:look H n=none) (hu:c.upd=[]) (hw:c.news=[B]) (ha:after H n c=some H'):Kl H H' c.kil n B:=by
  unfold after at ha
  rw[hu,hw]at ha
  simp only[LV,Option.bind_eq_some_iff,Option.some.injEq]at ha
  obtain⟨H1,h1,rfl⟩:=ha
  exact Ph c.Ih h1 hn (I6 c.Ih h1)
theorem Qi {o:Oper} {a:Act} {n:Nat} {c:CR} {sh:Option (List Nat)} {t:Ty} {xs:List t.El} (hn:look H n=none) (hv:c.v=.own n) (hu:c.upd=[]) (hw:c.news=[.arr sh t xs])
    (h:∀H',Kl H H' c.kil n (.arr sh t xs)→∃u fp' w',(execOp a.eval o).run P w=.ok (.value u) w'∧Hp H H' c.kil pl (pl.set n u fp') w w'):Jr P o a w H pl n c:=by
  refine⟨fun i B hB=>by rw[hu]at hB;simp[look]at hB,fun H' next Q ha hN=>?_⟩
  have ht:=UD hn hu hw ha
  obtain⟨u,fp',w',hrun,hst⟩:=h H' ht
  refine J6 hrun (hN u _ w' hst ?_)
  rw[hv]
  have:=GG.own (w:=w') (H:=H') (pl:=pl.set n u fp') n sh t xs ht.Zn
  simpa[Pl.set]using this
theorem Pm {o:Oper} {a:Act} {s:List (Nat× SV)} {n:Nat} {args:Array Operand} {tys:Array TypeId} {b x:SV} {T:TypeId} {e:TypeId} {sz:Nat} {t:Ty} {z:List SV} {sh1 sh':Option (List Nat)} {ids:List Nat}
    {ys:List t.El} (hr:Hq H pl w) (hs:Iv w H pl s a) (hn:look H n=none) (ho:o.op=.call {callee:=.builtin .append,args:=args,argTypes:=tys}) (hvs:L0 s args.toList=some [b,x]) (hty:tys.toList=[T,T])
    (he:JN P T=some e) (hsz:IY P e=some sz) (hsm:K6 P e=true) (hts:t.sz=sz) (hz:Ir P e=some z) (hzl:z.length=sz) (hy:L1 H t x=some (sh1,ids,ys))
    {xs:List t.El} {G:List Nat} (Oi:(b=.H5∧xs=[]∧G=ids∧sh'=sh1)∨∃i sh,b=.own i∧look H i=some (.arr sh t xs)∧G=i::ids∧mem i ids=false∧Tq sh sh1=some sh')
    (hhit:hit G (sh'.getD [])=false) (hlen:xs.length+ys.length≤Ns):Jr P o a w H pl n {v:=.own n,news:=[.arr sh' t (xs++ys)],gone:=G}:=by
  obtain⟨p,q,hpq,hp,hq⟩:=Lz hvs
  have hpr:=G1 hs hp
  have hqr:=G1 hs hq
  have ha:args.map a.eval=#[a.eval p,a.eval q]:=by rw[show args=#[p,q]from Array.ext' hpq];simp
  have hta:tys=#[T,T]:=Array.ext' hty
  obtain⟨ti,hti,rfl⟩:=Jz hsz
  obtain⟨zu,hzu,hzc⟩:=I7 hr hti hz
  have hzs:zu.cells.size=ti.size:=by rw[←hzc.hl,hzl]
  refine Qi hn rfl rfl rfl fun H' ht=>?_
  have fin:∀{sh:Option (List Nat)} {fp0:Cell→Prop},Nonempty (Row w (Oe w H pl sh) t xs (a.eval p) fp0)→(∀p,fp0 p→∃k B,mem k G=true∧mem k ids=false∧look H k=some B∧pl.fp k p)→
      (∀k,mem k ids=true→mem k G=true)→Tq sh sh1=some sh'→∃u fp' w',(execOp a.eval o).run P w=.ok (.value u) w'∧Hp H H' (G,G++[]) pl (pl.set n u fp') w w':=fun hrow hfp0 hids hj=>by
    obtain⟨u',fp',w',hrun,hst⟩:=UC (ty:=o.type) hr (Jy he) hti hzu hzs hts.symm (L7 hti hsm) hrow hfp0 (UB hr hy hqr) hids hj hhit hlen hn ht
    refine⟨u',fp',w',?_,hst⟩
    rw[execOp,ho,hta]
    simp only[resolve,ha,invoke,builtin,Sem.run_bind,Sem.run_pure,Result.andThen_ok,hrun]
  rcases Oi with⟨rfl,rfl,rfl,rfl⟩|⟨i,sh,rfl,hl,rfl,hmi,hj⟩
  · have:a.eval p=.slice none 0 0:=by generalize a.eval p=u at hpr;cases hpr;rfl
    rw[this]at fin
    refine fin (sh:=sh'.map fun _=>[]) (Row.nil _) (fun _ h=>h.elim) (fun _ h=>h) ?_
    cases sh'<;>rfl
  · have:a.eval p=pl.hdr i:=by generalize a.eval p=u at hpr;cases hpr;rfl
    rw[this]at fin
    exact fin (hr.blk i _ hl).Yp (fun p hp=>⟨i,_,by simp[mem],hmi,hl,hp⟩) (fun k hk=>by simp only[mem];cases Nat.beq i k<;>simp[hk]) hj
theorem Oj {cs:Array Value} {e:TypeId} {t:Ty} {xs:List t.El} {n cap:Nat} {H':GV} (hr:Hq H pl w) (hn:look H n=none) (IH:xs.length≤cap) (hsz:cs.size=cap*t.sz)
    (hin:∀i j r,GM t xs i j r→∃u,cs[i*t.sz+j]? =some u∧Ie w r u (fun _=>False)) (ht:Kl H H' ([],[]) n (.arr none t xs)):
    Hp H H' ([],[]) pl (pl.set n (.slice (some ⟨w.heap.size,0,none⟩) xs.length cap) (reg w.heap.size 0 (cap*t.sz))) w (w.alloc (.cells cs e)):=by
  refine Jh (HG.alloc w cs e) hr ht (fun i h=>h) (fun i h=>nomatch h) (.inl hn) (fun p u hp _=>Mr hp) (fun p hp=>hr.nb p (Pj hp)) (fun p hp=>.inl ?_) fun hk=>?_
  · obtain⟨p1,p2⟩:=p
    obtain⟨e1,_,_⟩:=hp
    simp only at e1;subst e1
    exact(Lb (cs:=cs) (e:=e) p2).2.2
  · refine HV.J7 ⟨some ⟨w.heap.size,0,none⟩,cap,w.heap.size,0,fun i j=>(cs[i*t.sz+j]?).getD undef,fun _ _ _=>False,by simp[Pl.set],IH,.inr rfl,fun j hj=>⟨⟨cs[j]'(by rw[hsz];exact hj),?_⟩,?_⟩,fun i j r hx=>?_,fun i j r hx=>?_,fun _ _ _ _ _ h=>h.elim,fun _ _ _ _ _ _ _ _ _ h=>h.elim,fun p=>by simp[Pl.set]⟩
    · rw[Nat.zero_add,(Lb j).1];simp
    · rw[Nat.zero_add,(Lb j).2.1,hsz];exact TA
    · obtain⟨u,hu,_⟩:=hin i j r hx
      rw[Nat.zero_add,(Lb _).1,hu];rfl
    · obtain⟨u,hu,hd⟩:=hin i j r hx
      rw[hu]
      exact hd.frame fun p u hf=>hf.elim
theorem JT (hr:Hq H pl w) {n:Nat} {cs:List SV} {t:Ty} {xs:List t.El} (h:IZ H t n cs=some ([],xs)) {us:Array Value} (hc:Uv w H pl cs us):
    ∀i j r,GM t xs i j r→∃u,us[i*t.sz+j]? =some u∧Ie w r u (fun _=>False):=fun i j r hx=>by
  obtain⟨h1,h2,h3,h4⟩:=JG h
  obtain⟨v,ty,g1,g2⟩:=h4 i j r hx
  have hlt:=L6 hx
  rw[h1]at hlt
  have hus:i*t.sz+j<us.size:=by rw[←hc.hl];exact(List.getElem?_eq_some_iff.1 g1).1
  refine⟨us[i*t.sz+j],by simp,(Qh hr g2 (hc.h _ _ _ g1 (by simp))).congr fun p=>⟨fun⟨k,e,hf⟩=>?_,fun h=>h.elim⟩⟩
  subst e
  have:k∈L5 (cs.take (n*t.sz)):=Km (by rw[List.getElem?_take,if_pos hlt];exact g1)
  rw[←h3]at this
  simp at this
theorem Ms {z:Array Value} {n k:Nat} (hk:k<n):(madeCells z n)[k]? =some (z[k %z.size]!):=by simp[madeCells,hk]
theorem Qj {o:Oper} {a:Act} {s:List (Nat× SV)} {n:Nat} {l c:Operand} {lv cv:SV} {li ci:Int} {T:TypeId} {e:TypeId} {sz:Nat} {t:Ty} {z:List SV} {y:t.El}
    (hr:Hq H pl w) (hs:Iv w H pl s a) (hn:look H n=none) (ho:o.op=.makeSlice T l c) (hl:opd s l=some lv) (hc:opd s c=some cv) (hli:lv.asI=some li) (hci:cv.asI=some ci)
    (he:JN P T=some e) (hsz:IY P e=some sz) (hsm:K6 P e=true) (hts:t.sz=sz) (hz:Ir P e=some z) (hzl:z.length=sz) (hy:IZ H t 1 z=some ([],[y]))
    (hb:0≤li∧li≤ci∧ci≤(Ns:Int)):Jr P o a w H pl n {v:=.own n,news:=[.arr none t (List.replicate li.toNat y)]}:=by
  obtain⟨ti,hti,rfl⟩:=Jz hsz
  obtain⟨zu,hzu,hzc⟩:=I7 hr hti hz
  have hzs:zu.cells.size=ti.size:=by rw[←hzc.hl,hzl]
  have asI:∀{v:SV} {u:Value} {k:Int},v.asI=some k→GG w H pl v u→∃kk,u=.int kk k:=fun{v u k} h hv=>by
    cases v with
    | r d x => cases x with
      |int kk m=>cases h;cases hv with|r _ _ _ hx=>cases hx;exact⟨kk,rfl⟩
      |_=>exact nomatch h
    |_=>exact nomatch h
  obtain⟨kl,hle⟩:=asI hli (G1 hs hl)
  obtain⟨kc,hce⟩:=asI hci (G1 hs hc)
  have hmax:ci≤274877906944:=hb.2.2
  have hby:=L7 hti hsm
  refine Qi hn rfl rfl rfl fun H' ht=>?_
  have hrun:=run_make (P:=P) w T e ti zu (Jy he) hti hzu kl kc li ci hb.1 hb.2.1 (by
    have h1:(ti.bytes:Int)*ci≤512*274877906944:=Int.mul_le_mul (by omega) hmax (by omega) (by omega)
    omega) (by omega)
  have hst:=Oj (e:=e) (cs:=madeCells zu.cells (ci.toNat*ti.size)) (cap:=ci.toNat) hr hn (by simp;omega) (by rw[size_madeCells,hts]) (fun i j r hx=>by
    have hj:=(GZ hx).2
    have hi:=(GZ hx).1
    rw[List.length_replicate]at hi
    have hlt:i*t.sz+j<ci.toNat*ti.size:=by rw[←hts];exact K8 hi hj (by omega)
    obtain⟨x,hx1,hx2⟩:=hx
    have hxe:x=y:=by
      have:=List.mem_of_getElem? hx1
      exact(List.mem_replicate.1 this).2
    subst hxe
    obtain⟨u,hu,hd⟩:=JT hr hy hzc 0 j r ⟨x,rfl,hx2⟩
    rw[Nat.zero_mul,Nat.zero_add]at hu
    refine⟨u,?_,hd⟩
    rw[Ms hlt,hzs,←hts,Nat.mul_comm,Nat.mul_add_mod,Nat.mod_eq_of_lt hj]
    have hjz:j<zu.cells.size:=(Array.getElem?_eq_some_iff.1 hu).1
    rw[getElem!_pos zu.cells j hjz]
    rw[Array.getElem?_eq_getElem hjz]at hu
    exact hu) ht
  refine⟨_,_,_,?_,hst⟩
  rw[execOp,ho]
  simp only[hle,hce,Sem.run_bind,hrun,Result.andThen_ok,List.length_replicate]
  rfl
theorem Hq.drew (hr:Hq H pl w):Hq H pl w.drew:=
  have hk:JF ([],[]) w H pl w.drew H pl:=⟨fun i B hB _=>⟨B,hB,B.Hz,rfl⟩,fun d p u _ h hp=>⟨h,hp⟩⟩
  ⟨fun i B hB=>(hr.blk i B hB).HL hk rfl (fun _=>Iff.rfl) (fun p u _ hu=>⟨hu,rfl⟩) B.HA,hr.dis,hr.ob,hr.nb⟩
theorem VM {T:TypeId} (h:Zc P T=true):∃k,P.underlying T=some (.int k):=by
  unfold Zc at h
  split at h
  · rename_i k e;exact⟨k,e⟩
  · exact nomatch h
theorem OT {o:Oper} {a:Act} {s:List (Nat× SV)} {n:Nat} {args:Array Operand} {tys:Array TypeId} {x:SV} {l:Int} {T T':TypeId} {e:TypeId} {sz:Nat} {t:Ty} {z:List SV} {y:t.El}
    (hr:Hq H pl w) (hs:Iv w H pl s a) (hn:look H n=none) (ho:o.op=.call {callee:=.builtin .append,args:=args,argTypes:=tys}) (hvs:L0 s args.toList=some [.H5,x]) (hty:tys.toList=[T,T']) (hx:x.asI=some l) (hT':Zc P T'=true)
    (he:JN P T=some e) (hsz:IY P e=some sz) (hsm:K6 P e=true) (hts:t.sz=sz) (hz:Ir P e=some z) (hzl:z.length=sz) (hy:IZ H t 1 z=some ([],[y]))
    (hb:1≤l∧l≤(Ns:Int)):Jr P o a w H pl n {v:=.own n,news:=[.arr none t (List.replicate l.toNat y)]}:=by
  obtain⟨p,q,hpq,hp,hq⟩:=Lz hvs
  have hpr:=G1 hs hp
  have hqr:=G1 hs hq
  have ha:args.map a.eval=#[a.eval p,a.eval q]:=by rw[show args=#[p,q]from Array.ext' hpq];simp
  have hta:tys=#[T,T']:=Array.ext' hty
  obtain⟨ti,hti,rfl⟩:=Jz hsz
  obtain⟨zu,hzu,hzc⟩:=I7 hr hti hz
  have hzs:zu.cells.size=ti.size:=by rw[←hzc.hl,hzl]
  have hpe:a.eval p=.slice none 0 0:=by generalize a.eval p=u at hpr;cases hpr;rfl
  obtain⟨kl,hqe⟩:∃kk,a.eval q=.int kk l:=by
    cases x with
    | r d x => cases x with
      |int kk m=>cases hx;generalize a.eval q=u at hqr;cases hqr with|r _ _ _ hx=>cases hx;exact⟨kk,rfl⟩
      |_=>exact nomatch hx
    |_=>exact nomatch hx
  have hmax:l≤274877906944:=hb.2
  have hby:=L7 hti hsm
  obtain⟨kT,hkT⟩:=VM hT'
  have hlw:IntKind.i64.wrap l=l:=Go.IntWalk.i64_in l ⟨by omega,by omega⟩
  obtain⟨m,rfl⟩:∃m:Nat,l=(m:Int):=⟨l.toNat,by omega⟩
  have hm1:1≤m:=by omega
  have hge:=grownCap_ge w m 0 e
  refine Qi hn rfl rfl rfl fun H' ht=>?_
  have hrun:(Builtin.append_ #[T,T'] o.type #[.slice none 0 0,.int kl (m:Int)]).run P w=
      .ok (.slice (some ⟨w.heap.size,0,none⟩) m (grownCap w m 0 e)) (w.drew.alloc (.cells (Builtin.zeroCells zu.cells m++Builtin.zeroCells zu.cells (grownCap w m 0 e-m)) e)):=by
    have h48:¬((281474976710656:Int)<(m:Int)*(ti.bytes:Int)):=by
      have h1:(m:Int)*(ti.bytes:Int)≤274877906944*512:=Int.mul_le_mul (by omega) (by omega) (by omega) (by omega)
      omega
    have hfit:Builtin.nextslicecap m 0*ti.bytes≤281474976710656:=growslice_fits (by omega) (by
      have:m*ti.bytes≤274877906944*512:=Nat.mul_le_mul (by omega) hby
      omega)
    have h48':¬(281474976710656<Builtin.nextslicecap m 0*ti.bytes):=by omega
    have h63':¬((9223372036854775807:Int)<(m:Int)):=by omega
    have hneg:¬((m:Int)<0):=by omega
    have hm0:¬(m=0):=by omega
    have hf0:(Builtin.firstCells ti.size 0 (.slice none 0 0)).run P w.drew=.ok #[] w.drew:=run_firstCells_none w.drew _ _ _ _
    have hsz0:¬(m*ti.size=0):=by
      rw[←hts];have:=t.IE;exact Nat.ne_of_gt (Nat.mul_pos hm1 this)
    simp[Builtin.append_,run_underlying (Jy he),run_underlying hkT,asInt,asIntOf,sizeOf,typeInfo,zeroValue,hti,hzu,hlw,hneg,h48,hm0,hsz0,h63',h48',Question.forced,hf0,newRow,grownCap]
  have hst:=Oj (H':=H') (e:=e) (cs:=Builtin.zeroCells zu.cells m++Builtin.zeroCells zu.cells (grownCap w m 0 e-m)) (cap:=grownCap w m 0 e) hr.drew hn (by simp;omega) (by
      simp only[Array.size_append,size_zeroCells,hzs,←Nat.add_mul,hts]
      congr 1;omega) (fun i j r hx=>by
    have hj:=(GZ hx).2
    have hi:=(GZ hx).1
    rw[List.length_replicate]at hi
    have hi:i<m:=by simpa using hi
    have hlt:i*t.sz+j<m*ti.size:=by rw[←hts];exact K8 hi hj (Nat.le_refl _)
    obtain⟨x,hx1,hx2⟩:=hx
    have hxe:x=y:=by
      have:=List.mem_of_getElem? hx1
      exact(List.mem_replicate.1 this).2
    subst hxe
    obtain⟨zu2,hzu2,hzc2⟩:=I7 hr.drew hti hz
    have hzz:zu2=zu:=by rw[hzu]at hzu2;cases hzu2;rfl
    subst hzz
    obtain⟨u,hu,hd⟩:=JT hr.drew hy hzc2 0 j r ⟨x,rfl,hx2⟩
    rw[Nat.zero_mul,Nat.zero_add]at hu
    refine⟨u,?_,hd⟩
    rw[Array.getElem?_append_left (by rw[size_zeroCells,hzs];exact hlt)]
    have hz2:(Builtin.zeroCells zu2.cells m)[i*t.sz+j]? =some (zu2.cells[(i*t.sz+j) %ti.size]!):=by simp[Builtin.zeroCells,hzs,hlt]
    rw[hz2,←hts,Nat.mul_comm,Nat.mul_add_mod,Nat.mod_eq_of_lt hj]
    have hjz:j<zu2.cells.size:=(Array.getElem?_eq_some_iff.1 hu).1
    rw[getElem!_pos zu2.cells j hjz]
    rw[Array.getElem?_eq_getElem hjz]at hu
    exact hu) ht
  refine⟨_,_,_,?_,hst.hr,⟨hst.kp.k1,fun d p u h1 h2 h3=>hst.kp.k2 d p u h1 h2 h3⟩,hst.bs,(HG.drew w).trans hst.gr,hst.fr⟩
  rw[execOp,ho,hta]
  simp only[resolve,ha,invoke,builtin,Sem.run_bind,Sem.run_pure,Result.andThen_ok,hpe,hqe,hrun,List.length_replicate]
  rfl
theorem OU {T e:TypeId} {ti:TypeInfo} {zu:Value} (hT:P.underlying T=some (.slice e)) (hti:P.info? e=some ti) (hzu:ti.zero=some zu) (len:Nat) (hlen:len*ti.size≤16777216)
    {parts:Array (Nat× Value)} {cells:Array Value} (hf:Instr.fill (fun i=>some (i*ti.size,ti.size)) (madeCells zu.cells (len*ti.size)) parts.toList=some cells):
    (Instr.buildSlice T len parts).run P w=.ok (.slice (some ⟨w.heap.size,0,none⟩) len len) (w.alloc (.cells cells e)):=by
  have hl:¬(16777216<len*ti.size):=by omega
  by_cases h0:len*ti.size=0
  · rw[h0]at hf
    have hf':Instr.fill (fun i=>some (i*ti.size,ti.size)) #[] parts.toList=some cells:=by simpa[madeCells,Array.range_zero']using hf
    simp[Instr.buildSlice,run_underlying hT,HF hti,h0,hf',newRow,Array.range_zero']
  · simp only[madeCells]at hf
    simp[Instr.buildSlice,run_underlying hT,HF hti,hl,h0,zeroValue,typeInfo,hti,hzu,hf,newRow]
end
end Go.Proofs.Ev
set_option linter.unusedVariables false
namespace Go.Proofs.Ev
variable [Tok]
set_option linter.unusedSectionVars false
section
variable {w:World} {H:GV} {pl:Pl} {P:Program}
theorem VN {t:Ty} {sh sh':Option (List Nat)} {ys:List t.El} {i k off sz:Nat} {H':GV} {ids:List Nat} {e y:t.El} {rs:List R} {us:List Value} {f1:Nat→Cell→Prop} {b m n cap:Nat}
    (hr:Hq H pl w) (hl:look H i=some (.arr sh t ys)) (hh:pl.hdr i=.slice (some ⟨b,m,none⟩) n cap) (hk:ys[k]? =some e) (hoff:off+sz≤t.sz) (hrs:rs.length=sz) (hus:us.length=sz)
    (hy:t.cells y=(t.cells e).take off++rs++(t.cells e).drop (off+sz)) (hone:∀u∈us,one u=true)
    (hin:∀j r,rs[j]? =some r→∃u,us[j]? =some u∧Oe w H pl sh' r u (f1 j)) (hf1:∀j p,j<sz→f1 j p→∃k B,mem k ids=true∧look H k=some B∧B.JE=false∧pl.fp k p)
    (hf2:∀j j' p,j<sz→j'<sz→f1 j p→f1 j' p→j=j') (hsh:(sh=none∧sh'=none)∨∃d d',sh=some d∧sh'=some d'∧∀k,mem k d=true→mem k d'=true)
    (hit':hit (ids++[i]) (sh'.getD [])=false) (hi:mem i ids=false) (ht:Kl H H' (ids,ids++[i]) i (.arr sh' t (ys.set k y))):
    ∃w',(storeCells ⟨b,m+(k*t.sz+off),none⟩ us).run P w=.ok () w'∧∃fp',Hp H H' (ids,ids++[i]) pl (pl.set i (pl.hdr i) fp') w w':=by
  obtain⟨⟨a,cap',b',o,vs,fs,hhd,IH,ha,JR,hc,hrr,hd1,hd2,hfp⟩⟩:=(hr.blk i _ hl).Yp
  have hklt:k<ys.length:=(List.getElem?_eq_some_iff.1 hk).1
  rw[hh]at hhd
  cases hhd
  have hab:b=b'∧m=o:=by
    rcases ha with h|h
    · omega
    · cases h;exact⟨rfl,rfl⟩
  obtain⟨rfl,rfl⟩:=hab
  have hown:=hr.IK
  have hpos:k*t.sz+off+sz≤cap*t.sz:=by
    have:(k+1)*t.sz≤cap*t.sz:=Nat.mul_le_mul_right _ (by omega)
    rw[Nat.succ_mul]at this;omega
  have hcell:∀j,j<us.length→∃u,w.at? (b,m+(k*t.sz+off)+j)=some u∧calm (w.HW (b,m+(k*t.sz+off)+j))=true:=fun j hj=>by
    obtain⟨⟨u,q1⟩,q2⟩:=JR (k*t.sz+off+j) (by omega)
    rw[show m+(k*t.sz+off)+j=m+(k*t.sz+off+j)from by omega]
    exact⟨u,q1,Ly q2⟩
  have hst:=run_storeCells_cells (P:=P) b (m+(k*t.sz+off)) us 0 w (fun j hj=>by
      obtain⟨u,q1,_⟩:=hcell j hj
      simp only[Nat.add_zero]
      have q1:w.cell? ⟨b,m+(k*t.sz+off)+j,none⟩=some u:=q1
      rw[q1];rfl) (fun j hj=>by
      obtain⟨u,q1,q2⟩:=hcell j hj
      simp only[Nat.add_zero];exact JD q1 q2) (fun u hu=>KA (hone u hu))
  simp only[Nat.add_zero]at hst
  have hcellin:∀j,j<us.length→(w.setCells b (m+(k*t.sz+off)) us).at? (b,m+(k*t.sz+off)+j)=us[j]? :=fun j hj=>by
    have:=World.cell?_setCells_in b us (m+(k*t.sz+off)) w (fun j hj=>by
      obtain⟨u,q1,_⟩:=hcell j hj
      have q1:w.cell? ⟨b,m+(k*t.sz+off)+j,none⟩=some u:=q1
      rw[q1];rfl) j hj
    rw[List.getElem?_eq_getElem hj]
    simpa[World.at?]using this
  have hcellout:∀p u,w.at? p=some u→¬(p.1=b∧m+(k*t.sz+off)≤p.2∧p.2<m+(k*t.sz+off)+us.length)→(w.setCells b (m+(k*t.sz+off)) us).at? p=some u:=fun p u hp hno=>by
    unfold World.at? at*
    rw[World.cell?_setCells_out b _ _ w _ (fun e1 _=>by simp at e1;simp;omega)]
    exact hp
  have hice:∀p,(w.setCells b (m+(k*t.sz+off)) us).HW p=w.HW p:=fun p=>Ii _ _ _ _ _
  have hregin:∀p,reg b m (cap*t.sz) p→pl.fp i p:=fun p hp=>(hfp p).2 (.inl hp)
  have hfsin:∀i' j r p,GM t ys i' j r→fs i' j p→pl.fp i p:=fun i' j r p hx hf=>(hfp p).2 (.inr ⟨i',j,r,hx,hf⟩)
  have hsep:∀j p,j<sz→f1 j p→¬pl.fp i p:=fun j p hj hf hp=>by
    obtain⟨k',B,g1,g2,_,g4⟩:=hf1 j p hj hf
    have:=hr.dis k' i B _ p g2 hl g4 hp
    subst this
    rw[hi]at g1;exact nomatch g1
  have hmi:mem i (ids++[i])=true:=by rw[mem_append];simp[mem]
  refine⟨_,hst,fun p=>reg b m (cap*t.sz) p∨(∃i' j r,GM t ys i' j r∧¬(i'=k∧off≤j∧j<off+sz)∧fs i' j p)∨∃j,j<sz∧f1 j p,?_⟩
  refine Jh (HG.setCells _ _ _ _) hr ht (fun x hx=>by show mem x (ids++[i])=true;rw[mem_append,show mem x ids=true from hx];rfl) (fun x hx=>?_) (.inr ⟨_,hl,hmi,by simp[Blk.JP],rfl⟩) (fun p u hp hno=>⟨hcellout p u hp fun hin=>?_,hice p⟩) (fun p hp=>?_) (fun p hp=>?_) fun hkp=>?_
  · have hx:mem x (ids++[i])=true:=hx
    rw[mem_append]at hx
    cases h:mem x ids
    · rw[h]at hx
      simp only[mem,Bool.false_or]at hx
      cases hb:Nat.beq i x
      · rw[hb]at hx;exact nomatch hx
      · exact .inr (Nat.eq_of_beq_eq_true hb).symm
    · exact .inl rfl
  · exact hno i _ hmi hl (hregin p ⟨hin.1,by omega,by omega⟩)
  · refine hr.nb p ?_
    cases hq:w.at? p with
    |none=>rfl
    | some u =>
      by_cases hin:p.1=b∧m+(k*t.sz+off)≤p.2∧p.2<m+(k*t.sz+off)+us.length
      · obtain⟨p1,p2⟩:=p
        obtain⟨e1,e2,e3⟩:=hin
        simp only at e1 e2 e3
        subst e1
        have:=hcellin (p2-(m+(k*t.sz+off))) (by omega)
        rw[show m+(k*t.sz+off)+(p2-(m+(k*t.sz+off)))=p2 from by omega,hp,List.getElem?_eq_getElem (by omega)]at this
        exact nomatch this
      · rw[hcellout p u hq hin]at hp;exact nomatch hp
  · rcases hp with hp|⟨i',j,r,hx,_,hf⟩|⟨j,hj,hf⟩
    · exact .inr ⟨i,_,hmi,hl,hregin p hp⟩
    · exact .inr ⟨i,_,hmi,hl,hfsin i' j r p hx hf⟩
    · obtain⟨k',B,g1,g2,_,g4⟩:=hf1 j p hj hf
      exact .inr ⟨k',B,by rw[mem_append,g1];rfl,g2,g4⟩
  · have hcases:∀{i' j r},GM t (ys.set k y) i' j r→(i'=k∧off≤j∧j<off+sz∧rs[j-off]? =some r)∨(¬(i'=k∧off≤j∧j<off+sz)∧GM t ys i' j r):=fun{i' j r} hx=>by
      have hj:=(GZ hx).2
      obtain⟨x,hx1,hx2⟩:=hx
      by_cases hik:i'=k
      · subst hik
        rw[List.getElem?_set_self hklt]at hx1
        cases hx1
        rw[hy]at hx2
        have hcl:(t.cells e).length=t.sz:=Ty.Hn t e
        have hto:((t.cells e).take off).length=off:=by rw[List.length_take];omega
        by_cases c1:off≤j∧j<off+sz
        · rw[List.append_assoc,List.getElem?_append_right (by omega),List.getElem?_append_left (by omega),hto]at hx2
          exact .inl ⟨rfl,c1.1,c1.2,hx2⟩
        · refine .inr ⟨fun h=>c1 h.2,e,hk,?_⟩
          by_cases c2:j<off
          · rw[List.append_assoc,List.getElem?_append_left (by omega),List.getElem?_take,if_pos c2]at hx2
            exact hx2
          · rw[List.append_assoc,List.getElem?_append_right (by omega),List.getElem?_append_right (by omega),List.getElem?_drop,hto,show off+sz+(j-off-rs.length)=j from by omega]at hx2
            exact hx2
      · rw[List.getElem?_set_ne (fun h=>hik h.symm)]at hx1
        exact .inr ⟨fun h=>hik h.1,x,hx1,hx2⟩
    have hsplit:∀{i' j},j<t.sz→i'≠k∨¬(off≤j∧j<off+sz)→¬(m+(k*t.sz+off)≤m+(i'*t.sz+j)∧m+(i'*t.sz+j)<m+(k*t.sz+off)+us.length):=fun{i' j} hj hne ⟨g1,g2⟩=>by
      by_cases e:i'=k
      · subst e
        rcases hne with h|h
        · exact h rfl
        · exact h ⟨by omega,by omega⟩
      · rcases Nat.lt_or_gt_of_ne e with h|h
        · have:(i'+1)*t.sz≤k*t.sz:=Nat.mul_le_mul_right _ h
          rw[Nat.succ_mul]at this;omega
        · have:(k+1)*t.sz≤i'*t.sz:=Nat.mul_le_mul_right _ h
          rw[Nat.succ_mul]at this;omega
    have hnoreg:∀j p,j<sz→f1 j p→¬reg b m (cap*t.sz) p:=fun j p hj hf hp=>hsep j p hj hf (hregin p hp)
    have frameD:∀{r:R} {u:Value} {f:Cell→Prop},Ie w r u f→(∀p,f p→¬reg b m (cap*t.sz) p)→Ie (w.setCells b (m+(k*t.sz+off)) us) r u f:=fun h hno=>h.frame fun p u hf hu=>⟨hcellout p u hu fun hin=>hno p hf ⟨hin.1,by omega,by omega⟩,hice p⟩
    have frameR:∀{r:R} {u:Value} {d d':List Nat},I4 w (okd H pl d) r u→(∀k,mem k d=true→mem k d'=true)→hit (ids++[i]) d'=false→I4 (w.setCells b (m+(k*t.sz+off)) us) (okd H' (pl.set i (.slice (some ⟨b,m,none⟩) ys.length cap) fun p=>reg b m (cap*t.sz) p∨(∃i' j r,GM t ys i' j r∧¬(i'=k∧off≤j∧j<off+sz)∧fs i' j p)∨∃j,j<sz∧f1 j p) d') r u:=fun{r u d d'} h hd hh2=>
      h.frame fun p u hp hu=>(hh▸hkp).k2 d' p u (fun x hx=>H9 _ d' hh2 x hx) (IJ hd hp) hu
    refine HV.J7 ⟨some ⟨b,m,none⟩,cap,b,m,fun i' j=>if i'=k∧off≤j∧j<off+sz then(us[j-off]?).getD undef else vs i' j,fun i' j=>if i'=k∧off≤j∧j<off+sz then f1 (j-off)else fs i' j,by simp[Pl.set,hh],by simpa using IH,.inr rfl,fun j hj=>⟨?_,by rw[hice];exact(JR j hj).2⟩,fun i' j r hx=>?_,fun i' j r hx=>?_,fun i' j r p hx hf=>?_,fun i' j r i2 j2 r2 p hx hx' hf hf'=>?_,fun p=>?_⟩
    · by_cases hin:k*t.sz+off≤j∧j<k*t.sz+off+us.length
      · have:=hcellin (j-(k*t.sz+off)) (by omega)
        rw[show m+(k*t.sz+off)+(j-(k*t.sz+off))=m+j from by omega]at this
        exact⟨_,this.trans (List.getElem?_eq_getElem (by omega))⟩
      · obtain⟨u,hu⟩:=(JR j hj).1
        exact⟨u,hcellout _ u hu fun h=>hin ⟨by have:=h.2.1;simp at this;omega,by have:=h.2.2;simp at this;omega⟩⟩
    · rcases hcases hx with⟨rfl,g1,g2,g3⟩|⟨g1,g2⟩
      · rw[if_pos ⟨rfl,g1,g2⟩]
        obtain⟨u,hu,_⟩:=hin _ _ g3
        have:=hcellin (j-off) (by omega)
        rw[show m+(i'*t.sz+off)+(j-off)=m+(i'*t.sz+j)from by omega]at this
        rw[this,hu];rfl
      · rw[if_neg g1]
        exact hcellout _ _ (hc _ _ _ g2) fun h=>hsplit (GZ g2).2 (by by_cases e:i'=k;exact .inr fun h=>g1 ⟨e,h⟩;exact .inl e) ⟨h.2.1,h.2.2⟩
    · rcases hcases hx with⟨rfl,g1,g2,g3⟩|⟨g1,g2⟩
      · simp only[g1,g2,and_self,if_true]
        obtain⟨u,hu,hI⟩:=hin _ _ g3
        rw[hu,Option.getD_some]
        rcases hsh with⟨rfl,rfl⟩|⟨d,d',rfl,rfl,hdd⟩
        · exact frameD hI fun p hf=>hnoreg _ p (by omega) hf
        · rw[hh];exact⟨frameR hI.1 (fun _ h=>h) hit',hI.2⟩
      · simp only[if_neg g1]
        have hI:=hrr _ _ _ g2
        rcases hsh with⟨rfl,rfl⟩|⟨d,d',rfl,rfl,hdd⟩
        · exact frameD hI fun p hf=>hd1 _ _ _ p g2 hf
        · rw[hh];exact⟨frameR hI.1 hdd hit',hI.2⟩
    · rcases hcases hx with⟨rfl,g1,g2,g3⟩|⟨g1,g2⟩
      · simp only[g1,g2,and_self,if_true]at hf
        exact hnoreg _ p (by omega) hf
      · simp only[if_neg g1]at hf
        exact hd1 _ _ _ p g2 hf
    · rcases hcases hx with⟨rfl,g1,g2,g3⟩|⟨g1,g2⟩<;>rcases hcases hx' with⟨rfl,q1,q2,q3⟩|⟨q1,q2⟩
      · simp only[g1,g2,and_self,if_true]at hf
        simp only[q1,q2,and_self,if_true]at hf'
        have:=hf2 _ _ p (by omega) (by omega) hf hf'
        exact⟨rfl,by omega⟩
      · simp only[g1,g2,and_self,if_true]at hf
        simp only[if_neg q1]at hf'
        exact(hsep _ p (by omega) hf (hfsin _ _ _ p q2 hf')).elim
      · simp only[if_neg g1]at hf
        simp only[q1,q2,and_self,if_true]at hf'
        exact(hsep _ p (by omega) hf' (hfsin _ _ _ p g2 hf)).elim
      · simp only[if_neg g1]at hf
        simp only[if_neg q1]at hf'
        exact hd2 _ _ _ _ _ _ p g2 q2 hf hf'
    · simp only[Pl.set,if_true]
      constructor
      · rintro (h|⟨i',j,r,hx,hne,hf⟩|⟨j,hj,hf⟩)
        · exact .inl h
        · obtain⟨x,hx1,hx2⟩:=hx
          have hj:=(GZ ⟨x,hx1,hx2⟩).2
          obtain⟨r',hr'⟩:=HP (t:=t) (xs:=ys.set k y) (i:=i') (j:=j) (by rw[List.length_set];exact(List.getElem?_eq_some_iff.1 hx1).1) hj
          exact .inr ⟨i',j,r',hr',by simp only[if_neg hne];exact hf⟩
        · obtain⟨r',hr'⟩:=HP (t:=t) (xs:=ys.set k y) (i:=k) (j:=off+j) (by rw[List.length_set];exact hklt) (by omega)
          exact .inr ⟨k,off+j,r',hr',by rw[if_pos (show k=k∧off≤off+j∧off+j<off+sz from⟨rfl,by omega,by omega⟩),Nat.add_sub_cancel_left];exact hf⟩
      · rintro (h|⟨i',j,r,hx,hf⟩)
        · exact .inl h
        · rcases hcases hx with⟨rfl,g1,g2,g3⟩|⟨g1,g2⟩
          · simp only[g1,g2,and_self,if_true]at hf
            exact .inr (.inr ⟨_,by omega,hf⟩)
          · simp only[if_neg g1]at hf
            exact .inr (.inl ⟨_,_,_,g2,g1,hf⟩)
end
end Go.Proofs.Ev
set_option linter.unusedVariables false
namespace Go.Proofs.Ev
variable [Tok]
set_option linter.unusedSectionVars false
section
variable {w:World} {H:GV} {pl:Pl} {P:Program}
theorem Mt {n i:Nat} {c:CR} {B0:Blk} {sh:Option (List Nat)} {t:Ty} {ys:List t.El} {H':GV} (hl:look H i=some B0) (hu:c.upd=[(i,.arr sh t ys)]) (hw:c.news=[]) (hi:mem i c.kil.1=false) (ha:after H n c=some H'):
    Kl H H' c.kil i (.arr sh t ys)∧hit c.kil.2 (sh.getD [])=false:=by
  unfold after at ha
  rw[hu,hw]at ha
  simp only[LV,GY,List.append_nil,Option.bind_eq_some_iff,Option.some.injEq]at ha
  obtain⟨H1,h1,rfl⟩:=ha
  have hput:∀k,look (put H i (.arr sh t ys)) k=if i=k then some (.arr sh t ys)else look H k:=fun k=>HX _ _ _ _
  have hall:=I6 c.Ih h1
  obtain⟨B',hB'⟩:=hall i _ (by rw[hput,if_pos rfl]) hi
  have hsame:B'=.arr sh t ys∧hit c.kil.2 (sh.getD [])=false:=by
    cases sh with
    |none=>cases hB';exact⟨rfl,rfl⟩
    | some d =>
      simp only[Blk.GW]at hB'
      cases hd:hit c.kil.2 d<;>simp only[hd,cond_true,cond_false,Option.some.injEq]at hB'
      · exact⟨hB'.symm,hd⟩
      · exact nomatch hB'
  obtain⟨rfl,hh⟩:=hsame
  refine⟨⟨?_,fun k B1 hB hm hne=>?_,fun k B1 hB hne=>?_⟩,hh⟩
  · rw[Ho c.Ih h1 i,hi,hput,if_pos rfl];exact hB'
  · obtain⟨B2,hB2⟩:=hall k B1 (by rw[hput,if_neg (fun e=>hne e.symm)];exact hB) hm
    refine⟨B2,hB2,?_⟩
    rw[Ho c.Ih h1 k,hm,hput,if_neg (fun e=>hne e.symm),hB]
    exact hB2
  · rw[Ho c.Ih h1 k,hput,if_neg (fun e=>hne e.symm)]at hB
    cases hm:mem k c.kil.1<;>simp only[hm,cond_true,cond_false]at hB
    · obtain⟨B2,g1,g2⟩:=Option.bind_eq_some_iff.1 hB
      exact⟨rfl,B2,g1,g2⟩
    · exact nomatch hB
theorem Pn {o:Oper} {a:Act} {T:TypeId} {p x:Operand} {n i k off:Nat} {v:SV} {xs:List SV} {t:Ty} {sh sh':Option (List Nat)} {ys:List t.El} {y:t.El} {rs:List R} {ids:List Nat} {f1:Nat→Cell→Prop}
    (hr:Hq H pl w) (ho:o.op=.store T p x) (hl:look H i=some (.arr sh t ys)) (hp:GG w H pl (.ptr i k off) (a.eval p)) (hv:GG w H pl v (a.eval x)) (hz:v.cells=some xs) (hT:IY P T=some xs.length)
    (hoff:off+xs.length≤t.sz) (hrs:rs.length=xs.length) (hy:∀e,ys[k]? =some e→t.cells y=(t.cells e).take off++rs++(t.cells e).drop (off+xs.length))
    (hin:∀j r u,rs[j]? =some r→(a.eval x).cells[j]? =some u→Oe w H pl sh' r u (f1 j)) (hf1:∀j p,j<xs.length→f1 j p→∃k B,mem k ids=true∧look H k=some B∧B.JE=false∧pl.fp k p)
    (hf2:∀j j' p,j<xs.length→j'<xs.length→f1 j p→f1 j' p→j=j') (hsh:(sh=none∧sh'=none)∨∃d d',sh=some d∧sh'=some d'∧∀k,mem k d=true→mem k d'=true)
    (hi:mem i ids=false):Jr P o a w H pl n {v:=.undef,upd:=[(i,.arr sh' t (ys.set k y))],gone:=ids,JO:=[i]}:=by
  refine⟨fun j B h=>?_,fun H' next Q ha hN=>?_⟩
  · rw[GK]at h
    by_cases e:i=j
    · subst e;exact⟨_,hl⟩
    · rw[if_neg e]at h;simp[look]at h
  obtain⟨ht,hh⟩:=Mt (c:={v:=.undef,upd:=[(i,.arr sh' t (ys.set k y))],gone:=ids,JO:=[i]}) hl rfl rfl hi ha
  have hc:=hv.cells hz hr
  obtain⟨ti,hti,hts⟩:=Jz hT
  generalize hpe:a.eval p=up at hp
  cases hp with
  |MZ _ _ cs b2 k2 hl2 hh2=>rw[hl]at hl2;exact nomatch hl2
  | Mj _ _ _ sh2 t2 zs b m n' cap hl2 hx hhd =>
    rw[hl]at hl2;cases hl2
    have hk:ys[k]? =some ys[k]:=List.getElem?_eq_getElem hx
    have hone:∀u∈(a.eval x).cells.toList,one u=true:=fun u hu=>by
      obtain⟨j,hj⟩:=List.getElem?_of_mem hu
      exact hc.h1 j u (by simpa using hj)
    obtain⟨w',hst,fp',hstep⟩:=VN (P:=P) (us:=(a.eval x).cells.toList) (f1:=f1) hr hl hhd hk hoff hrs (by simp[hc.hl]) (hy _ hk) hone (fun j r hj=>by
        have hj':j<(a.eval x).cells.size:=by rw[←hc.hl,←hrs];exact(List.getElem?_eq_some_iff.1 hj).1
        exact⟨(a.eval x).cells[j],by simp,hin j r _ hj (by simp)⟩) hf1 hf2 hsh hh hi ht
    unfold Oper.wp
    have hsz2:(a.eval x).cells.size=ti.size:=by rw[←hc.hl];exact hts.symm
    have hrun:(execOp a.eval o).run P w=.ok .skip w':=by
      rw[execOp,ho]
      simp only[Instr.storeAt,hpe,Instr.sureAddr,storeVar,Sem.run_bind,Sem.run_pure,Result.andThen_ok,HF hti,hsz2,ne_eq,not_true,if_false,Sem.run_ite]
      simp[hst]
    rw[hrun]
    exact hN undef _ w' hstep (.undef _)
theorem SC {i:Nat} {l:List Nat} (h:KU (i::l)=true):mem i l=false∧l.Nodup:=by
  simp only[KU]at h
  cases hm:mem i l<;>simp only[hm,cond_true,cond_false]at h
  · exact⟨rfl,KB h⟩
  · exact nomatch h
theorem Rg {h:GV}:∀{ts:List Ty} {vs:List SV} {d:List Nat} {rs:List R},Vb h ts vs=some (d,rs)→rs.length=vs.length∧∀(j:Nat) (r:R),rs[j]? =some r→∃v ty d',vs[j]? =some v∧v.asR h ty=some (d',r)∧∀k,mem k d'=true→mem k d=true
  |[],[],d,rs,e=>by cases e;exact⟨rfl,fun j r hr=>by simp at hr⟩
  | t :: ts, v :: vs, d, rs, e => by
    simp only[Vb,Option.bind_eq_some_iff,Option.some.injEq,Prod.mk.injEq]at e
    obtain⟨⟨d1,r1⟩,q1,⟨d2,r2⟩,q2,rfl,rfl⟩:=e
    obtain⟨g1,g2⟩:=Rg q2
    refine⟨by simp[g1],fun j r hr=>?_⟩
    cases j with
    |zero=>simp at hr;subst hr;exact⟨v,t,d1,rfl,q1,fun k hk=>by rw[mem_append,hk];rfl⟩
    | succ j =>
      obtain⟨v',ty,d',p1,p2,p3⟩:=g2 j r (by simpa using hr)
      exact⟨v',ty,d',by simpa using p1,p2,fun k hk=>by rw[mem_append,p3 k hk,Bool.or_true]⟩
  |[],_::_,_,_,e=>nomatch e
  |_::_,[],_,_,e=>nomatch e
theorem Rh {ρ:Type} {K:CR→Option ρ} {out:ρ} {o:Oper} {T:TypeId} {p x:Operand} {h0:GV} {n i k off:Nat} {v:SV} {t:Ty} {sh:Option (List Nat)} {ys:List t.El} (ho:o.op=.store T p x)
    (h:NJ P T h0 i sh t ys k off v K=some out):∃c,K c=some out∧∀(H:GV) (a:Act) (w:World) (pl:Pl),Ext h0 H→look H i=some (.arr sh t ys)→Hq H pl w→GG w H pl (.ptr i k off) (a.eval p)→
      GG w H pl v (a.eval x)→Jr P o a w H pl n c:=by
  simp only[NJ,Option.bind_eq_some_iff]at h
  obtain⟨xs,hxs,sz,hsz,h⟩:=h
  cases hb:(Nat.beq sz xs.length&&Nat.ble (off+sz) t.sz)<;>simp only[hb,cond_true,cond_false]at h
  · exact nomatch h
  simp only[Bool.and_eq_true]at hb
  have e1:=Nat.eq_of_beq_eq_true hb.1
  have e2:=Nat.le_of_ble_eq_true hb.2
  subst e1
  cases sh with
  | none =>
    simp only[Option.bind_eq_some_iff]at h
    obtain⟨⟨ids,rs⟩,hrs,h⟩:=h
    cases hn:KU (i::ids)<;>simp only[hn,cond_true,cond_false]at h
    · exact nomatch h
    obtain⟨hmi,hnd⟩:=SC hn
    obtain⟨g1,g2,g3,g4⟩:=M5 hrs
    have fin:∀y,K {v:=.undef,upd:=[(i,.arr none t (ys.set k y))],gone:=ids,JO:=[i]}=some out→(∀e,ys[k]? =some e→t.cells y=(t.cells e).take off++rs++(t.cells e).drop (off+xs.length))→
        ∃c,K c=some out∧∀(H:GV) (a:Act) (w:World) (pl:Pl),Ext h0 H→look H i=some (.arr none t ys)→Hq H pl w→GG w H pl (.ptr i k off) (a.eval p)→GG w H pl v (a.eval x)→Jr P o a w H pl n c:=fun y hK hy=>
      ⟨_,hK,fun H a w pl he hl hr hp hv=>by
        have hc:=hv.cells hxs hr
        refine Pn (rs:=rs) (f1:=fun j p=>∃v,xs[j]? =some v∧SA pl v p) hr ho hl hp hv hxs hsz e2 (g2.trans g1.symm) hy (fun j r u hj hu=>?_) (fun j p hj ⟨v,hv,k',e,hf⟩=>?_) (fun j j' p hj hj' ⟨v,hv,k',e,hf⟩ ⟨v2,hv2,k2,e',hf'⟩=>?_) (.inl ⟨rfl,rfl⟩) hmi
        · obtain⟨v,ty,q1,q2⟩:=g4 j r hj
          exact(Qh hr (P4 he _ _ _ q2) (hc.h _ _ _ q1 hu)).congr fun p=>⟨fun h=>⟨v,q1,h⟩,fun⟨v',hv',h⟩=>by rw[q1]at hv';cases hv';exact h⟩
        · subst e
          obtain⟨r,hr'⟩:∃r,rs[j]? =some r:=⟨_,List.getElem?_eq_getElem (by omega)⟩
          obtain⟨v,ty,q1,q2⟩:=g4 j r hr'
          rw[hv]at q1;cases q1
          obtain⟨t1,zs,hl2⟩:=M7 (P4 he _ _ _ q2) rfl
          exact⟨k',_,(mem_iff _ _).2 (by rw[g3];exact Km hv),hl2,rfl,hf⟩
        · subst e e'
          have thr:∀j k',xs[j]? =some (.own k')→j<xs.length→∃B,look H k'=some B:=fun j k' hv hj=>by
            obtain⟨r,hr'⟩:∃r,rs[j]? =some r:=⟨_,List.getElem?_eq_getElem (by omega)⟩
            obtain⟨v,ty,q1,q2⟩:=g4 j r hr'
            rw[hv]at q1;cases q1
            obtain⟨t1,zs,hl2⟩:=M7 (P4 he _ _ _ q2) rfl
            exact⟨_,hl2⟩
          obtain⟨B1,hB1⟩:=thr j k' hv hj
          obtain⟨B2,hB2⟩:=thr j' k2 hv2 hj'
          have:=hr.dis k' k2 B1 B2 p hB1 hB2 hf hf'
          subst this
          exact Oc (g3▸hnd) hv hv2⟩
    cases hw:Nat.beq xs.length t.sz<;>simp only[hw,cond_true,cond_false,Option.bind_eq_some_iff]at h
    · obtain⟨e,he,y,hy,h⟩:=h
      exact fin y h fun e' he'=>by rw[he]at he';cases he';exact Ty.Hy t _ y hy
    · obtain⟨y,hy,h⟩:=h
      have hw:=Nat.eq_of_beq_eq_true hw
      refine fin y h fun e he=>?_
      have ho0:off=0:=by omega
      subst ho0
      rw[Ty.Hy t _ y hy,Nat.zero_add,hw,←Ty.Hn t e,List.drop_length];simp
  | some d =>
    simp only[Option.bind_eq_some_iff]at h
    obtain⟨⟨d1,rs⟩,hrs,h⟩:=h
    cases hn:mem i d1<;>simp only[hn,cond_true,cond_false]at h
    rotate_left
    · exact nomatch h
    obtain⟨g1,g4⟩:=Rg hrs
    have fin:∀y,K {v:=.undef,upd:=[(i,.arr (some (d++d1)) t (ys.set k y))],JO:=[i]}=some out→(∀e,ys[k]? =some e→t.cells y=(t.cells e).take off++rs++(t.cells e).drop (off+xs.length))→
        ∃c,K c=some out∧∀(H:GV) (a:Act) (w:World) (pl:Pl),Ext h0 H→look H i=some (.arr (some d) t ys)→Hq H pl w→GG w H pl (.ptr i k off) (a.eval p)→GG w H pl v (a.eval x)→Jr P o a w H pl n c:=fun y hK hy=>
      ⟨_,hK,fun H a w pl he hl hr hp hv=>by
        have hc:=hv.cells hxs hr
        refine Pn (rs:=rs) (ids:=[]) (f1:=fun _ _=>False) hr ho hl hp hv hxs hsz e2 g1 hy (fun j r u hj hu=>?_) (fun _ _ _ h=>h.elim) (fun _ _ _ _ _ h=>h.elim) (.inr ⟨d,_,rfl,rfl,fun k hk=>by rw[mem_append,hk];rfl⟩) rfl
        obtain⟨v,ty,d',q1,q2,q3⟩:=g4 j r hj
        exact⟨(M1 hr (Q7 he _ _ _ q2) (hc.h _ _ _ q1 hu)).frame fun p u hp hu=>⟨IJ (fun k hk=>by rw[mem_append,q3 k hk,Bool.or_true]) hp,hu⟩,fun _ h=>h⟩⟩
    cases hw:Nat.beq xs.length t.sz<;>simp only[hw,cond_true,cond_false,Option.bind_eq_some_iff]at h
    · obtain⟨e,he,y,hy,h⟩:=h
      exact fin y h fun e' he'=>by rw[he]at he';cases he';exact Ty.Hy t _ y hy
    · obtain⟨y,hy,h⟩:=h
      have hw:=Nat.eq_of_beq_eq_true hw
      refine fin y h fun e he=>?_
      have ho0:off=0:=by omega
      subst ho0
      rw[Ty.Hy t _ y hy,Nat.zero_add,hw,←Ty.Hn t e,List.drop_length];simp
theorem Po {a:Act} {s:List (Nat× SV)} {T e:TypeId} {sz len:Nat} {parts:Array (Nat× Operand)} {ps:List (Nat× SV)} {z cs:List SV} (hr:Hq H pl w) (hs:Iv w H pl s a)
    (he:JN P T=some e) (hsz:IY P e=some sz) (hps:LU s parts.toList=some ps) (hz:Ir P e=some z) (hzl:z.length=sz) (hlen:len*sz≤16777216)
    (hf:K3 (fun i=>some (i*sz,sz)) (List.replicate (len*sz) .undef) ps=some cs):
    ∃cells,Uv w H pl cs cells∧(Instr.buildSlice T len (parts.map fun p=>(p.1,a.eval p.2))).run P w=.ok (.slice (some ⟨w.heap.size,0,none⟩) len len) (w.alloc (.cells cells e)):=by
  obtain⟨ti,hti,rfl⟩:=Jz hsz
  obtain⟨zu,hzu,hzc⟩:=I7 hr hti hz
  have hzs:zu.cells.size=ti.size:=by rw[←hzc.hl,hzl]
  obtain⟨g1,g2⟩:=M4 hs hps
  have hinit:Uv w H pl (List.replicate (len*ti.size) .undef) (madeCells zu.cells (len*ti.size)):=by
    refine⟨by simp[size_madeCells],fun j v hv=>?_,fun j x u hx hu=>?_⟩
    · have hj:j<len*ti.size:=by have:=(Array.getElem?_eq_some_iff.1 hv).1;rwa [size_madeCells]at this
      rw[Ms hj]at hv;cases hv
      have hpos:0<zu.cells.size:=by
        rw[hzs]
        rcases Nat.eq_zero_or_pos ti.size with h|h
        · rw[h]at hj;omega
        · exact h
      have hlt:j %zu.cells.size<zu.cells.size:=Nat.mod_lt _ hpos
      rw[getElem!_pos zu.cells _ hlt]
      exact hzc.h1 _ _ (Array.getElem?_eq_getElem hlt)
    · have:=(List.mem_replicate.1 (List.mem_of_getElem? hx)).2
      subst this;exact .undef _
  obtain⟨cells,e1,e2⟩:=Qa hr ps (parts.map fun p=>(p.1,a.eval p.2)).toList _ cs _ hinit (by simp[g1]) (fun j k x k' u hx hu=>g2 j k x k' u hx (by simpa using hu)) hf
  exact⟨cells,e2,OU (Jy he) hti hzu len hlen e1⟩
theorem Mu {place:Nat→Option (Nat× Nat)}:∀{ps:List (Nat× SV)} {cs cs':List SV},K3 place cs ps=some cs'→cs'.length=cs.length
  |[],cs,cs',h=>by cases h;rfl
  | (k, v) :: l, cs, cs', h => by
    simp only[K3,Option.bind_eq_some_iff]at h
    obtain⟨p,hp,vs,hvs,h⟩:=h
    cases h1:Nat.beq vs.length p.2<;>simp only[h1,cond_true,cond_false]at h
    · exact nomatch h
    cases h2:Nat.ble (p.1+vs.length) cs.length<;>simp only[h2,cond_true,cond_false]at h
    · exact nomatch h
    have h2:=Nat.le_of_ble_eq_true h2
    rw[Mu h];simp;omega
theorem LW {o:Oper} {a:Act} {s:List (Nat× SV)} {n:Nat} {T e:TypeId} {sz len:Nat} {parts:Array (Nat× Operand)} {ps:List (Nat× SV)} {z cs:List SV} {t:Ty} {xs:List t.El} (hr:Hq H pl w) (hs:Iv w H pl s a)
    (hn:look H n=none) (ho:o.op=.buildSlice T len parts) (he:JN P T=some e) (hsz:IY P e=some sz) (hps:LU s parts.toList=some ps) (hz:Ir P e=some z) (hzl:z.length=sz) (hlen:len*sz≤16777216)
    (hf:K3 (fun i=>some (i*sz,sz)) (List.replicate (len*sz) .undef) ps=some cs) (hts:t.sz=sz) (hx:IZ H t len cs=some ([],xs)):Jr P o a w H pl n {v:=.own n,news:=[.arr none t xs]}:=by
  obtain⟨cells,hc,hrun⟩:=Po hr hs he hsz hps hz hzl hlen hf
  refine Qi hn rfl rfl rfl fun H' ht=>?_
  obtain⟨k1,_,_,_⟩:=JG hx
  have hst:=Oj (e:=e) (cs:=cells) (cap:=len) hr hn (by omega) (by rw[←hc.hl,Mu hf,List.length_replicate,hts]) (JT hr hx hc) ht
  refine⟨_,_,_,?_,hst⟩
  rw[execOp,ho]
  simp only[Sem.run_bind,hrun,Result.andThen_ok,k1]
  rfl
theorem OV {o:Oper} {a:Act} {s:List (Nat× SV)} {n:Nat} {T e:TypeId} {sz len:Nat} {parts:Array (Nat× Operand)} {ps:List (Nat× SV)} {z cs:List SV} (hr:Hq H pl w) (hs:Iv w H pl s a)
    (hn:look H n=none) (ho:o.op=.buildSlice T len parts) (he:JN P T=some e) (hsz:IY P e=some sz) (hps:LU s parts.toList=some ps) (hz:Ir P e=some z) (hzl:z.length=sz) (hlen:len*sz≤16777216)
    (hf:K3 (fun i=>some (i*sz,sz)) (List.replicate (len*sz) .undef) ps=some cs):Jr P o a w H pl n {v:=.bsl n len,news:=[.box cs]}:=by
  obtain⟨cells,hc,hrun⟩:=Po hr hs he hsz hps hz hzl hlen hf
  refine⟨fun i B h=>by simp[look]at h,fun H' next Q ha hN=>?_⟩
  cases ha
  obtain⟨pl',hst,hh⟩:=Qg hr hn hc e
  refine J6 (u:=.slice (some ⟨w.heap.size,0,none⟩) len len) (w':=push w cells e) ?_ (hN _ pl' _ hst ?_)
  · rw[execOp,ho]
    simp only[Sem.run_bind,hrun,Result.andThen_ok]
    rfl
  · exact GG.bsl (w:=push w cells e) (H:=H++[(n,.box cs)]) (pl:=pl') n len cs _ (by rw[GR,hn,GK];simp) hh
end
end Go.Proofs.Ev
set_option linter.unusedVariables false
set_option linter.unusedSimpArgs false
namespace Go.Proofs.Ev
variable [Tok]
set_option linter.unusedSectionVars false
def LX:List R→Nat→Option Nat
  |[],_=>none
  |.sl _ _::_,0=>some 0
  |.sl _ _::l,k+1=>(LX l k).map (·+1)
  |_::l,k=>(LX l k).map (·+1)
theorem Mv {r:R} {l:List R} (h:∀t ys,r≠.sl t ys) (k:Nat):LX (r::l) k=(LX l k).map (·+1):=by
  cases r with
  |sl t ys=>exact(h t ys rfl).elim
  |_=>rfl
theorem M8 {r:R} {l:List R} (h:∀t ys,r≠.sl t ys):J5 (r::l)=J5 l:=by
  cases r with
  |sl t ys=>exact(h t ys rfl).elim
  |_=>rfl
theorem LA {r:R} {l:List R} (n:Nat) (h:∀t ys,r≠.sl t ys):MW n (r::l)=.r [] r::MW n l:=by
  cases r with
  |sl t ys=>exact(h t ys rfl).elim
  |_=>rfl
theorem UE (r:R):(∃t ys,r=.sl t ys)∨∀t ys,r≠.sl t ys:=by
  cases r with
  |sl t ys=>exact .inl ⟨t,ys,rfl⟩
  |_=>exact .inr fun _ _ e=>nomatch e
theorem Lc:∀(l:List R) (n:Nat),(MW n l).length=l.length
  |[],_=>rfl
  | r :: l, n => by
    rcases UE r with⟨t,ys,rfl⟩|h
    · simp[MW,Lc l]
    · rw[LA n h];simp[Lc l]
theorem Ok:∀{l:List R} {k:Nat} {B:Blk},(J5 l)[k]? =some B→∃(j:Nat) (t:Ty) (ys:List t.El),LX l k=some j∧l[j]? =some (.sl t ys)∧B=.arr none t ys
  |[],k,B,h=>nomatch h
  | r :: l, k, B, h => by
    rcases UE r with⟨t,ys,rfl⟩|hr
    · cases k with
      |zero=>simp[J5]at h;exact⟨0,t,ys,rfl,rfl,h.symm⟩
      | succ k =>
        obtain⟨j,t',ys',h1,h2,h3⟩:=Ok (l:=l) (k:=k) (by simpa[J5]using h)
        exact⟨j+1,t',ys',by simp[LX,h1],by simpa using h2,h3⟩
    · rw[M8 hr]at h
      obtain⟨j,t',ys',h1,h2,h3⟩:=Ok h
      exact⟨j+1,t',ys',by rw[Mv hr,h1];rfl,by simpa using h2,h3⟩
theorem Mw:∀{l:List R} {n j:Nat} {r:R},l[j]? =some r→
    (∃t ys k,r=.sl t ys∧(MW n l)[j]? =some (.own (n+k))∧LX l k=some j∧(J5 l)[k]? =some (.arr none t ys))∨((∀t ys,r≠.sl t ys)∧(MW n l)[j]? =some (.r [] r))
  |[],n,j,r,h=>by simp at h
  | r0 :: l, n, j, r, h => by
    rcases UE r0 with⟨t0,ys0,rfl⟩|hr
    · cases j with
      |zero=>simp at h;subst h;exact .inl ⟨t0,ys0,0,rfl,rfl,rfl,rfl⟩
      | succ j =>
        rcases Mw (n:=n+1) (by simpa using h:l[j]? =some r)with⟨t,ys,k,h1,h2,h3,h4⟩|⟨h1,h2⟩
        · exact .inl ⟨t,ys,k+1,h1,by simpa[MW,Nat.add_assoc,Nat.add_comm 1 k]using h2,by simp[LX,h3],by simpa[J5]using h4⟩
        · exact .inr ⟨h1,by simpa[MW]using h2⟩
    · cases j with
      |zero=>simp at h;subst h;exact .inr ⟨hr,by rw[LA n hr];rfl⟩
      | succ j =>
        rcases Mw (n:=n) (by simpa using h:l[j]? =some r)with⟨t,ys,k,h1,h2,h3,h4⟩|⟨h1,h2⟩
        · exact .inl ⟨t,ys,k,h1,by rw[LA n hr];simpa using h2,by rw[Mv hr,h3];rfl,by rw[M8 hr];exact h4⟩
        · exact .inr ⟨h1,by rw[LA n hr];simpa using h2⟩
theorem Qk:∀{l:List R} {k k' j:Nat},LX l k=some j→LX l k'=some j→k=k'
  |[],_,_,_,h,_=>nomatch h
  | r :: l, k, k', j, h, h' => by
    rcases UE r with⟨t,ys,rfl⟩|hr
    · cases k with
      | zero =>
        cases k' with
        |zero=>rfl
        | succ k' =>
          simp[LX]at h h'
          subst h
          obtain⟨a,_,h'⟩:=h'
          exact nomatch h'
      | succ k =>
        cases k' with
        | zero =>
          simp[LX]at h h'
          subst h'
          obtain⟨a,_,h⟩:=h
          exact nomatch h
        | succ k' =>
          simp only[LX,Option.map_eq_some_iff]at h h'
          obtain⟨a,h1,rfl⟩:=h
          obtain⟨b,h2,e⟩:=h'
          rw[show b=a from by omega]at h2
          rw[Qk h1 h2]
    · rw[Mv hr,Option.map_eq_some_iff]at h h'
      obtain⟨a,h1,rfl⟩:=h
      obtain⟨b,h2,e⟩:=h'
      rw[show b=a from by omega]at h2
      exact Qk h1 h2
theorem Ji {α:Type} (xs:List α) (x:Nat):(LQ xs x).length=xs.length:=by simp[LQ]
theorem VO {α:Type} {xs:List α} {x i:Nat} {y:Option α} (h:(LQ xs x)[i]? =some y):(i=x∧y=none)∨(i≠x∧∃z,xs[i]? =some z∧y=some z):=by
  unfold LQ at h
  by_cases e:i=x
  · subst e
    have hl:=(List.getElem?_eq_some_iff.1 h).1
    rw[List.getElem?_set_self (by simpa using hl)]at h
    cases h
    exact .inl ⟨rfl,rfl⟩
  · rw[List.getElem?_set_ne (fun h=>e h.symm),List.getElem?_map]at h
    obtain⟨z,hz,rfl⟩:=Option.map_eq_some_iff.1 h
    exact .inr ⟨e,z,hz,rfl⟩
theorem Ld {s:S} {xs:List s.E} {x i j:Nat} {r:R} (h:GM (.ho s) (LQ xs x) i j r):
    (i=x∧r=.KT)∨(i≠x∧GM (.st s) xs i j r):=by
  obtain⟨y,hy,hr⟩:=h
  rcases VO (α:=s.E) hy with⟨e,rfl⟩|⟨e,z,hz,rfl⟩
  · have hr:(List.replicate s.sz R.KT)[j]? =some r:=hr
    rw[List.getElem?_replicate]at hr
    split at hr
    · cases hr;exact .inl ⟨e,rfl⟩
    · exact nomatch hr
  · exact .inr ⟨e,z,hz,hr⟩
theorem UF {s:S} {xs:List s.E} {x i j:Nat} {r:R} (h:GM (.st s) xs i j r):∃r',GM (.ho s) (LQ xs x) i j r':=by
  obtain⟨a,b⟩:=GZ h
  exact HP (t:=.ho s) (by have:=Ji (α:=s.E) xs x;exact Nat.lt_of_lt_of_eq a this.symm) b
section
variable {w:World} {H H':GV} {pl:Pl} {P:Program}
theorem IM:∀{l:List R} {k j:Nat},LX l k=some j→∃(t:Ty) (ys:List t.El),l[j]? =some (.sl t ys)∧(J5 l)[k]? =some (.arr none t ys)
  |[],_,_,h=>nomatch h
  | r :: l, k, j, h => by
    rcases UE r with⟨t,ys,rfl⟩|hr
    · cases k with
      |zero=>simp[LX]at h;subst h;exact⟨t,ys,rfl,rfl⟩
      | succ k =>
        simp only[LX,Option.map_eq_some_iff]at h
        obtain⟨a,h1,rfl⟩:=h
        obtain⟨t',ys',g1,g2⟩:=IM h1
        exact⟨t',ys',by simpa using g1,by simpa[J5]using g2⟩
    · rw[Mv hr,Option.map_eq_some_iff]at h
      obtain⟨a,h1,rfl⟩:=h
      obtain⟨t',ys',g1,g2⟩:=IM h1
      exact⟨t',ys',by simpa using g1,by rw[M8 hr];exact g2⟩
open Classical in
noncomputable def Pl.tak (pl:Pl) (n i:Nat) (l:List R) (v:Nat→Value) (f:Nat→Cell→Prop):Pl:=
  { base := pl.base
    hdr:=fun m=>if n≤m then((LX l (m-n)).map v).getD (pl.hdr m)else pl.hdr m
    fp:=fun m=>if h:n≤m∧∃j,LX l (m-n)=some j then f h.2.choose else if m=i then fun p=>pl.fp i p∧∀j k,LX l k=some j→¬f j p else pl.fp m}
theorem Pl.Ql {pl:Pl} {n i k j:Nat} {l:List R} {v:Nat→Value} {f:Nat→Cell→Prop} (h:LX l k=some j):(pl.tak n i l v f).hdr (n+k)=v j∧(pl.tak n i l v f).fp (n+k)=f j:=by
  have e:n+k-n=k:=by omega
  refine⟨by simp[Pl.tak,e,h],?_⟩
  have hh:n≤n+k∧∃j,LX l (n+k-n)=some j:=⟨by omega,j,by rw[e];exact h⟩
  unfold Pl.tak
  simp only
  rw[dif_pos hh]
  have h2:LX l (n+k-n)=some j:=by rw[e];exact h
  exact congrArg f (Option.some.inj (hh.2.choose_spec.symm.trans h2))
theorem Pl.Lf {pl:Pl} {n i m:Nat} {l:List R} {v:Nat→Value} {f:Nat→Cell→Prop} (h:∀k j,m=n+k→LX l k=some j→False):
    (pl.tak n i l v f).hdr m=pl.hdr m∧(pl.tak n i l v f).fp m=if m=i then(fun p=>pl.fp i p∧∀j k,LX l k=some j→¬f j p)else pl.fp m:=by
  have hh:¬(n≤m∧∃j,LX l (m-n)=some j):=fun⟨h1,j,h2⟩=>h (m-n) j (by omega) h2
  refine⟨?_,?_⟩
  · unfold Pl.tak
    simp only
    by_cases c:n≤m
    · rw[if_pos c]
      cases hs:LX l (m-n)with
      |none=>rfl
      |some j=>exact(hh ⟨c,j,hs⟩).elim
    · rw[if_neg c]
  · unfold Pl.tak
    simp only
    rw[dif_neg hh]
theorem Xg {n i x:Nat} {s:S} {xs:List s.E} {e:s.E} {v0:SV} (hr:Hq H pl w) (hl:look H i=some (.arr none (.st s) xs)) (hx:xs[x]? =some e)
    (hn:∀k,k<(J5 (s.cells e)).length→look H (n+k)=none)
    (ha:after H n {v:=v0,news:=J5 (s.cells e),upd:=[(i,.arr none (.ho s) (LQ xs x))],JO:=[i]}=some H'):
    ∃ (pl' : Pl) (b o cap : Nat), pl.hdr i = .slice (some ⟨b, o, none⟩) xs.length cap ∧ Hp H H' ([], [i]) pl pl' w w ∧
      ∀(j:Nat) (v:SV),(MW n (s.cells e))[j]? =some v→∃u,w.at? (b,o+(x*s.sz+j))=some u∧one u=true∧GG w H' pl' v u:=by
  obtain⟨⟨a,cap,b,o,vs,fs,h1,h2,h3,h4,h5,h6,h7,h8,h9⟩⟩:=hr.blk i _ hl
  have hxl:x<xs.length:=(List.getElem?_eq_some_iff.1 hx).1
  have hc0:cap≠0:=fun e=>by
    have:=Nat.lt_of_lt_of_le hxl h2
    omega
  have h3:=h3.resolve_left hc0
  subst h3
  have hcell:∀{j r},(s.cells e)[j]? =some r→GM (.st s) xs x j r:=fun h=>⟨e,hx,h⟩
  have hlt:∀{k j},LX (s.cells e) k=some j→k<(J5 (s.cells e)).length:=fun h=>by
    obtain⟨t,ys,_,g⟩:=IM h
    exact(List.getElem?_eq_some_iff.1 g).1
  have hnot:∀{m B},look H m=some B→∀k j,m=n+k→LX (s.cells e) k=some j→False:=fun{m B} hm k j e1 h=>by
    rw[e1,hn k (hlt h)]at hm;exact nomatch hm
  have hfsi:∀{k j p},LX (s.cells e) k=some j→fs x j p→pl.fp i p:=fun{k j p} h hp=>by
    obtain⟨t,ys,g,_⟩:=IM h
    exact(h9 p).2 (.inr ⟨x,j,_,hcell g,hp⟩)
  unfold after at ha
  simp only[CR.kil,List.nil_append,LV,Option.bind_eq_some_iff,Option.some.injEq]at ha
  obtain⟨H1,hs,rfl⟩:=ha
  have hTT:∀i',mem i' (([],[i]):Kil).1=true→mem i' (([],[i]):Kil).2=true:=fun _ h=>nomatch h
  have hput:∀k,look (put H i (.arr none (.ho s) (LQ xs x))) k=if i=k then some (.arr none (.ho s) (LQ xs x))else look H k:=fun k=>HX _ _ _ _
  have hall:=I6 hTT hs
  have hlk:∀k,look (H1++GY n (J5 (s.cells e))) k=((look (put H i (.arr none (.ho s) (LQ xs x))) k).bind (Blk.GW ([],[i]))).or (if n≤k then(J5 (s.cells e))[k-n]? else none):=fun k=>by
    rw[GR,Ho hTT hs k,Ha];rfl
  generalize H1++GY n (J5 (s.cells e))=H' at hlk⊢
  have back:∀{k B'},look H' k=some B'→(∃k0 j,k=n+k0∧LX (s.cells e) k0=some j∧(J5 (s.cells e))[k0]? =some B')∨(k=i∧B'=.arr none (.ho s) (LQ xs x))∨(k≠i∧∃B0,look H k=some B0∧B0.GW ([],[i])=some B'):=fun{k B'} h=>by
    rw[hlk k,hput]at h
    by_cases c:i=k
    · subst c
      rw[if_pos rfl]at h
      simp only[Option.bind_some,Blk.GW,Option.some_or,Option.some.injEq]at h
      exact .inr (.inl ⟨rfl,h.symm⟩)
    · rw [if_neg c] at h
      cases hk:look H k with
      | some B0 =>
        obtain⟨B1,hB1⟩:=hall k B0 (by rw[hput,if_neg c];exact hk) rfl
        rw[hk,Option.bind_some,hB1,Option.some_or]at h
        exact .inr (.inr ⟨fun e=>c e.symm,B0,rfl,by rw[hB1];exact h⟩)
      | none =>
        rw[hk,Option.bind_none,Option.none_or]at h
        by_cases c2:n≤k
        · rw[if_pos c2]at h
          obtain⟨j,t,ys,g1,_,_⟩:=Ok h
          exact .inl ⟨k-n,j,by omega,g1,h⟩
        · rw[if_neg c2]at h;exact nomatch h
  let pl':=pl.tak n i (s.cells e) (vs x) (fs x)
  have org:∀{k B' p},look H' k=some B'→pl'.fp k p→(∃k0 j,k=n+k0∧LX (s.cells e) k0=some j∧fs x j p)∨(k=i∧pl.fp i p∧∀j k,LX (s.cells e) k=some j→¬fs x j p)∨(k≠i∧pl.fp k p∧∃B0,look H k=some B0∧B0.GW ([],[i])=some B'):=fun{k B' p} hk hp=>by
    rcases back hk with⟨k0,j,rfl,g1,_⟩|⟨rfl,_⟩|⟨c,B0,g1,g2⟩
    · rw[show pl'.fp (n+k0)=fs x j from(Pl.Ql g1).2]at hp
      exact .inl ⟨k0,j,rfl,g1,hp⟩
    · rw[show pl'.fp k=_ from(Pl.Lf (hnot hl)).2,if_pos rfl]at hp
      exact .inr (.inl ⟨rfl,hp⟩)
    · rw[show pl'.fp k=_ from(Pl.Lf (hnot g1)).2,if_neg c]at hp
      exact .inr (.inr ⟨c,hp,B0,g1,g2⟩)
  have hfwd:look H' i=some (.arr none (.ho s) (LQ xs x)):=by
    rw[hlk i,hput,if_pos rfl];rfl
  have hk:JF ([],[i]) w H pl w H' pl':=by
    refine⟨fun k B hB _=>?_,fun d p u hd hok hu=>⟨⟨hok.1,fun k B' hB' hm hf=>?_⟩,hu⟩⟩
    · by_cases c:k=i
      · subst c
        rw[hl]at hB;cases hB
        exact⟨_,hfwd,⟨rfl,(Ji (α:=s.E) xs x).symm⟩,(Pl.Lf (hnot hl)).1⟩
      · obtain⟨B1,hB1⟩:=hall k B (by rw[hput,if_neg (fun e=>c e.symm)];exact hB) rfl
        refine⟨B1,by rw[hlk k,hput,if_neg (fun e=>c e.symm),hB,Option.bind_some,hB1,Option.some_or],Blk.Ik hB1,(Pl.Lf (hnot hB)).1⟩
    · have hni:pl.fp i p→False:=fun h=>hok.2 i _ hl (fun hm=>by have:=hd i hm;simp[mem]at this) h
      rcases org hB' hf with⟨k0,j,_,g1,g2⟩|⟨_,g1,_⟩|⟨c,g1,B0,g2,g3⟩
      · exact hni (hfsi g1 g2)
      · exact hni g1
      · exact hok.2 k B0 g2 (fun h=>(Blk.Je (Blk.Ik g3)).trans (hm h)) g1
  have hnd:∀{i' j r},GM (.st s) xs i' j r→∀p,fs i' j p→(∃t ys,r=.sl t ys):=fun{i' j r} h p hp=>by
    rcases UE r with h'|h'
    · exact h'
    · have:=h6 _ _ _ h
      generalize vs i' j=v1 at this
      generalize fs i' j=f1 at this hp
      cases this with
      |sl t ys=>exact(h' t ys rfl).elim
      |_=>exact hp.elim
  refine⟨pl',b,o,cap,h1,⟨⟨fun k B' hB'=>?_,fun k1 k2 B1 B2 p e1 e2 f1 f2=>?_,fun k B' p hB' hf=>?_,hr.nb⟩,hk,rfl,HG.refl w,fun p u hp hno=>⟨fun k B' hB' hf=>?_,hp,rfl⟩⟩,fun j v hv=>?_⟩
  · rcases back hB' with⟨k0,j,rfl,g1,g2⟩|⟨rfl,rfl⟩|⟨c,B0,g1,g2⟩
    · obtain⟨t,ys,q1,q2⟩:=IM g1
      rw[q2]at g2;cases g2
      show Nonempty (Row w (Ie w) t ys (pl'.hdr (n+k0)) (pl'.fp (n+k0)))
      rw[show pl'.fp (n+k0)=fs x j from(Pl.Ql g1).2,show pl'.hdr (n+k0)=vs x j from(Pl.Ql g1).1]
      exact(h6 x j _ (hcell q1)).row
    · show Nonempty (Row w (Ie w) (.ho s) (LQ xs x) (pl'.hdr k) (pl'.fp k))
      have hst:∀{i' j r},GM (.ho s) (LQ xs x) i' j r→∃r',GM (.st s) xs i' j r':=fun{i' j r} h=>by
        obtain⟨q1,q2⟩:=GZ h
        exact HP (Nat.lt_of_lt_of_eq q1 (Ji (α:=s.E) xs x)) q2
      rw[show pl'.hdr k=pl.hdr k from(Pl.Lf (hnot hl)).1,show pl'.fp k=_ from(Pl.Lf (hnot hl)).2,if_pos rfl]
      refine⟨⟨some ⟨b,o,none⟩,cap,b,o,vs,fun i' j=>if i'=x then(fun _=>False)else fs i' j,by rw[h1];exact congrArg (fun m=>Value.slice _ m cap) (Ji (α:=s.E) xs x).symm,Nat.le_trans (Nat.le_of_eq (Ji (α:=s.E) xs x)) h2,.inr rfl,h4,fun i' j r h=>?_,fun i' j r h=>?_,fun i' j r p h hf=>?_,fun i' j r i'' j' r' p h h' hf hf'=>?_,fun p=>?_⟩⟩
      · obtain⟨r',h'⟩:=hst h
        exact h5 _ _ _ h'
      · rcases Ld h with⟨rfl,rfl⟩|⟨c,h'⟩
        · rw[if_pos rfl]
          obtain⟨r',h'⟩:=hst h
          exact .KT _ ((h6 _ _ _ h').WX (ok:=fun _=>True) (fun _ _=>trivial)).L3
        · rw[if_neg c];exact h6 _ _ _ h'
      · rcases Ld h with⟨rfl,rfl⟩|⟨c,h'⟩
        · rw[if_pos rfl]at hf;exact hf.elim
        · rw[if_neg c]at hf;exact h7 _ _ _ p h' hf
      · rcases Ld h with⟨rfl,rfl⟩|⟨c,h1'⟩
        · rw[if_pos rfl]at hf;exact hf.elim
        · rcases Ld h' with⟨rfl,rfl⟩|⟨c',h2'⟩
          · rw[if_pos rfl]at hf';exact hf'.elim
          · rw[if_neg c]at hf
            rw[if_neg c']at hf'
            exact h8 _ _ _ _ _ _ p h1' h2' hf hf'
      · constructor
        · rintro ⟨hp,hno⟩
          rcases(h9 p).1 hp with hp|⟨i',j,r,h,hf⟩
          · exact .inl hp
          · obtain⟨r',h'⟩:=UF (x:=x) h
            refine .inr ⟨i',j,r',h',?_⟩
            by_cases c:i'=x
            · subst c
              obtain⟨t,ys,rfl⟩:=hnd h p hf
              obtain⟨z,hz,hzj⟩:=h
              have hz:=hx.symm.trans hz
              cases hz
              rcases Mw (n:=n) hzj with⟨_,_,k',_,_,g,_⟩|⟨g,_⟩
              · exact(hno j k' g hf).elim
              · exact(g t ys rfl).elim
            · rw[if_neg c];exact hf
        · rintro (hp|⟨i',j,r,h,hf⟩)
          · refine⟨(h9 p).2 (.inl hp),fun j k' g hf=>?_⟩
            obtain⟨t,ys,q1,_⟩:=IM g
            exact h7 _ _ _ p (hcell q1) hf hp
          · rcases Ld h with⟨rfl,rfl⟩|⟨c,h'⟩
            · rw[if_pos rfl]at hf;exact hf.elim
            · rw[if_neg c]at hf
              refine⟨(h9 p).2 (.inr ⟨_,_,_,h',hf⟩),fun j' k' g hf'=>?_⟩
              obtain⟨t,ys,q1,_⟩:=IM g
              exact c (h8 _ _ _ _ _ _ p h' (hcell q1) hf hf').1
    · exact(hr.blk k B0 g1).HL hk (Pl.Lf (hnot g1)).1 (fun p=>by rw[show pl'.fp k=_ from(Pl.Lf (hnot g1)).2,if_neg c]) (fun p u _ hu=>⟨hu,rfl⟩) g2
  · rcases org e1 f1 with⟨k0,j,rfl,g1,g2⟩|⟨rfl,g1,g2⟩|⟨c,g1,B0,g2,g3⟩<;>rcases org e2 f2 with⟨k0',j',rfl,g1',g2'⟩|⟨rfl,g1',g2'⟩|⟨c',g1',B0',g2'',g3'⟩
    · obtain⟨t,ys,q1,_⟩:=IM g1
      obtain⟨t',ys',q1',_⟩:=IM g1'
      have:=(h8 _ _ _ _ _ _ p (hcell q1) (hcell q1') g2 g2').2
      subst this
      rw[Qk g1 g1']
    · exact(g2' j k0 g1 g2).elim
    · exact(c' (hr.dis i k2 _ _ p hl g2'' (hfsi g1 g2) g1').symm).elim
    · exact(g2 j' k0' g1' g2').elim
    · rfl
    · exact(c' (hr.dis k1 k2 _ _ p hl g2'' g1 g1').symm).elim
    · exact(c (hr.dis k1 i _ _ p g2 hl g1 (hfsi g1' g2'))).elim
    · exact(c (hr.dis k1 k2 _ _ p g2 hl g1 g1')).elim
    · exact hr.dis k1 k2 _ _ p g2 g2'' g1 g1'
  · rcases org hB' hf with⟨k0,j,_,g1,g2⟩|⟨_,g1,_⟩|⟨c,g1,B0,g2,g3⟩
    · exact hr.ob i _ p hl (hfsi g1 g2)
    · exact hr.ob i _ p hl g1
    · exact hr.ob k _ p g2 g1
  · rcases org hB' hf with⟨k0,j,_,g1,g2⟩|⟨_,g1,_⟩|⟨c,g1,B0,g2,g3⟩
    · exact hno i _ hl (hfsi g1 g2)
    · exact hno i _ hl g1
    · exact hno k _ g2 g1
  · have hj:j<(s.cells e).length:=by rw[←Lc (s.cells e) n];exact(List.getElem?_eq_some_iff.1 hv).1
    have hje:(s.cells e)[j]? =some (s.cells e)[j]:=List.getElem?_eq_getElem hj
    have hcl:=hcell hje
    refine⟨vs x j,h5 _ _ _ hcl,((h6 _ _ _ hcl).WX (ok:=fun _=>True) (fun _ _=>trivial)).L3,?_⟩
    rcases Mw (n:=n) hje with⟨t,ys,k,e1,e2,e3,e4⟩|⟨e1,e2⟩
    · rw[hv]at e2;cases e2
      rw[←show pl'.hdr (n+k)=vs x j from(Pl.Ql e3).1]
      refine .own (n+k) none t ys ?_
      have hnk:=hn k (hlt e3)
      rw[hlk,hput,if_neg (fun e=>by rw[←e,hl]at hnk;exact nomatch hnk),hnk,Option.bind_none,Option.none_or,if_pos (by omega),show n+k-n=k from by omega]
      exact e4
    · rw[hv]at e2;cases e2
      exact .r _ _ _ (((h6 _ _ _ hcl).WX (ok:=fun _=>True) (fun _ _=>trivial)).scalar _ e1)
theorem Xh {o:Oper} {a:Act} {T:TypeId} {p:Operand} {n i x:Nat} {s:S} {xs:List s.E} {e:s.E} {v:SV} (hr:Hq H pl w) (ho:o.op=.load T p)
    (hl:look H i=some (.arr none (.st s) xs)) (hx:xs[x]? =some e) (hv:Jd P T (MW n (s.cells e))=some v) (hp:GG w H pl (.ptr i x 0) (a.eval p))
    (hn:∀k,k<(J5 (s.cells e)).length→look H (n+k)=none):
    Jr P o a w H pl n {v:=v,news:=J5 (s.cells e),upd:=[(i,.arr none (.ho s) (LQ xs x))],JO:=[i]}:=by
  refine⟨fun j B h=>?_,fun H' next Q ha hN=>?_⟩
  · rw[GK]at h
    by_cases c:i=j
    · subst c;exact⟨_,hl⟩
    · rw[if_neg c]at h;simp[look]at h
  obtain⟨pl',b,k,cap,h1,hst,hc⟩:=Xg hr hl hx hn ha
  generalize he:a.eval p=u at hp
  cases hp with
  |MZ _ _ cs b m hl' hh=>rw[hl]at hl';exact nomatch hl'
  | Mj _ _ _ sh t' xs' b' m nn cap' hl' hx' hh =>
    rw[hl]at hl';cases hl'
    rw[h1]at hh;cases hh
    obtain⟨u,g1,g2⟩:=P6 (H:=H') (pl:=pl') hv b (k+x*s.sz) (fun j y hy=>by
      obtain⟨u,q1,q2,q3⟩:=hc j y hy
      exact⟨u,by rw[Nat.add_assoc];exact q1,q2,q3⟩)
    refine J6 (u:=u) (w':=w) ?_ (hN u pl' w hst g2)
    rw[execOp,ho]
    refine HR ?_
    rw[Instr.loadAt,he]
    exact g1
theorem L8 {α:Type}:∀{zs:List (Option α)} {xs:List α},Q3 zs=some xs→zs=xs.map some
  |[],xs,h=>by cases h;rfl
  |none::_,xs,h=>nomatch h
  | some a :: l, xs, h => by
    simp only[Q3,Option.bind_eq_some_iff,Option.some.injEq]at h
    obtain⟨ys,h,rfl⟩:=h
    rw[L8 h];rfl
structure Ri (t t':Ty) (xs:List t.El) (ys:List t'.El):Prop where
  sz:t.sz=t'.sz
  len:xs.length=ys.length
  cells:∀i j r,GM t xs i j r↔GM t' ys i j r
theorem VP {s:S} {xs:List s.E}:Ri (.ho s) (.st s) (xs.map some) xs:=⟨rfl,List.length_map _,fun i j r=>by
  constructor
  · rintro ⟨y,hy,hr⟩
    have hy:(xs.map some)[i]? =some y:=hy
    rw[List.getElem?_map]at hy
    obtain⟨z,hz,rfl⟩:=Option.map_eq_some_iff.1 hy
    exact⟨z,hz,hr⟩
  · rintro ⟨y,hy,hr⟩
    refine⟨some y,?_,hr⟩
    show(xs.map some)[i]? =some (some y)
    rw[List.getElem?_map]
    exact congrArg (Option.map some) hy⟩
theorem VQ {t:Ty} {xs:List (List t.El)}:Ri (.hl t) (.sl t) (xs.map some) xs:=⟨rfl,List.length_map _,fun i j r=>by
  constructor
  · rintro ⟨y,hy,hr⟩
    have hy:(xs.map some)[i]? =some y:=hy
    rw[List.getElem?_map]at hy
    obtain⟨z,hz,rfl⟩:=Option.map_eq_some_iff.1 hy
    exact⟨z,hz,hr⟩
  · rintro ⟨y,hy,hr⟩
    refine⟨some y,?_,hr⟩
    show(xs.map some)[i]? =some (some y)
    rw[List.getElem?_map]
    exact congrArg (Option.map some) hy⟩
theorem Ri.row {t t':Ty} {xs:List t.El} {ys:List t'.El} {inner:R→Value→(Cell→Prop)→Prop} {hdr:Value} {fp:Cell→Prop} (h:Ri t t' xs ys) (hr:Nonempty (Row w inner t xs hdr fp)):
    Nonempty (Row w inner t' ys hdr fp):=by
  obtain⟨⟨a,cap,b,o,vs,fs,h1,h2,h3,h4,h5,h6,h7,h8,h9⟩⟩:=hr
  rw[h.len]at h1 h2
  rw[h.sz]at h4 h5 h7 h9
  refine⟨⟨a,cap,b,o,vs,fs,h1,h2,h3,h4,fun i j r hc=>h5 i j r ((h.cells i j r).2 hc),fun i j r hc=>h6 i j r ((h.cells i j r).2 hc),fun i j r p hc=>h7 i j r p ((h.cells i j r).2 hc),
    fun i j r i' j' r' p hc hc'=>h8 i j r i' j' r' p ((h.cells i j r).2 hc) ((h.cells i' j' r').2 hc'),fun p=>(h9 p).trans ⟨?_,?_⟩⟩⟩
  · rintro (hp|⟨i,j,r,hc,hf⟩)
    · exact .inl hp
    · exact .inr ⟨i,j,r,(h.cells i j r).1 hc,hf⟩
  · rintro (hp|⟨i,j,r,hc,hf⟩)
    · exact .inl hp
    · exact .inr ⟨i,j,r,(h.cells i j r).2 hc,hf⟩
inductive X1:Blk→Blk→Prop
  |same (B:Blk):X1 B B
  |arr (t t':Ty) (xs:List t.El) (ys:List t'.El) (h:Ri t t' xs ys):X1 (.arr none t xs) (.arr none t' ys)
theorem X1.JP {B B':Blk} (h:X1 B B'):B.JP B':=by
  cases h with
  |same=>exact B.Hz
  |arr t t' xs ys h=>exact⟨h.sz,h.len⟩
def Qm (H H':GV):Prop:=∀k,(look H k=none∧look H' k=none)∨∃B B',look H k=some B∧look H' k=some B'∧X1 B B'
theorem Qm.fwd (h:Qm H H') {k:Nat} {B:Blk} (e:look H k=some B):∃B',look H' k=some B'∧X1 B B':=by
  rcases h k with⟨g,_⟩|⟨B1,B',g1,g2,g3⟩
  · rw[g]at e;exact nomatch e
  · rw[g1]at e;cases e;exact⟨B',g2,g3⟩
theorem Qm.bwd (h:Qm H H') {k:Nat} {B':Blk} (e:look H' k=some B'):∃B,look H k=some B∧X1 B B':=by
  rcases h k with⟨_,g⟩|⟨B,B1,g1,g2,g3⟩
  · rw[g]at e;exact nomatch e
  · rw[g2]at e;cases e;exact⟨B,g1,g3⟩
theorem Qm.keeps (h:Qm H H'):JF ([],[]) w H pl w H' pl:=by
  refine⟨fun i B hB _=>?_,fun d p u _ hp hu=>⟨⟨hp.1,fun i B' hB' hm=>?_⟩,hu⟩⟩
  · obtain⟨B',g1,g2⟩:=h.fwd hB
    exact⟨B',g1,g2.JP,rfl⟩
  · obtain⟨B,g1,g2⟩:=h.bwd hB'
    exact hp.2 i B g1 fun e=>(Blk.Je g2.JP).trans (hm e)
theorem Qm.Zo (h:Qm H H') (hr:Hq H pl w):Hq H' pl w:=by
  refine⟨fun i B' hB'=>?_,fun i j B B' p h1 h2=>?_,fun i B p h1=>?_,hr.nb⟩
  · obtain⟨B,g1,g2⟩:=h.bwd hB'
    have hb:=hr.blk i B g1
    cases g2 with
    |same=>exact hb.HL h.keeps rfl (fun _=>Iff.rfl) (fun p u _ hu=>⟨hu,rfl⟩) (Blk.HA _)
    |arr t t' xs ys q=>exact q.row hb
  · obtain⟨B1,g1,_⟩:=h.bwd h1
    obtain⟨B2,g2,_⟩:=h.bwd h2
    exact hr.dis i j B1 B2 p g1 g2
  · obtain⟨B1,g1,_⟩:=h.bwd h1
    exact hr.ob i B1 p g1
variable {ρ:Type}
theorem Blk.SD {b:Blk} {K:Blk→Option ρ} {out:ρ} (h:b.Vw K=some out):∃b',K b'=some out∧X1 b b':=by
  unfold Blk.Vw at h
  split at h
  · rename_i s zs
    rw[Option.bind_eq_some_iff]at h
    obtain⟨xs,h1,h2⟩:=h
    have:=L8 h1
    subst this
    exact⟨_,h2,.arr _ _ _ _ VP⟩
  · rename_i t zs
    rw[Option.bind_eq_some_iff]at h
    obtain⟨xs,h1,h2⟩:=h
    have:=L8 h1
    subst this
    exact⟨_,h2,.arr _ _ _ _ VQ⟩
  · exact⟨_,h,.same _⟩
theorem Ol:∀{H:GV} {K:GV→Option ρ} {out:ρ},Vx H K=some out→∃H',K H'=some out∧Qm H H'
  |[],K,out,h=>⟨[],h,fun k=>.inl ⟨rfl,rfl⟩⟩
  | (k, b) :: l, K, out, h => by
    obtain⟨b',h1,h2⟩:=Blk.SD h
    obtain⟨l',h3,h4⟩:=Ol h1
    refine⟨_,h3,fun m=>?_⟩
    rw[GK,GK]
    by_cases c:k=m
    · rw[if_pos c,if_pos c];exact .inr ⟨b,b',rfl,rfl,h2⟩
    · rw[if_neg c,if_neg c];exact h4 m
end
end Go.Proofs.Ev
set_option linter.unusedVariables false
namespace Go.Proofs.Ev
variable [Tok]
set_option linter.unusedSectionVars false
section
variable {w:World} {H:GV} {pl:Pl} {P:Program}
theorem LB {t:Ty} {ys:List t.El} {y:t.El} {q n i j:Nat} {r:R} (hn:q+n≤ys.length) (h:GM t (ys.take q++List.replicate n y++ys.drop (q+n)) i j r):
    (q≤i∧i<q+n∧(t.cells y)[j]? =some r)∨(¬(q≤i∧i<q+n)∧GM t ys i j r):=by
  obtain⟨x,hx,hr⟩:=h
  have hl:(ys.take q).length=q:=by rw[List.length_take];omega
  by_cases c:q≤i∧i<q+n
  · rw[List.append_assoc,List.getElem?_append_right (by omega),hl,List.getElem?_append_left (by simp;omega),List.getElem?_replicate,if_pos (by omega)]at hx
    cases hx
    exact .inl ⟨c.1,c.2,hr⟩
  · refine .inr ⟨c,x,?_,hr⟩
    by_cases c1:i<q
    · rw[List.append_assoc,List.getElem?_append_left (by omega),List.getElem?_take,if_pos c1]at hx
      exact hx
    · rw[List.getElem?_append_right (by simp;omega),List.getElem?_drop]at hx
      rw[←hx];congr 1;simp;omega
theorem Xi {h h':GV} (hh:Ext h h') {v:SV} {p:Nat× Nat× Nat} (e:Sg h v=some p):Sg h' v=some p:=by
  unfold Sg at e⊢
  split at e
  · exact e
  · split at e
    · rename_i hl
      rw[hh _ _ hl];exact e
    · exact nomatch e
  · exact nomatch e
theorem UG {t:Ty} {sh:Option (List Nat)} {ys:List t.El} {i q num:Nat} {H':GV} {y:t.El} {us:List Value} {b m n cap:Nat}
    (hr:Hq H pl w) (hl:look H i=some (.arr sh t ys)) (hh:pl.hdr i=.slice (some ⟨b,m,none⟩) n cap) (hq:q+num≤ys.length) (hus:us.length=num*t.sz) (hone:∀u∈us,one u=true)
    (hin:∀j r,(t.cells y)[j]? =some r→∀x,x<num→∃u,us[x*t.sz+j]? =some u∧Ie w r u (fun _=>False)) (hpos0:0<num)
    (hit':hit [i] (sh.getD [])=false) (ht:Kl H H' ([],[i]) i (.arr sh t (ys.take q++List.replicate num y++ys.drop (q+num)))):
    ∃w',(storeCells ⟨b,m+q*t.sz,none⟩ us).run P w=.ok () w'∧∃fp',Hp H H' ([],[i]) pl (pl.set i (pl.hdr i) fp') w w':=by
  obtain⟨⟨a,cap',b',o,vs,fs,hhd,IH,ha,JR,hc,hrr,hd1,hd2,hfp⟩⟩:=(hr.blk i _ hl).Yp
  rw[hh]at hhd
  cases hhd
  have hsp:=t.IE
  have hab:b=b'∧m=o:=by
    rcases ha with h|h
    · omega
    · cases h;exact⟨rfl,rfl⟩
  obtain⟨rfl,rfl⟩:=hab
  have hpos:q*t.sz+us.length≤cap*t.sz:=by
    have:(q+num)*t.sz≤cap*t.sz:=Nat.mul_le_mul_right _ (by omega)
    rw[Nat.add_mul]at this;omega
  have hcell:∀j,j<us.length→∃u,w.at? (b,m+q*t.sz+j)=some u∧calm (w.HW (b,m+q*t.sz+j))=true:=fun j hj=>by
    obtain⟨⟨u,q1⟩,q2⟩:=JR (q*t.sz+j) (by omega)
    rw[show m+q*t.sz+j=m+(q*t.sz+j)from by omega]
    exact⟨u,q1,Ly q2⟩
  have hst:=run_storeCells_cells (P:=P) b (m+q*t.sz) us 0 w (fun j hj=>by
      obtain⟨u,q1,_⟩:=hcell j hj
      simp only[Nat.add_zero]
      have q1:w.cell? ⟨b,m+q*t.sz+j,none⟩=some u:=q1
      rw[q1];rfl) (fun j hj=>by
      obtain⟨u,q1,q2⟩:=hcell j hj
      simp only[Nat.add_zero];exact JD q1 q2) (fun u hu=>KA (hone u hu))
  simp only[Nat.add_zero]at hst
  have hcellin:∀j,j<us.length→(w.setCells b (m+q*t.sz) us).at? (b,m+q*t.sz+j)=us[j]? :=fun j hj=>by
    have:=World.cell?_setCells_in b us (m+q*t.sz) w (fun j hj=>by
      obtain⟨u,q1,_⟩:=hcell j hj
      have q1:w.cell? ⟨b,m+q*t.sz+j,none⟩=some u:=q1
      rw[q1];rfl) j hj
    rw[List.getElem?_eq_getElem hj]
    simpa[World.at?]using this
  have hcellout:∀p u,w.at? p=some u→¬(p.1=b∧m+q*t.sz≤p.2∧p.2<m+q*t.sz+us.length)→(w.setCells b (m+q*t.sz) us).at? p=some u:=fun p u hp hno=>by
    unfold World.at? at*
    rw[World.cell?_setCells_out b _ _ w _ (fun e1 _=>by simp at e1;simp;omega)]
    exact hp
  have hice:∀p,(w.setCells b (m+q*t.sz) us).HW p=w.HW p:=fun p=>Ii _ _ _ _ _
  have hregin:∀p,reg b m (cap*t.sz) p→pl.fp i p:=fun p hp=>(hfp p).2 (.inl hp)
  have hfsin:∀i' j r p,GM t ys i' j r→fs i' j p→pl.fp i p:=fun i' j r p hx hf=>(hfp p).2 (.inr ⟨i',j,r,hx,hf⟩)
  have hmi:mem i [i]=true:=by simp[mem]
  have hylen:(ys.take q++List.replicate num y++ys.drop (q+num)).length=ys.length:=by simp;omega
  refine⟨_,hst,fun p=>reg b m (cap*t.sz) p∨∃i' j r,GM t ys i' j r∧¬(q≤i'∧i'<q+num)∧fs i' j p,?_⟩
  refine Jh (HG.setCells _ _ _ _) hr ht (fun x hx=>nomatch hx) (fun x hx=>?_) (.inr ⟨_,hl,hmi,by simp only[Blk.JP];exact⟨trivial,hylen.symm⟩,rfl⟩) (fun p u hp hno=>⟨hcellout p u hp fun hin=>?_,hice p⟩) (fun p hp=>?_) (fun p hp=>?_) fun hkp=>?_
  · refine .inr ?_
    simp only[mem]at hx
    cases hb:Nat.beq i x
    · rw[hb]at hx;exact nomatch hx
    · exact(Nat.eq_of_beq_eq_true hb).symm
  · exact hno i _ hmi hl (hregin p ⟨hin.1,by omega,by omega⟩)
  · refine hr.nb p ?_
    cases hq':w.at? p with
    |none=>rfl
    | some u =>
      by_cases hin:p.1=b∧m+q*t.sz≤p.2∧p.2<m+q*t.sz+us.length
      · obtain⟨p1,p2⟩:=p
        obtain⟨e1,e2,e3⟩:=hin
        simp only at e1 e2 e3
        subst e1
        have:=hcellin (p2-(m+q*t.sz)) (by omega)
        rw[show m+q*t.sz+(p2-(m+q*t.sz))=p2 from by omega,hp,List.getElem?_eq_getElem (by omega)]at this
        exact nomatch this
      · rw[hcellout p u hq' hin]at hp;exact nomatch hp
  · rcases hp with hp|⟨i',j,r,hx,_,hf⟩
    · exact .inr ⟨i,_,hmi,hl,hregin p hp⟩
    · exact .inr ⟨i,_,hmi,hl,hfsin i' j r p hx hf⟩
  · have ND:∀{i' j},j<t.sz→¬(q≤i'∧i'<q+num)→¬(m+q*t.sz≤m+(i'*t.sz+j)∧m+(i'*t.sz+j)<m+q*t.sz+us.length):=fun{i' j} hj hne ⟨g1,g2⟩=>by
      rcases Nat.lt_or_ge i' q with h|h
      · have:(i'+1)*t.sz≤q*t.sz:=Nat.mul_le_mul_right _ h
        rw[Nat.succ_mul]at this;omega
      · have h2:q+num≤i':=by omega
        have:(q+num)*t.sz≤i'*t.sz:=Nat.mul_le_mul_right _ h2
        rw[Nat.add_mul]at this;omega
    have frameD:∀{r:R} {u:Value} {f:Cell→Prop},Ie w r u f→(∀p,f p→¬reg b m (cap*t.sz) p)→Ie (w.setCells b (m+q*t.sz) us) r u f:=fun h hno=>h.frame fun p u hf hu=>⟨hcellout p u hu fun hin=>hno p hf ⟨hin.1,by omega,by omega⟩,hice p⟩
    refine HV.J7 ⟨some ⟨b,m,none⟩,cap,b,m,fun i' j=>if q≤i'∧i'<q+num then(us[(i'-q)*t.sz+j]?).getD undef else vs i' j,fun i' j p=>¬(q≤i'∧i'<q+num)∧fs i' j p,by rw[hylen];simp[Pl.set,hh],by rw[hylen];exact IH,.inr rfl,fun j hj=>⟨?_,by rw[hice];exact(JR j hj).2⟩,fun i' j r hx=>?_,fun i' j r hx=>?_,fun i' j r p hx hf=>?_,fun i' j r i2 j2 r2 p hx hx' hf hf'=>?_,fun p=>?_⟩
    · by_cases hin:q*t.sz≤j∧j<q*t.sz+us.length
      · have:=hcellin (j-q*t.sz) (by omega)
        rw[show m+q*t.sz+(j-q*t.sz)=m+j from by omega]at this
        exact⟨_,this.trans (List.getElem?_eq_getElem (by omega))⟩
      · obtain⟨u,hu⟩:=(JR j hj).1
        exact⟨u,hcellout _ u hu fun h=>hin ⟨by have:=h.2.1;simp at this;omega,by have:=h.2.2;simp at this;omega⟩⟩
    · rcases LB hq hx with⟨g1,g2,g3⟩|⟨g1,g2⟩
      · rw[if_pos ⟨g1,g2⟩]
        obtain⟨u,hu,_⟩:=hin _ _ g3 (i'-q) (by omega)
        have hlt:=(List.getElem?_eq_some_iff.1 hu).1
        have:=hcellin _ hlt
        have e:m+q*t.sz+((i'-q)*t.sz+j)=m+(i'*t.sz+j):=by
          have:i'*t.sz=q*t.sz+(i'-q)*t.sz:=by rw[←Nat.add_mul];congr 1;omega
          omega
        rw[e]at this
        rw[this,hu];rfl
      · rw[if_neg g1]
        exact hcellout _ _ (hc _ _ _ g2) fun h=>ND (GZ g2).2 g1 ⟨h.2.1,h.2.2⟩
    · rcases LB hq hx with⟨g1,g2,g3⟩|⟨g1,g2⟩
      · rw[if_pos ⟨g1,g2⟩]
        obtain⟨u,hu,hI⟩:=hin _ _ g3 (i'-q) (by omega)
        rw[hu,Option.getD_some]
        have hI':=frameD hI fun p hf=>hf.elim
        have hno:∀p,¬(¬(q≤i'∧i'<q+num)∧fs i' j p):=fun p hf=>hf.1 ⟨g1,g2⟩
        cases sh with
        |none=>exact hI'.congr fun p=>⟨fun h=>h.elim,fun h=>(hno p h).elim⟩
        |some d=>exact⟨hI'.WX fun p h=>h.elim,hno⟩
      · simp only[if_neg g1]
        have hI:=hrr _ _ _ g2
        cases sh with
        |none=>exact Ie.congr (frameD hI fun p hf=>hd1 _ _ _ p g2 hf) fun p=>⟨fun h=>⟨g1,h⟩,fun h=>h.2⟩
        | some d =>
          rw[hh]
          exact⟨hI.1.frame fun p u hp hu=>(hh▸hkp).k2 d p u (fun x hx=>H9 _ d hit' x hx) hp hu,fun p hf=>hI.2 p hf.2⟩
    · rcases LB hq hx with⟨g1,g2,g3⟩|⟨g1,g2⟩
      · exact(hf.1 ⟨g1,g2⟩).elim
      · exact hd1 _ _ _ p g2 hf.2
    · rcases LB hq hx with⟨g1,g2,g3⟩|⟨g1,g2⟩
      · exact(hf.1 ⟨g1,g2⟩).elim
      · rcases LB hq hx' with⟨q1,q2,q3⟩|⟨q1,q2⟩
        · exact(hf'.1 ⟨q1,q2⟩).elim
        · exact hd2 _ _ _ _ _ _ p g2 q2 hf.2 hf'.2
    · simp only[Pl.set,if_true]
      constructor
      · rintro (h|⟨i',j,r,hx,hne,hf⟩)
        · exact .inl h
        · have hlt:=GZ hx
          obtain⟨r',hr'⟩:=HP (t:=t) (xs:=ys.take q++List.replicate num y++ys.drop (q+num)) (i:=i') (j:=j) (by rw[hylen];exact hlt.1) hlt.2
          exact .inr ⟨i',j,r',hr',hne,hf⟩
      · rintro (h|⟨i',j,r,hx,hf⟩)
        · exact .inl h
        · rcases LB hq hx with⟨g1,g2,g3⟩|⟨g1,g2⟩
          · exact(hf.1 ⟨g1,g2⟩).elim
          · exact .inr ⟨_,_,_,g2,hf⟩
theorem VR {o:Oper} {a:Act} {s:List (Nat× SV)} {n:Nat} {args:Array Operand} {tys:Array TypeId} {v:SV} {T:TypeId} {e:TypeId} {t:Ty} {z:List SV} {sh:Option (List Nat)} {ys:List t.El} {y:t.El} {i q num:Nat}
    (hr:Hq H pl w) (hs:Iv w H pl s a) (ho:o.op=.call {callee:=.builtin .clear,args:=args,argTypes:=tys}) (hvs:L0 s args.toList=some [v]) (hty:tys.toList=[T])
    (he:JN P T=some e) (hz:Ir P e=some z) (hzl:z.length=t.sz) (hv:Sg H v=some (i,q,num)) (hl:look H i=some (.arr sh t ys)) (hy:IZ H t 1 z=some ([],[y])):
    Jr P o a w H pl n {v:=.undef,upd:=[(i,.arr sh t (ys.take q++List.replicate num y++ys.drop (q+num)))],JO:=[i]}:=by
  refine⟨fun j B h=>?_,fun H' next Q ha hN=>?_⟩
  · rw[GK]at h
    by_cases e:i=j
    · subst e;exact⟨_,hl⟩
    · rw[if_neg e]at h;simp[look]at h
  obtain⟨ht,hh⟩:=Mt (c:={v:=.undef,upd:=[(i,.arr sh t (ys.take q++List.replicate num y++ys.drop (q+num)))],JO:=[i]}) hl rfl rfl rfl ha
  obtain⟨p,hpq,hp⟩:∃p,args.toList=[p]∧opd s p=some v:=by
    cases hq:args.toList with
    |nil=>rw[hq]at hvs;exact nomatch hvs
    | cons p l =>
      rw[hq]at hvs
      simp only[L0,Option.bind_eq_some_iff,Option.some.injEq]at hvs
      obtain⟨v',h1,vs',h2,h3⟩:=hvs
      cases l with
      |nil=>cases h2;cases h3;exact⟨p,rfl,h1⟩
      | cons p2 l2 =>
        simp only[L0,Option.bind_eq_some_iff,Option.some.injEq]at h2
        obtain⟨_,_,_,_,rfl⟩:=h2
        cases h3
  have hpr:=G1 hs hp
  have hargs:args.map a.eval=#[a.eval p]:=by rw[show args=#[p]from Array.ext' hpq];simp
  have hta:tys=#[T]:=Array.ext' hty
  have hT:=Jy he
  obtain⟨zu,hzu,hzc⟩:=M3 hr hz
  have hzs:zu.cells.size=t.sz:=by rw[←hzc.hl,hzl]
  have hrun0:∀w',(Builtin.clear_ #[T] o.type #[a.eval p]).run P w=.ok (.tuple #[]) w'→(execOp a.eval o).run P w=.ok (.value (.tuple #[])) w':=fun w' h=>by
    rw[execOp,ho,hta]
    simp only[resolve,hargs,invoke,builtin,Sem.run_bind,Sem.run_pure,Result.andThen_ok,h]
  have hsl:∃A c b m n' cap,a.eval p=.slice A num c∧q+num≤ys.length∧(0<num→pl.hdr i=.slice (some ⟨b,m,none⟩) n' cap∧A=some ⟨b,m+q*t.sz,none⟩):=by
    obtain⟨⟨a0,cap,b,m,vs,fs,hhd,IH,ha0,_⟩⟩:=(hr.blk i _ hl).Yp
    generalize a.eval p=u at hpr
    cases hpr with
    | own j sh' t' xs' hl' =>
      simp only[Sg,hl',Option.some.injEq,Prod.mk.injEq]at hv
      obtain⟨rfl,rfl,rfl⟩:=hv
      rw[hl]at hl';cases hl'
      refine⟨a0,cap,b,m,ys.length,cap,hhd,by omega,fun h0=>?_⟩
      rcases ha0 with h|h
      · omega
      · rw[hhd,h];simp
    | sub j o' n' sh' t' xs' a1 a2 cap1 cap2 hl' hh' hn hc hc' ha' =>
      simp only[Sg,Option.some.injEq,Prod.mk.injEq]at hv
      obtain⟨rfl,rfl,rfl⟩:=hv
      rw[hl]at hl';cases hl'
      rw[hh']at hhd
      cases hhd
      refine⟨a2,cap2,b,m,ys.length,cap,rfl,hn,fun h0=>?_⟩
      rcases ha0 with h|h
      · omega
      · rcases ha' with h'|h'
        · omega
        · rw[hh',h',h];exact⟨rfl,by simp[Addr.add]⟩
    |_=>exact nomatch hv
  obtain⟨A,c,b,m,n',cap,hA,hqn,hA2⟩:=hsl
  by_cases h0:num=0
  · subst h0
    have hrun:(Builtin.clear_ #[T] o.type #[a.eval p]).run P w=.ok (.tuple #[]) w:=by
      rw[hA]
      cases A<;>simp[Builtin.clear_,run_underlying hT]
    have hsame:ys.take q++List.replicate 0 y++ys.drop (q+0)=ys:=by simp
    rw[hsame]at ht
    refine J6 (hrun0 w hrun) (hN _ _ w (Jh (fp:=pl.fp i) (hdr:=pl.hdr i) (HG.refl w) hr ht (fun x hx=>nomatch hx) (fun x hx=>.inr ?_) (.inr ⟨_,hl,by simp[CR.kil,mem],Blk.Hz _,rfl⟩) (fun p u hp _=>⟨hp,rfl⟩) (fun p hp=>hr.nb p hp) (fun p hp=>.inr ⟨i,_,by simp[CR.kil,mem],hl,hp⟩) fun hkp=>?_) (.undef _))
    · have hx:mem x [i]=true:=hx
      simp only[mem]at hx
      cases hb:Nat.beq i x
      · rw[hb]at hx;exact nomatch hx
      · exact(Nat.eq_of_beq_eq_true hb).symm
    · obtain⟨⟨a0,cap0,b0,m0,vs,fs,q1,q2,q3,q4,q5,q6,q7,q8,q9⟩⟩:=(hr.blk i _ hl).Yp
      refine HV.J7 ⟨a0,cap0,b0,m0,vs,fs,by simpa[Pl.set]using q1,q2,q3,q4,q5,fun i' j r hx=>?_,q7,q8,by simpa[Pl.set]using q9⟩
      have hI:=q6 i' j r hx
      cases sh with
      |none=>exact hI
      |some d=>exact⟨hI.1.frame fun p u hp hu=>hkp.k2 d p u (fun x hx=>H9 _ d hh x hx) hp hu,hI.2⟩
  · obtain⟨hA3,hA4⟩:=hA2 (by omega)
    have hus:(Builtin.zeroCells zu.cells num).toList.length=num*t.sz:=by simp[Builtin.zeroCells,hzs]
    have hget:∀k,k<num*t.sz→(Builtin.zeroCells zu.cells num).toList[k]? =some (zu.cells[k %t.sz]!):=fun k hk=>by
      simp[Builtin.zeroCells,hzs,hk]
    have hzin:∀k,k<t.sz→∃h:k<zu.cells.size,zu.cells[k]! =zu.cells[k]:=fun k hk=>⟨by omega,by rw[getElem!_pos]⟩
    obtain⟨w',hst,fp',hstep⟩:=UG (P:=P) (us:=(Builtin.zeroCells zu.cells num).toList) hr hl hA3 hqn hus (fun u hu=>by
        obtain⟨k,hk⟩:=List.getElem?_of_mem hu
        have hkl:k<num*t.sz:=by rw[←hus];exact(List.getElem?_eq_some_iff.1 hk).1
        rw[hget k hkl]at hk
        cases hk
        obtain⟨h1,h2⟩:=hzin (k %t.sz) (Nat.mod_lt _ t.IE)
        rw[h2]
        exact hzc.h1 (k %t.sz) _ (by rw[Array.getElem?_eq_getElem h1])) (fun j r hj x hx=>by
        have hjl:j<t.sz:=by have:=(List.getElem?_eq_some_iff.1 hj).1;rwa [Ty.Hn]at this
        obtain⟨u,hu,hd⟩:=JT hr hy hzc 0 j r ⟨y,rfl,hj⟩
        rw[Nat.zero_mul,Nat.zero_add]at hu
        refine⟨u,?_,hd⟩
        have hlt:x*t.sz+j<num*t.sz:=K8 hx hjl (Nat.le_refl _)
        rw[hget _ hlt,Nat.mul_comm,Nat.mul_add_mod,Nat.mod_eq_of_lt hjl]
        obtain⟨h1,h2⟩:=hzin j hjl
        rw[h2]
        rw[Array.getElem?_eq_getElem h1]at hu
        exact hu) (by omega) hh ht
    have hrun:(Builtin.clear_ #[T] o.type #[a.eval p]).run P w=.ok (.tuple #[]) w':=by
      rw[hA,hA4]
      obtain⟨k,rfl⟩:∃k,num=k+1:=⟨num-1,by omega⟩
      simp[Builtin.clear_,run_underlying hT,hzu,hst]
    exact J6 (hrun0 w' hrun) (hN _ _ w' hstep (.undef _))
end
end Go.Proofs.Ev
