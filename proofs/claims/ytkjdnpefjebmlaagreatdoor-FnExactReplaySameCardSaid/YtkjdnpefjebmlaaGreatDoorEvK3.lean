/- The evaluator over the model's code, and that it is sound: part 3. -/
import Derived.Test.YtkjdnpefjebmlaaGreatDoorEvK2
import Derived.IntWalk
set_option linter.unusedVariables false
set_option linter.unusedSimpArgs false
set_option linter.unusedSectionVars false
namespace Go.Proofs.Ev
open IntKind(i64 u8 u64)
section
variable [Tok]
def AL (w:World) (H:aM) (pl:Pl) (sh:Option (List Nat)) (r:R) (u:Value) (f:Cell->Prop):Prop:=
 match sh with
 |none=>fV w r u f
 |some d=>RepR w (okd H pl d) r u/\∀p,¬f p
theorem pU {u:Value} (h:one u=true):u.oneCell'=true:=by cases u<;>simp_all [one,Value.oneCell']
theorem fV.tD {w:World} {r:R} {u:Value} {f:Cell->Prop} (h:fV w r u f):one u=true:=by cases h<;>first|rfl|exact Tok.Oa _|assumption
theorem AL.tD {w:World} {H:aM} {pl:Pl} {sh:Option (List Nat)} {r:R} {u:Value} {f:Cell->Prop} (h:AL w H pl sh r u f):one u=true:=by
 cases sh with
 |none=>exact fV.tD h
 |some d=>exact RepR.tD h.1
theorem eL.Tc {w:World} {H:aM} {pl:Pl} {i:Nat} {sh:Option (List Nat)} {t:Ty} {xs:List t.El} (h:eL w H pl i (.arr sh t xs)):Nonempty (Row w (AL w H pl sh) t xs (pl.hdr i) (pl.fp i)):=by
 cases sh<;>exact h
theorem eL.oF {w:World} {H:aM} {pl:Pl} {i:Nat} {sh:Option (List Nat)} {t:Ty} {xs:List t.El} (h:Nonempty (Row w (AL w H pl sh) t xs (pl.hdr i) (pl.fp i))):eL w H pl i (.arr sh t xs):=by
 cases sh<;>exact h
structure Src (w:World) (H:aM) (pl:Pl) (sh:Option (List Nat)) (ids:List Nat) (t:Ty) (ys:List t.El) (u:Value):Prop where
 ex:∃(x:Option Addr) (c:Nat) (news:List Value) (fs:Nat->Nat->Cell->Prop),u=.slice x ys.length c/\news.length=ys.length*t.sz/\
  (ys.length=0\/∃A,x=some A/\∀(j:Nat) (v:Value),news[j]? =some v->w.cell? (A.add j)=some v)/\(∀v∈news,one v=true)/\
  (∀i j r,aB t ys i j r->∃v,news[i*t.sz+j]? =some v/\AL w H pl sh r v (fs i j))/\
  (∀i j r p,aB t ys i j r->fs i j p->∃k B,mem k ids=true/\look H k=some B/\B.lF=false/\pl.fp k p)/\
  (∀i j r i' j' r' p,aB t ys i j r->aB t ys i' j' r'->fs i j p->fs i' j' p->i=i'/\j=j')
theorem Td {t:Ty} (h:re t=true) {xs:List t.El} {i j:Nat} {r:R} (hc:aB t xs i j r):∀t' l,r≠.sl t' l:=by
 obtain⟨x,_,hr⟩:=hc;intro t' l e;subst e;have hm:=XX hr
 cases t with
 |sl t=>exact nomatch h
 |int k=>simp[Ty.cells]at hm
 |bool=>simp[Ty.cells]at hm
 |str=>simp[Ty.cells]at hm
 |st s=>cases s with
  |shape=>simp[Ty.cells,S.cells,NT]at hm
  |Qw=>simp[Ty.cells,S.cells,SZ]at hm
  |dp=>simp[Ty.cells,S.cells,Dl]at hm
  |jf=>simp[Ty.cells,S.cells,Aq]at hm
  |_=>exact nomatch h
 |tok=>simp[Ty.cells]at hm
 |ho s=>exact nomatch h
 |hl t=>exact nomatch h
theorem RepR.toD {w:World} {ok:Cell->Prop} {r:R} {u:Value} (h:RepR w ok r u) (hs:∀t l,r≠.sl t l):fV w r u (λ_=>False):=by
 cases h with
 |int k n=>exact .int k n
 |bool b=>exact .bool b
 |str l=>exact .str l
 |tok n=>exact .tok n
 |nr _ h=>exact .nr _ h
 |sl t xs=>exact(hs t xs rfl).elim
section
variable {w:World} {H:aM} {pl:Pl} {t:Ty}
theorem jn {f:Nat->Value} {n k:Nat} (h:k<n):((List.range n).map f)[k]? =some (f k):=by simp[h]
theorem ua {t:Ty} {xs:List t.El} {i j:Nat} {r:R} (h:aB t xs i j r):i*t.sz+j<xs.length*t.sz:=rh (aO h).1 (aO h).2 (X1 _)
theorem AM (hr:cY H pl w) {v:SV} {u:Value} {d:List Nat} {ys:List t.El} (h:v.list H t=some (d,ys)) (hv:ar w H pl v u) (sh:Option (List Nat)) (hsh:(re t=true/\sh=none)\/sh=some d):
  Src w H pl sh [] t ys u:=by
 have hl:=(zN hr h hv).1
 cases hl with
 |sl _ _ a cap b o vs hcap ha hc hrr=>
  have hk:∀i j r,aB t ys i j r->(i*t.sz+j)/t.sz=i/\(i*t.sz+j) %t.sz=j:=λi j r hx=>by
   have hj:=(aO hx).2;refine⟨by rw[Ye,Y3 t.ie,YQ hj];simp,by rw[Ye,YH,Yq hj]⟩
  have ub:∀k,k<ys.length*t.sz->∃r,aB t ys (k/t.sz) (k %t.sz) r:=λk hk=>dU (by rw[Zx t.ie];exact hk) (ZI _ t.ie);refine⟨a,cap,(List.range (ys.length*t.sz)).map (λk=>vs (k/t.sz) (k %t.sz)),λ_ _ _=>False,rfl,by simp,?_,λv hv=>?_,λi j r hx=>⟨vs i j,?_,?_⟩,λi j r p _ hf=>hf.elim,λi j r i' j' r' p _ _ hf=>hf.elim⟩
  ·rcases ha with rfl|ha
   ·exact .inl rfl
   ·refine .inr ⟨_,ha,λk v hv=>?_⟩
    have hlt:k<ys.length*t.sz:=by have:=(Of.1 hv).1;simpa using this
    rw[jn hlt]at hv;cases hv;obtain⟨r,hx⟩:=ub k hlt;have:=(hc _ _ _ hx).2;rw[Addr.add_lit];rw[show k/t.sz*t.sz+k %t.sz=k from by rw[Ye];exact Zv _ _]at this;exact this
  ·obtain⟨k,hk',rfl⟩:=ZE.1 hv
   have hlt:k<ys.length*t.sz:=by simpa using hk'
   obtain⟨r,hx⟩:=ub k hlt;exact(hrr _ _ _ hx).tD
  ·rw[jn (ua hx),(hk i j r hx).1,(hk i j r hx).2]
  ·rcases hsh with⟨hf,rfl⟩|rfl
   ·exact(hrr i j r hx).toD (Td hf hx)
   ·exact⟨hrr i j r hx,λ_ h=>h⟩
theorem MA (hr:cY H pl w) {i:Nat} {d:List Nat} {t:Ty} {xs:List t.El} {u:Value} (hl:look H i=some (.arr (some d) t xs)) (hv:ar w H pl (.own i) u):Src w H pl (some d) [] t xs u:=by
 obtain⟨R⟩:=hr.blk i _ hl
 have hu:u=pl.hdr i:=by cases hv;rfl
 subst hu;have ub:∀k,k<xs.length*t.sz->∃r,aB t xs (k/t.sz) (k %t.sz) r:=λk hk=>dU (by rw[Zx t.ie];exact hk) (ZI _ t.ie)
 have hk:∀i j r,aB t xs i j r->(i*t.sz+j)/t.sz=i/\(i*t.sz+j) %t.sz=j:=λi j r hx=>by
  have hj:=(aO hx).2;refine⟨by rw[Ye,Y3 t.ie,YQ hj];simp,by rw[Ye,YH,Yq hj]⟩
 refine⟨R.a,R.cap,(List.range (xs.length*t.sz)).map (λk=>R.vs (k/t.sz) (k %t.sz)),λ_ _ _=>False,R.Az,by simp,?_,λv hv=>?_,λi j r hx=>⟨R.vs i j,?_,(R.hr i j r hx).1,λ_ h=>h⟩,λi j r p _ hf=>hf.elim,λi j r i' j' r' p _ _ hf=>hf.elim⟩
 ·rcases R.ha with h0|ha
  ·exact .inl (by have:=R.hcap;omega)
  ·refine .inr ⟨_,ha,λk v hv=>?_⟩
   have hlt:k<xs.length*t.sz:=by have:=(Of.1 hv).1;simpa using this
   rw[jn hlt]at hv;cases hv;obtain⟨r,hx⟩:=ub k hlt;have:=R.hc _ _ _ hx;rw[Addr.add_lit];rw[show k/t.sz*t.sz+k %t.sz=k from by rw[Ye];exact Zv _ _]at this;exact this
 ·obtain⟨k,hk',rfl⟩:=ZE.1 hv
  have hlt:k<xs.length*t.sz:=by simpa using hk'
  obtain⟨r,hx⟩:=ub k hlt;exact(R.hr _ _ _ hx).1.tD
 ·rw[jn (ua hx),(hk i j r hx).1,(hk i j r hx).2]
theorem Dz {h:aM} {t:Ty}:∀{n:Nat} {cs:List SV} {d:List Nat} {xs:List t.El},Mj h t n cs=some (d,xs)->
  xs.length=n/\n*t.sz<=cs.length/\∀i j r,aB t xs i j r->∃v ty d',cs[i*t.sz+j]? =some v/\v.asR h ty=some (d',r)/\∀k,mem k d'=true->mem k d=true
 |0,cs,ids,xs,e=>by cases e;exact⟨rfl,by simp,λi j r h=>by obtain⟨x,hx,_⟩:=h;simp at hx⟩
 |n+1,cs,ids,xs,e=>by
  simp only[Mj,VI,An,It,XO]at e;obtain⟨⟨d,x⟩,⟨⟨d0,rs⟩,h1,x',hx,hx0⟩,⟨d',ys⟩,h2,rfl,rfl⟩:=e;obtain⟨rfl,rfl⟩:=hx0
  have key:∀{ts:List Ty} {vs:List SV} {d:List Nat} {rs:List R},NK h ts vs=some (d,rs)->vs.length=ts.length/\∀(j:Nat) (r:R),rs[j]? =some r->∃v ty d',vs[j]? =some v/\v.asR h ty=some (d',r)/\∀k,mem k d'=true->mem k d=true:=by
   intro ts
   induction ts with
   |nil=>intro vs d rs e;cases vs with
    |nil=>cases e;exact⟨rfl,λj r hr=>by simp at hr⟩
    |cons v vs=>exact nomatch e
   |cons t ts ih=>
    intro vs d rs e
    cases vs with
    |nil=>exact nomatch e
    |cons v vs=>
     simp only[NK,An,It,XO]at e;obtain⟨⟨d1,r1⟩,q1,⟨d2,r2⟩,q2,rfl,rfl⟩:=e;obtain⟨g1,g2⟩:=ih q2;refine⟨by simp[g1],λj r hr=>?_⟩
     cases j with
     |zero=>simp at hr;subst hr;exact⟨v,t,d1,rfl,q1,λk hk=>by rw[mem_append,hk];rfl⟩
     |succ j=>
      obtain⟨v',ty,d',p1,p2,p3⟩:=g2 j r (by simpa using hr);exact⟨v',ty,d',by simpa using p1,p2,λk hk=>by rw[mem_append,p3 k hk,Y7]⟩
  obtain⟨g1,g4⟩:=key h1;obtain⟨k1,k2,k4⟩:=Dz h2;have hc:=Ty.cM t rs _ hx;rw[Ty.wW,X9]at g1;rw[YE]at k2;refine⟨by simp[k1],by rw[Y0];omega,λi j r hc'=>?_⟩
  rcases ez.1 hc' with⟨rfl,hr⟩|⟨i',rfl,hr⟩
  ·rw[hc]at hr;obtain⟨v,ty,d',q1,q2,q3⟩:=g4 j r hr;rw[Yh]at q1;split at q1
   ·exact⟨v,ty,d',by rw[ZQ,XN];exact q1,q2,λk hk=>by rw[mem_append,q3 k hk];rfl⟩
   ·exact nomatch q1
  ·obtain⟨v,ty,d'',q1,q2,q3⟩:=k4 i' j r hr;rw[XU]at q1;exact⟨v,ty,d'',by rw[Y0,show i'*t.sz+t.sz+j=t.sz+(i'*t.sz+j)from by omega];exact q1,q2,λk hk=>by rw[mem_append,q3 k hk,Y7]⟩
theorem mL:∀{l:List Nat},iq l=true->l.Nodup
 |[],_=>List.nodup_nil
 |x::l,h=>by
  simp only[iq]at h;cases hm:mem x l<;>simp only[hm,cond_true,cond_false]at h
  ·exact YI.2 ⟨λh'=>by rw[(mem_iff _ _).2 h']at hm;exact(nomatch hm),mL h⟩
  ·exact nomatch h
theorem Te (hr:cY H pl w) {n:Nat} {cs:List SV} {ids:List Nat} {xs:List t.El} (h:jj H t n cs=some (ids,xs)) (hn:ids.Nodup):
  (∀i j r p v,aB t xs i j r->cs[i*t.sz+j]? =some v->Jq pl v p->∃k B,mem k ids=true/\look H k=some B/\B.lF=false/\pl.fp k p)/\
  (∀i j r i' j' r' p v v',aB t xs i j r->aB t xs i' j' r'->cs[i*t.sz+j]? =some v->cs[i'*t.sz+j']? =some v'->Jq pl v p->Jq pl v' p->i=i'/\j=j'):=by
 obtain⟨h1,h2,h3,h4⟩:=jZ h
 have there:∀i j r v k,aB t xs i j r->cs[i*t.sz+j]? =some v->v=.own k->(cs.take (n*t.sz))[i*t.sz+j]? =some (.own k)/\∃B,look H k=some B/\B.lF=false:=λi j r v k hc hv e=>by
  subst e;have hlt:=ua hc;rw[h1]at hlt;refine⟨by rw[Yh,if_pos hlt];exact hv,?_⟩;obtain⟨v,ty,g1,g2⟩:=h4 i j r hc;rw[hv]at g1;cases g1;obtain⟨t1,ys,hl⟩:=wX g2 rfl;exact⟨_,hl,rfl⟩
 refine⟨λi j r p v hc hv ⟨k,e,hf⟩=>?_,λi j r i' j' r' p v v' hc hc' hv hv' ⟨k,e,hf⟩ ⟨k',e',hf'⟩=>?_⟩
 ·obtain⟨g1,B,g2,g3⟩:=there i j r v k hc hv e;exact⟨k,B,(mem_iff _ _).2 (by rw[h3];exact o6 g1),g2,g3,hf⟩
 ·obtain⟨g1,B,g2,_⟩:=there i j r v k hc hv e;obtain⟨g1',B',g2',_⟩:=there i' j' r' v' k' hc' hv' e';have:=hr.dis k k' B B' p g2 g2' hf hf';subst this;have hk:=AK (h3▸hn) g1 g1';have hj:=(aO hc).2;have hj':=(aO hc').2
  have e1:(i*t.sz+j)/t.sz=i:=by rw[Ye,Y3 t.ie,YQ hj];simp
  have e2:(i'*t.sz+j')/t.sz=i':=by rw[Ye,Y3 t.ie,YQ hj'];simp
  have e3:(i*t.sz+j) %t.sz=j:=by rw[Ye,YH,Yq hj]
  have e4:(i'*t.sz+j') %t.sz=j':=by rw[Ye,YH,Yq hj']
  exact⟨by rw[<-e1,<-e2,hk],by rw[<-e3,<-e4,hk]⟩
theorem MB (hr:cY H pl w) {v:SV} {u:Value} {sh:Option (List Nat)} {ids:List Nat} {ys:List t.El} (h:tY H t v=some (sh,ids,ys)) (hv:ar w H pl v u):Src w H pl sh ids t ys u:=by
  have lst : ∀ {v : SV}, ar w H pl v u -> ((v.list H t).bind λ p => cond (re t) (some (none, [], p.2)) (some (some (qQ H v p.1), [], p.2))) = some (sh, ids, ys) -> Src w H pl sh ids t ys u := λ {v} hv h => by
    rw[An]at h;obtain⟨⟨d,zs⟩,h1,h2⟩:=h;cases hf:re t<;>simp only[hf,cond_true,cond_false,It,XO]at h2
    · obtain ⟨rfl, rfl, rfl⟩ := h2
      have plain:qQ H v d=d->Src w H pl (some (qQ H v d)) [] t zs u:=λe=>by rw[e];exact AM hr h1 hv _ (.inr rfl)
      cases v with
      | own i =>
        simp only[SV.list]at h1
        cases hl:look H i with
        |none=>rw[hl]at h1;exact nomatch h1
        | some B =>
          rw[hl]at h1
          cases B with
          |box _=>exact nomatch h1
          | arr sh t' xs =>
            cases sh with
            |none=>exact plain (by simp only[qQ,hl])
            | some d' =>
              simp only at h1;split at h1
              · rename_i e;subst e;cases h1
                have:qQ H (.own i) (i::(some d').getD [])=d':=by simp only[qQ,hl]
                rw[this];exact MA hr hl hv
              · exact nomatch h1
      |_=>exact plain rfl
    · obtain⟨rfl,rfl,rfl⟩:=h2;exact AM hr h1 hv _ (.inl ⟨hf,rfl⟩)
  unfold tY at h;split at h
  · rename_i i n;split at h
    · rename_i cs hl;simp only[An,It,XO]at h;obtain⟨⟨sh',ids',zs⟩,h1,rfl,rfl,rfl⟩:=h
      cases hv with
      | bsl _ _ cs2 a hl2 hh =>
        rw[hl]at hl2;cases hl2;obtain⟨b,o,q1,q2,q3⟩:=hr.blk i _ hl;rw[q1]at hh;cases hh
        have mk:∀(fs:Nat->Nat->Cell->Prop),zs.length=n->n*t.sz<=cs.length->
            (∀i' j r,aB t zs i' j r->∀v,cs[i'*t.sz+j]? =some v->∀u,ar w H pl v u->AL w H pl sh' r u (fs i' j))->
            (∀i' j r p,aB t zs i' j r->fs i' j p->∃k B,mem k ids'=true/\look H k=some B/\B.lF=false/\pl.fp k p)->
            (∀i j r i' j' r' p,aB t zs i j r->aB t zs i' j' r'->fs i j p->fs i' j' p->i=i'/\j=j')->Src w H pl sh' (i::ids') t zs (.slice (some ⟨b,o,none⟩) n n):=λfs e1 e2 f1 f2 f3=>by
          subst e1
          have hcell:∀k,k<zs.length*t.sz->∃v u,cs[k]? =some v/\w.at? (b,o+k)=some u/\one u=true/\ar w H pl v u:=λk hk=>by
            have hk':k<cs.length:=by omega
            obtain⟨u,g1,_,g3,g4⟩:=q3 k _ (So hk');exact⟨_,u,So hk',g1,g3,g4⟩
          refine⟨some ⟨b,o,none⟩,zs.length,(List.range (zs.length*t.sz)).map (λk=>(w.at? (b,o+k)).getD undef),fs,rfl,by simp,.inr ⟨_,rfl,λk v hv=>?_⟩,λv hv=>?_,λi' j r hc=>?_,λi' j r p hc hf=>?_,f3⟩
          · have hlt:k<zs.length*t.sz:=by have:=(Of.1 hv).1;simpa using this
            rw[jn hlt]at hv;cases hv;obtain⟨v,u,g1,g2,_⟩:=hcell k hlt;rw[Addr.add_lit,g2];exact g2
          · obtain⟨k,hk',rfl⟩:=ZE.1 hv;obtain⟨v,u,g1,g2,g3,_⟩:=hcell k (by simpa using hk');rw[g2];exact g3
          · obtain⟨v,u,g1,g2,g3,g4⟩:=hcell _ (ua hc);exact⟨u,by rw[jn (ua hc),g2];rfl,f1 i' j r hc v g1 u g4⟩
          · obtain⟨k,B,g1,g2⟩:=f2 i' j r p hc hf;exact⟨k,B,by simp only[mem];cases Nat.beq i k<;>simp[g1],g2⟩
        unfold KP at h1;rw[An]at h1;obtain⟨bb,hbb,h1⟩:=h1;cases bb<;>simp only[cond_true,cond_false]at h1
        rotate_left
        · rw [An] at h1;obtain⟨q,hq,h1⟩:=h1;obtain⟨ids0,zs0⟩:=q;cases hn:iq ids0<;>simp only[hn,cond_true,cond_false,It,XO]at h1
          · exact nomatch h1
          · obtain⟨rfl,rfl,rfl⟩:=h1;obtain⟨k1,k2,k3,k4⟩:=jZ hq;obtain⟨p1,p2⟩:=Te hr hq (mL hn)
            refine mk (λi' j p=>∃v,cs[i'*t.sz+j]? =some v/\Jq pl v p) k1 k2 (λi' j r hc v hv u hu=>?_) (λi' j r p hc ⟨v,hv,hf⟩=>p1 i' j r p v hc hv hf)
              (λi j r i' j' r' p hc hc' ⟨v,hv,hf⟩ ⟨v',hv',hf'⟩=>p2 i j r i' j' r' p v v' hc hc' hv hv' hf hf')
            obtain⟨v',ty,g1,g2⟩:=k4 i' j r hc;rw[hv]at g1;cases g1;exact(EX hr g2 hu).congr λp=>⟨λh=>⟨v,hv,h⟩,λ⟨v',hv',h⟩=>by rw[hv]at hv';cases hv';exact h⟩
        · simp only[An,It,XO]at h1;obtain⟨⟨d,zs0⟩,hq,rfl,rfl,rfl⟩:=h1;obtain⟨k1,k2,k4⟩:=Dz hq;refine mk (λ_ _ _=>False) k1 k2 (λi' j r hc v hv u hu=>?_) (λ_ _ _ _ _ hf=>hf.elim) (λ_ _ _ _ _ _ _ _ _ hf=>hf.elim);obtain⟨v',ty,d',g1,g2,g3⟩:=k4 i' j r hc;rw[hv]at g1;cases g1;exact⟨(wS hr g2 hu).frame λp u hp hu=>⟨jm g3 hp,hu⟩,λ_ h=>h⟩
    · exact nomatch h
  · exact lst hv h
end
end
section
variable [Tok]
section
variable {w:World} {H:aM} {pl:Pl} {t:Ty}
theorem gV {xs ys:List t.El} {i j:Nat} {r:R} (h:aB t (xs++ys) i j r):(i<xs.length/\aB t xs i j r)\/(xs.length<=i/\aB t ys (i-xs.length) j r):=by
 obtain⟨x,hx,hr⟩:=h;by_cases c:i<xs.length
 ·exact .inl ⟨c,x,by rwa [XQ c]at hx,hr⟩
 ·exact .inr ⟨by omega,x,by rwa [XL (by omega)]at hx,hr⟩
theorem Row.nil (inner:R->Value->(Cell->Prop)->Prop):Nonempty (Row w inner t [] (.slice none 0 0) (λ_=>False)):=
  ⟨none,0,0,0,λ_ _=>undef,λ_ _ _=>False,rfl,X1 _,.inl rfl,λj hj=>by simp at hj,λi j r ⟨x,hx,_⟩=>by simp at hx,λi j r ⟨x,hx,_⟩=>by simp at hx,
    λi j r p ⟨x,hx,_⟩=>by simp at hx,λi j r _ _ _ p ⟨x,hx,_⟩=>by simp at hx,λp=>⟨λh=>h.elim,λh=>h.elim (λh=>by have:=h.2;simp at this) λ⟨i,j,r,⟨x,hx,_⟩,_⟩=>by simp at hx⟩⟩
theorem AO {xs:List t.El} {i j:Nat} {r:R} (hx:aB t xs i j r):(i*t.sz+j)/t.sz=i/\(i*t.sz+j) %t.sz=j:=by
 have hj:=(aO hx).2;exact⟨by rw[Ye,Y3 t.ie,YQ hj];simp,by rw[Ye,YH,Yq hj]⟩
theorem Ov {xs:List t.El} {k:Nat} (hk:k<xs.length*t.sz):∃r,aB t xs (k/t.sz) (k %t.sz) r:=dU (by rw[Zx t.ie];exact hk) (ZI _ t.ie)
theorem Jr (k:Nat):k/t.sz*t.sz+k %t.sz=k:=by rw[Ye];exact Zv _ _
theorem MC {sh sh1 sh':Option (List Nat)} {xs ys:List t.El} {fp0:Cell->Prop} {u0 ux:Value} {ids G:List Nat} {T ty e:TypeId} {ti:TypeInfo} {z:Value} {P:Program} {n:Nat} {H':aM}
    (hr:cY H pl w) (hT:P.underlying T=some (.slice e)) (hi:P.info? e=some ti) (hz:ti.zero=some z) (hzs:z.cells.size=ti.size) (hsz:ti.size=t.sz) (hb:ti.bytes<=512)
    (Qz:Nonempty (Row w (AL w H pl sh) t xs u0 fp0)) (hfp0:∀p,fp0 p->∃k B,mem k G=true/\mem k ids=false/\look H k=some B/\pl.fp k p)
    (Xc:Src w H pl sh1 ids t ys ux) (Su:∀k,mem k ids=true->mem k G=true) (hj:KQ sh sh1=some sh') (Ut:hit G (sh'.getD [])=false)
    (hlen:xs.length+ys.length<=aG) (hn:look H n=none) (hH':o5 H H' (G,G++[]) n (.arr sh' t (xs++ys))):
    ∃u' fp' w',(Builtin.append_ #[T,T] ty #[u0,ux]).run P w=.ok u' w'/\c7 H H' (G,G++[]) pl (pl.set n u' fp') w w':=by
  obtain⟨⟨a,cap,b,o,vs,fs,rfl,hcap,ha,lC,hc,hrr,hd1,hd2,hfp⟩⟩:=Qz;obtain⟨⟨x,c,news,fs1,rfl,hnl,Ot,Du,hin1,hown1,hdis1⟩⟩:=Xc;have hown:=hr.gy
  have holds:∀j u,((List.range (xs.length*t.sz)).map (λk=>vs (k/t.sz) (k %t.sz)))[j]? =some u->w.at? (b,o+j)=some u:=λj u hu=>by
    have hlt:j<xs.length*t.sz:=by have:=(Of.1 hu).1;simpa using this
    rw[jn hlt]at hu;cases hu;obtain⟨r,hx⟩:=Ov hlt;have:=hc _ _ _ hx;rwa [Jr]at this
  obtain⟨a',jk,b',o',w',lG,A⟩:=Mz (P:=P) (w:=w) (ty:=ty) (n:=ys.length) (c:=c) (x:=x) (news:=news) hT hi hz hzs hcap ha (by rw[hsz];exact lC) (by rw[hsz];simp) holds (by rw[hsz];exact hnl) Ot (λu hu=>pU (Du u hu)) hb hlen;rw[hsz]at A;have hreg0:∀p,reg b o (cap*t.sz) p->∃k B,mem k G=true/\mem k ids=false/\look H k=some B/\pl.fp k p:=λp hp=>hfp0 p ((hfp p).2 (.inl hp));have hfs0:∀i j r p,aB t xs i j r->fs i j p->∃k B,mem k G=true/\mem k ids=false/\look H k=some B/\pl.fp k p:=λi j r p hx hf=>hfp0 p ((hfp p).2 (.inr ⟨i,j,r,hx,hf⟩))
  have Tf:∀p,(∃k B,mem k G=true/\mem k ids=false/\look H k=some B/\pl.fp k p)->(∃k B,mem k ids=true/\look H k=some B/\B.lF=false/\pl.fp k p)->False:=λp ⟨k,B,_,g2,g3,g4⟩ ⟨k',B',q1,q2,_,q4⟩=>by
    have:=hr.dis k k' B B' p g3 q2 g4 q4;subst this;rw[g2]at q1;exact nomatch q1
  have hfs1reg:∀i j r p,aB t ys i j r->fs1 i j p->¬reg b o (cap*t.sz) p:=λi j r p hx hf hp=>Tf p (hreg0 p hp) (hown1 i j r p hx hf);have Tg:∀p,reg b' o' (jk*t.sz) p->¬reg b o (cap*t.sz) p->w.at? p=none:=λp hp hno=>(A.hfp p hp).resolve_right hno
  have nocase:∀p,reg b' o' (jk*t.sz) p->¬reg b o (cap*t.sz) p->(∃k B,look H k=some B/\pl.fp k p)->False:=λp hp hno ⟨k,B,g1,g2⟩=>by
    obtain⟨u,hu⟩:=hown k B p g1 g2;rw[Tg p hp hno]at hu;exact nomatch hu
  let F:Nat->Nat->Cell->Prop:=λi j p=>sh'=none/\(if i<xs.length then fs i j p else fs1 (i-xs.length) j p)
  have hF:∀i j r p,aB t (xs++ys) i j r->F i j p->(∃i j r,aB t xs i j r/\fs i j p)\/∃i j r,aB t ys i j r/\fs1 i j p:=λi j r p hx hf=>by
    rcases gV hx with⟨hlt,hx⟩|⟨hge,hx⟩
    · have h2:=hf.2;rw[if_pos hlt]at h2;exact .inl ⟨_,_,_,hx,h2⟩
    · have h2:=hf.2;rw[if_neg (by omega)]at h2;exact .inr ⟨_,_,_,hx,h2⟩
  let FP:Cell->Prop:=λp=>reg b' o' (jk*t.sz) p\/∃i j r,aB t (xs++ys) i j r/\F i j p
  refine⟨_,FP,w',lG,?_⟩
  have toRO:∀{r:R} {u:Value} {f:Cell->Prop} {d:List Nat},sh'=some d->fV w r u f->(∀p,f p->∃k B,mem k G=true/\look H k=some B/\pl.fp k p)->(∀p,f p->¬reg b o (cap*t.sz) p)->
      RepR w' (okd H' (pl.set n (.slice a' (xs.length+ys.length) jk) FP) d) r u:=λ{r u f d} hs h hk hno=>
    (h.Oc (ok:=f) λp hp=>hp).frame λp u hp hu=>⟨⟨by obtain⟨k,B,_,g2,g3⟩:=hk p hp;exact hr.ob k B p g2 g3,λi' B' hB' _ hf'=>by
      obtain⟨k,B,g1,g2,g3⟩:=hk p hp;by_cases c:i'=n
      · subst c;simp only[Pl.set,if_true]at hf'
        rcases hf' with hf'|⟨_,_,_,_,hf'⟩
        · exact nocase p hf' (hno p hp) ⟨k,B,g2,g3⟩
        · exact nomatch (hs.symm.trans hf'.1)
      · obtain⟨q1,B0,q2,_⟩:=hH'.bwd i' B' hB' c;simp only[Pl.set,if_neg c]at hf';have:=hr.dis i' k B0 B p q2 g2 hf' g3;subst this;have q1:mem i' G=false:=q1
        rw[q1]at g1;exact nomatch g1⟩,(A.zv p u hu (hno p hp)).1⟩
  refine kL A.gr hr hH' (λi hi=>by show mem i (G++[])=true;rw[XY];exact hi) (λi hi=>.inl (by have hi:mem i (G++[])=true:=hi;rwa [XY]at hi)) (.inl hn) (λp u hp hno=>A.zv p u hp λhre=>?_) (λp hp=>hr.nb p (A.Wa p hp)) (λp hp=>?_) λhk=>?_
  · obtain⟨k,B,g1,_,g3,g4⟩:=hreg0 p hre;exact hno k B (by rw[XY];exact g1) g3 g4
  · rcases hp with hp|⟨i,j,r,hx,hf⟩
    · rcases A.hfp p hp with h|h
      · exact .inl h
      · obtain⟨k,B,g1,_,g3,g4⟩:=hreg0 p h;exact .inr ⟨k,B,by rw[XY];exact g1,g3,g4⟩
    rcases hF i j r p hx hf with⟨i,j,r,hx,hf⟩|⟨i,j,r,hx,hf⟩
    · obtain⟨k,B,g1,_,g3,g4⟩:=hfs0 i j r p hx hf;exact .inr ⟨k,B,by rw[XY];exact g1,g3,g4⟩
    · obtain⟨k,B,g1,g2,_,g4⟩:=hown1 i j r p hx hf;exact .inr ⟨k,B,by rw[XY];exact Su k g1,g2,g4⟩
  · refine eL.oF ⟨a',jk,b',o',λi j=>if i<xs.length then vs i j else(news[(i-xs.length)*t.sz+j]?).getD undef,F,?_,by rw[XG];exact A.le,A.ha,A.lC,λi j r hx=>?_,λi j r hx=>?_,λi j r p hx hf=>?_,λi j r i' j' r' p hx hx' hf hf'=>?_,λp=>?_⟩
    · simp[Pl.set]
    · rcases gV hx with⟨hlt,hx⟩|⟨hge,hx⟩
      · rw[if_pos hlt];refine A.hold _ _ ?_;rw[jn (ua hx),(AO hx).1,(AO hx).2]
      · rw[if_neg (by omega)];obtain⟨v,g1,_⟩:=hin1 _ _ _ hx;rw[g1,YP];have:=A.IV _ _ g1;rw[show i*t.sz+j=xs.length*t.sz+((i-xs.length)*t.sz+j)from by rw[<-Yz,<-X7];congr 2;omega];exact this
    · have frameD:∀{r:R} {u:Value} {f:Cell->Prop},fV w r u f->(∀p,f p->¬reg b o (cap*t.sz) p)->fV w' r u f:=λh hno=>h.frame λp u hf hu=>A.zv p u hu (hno p hf)
      have frameR:∀{r:R} {u:Value} {d d':List Nat},RepR w (okd H pl d) r u->(∀k,mem k d=true->mem k d'=true)->hit G d'=false->RepR w' (okd H' (pl.set n (.slice a' (xs.length+ys.length) jk) FP) d') r u:=λ{r u d d'} h hd hh=>
        h.frame λp u hp hu=>hk.k2 d' p u (λi hi=>by show mem i (G++[])=false;rw[XY];exact fX G d' hh i hi) (jm hd hp) hu
      have nof:∀{d:List Nat},sh'=some d->∀p,¬F i j p:=λe p hf=>nomatch (e.symm.trans hf.1)
      rcases gV hx with⟨hlt,hx⟩|⟨hge,hx⟩
      · rw [if_pos hlt];have:=hrr i j r hx
        cases sh with
        | none =>
          cases sh1 with
          |none=>cases hj;exact(frameD this λp hf=>hd1 i j r p hx hf).congr λp=>by simp only[F,true_and,if_pos hlt]
          | some d1 =>
            cases hj
            exact⟨toRO rfl this (λp hf=>by obtain⟨k,B,g1,_,g3,g4⟩:=hfs0 i j r p hx hf;exact⟨k,B,g1,g3,g4⟩) λp hf=>hd1 i j r p hx hf,nof rfl⟩
        | some d0 =>
          cases sh1 with
          |none=>cases hj;exact⟨frameR this.1 (λk hk=>hk) Ut,nof rfl⟩
          | some d1 =>
            cases hj;exact⟨frameR this.1 (λk hk=>by rw[mem_append,hk];rfl) Ut,nof rfl⟩
      · rw [if_neg (show ¬ i < xs.length by omega)];obtain⟨v,g1,g2⟩:=hin1 _ _ _ hx;rw[g1,YP]
        cases sh with
        | none =>
          cases sh1 with
          |none=>cases hj;exact(frameD g2 λp hf=>hfs1reg _ _ _ p hx hf).congr λp=>by simp only[F,true_and,if_neg (show¬i<xs.length by omega)]
          |some d1=>cases hj;exact⟨frameR g2.1 (λk hk=>hk) Ut,nof rfl⟩
        | some d0 =>
          cases sh1 with
          | none =>
            cases hj
            exact⟨toRO rfl g2 (λp hf=>by obtain⟨k,B,g1,g2,_,g4⟩:=hown1 _ j r p hx hf;exact⟨k,B,Su k g1,g2,g4⟩) λp hf=>hfs1reg _ _ _ p hx hf,nof rfl⟩
          | some d1 =>
            cases hj;exact⟨frameR g2.1 (λk hk=>by rw[mem_append,hk,Y7]) Ut,nof rfl⟩
    · intro hre;have hf:=hf.2
      rcases gV hx with⟨hlt,hx⟩|⟨hge,hx⟩
      · simp only[if_pos hlt]at hf;obtain⟨k,B,g1,_,g3,g4⟩:=hfs0 i j r p hx hf;exact nocase p hre (hd1 i j r p hx hf) ⟨k,B,g3,g4⟩
      · simp only[if_neg (show¬i<xs.length by omega)]at hf;obtain⟨k,B,g1,g2,_,g4⟩:=hown1 _ j r p hx hf;exact nocase p hre (hfs1reg _ j r p hx hf) ⟨k,B,g2,g4⟩
    · have hf:=hf.2;have hf':=hf'.2
      rcases gV hx with⟨hlt,hx⟩|⟨hge,hx⟩<;>rcases gV hx' with⟨WQ,hx'⟩|⟨hge',hx'⟩
      · simp only[if_pos hlt]at hf;simp only[if_pos WQ]at hf';exact hd2 i j r i' j' r' p hx hx' hf hf'
      · simp only[if_pos hlt]at hf;simp only[if_neg (show¬i'<xs.length by omega)]at hf';exact(Tf p (hfs0 i j r p hx hf) (hown1 _ _ _ p hx' hf')).elim
      · simp only[if_neg (show¬i<xs.length by omega)]at hf;simp only[if_pos WQ]at hf';exact(Tf p (hfs0 _ _ _ p hx' hf') (hown1 _ _ _ p hx hf)).elim
      · simp only[if_neg (show¬i<xs.length by omega)]at hf;simp only[if_neg (show¬i'<xs.length by omega)]at hf';have:=hdis1 _ _ _ _ _ _ p hx hx' hf hf';exact⟨by omega,this.2⟩
    · simp only[Pl.set,if_true];exact Z8
end
end
section
variable [Tok]
section
variable {w:World} {H:aM} {pl:Pl} {P:Program}
theorem mr {T e:TypeId} (h:mF P T=some e):P.underlying T=some (.slice e):=by
 unfold mF at h;split at h
 ·rename_i e' hu;cases h;exact hu
 ·exact nomatch h
theorem mu {T:TypeId} {n:Nat} (h:jh P T=some n):∃i,P.info? T=some i/\i.size=n:=by
 simp only[jh,An,It]at h;exact h
theorem j3 (hr:cY H pl w) {T:TypeId} {z:List SV} {i:TypeInfo} (hi:P.info? T=some i) (h:gv P T=some z):∃u,i.zero=some u/\Mu w H pl z u.cells:=by
 simp only[gv,An]at h;obtain⟨i',hi',v,hv,x,hx,hc⟩:=h;rw[hi]at hi';cases hi';exact⟨v,hv,(wR hx).cells hc hr⟩
theorem uc {T:TypeId} {i:TypeInfo} (hi:P.info? T=some i) (h:rf P T=true):i.bytes<=512:=by
 unfold rf at h;rw[hi]at h;exact XT h
theorem MD {c:CR} {n:Nat} {B:Blk} {H':aM} (hn:look H n=none) (hu:c.upd=[]) (hw:c.news=[B]) (ha:after H n c=some H'):o5 H H' c.kil n B:=by
 unfold after at ha;rw[hu,hw]at ha;simp only[tI,An,It]at ha;obtain⟨H1,h1,rfl⟩:=ha;exact Dx c.gx h1 hn (jY c.gx h1)
theorem EY {o:Oper} {a:Act} {n:Nat} {c:CR} {sh:Option (List Nat)} {t:Ty} {xs:List t.El} (hn:look H n=none) (hv:c.v=.own n) (hu:c.upd=[]) (hw:c.news=[.arr sh t xs])
  (h:∀H',o5 H H' c.kil n (.arr sh t xs)->∃u fp' w',(execOp a.eval o).run P w=.ok (.value u) w'/\c7 H H' c.kil pl (pl.set n u fp') w w'):kK P o a w H pl n c:=by
 refine⟨λi B hB=>by rw[hu]at hB;simp[look]at hB,λH' next Q ha hN=>?_⟩;have ht:=MD hn hu hw ha;obtain⟨u,fp',w',lG,hst⟩:=h H' ht;refine mK lG (hN u _ w' hst ?_);rw[hv];have:=ar.own (w:=w') (H:=H') (pl:=pl.set n u fp') n sh t xs ht.UW;simpa[Pl.set]using this
theorem DA {o:Oper} {a:Act} {s:List (Nat× SV)} {n:Nat} {args:Array Operand} {tys:Array TypeId} {b x:SV} {T:TypeId} {e:TypeId} {sz:Nat} {t:Ty} {z:List SV} {sh1 sh':Option (List Nat)} {ids:List Nat}
  {ys:List t.El} (hr:cY H pl w) (hs:gT w H pl s a) (hn:look H n=none) (ho:o.op=.call {callee:=.builtin .append,args:=args,argTypes:=tys}) (hvs:tX s args.toList=some [b,x]) (hty:tys.toList=[T,T])
  (he:mF P T=some e) (hsz:jh P e=some sz) (hsm:rf P e=true) (hts:t.sz=sz) (hz:gv P e=some z) (hzl:z.length=sz) (hy:tY H t x=some (sh1,ids,ys))
  {xs:List t.El} {G:List Nat} (wY:(b=.cF/\xs=[]/\G=ids/\sh'=sh1)\/∃i sh,b=.own i/\look H i=some (.arr sh t xs)/\G=i::ids/\mem i ids=false/\KQ sh sh1=some sh')
  (Ut:hit G (sh'.getD [])=false) (hlen:xs.length+ys.length<=aG):kK P o a w H pl n {v:=.own n,news:=[.arr sh' t (xs++ys)],gone:=G}:=by
 obtain⟨p,q,hpq,hp,hq⟩:=sx hvs;have hpr:=aW hs hp;have hqr:=aW hs hq
 have ha:args.map a.eval=#[a.eval p,a.eval q]:=by rw[show args=#[p,q]from Zg hpq];simp
 have hta:tys=#[T,T]:=Zg hty
 obtain⟨ti,hti,rfl⟩:=mu hsz;obtain⟨zu,hzu,hzc⟩:=j3 hr hti hz
 have hzs:zu.cells.size=ti.size:=by rw[<-hzc.hl,hzl]
 refine EY hn rfl rfl rfl λH' ht=>?_
 have fin:∀{sh:Option (List Nat)} {fp0:Cell->Prop},Nonempty (Row w (AL w H pl sh) t xs (a.eval p) fp0)->(∀p,fp0 p->∃k B,mem k G=true/\mem k ids=false/\look H k=some B/\pl.fp k p)->
   (∀k,mem k ids=true->mem k G=true)->KQ sh sh1=some sh'->∃u fp' w',(execOp a.eval o).run P w=.ok (.value u) w'/\c7 H H' (G,G++[]) pl (pl.set n u fp') w w':=λQz hfp0 Su hj=>by
  obtain⟨u',fp',w',lG,hst⟩:=MC (ty:=o.type) hr (mr he) hti hzu hzs hts.symm (uc hti hsm) Qz hfp0 (MB hr hy hqr) Su hj Ut hlen hn ht;refine⟨u',fp',w',?_,hst⟩;rw[execOp,ho,hta];simp only[resolve,ha,invoke,builtin,Sem.run_bind,Sem.run_pure,Result.andThen_ok,lG]
 rcases wY with⟨rfl,rfl,rfl,rfl⟩|⟨i,sh,rfl,hl,rfl,hmi,hj⟩
 ·have:a.eval p=.slice none 0 0:=by generalize a.eval p=u at hpr;cases hpr;rfl
  rw[this]at fin;refine fin (sh:=sh'.map λ_=>[]) (Row.nil _) (λ_ h=>h.elim) (λ_ h=>h) ?_;cases sh'<;>rfl
 ·have:a.eval p=pl.hdr i:=by generalize a.eval p=u at hpr;cases hpr;rfl
  rw[this]at fin;exact fin (hr.blk i _ hl).Tc (λp hp=>⟨i,_,by simp[mem],hmi,hl,hp⟩) (λk hk=>by simp only[mem];cases Nat.beq i k<;>simp[hk]) hj
theorem AP {cs:Array Value} {e:TypeId} {t:Ty} {xs:List t.El} {n cap:Nat} {H':aM} (hr:cY H pl w) (hn:look H n=none) (hcap:xs.length<=cap) (hsz:cs.size=cap*t.sz)
  (hin:∀i j r,aB t xs i j r->∃u,cs[i*t.sz+j]? =some u/\fV w r u (λ_=>False)) (ht:o5 H H' ([],[]) n (.arr none t xs)):
  c7 H H' ([],[]) pl (pl.set n (.slice (some ⟨w.heap.size,0,none⟩) xs.length cap) (reg w.heap.size 0 (cap*t.sz))) w (w.alloc (.cells cs e)):=by
 refine kL (dF.alloc w cs e) hr ht (λi h=>h) (λi h=>nomatch h) (.inl hn) (λp u hp _=>rl hp) (λp hp=>hr.nb p (Dy hp)) (λp hp=>.inl ?_) λhk=>?_
 ·obtain⟨p1,p2⟩:=p;obtain⟨e1,_,_⟩:=hp;simp only at e1;subst e1;exact(o7 (cs:=cs) (e:=e) p2).2.2
 ·refine eL.oF ⟨some ⟨w.heap.size,0,none⟩,cap,w.heap.size,0,λi j=>(cs[i*t.sz+j]?).getD undef,λ_ _ _=>False,by simp[Pl.set],hcap,.inr rfl,λj hj=>⟨⟨cs[j]'(by rw[hsz];exact hj),?_⟩,?_⟩,λi j r hx=>?_,λi j r hx=>?_,λ_ _ _ _ _ h=>h.elim,λ_ _ _ _ _ _ _ _ _ h=>h.elim,λp=>by simp[Pl.set]⟩
  ·rw[XN,(o7 j).1];simp
  ·rw[XN,(o7 j).2.1,hsz];exact KY
  ·obtain⟨u,hu,_⟩:=hin i j r hx;rw[XN,(o7 _).1,hu];rfl
  ·obtain⟨u,hu,hd⟩:=hin i j r hx;rw[hu];exact hd.frame λp u hf=>hf.elim
theorem kM (hr:cY H pl w) {n:Nat} {cs:List SV} {t:Ty} {xs:List t.El} (h:jj H t n cs=some ([],xs)) {us:Array Value} (hc:Mu w H pl cs us):
  ∀i j r,aB t xs i j r->∃u,us[i*t.sz+j]? =some u/\fV w r u (λ_=>False):=λi j r hx=>by
 obtain⟨h1,h2,h3,h4⟩:=jZ h;obtain⟨v,ty,g1,g2⟩:=h4 i j r hx;have hlt:=ua hx;rw[h1]at hlt
 have hus:i*t.sz+j<us.size:=by rw[<-hc.hl];exact(Of.1 g1).1
 refine⟨us[i*t.sz+j],by simp,(EX hr g2 (hc.h _ _ _ g1 (by simp))).congr λp=>⟨λ⟨k,e,hf⟩=>?_,λh=>h.elim⟩⟩;subst e;have:k∈tZ (cs.take (n*t.sz)):=o6 (by rw[Yh,if_pos hlt];exact g1);rw[<-h3]at this;simp at this
theorem va {z:Array Value} {n k:Nat} (hk:k<n):(madeCells z n)[k]? =some (z[k %z.size]!):=by simp[madeCells,hk]
theorem EZ {o:Oper} {a:Act} {s:List (Nat× SV)} {n:Nat} {l c:Operand} {lv cv:SV} {li ci:Int} {T:TypeId} {e:TypeId} {sz:Nat} {t:Ty} {z:List SV} {y:t.El}
  (hr:cY H pl w) (hs:gT w H pl s a) (hn:look H n=none) (ho:o.op=.makeSlice T l c) (hl:opd s l=some lv) (hc:opd s c=some cv) (hli:lv.asI=some li) (hci:cv.asI=some ci)
  (he:mF P T=some e) (hsz:jh P e=some sz) (hsm:rf P e=true) (hts:t.sz=sz) (hz:gv P e=some z) (hzl:z.length=sz) (hy:jj H t 1 z=some ([],[y]))
  (hb:0<=li/\li<=ci/\ci<=(aG:Int)):kK P o a w H pl n {v:=.own n,news:=[.arr none t (List.replicate li.toNat y)]}:=by
 obtain⟨ti,hti,rfl⟩:=mu hsz;obtain⟨zu,hzu,hzc⟩:=j3 hr hti hz
 have hzs:zu.cells.size=ti.size:=by rw[<-hzc.hl,hzl]
 have asI:∀{v:SV} {u:Value} {k:Int},v.asI=some k->ar w H pl v u->∃kk,u=.int kk k:=λ{v u k} h hv=>by
  cases v with
  |r d x=>cases x with
   |int kk m=>cases h;cases hv with|r _ _ _ hx=>cases hx;exact⟨kk,rfl⟩
   |_=>exact nomatch h
  |_=>exact nomatch h
 obtain⟨kl,hle⟩:=asI hli (aW hs hl);obtain⟨kc,hce⟩:=asI hci (aW hs hc);have WR:ci<=274877906944:=hb.2.2;have hby:=uc hti hsm;refine EY hn rfl rfl rfl λH' ht=>?_
 have lG:=run_make (P:=P) w T e ti zu (mr he) hti hzu kl kc li ci hb.1 hb.2.1 (by
  have h1:(ti.bytes:Int)*ci<=512*274877906944:=Int.mul_le_mul (by omega) WR (by omega) (by omega)
  omega) (by omega)
 have hst:=AP (e:=e) (cs:=madeCells zu.cells (ci.toNat*ti.size)) (cap:=ci.toNat) hr hn (by simp;omega) (by rw[size_madeCells,hts]) (λi j r hx=>by
  have hj:=(aO hx).2;have hi:=(aO hx).1;rw[Zm]at hi
  have hlt:i*t.sz+j<ci.toNat*ti.size:=by rw[<-hts];exact rh hi hj (by omega)
  obtain⟨x,hx1,hx2⟩:=hx
  have hxe:x=y:=by
   have:=XX hx1;exact(ZJ.1 this).2
  subst hxe;obtain⟨u,hu,hd⟩:=kM hr hy hzc 0 j r ⟨x,rfl,hx2⟩;rw[ZQ,XN]at hu;refine⟨u,?_,hd⟩;rw[va hlt,hzs,<-hts,Ye,YH,Yq hj];have hjz:j<zu.cells.size:=(XW.1 hu).1;rw[getElem!_pos zu.cells j hjz];rw[XR hjz]at hu
  exact hu) ht
 refine⟨_,_,_,?_,hst⟩;rw[execOp,ho];simp only[hle,hce,Sem.run_bind,lG,Result.andThen_ok,Zm];rfl
theorem cY.drew (hr:cY H pl w):cY H pl w.drew:=
 have hk:lM ([],[]) w H pl w.drew H pl:=⟨λi B hB _=>⟨B,hB,B.dB,rfl⟩,λd p u _ h hp=>⟨h,hp⟩⟩
 ⟨λi B hB=>(hr.blk i B hB).bJ hk rfl (λ_=>Z8) (λp u _ hu=>⟨hu,rfl⟩) B.dC,hr.dis,hr.ob,hr.nb⟩
theorem Ow {T:TypeId} (h:UJ P T=true):∃k,P.underlying T=some (.int k):=by
 unfold UJ at h;split at h
 ·rename_i k e;exact⟨k,e⟩
 ·exact nomatch h
theorem CZ {o:Oper} {a:Act} {s:List (Nat× SV)} {n:Nat} {args:Array Operand} {tys:Array TypeId} {x:SV} {l:Int} {T T':TypeId} {e:TypeId} {sz:Nat} {t:Ty} {z:List SV} {y:t.El}
  (hr:cY H pl w) (hs:gT w H pl s a) (hn:look H n=none) (ho:o.op=.call {callee:=.builtin .append,args:=args,argTypes:=tys}) (hvs:tX s args.toList=some [.cF,x]) (hty:tys.toList=[T,T']) (hx:x.asI=some l) (hT':UJ P T'=true)
  (he:mF P T=some e) (hsz:jh P e=some sz) (hsm:rf P e=true) (hts:t.sz=sz) (hz:gv P e=some z) (hzl:z.length=sz) (hy:jj H t 1 z=some ([],[y]))
  (hb:1<=l/\l<=(aG:Int)):kK P o a w H pl n {v:=.own n,news:=[.arr none t (List.replicate l.toNat y)]}:=by
 obtain⟨p,q,hpq,hp,hq⟩:=sx hvs;have hpr:=aW hs hp;have hqr:=aW hs hq
 have ha:args.map a.eval=#[a.eval p,a.eval q]:=by rw[show args=#[p,q]from Zg hpq];simp
 have hta:tys=#[T,T']:=Zg hty
 obtain⟨ti,hti,rfl⟩:=mu hsz;obtain⟨zu,hzu,hzc⟩:=j3 hr hti hz
 have hzs:zu.cells.size=ti.size:=by rw[<-hzc.hl,hzl]
 have hpe:a.eval p=.slice none 0 0:=by generalize a.eval p=u at hpr;cases hpr;rfl
 obtain⟨kl,hqe⟩:∃kk,a.eval q=.int kk l:=by
  cases x with
  |r d x=>cases x with
   |int kk m=>cases hx;generalize a.eval q=u at hqr;cases hqr with|r _ _ _ hx=>cases hx;exact⟨kk,rfl⟩
   |_=>exact nomatch hx
  |_=>exact nomatch hx
 have WR:l<=274877906944:=hb.2;have hby:=uc hti hsm;obtain⟨kT,hkT⟩:=Ow hT';have hlw:i64.wrap l=l:=Go.IntWalk.i64_in l ⟨by omega,by omega⟩;obtain⟨m,rfl⟩:∃m:Nat,l=(m:Int):=⟨l.toNat,by omega⟩
 have hm1:1<=m:=by omega
 have hge:=grownCap_ge w m 0 e;refine EY hn rfl rfl rfl λH' ht=>?_
 have lG:(Builtin.append_ #[T,T'] o.type #[.slice none 0 0,.int kl (m:Int)]).run P w=
   .ok (.slice (some ⟨w.heap.size,0,none⟩) m (grownCap w m 0 e)) (w.drew.alloc (.cells (Builtin.zeroCells zu.cells m++Builtin.zeroCells zu.cells (grownCap w m 0 e-m)) e)):=by
  have h48:¬((281474976710656:Int)<(m:Int)*(ti.bytes:Int)):=by
   have h1:(m:Int)*(ti.bytes:Int)<=274877906944*512:=Int.mul_le_mul (by omega) (by omega) (by omega) (by omega);omega
  have Xb:Builtin.nextslicecap m 0*ti.bytes<=281474976710656:=growslice_fits (by omega) (by
   have:m*ti.bytes<=274877906944*512:=Yu (by omega) hby
   omega)
  have h48':¬(281474976710656<Builtin.nextslicecap m 0*ti.bytes):=by omega
  have h63':¬((9223372036854775807:Int)<(m:Int)):=by omega
  have Xd:¬((m:Int)<0):=by omega
  have hm0:¬(m=0):=by omega
  have hf0:(Builtin.firstCells ti.size 0 (.slice none 0 0)).run P w.drew=.ok #[] w.drew:=run_firstCells_none w.drew _ _ _ _
  have hsz0:¬(m*ti.size=0):=by
   rw[<-hts];have:=t.ie;exact Nat.ne_of_gt (Nat.mul_pos hm1 this)
  simp[Builtin.append_,run_underlying (mr he),run_underlying hkT,asInt,asIntOf,sizeOf,typeInfo,zeroValue,hti,hzu,hlw,Xd,h48,hm0,hsz0,h63',h48',Question.forced,hf0,newRow,grownCap]
 have hst:=AP (H':=H') (e:=e) (cs:=Builtin.zeroCells zu.cells m++Builtin.zeroCells zu.cells (grownCap w m 0 e-m)) (cap:=grownCap w m 0 e) hr.drew hn (by simp;omega) (by
   simp only[Array.size_append,size_zeroCells,hzs,<-X7,hts]
   congr 1;omega) (λi j r hx=>by
  have hj:=(aO hx).2;have hi:=(aO hx).1;rw[Zm]at hi
  have hi:i<m:=by simpa using hi
  have hlt:i*t.sz+j<m*ti.size:=by rw[<-hts];exact rh hi hj (X1 _)
  obtain⟨x,hx1,hx2⟩:=hx
  have hxe:x=y:=by
   have:=XX hx1;exact(ZJ.1 this).2
  subst hxe;obtain⟨zu2,hzu2,hzc2⟩:=j3 hr.drew hti hz
  have hzz:zu2=zu:=by rw[hzu]at hzu2;cases hzu2;rfl
  subst hzz;obtain⟨u,hu,hd⟩:=kM hr.drew hy hzc2 0 j r ⟨x,rfl,hx2⟩;rw[ZQ,XN]at hu;refine⟨u,?_,hd⟩;rw[YO (by rw[size_zeroCells,hzs];exact hlt)]
  have hz2:(Builtin.zeroCells zu2.cells m)[i*t.sz+j]? =some (zu2.cells[(i*t.sz+j) %ti.size]!):=by simp[Builtin.zeroCells,hzs,hlt]
  rw[hz2,<-hts,Ye,YH,Yq hj];have hjz:j<zu2.cells.size:=(XW.1 hu).1;rw[getElem!_pos zu2.cells j hjz];rw[XR hjz]at hu
  exact hu) ht
 refine⟨_,_,_,?_,hst.hr,⟨hst.kp.k1,λd p u h1 h2 h3=>hst.kp.k2 d p u h1 h2 h3⟩,hst.bs,(dF.drew w).trans hst.gr,hst.fr⟩;rw[execOp,ho,hta];simp only[resolve,ha,invoke,builtin,Sem.run_bind,Sem.run_pure,Result.andThen_ok,hpe,hqe,lG,Zm];rfl
theorem C0 {T e:TypeId} {ti:TypeInfo} {zu:Value} (hT:P.underlying T=some (.slice e)) (hti:P.info? e=some ti) (hzu:ti.zero=some zu) (len:Nat) (hlen:len*ti.size<=16777216)
  {parts:Array (Nat× Value)} {cells:Array Value} (hf:Instr.fill (λi=>some (i*ti.size,ti.size)) (madeCells zu.cells (len*ti.size)) parts.toList=some cells):
  (Instr.buildSlice T len parts).run P w=.ok (.slice (some ⟨w.heap.size,0,none⟩) len len) (w.alloc (.cells cells e)):=by
 have hl:¬(16777216<len*ti.size):=by omega
 by_cases h0:len*ti.size=0
 ·rw[h0]at hf
  have hf':Instr.fill (λi=>some (i*ti.size,ti.size)) #[] parts.toList=some cells:=by simpa[madeCells,Array.range_zero']using hf
  simp[Instr.buildSlice,run_underlying hT,ey hti,h0,hf',newRow,Array.range_zero']
 ·simp only[madeCells]at hf;simp[Instr.buildSlice,run_underlying hT,ey hti,hl,h0,zeroValue,typeInfo,hti,hzu,hf,newRow]
end
end
section
variable [Tok]
section
variable {w:World} {H:aM} {pl:Pl} {P:Program}
theorem Ox {t:Ty} {sh sh':Option (List Nat)} {ys:List t.El} {i k off sz:Nat} {H':aM} {ids:List Nat} {e y:t.El} {rs:List R} {us:List Value} {f1:Nat->Cell->Prop} {b m n cap:Nat}
  (hr:cY H pl w) (hl:look H i=some (.arr sh t ys)) (hh:pl.hdr i=.slice (some ⟨b,m,none⟩) n cap) (hk:ys[k]? =some e) (UY:off+sz<=t.sz) (hrs:rs.length=sz) (hus:us.length=sz)
  (hy:t.cells y=(t.cells e).take off++rs++(t.cells e).drop (off+sz)) (Du:∀u∈us,one u=true)
  (hin:∀j r,rs[j]? =some r->∃u,us[j]? =some u/\AL w H pl sh' r u (f1 j)) (hf1:∀j p,j<sz->f1 j p->∃k B,mem k ids=true/\look H k=some B/\B.lF=false/\pl.fp k p)
  (hf2:∀j j' p,j<sz->j'<sz->f1 j p->f1 j' p->j=j') (hsh:(sh=none/\sh'=none)\/∃d d',sh=some d/\sh'=some d'/\∀k,mem k d=true->mem k d'=true)
  (Th:hit (ids++[i]) (sh'.getD [])=false) (hi:mem i ids=false) (ht:o5 H H' (ids,ids++[i]) i (.arr sh' t (ys.set k y))):
  ∃w',(storeCells ⟨b,m+(k*t.sz+off),none⟩ us).run P w=.ok () w'/\∃fp',c7 H H' (ids,ids++[i]) pl (pl.set i (pl.hdr i) fp') w w':=by
 obtain⟨⟨a,jk,b',o,vs,fs,hhd,hcap,ha,lC,hc,hrr,hd1,hd2,hfp⟩⟩:=(hr.blk i _ hl).Tc;have WS:k<ys.length:=(Of.1 hk).1;rw[hh]at hhd;cases hhd
 have hab:b=b'/\m=o:=by
  rcases ha with h|h
  ·omega
  ·cases h;exact⟨rfl,rfl⟩
 obtain⟨rfl,rfl⟩:=hab;have hown:=hr.gy
 have NN:k*t.sz+off+sz<=cap*t.sz:=by
  have:(k+1)*t.sz<=cap*t.sz:=XZ _ (by omega);rw[Y0]at this;omega
 have hcell:∀j,j<us.length->∃u,w.at? (b,m+(k*t.sz+off)+j)=some u/\calm (w.eK (b,m+(k*t.sz+off)+j))=true:=λj hj=>by
  obtain⟨⟨u,q1⟩,q2⟩:=lC (k*t.sz+off+j) (by omega);rw[show m+(k*t.sz+off)+j=m+(k*t.sz+off+j)from by omega];exact⟨u,q1,sw q2⟩
 have hst:=run_storeCells_cells (P:=P) b (m+(k*t.sz+off)) us 0 w (λj hj=>by
   obtain⟨u,q1,_⟩:=hcell j hj;simp only[Yd];have q1:w.cell? ⟨b,m+(k*t.sz+off)+j,none⟩=some u:=q1
   rw[q1];rfl) (λj hj=>by
   obtain⟨u,q1,q2⟩:=hcell j hj
   simp only[Yd];exact mJ q1 q2) (λu hu=>pU (Du u hu))
 simp only[Yd]at hst
 have iH:∀j,j<us.length->(w.setCells b (m+(k*t.sz+off)) us).at? (b,m+(k*t.sz+off)+j)=us[j]? :=λj hj=>by
  have:=World.cell?_setCells_in b us (m+(k*t.sz+off)) w (λj hj=>by
   obtain⟨u,q1,_⟩:=hcell j hj;have q1:w.cell? ⟨b,m+(k*t.sz+off)+j,none⟩=some u:=q1
   rw[q1];rfl) j hj
  rw[So hj];simpa[World.at?]using this
 have dH:∀p u,w.at? p=some u->¬(p.1=b/\m+(k*t.sz+off)<=p.2/\p.2<m+(k*t.sz+off)+us.length)->(w.setCells b (m+(k*t.sz+off)) us).at? p=some u:=λp u hp hno=>by
  unfold World.at? at*;rw[World.cell?_setCells_out b _ _ w _ (λe1 _=>by simp at e1;simp;omega)];exact hp
 have EW:∀p,(w.setCells b (m+(k*t.sz+off)) us).eK p=w.eK p:=λp=>gR _ _ _ _ _;have vc:∀p,reg b m (cap*t.sz) p->pl.fp i p:=λp hp=>(hfp p).2 (.inl hp);have C3:∀i' j r p,aB t ys i' j r->fs i' j p->pl.fp i p:=λi' j r p hx hf=>(hfp p).2 (.inr ⟨i',j,r,hx,hf⟩)
 have Tf:∀j p,j<sz->f1 j p->¬pl.fp i p:=λj p hj hf hp=>by
  obtain⟨k',B,g1,g2,_,g4⟩:=hf1 j p hj hf;have:=hr.dis k' i B _ p g2 hl g4 hp;subst this;rw[hi]at g1;exact nomatch g1
 have hmi:mem i (ids++[i])=true:=by rw[mem_append];simp[mem]
 refine⟨_,hst,λp=>reg b m (cap*t.sz) p\/(∃i' j r,aB t ys i' j r/\¬(i'=k/\off<=j/\j<off+sz)/\fs i' j p)\/∃j,j<sz/\f1 j p,?_⟩;refine kL (dF.setCells _ _ _ _) hr ht (λx hx=>by show mem x (ids++[i])=true;rw[mem_append,show mem x ids=true from hx];rfl) (λx hx=>?_) (.inr ⟨_,hl,hmi,by simp[Blk.nt],rfl⟩) (λp u hp hno=>⟨dH p u hp λhin=>?_,EW p⟩) (λp hp=>?_) (λp hp=>?_) λhkp=>?_
 ·have hx:mem x (ids++[i])=true:=hx;rw[mem_append]at hx;cases h:mem x ids
  ·rw[h]at hx;simp only[mem,Bool.false_or]at hx;cases hb:Nat.beq i x
   ·rw[hb]at hx;exact nomatch hx
   ·exact .inr (On hb).symm
  ·exact .inl rfl
 ·exact hno i _ hmi hl (vc p ⟨hin.1,by omega,by omega⟩)
 ·refine hr.nb p ?_
  cases hq:w.at? p with
  |none=>rfl
  |some u=>
   by_cases hin:p.1=b/\m+(k*t.sz+off)<=p.2/\p.2<m+(k*t.sz+off)+us.length
   ·obtain⟨p1,p2⟩:=p;obtain⟨e1,e2,e3⟩:=hin;simp only at e1 e2 e3;subst e1;have:=iH (p2-(m+(k*t.sz+off))) (by omega);rw[show m+(k*t.sz+off)+(p2-(m+(k*t.sz+off)))=p2 from by omega,hp,So (by omega)]at this;exact nomatch this
   ·rw[dH p u hq hin]at hp;exact nomatch hp
 ·rcases hp with hp|⟨i',j,r,hx,_,hf⟩|⟨j,hj,hf⟩
  ·exact .inr ⟨i,_,hmi,hl,vc p hp⟩
  ·exact .inr ⟨i,_,hmi,hl,C3 i' j r p hx hf⟩
  ·obtain⟨k',B,g1,g2,_,g4⟩:=hf1 j p hj hf;exact .inr ⟨k',B,by rw[mem_append,g1];rfl,g2,g4⟩
 ·have DB:∀{i' j r},aB t (ys.set k y) i' j r->(i'=k/\off<=j/\j<off+sz/\rs[j-off]? =some r)\/(¬(i'=k/\off<=j/\j<off+sz)/\aB t ys i' j r):=λ{i' j r} hx=>by
   have hj:=(aO hx).2;obtain⟨x,hx1,hx2⟩:=hx;by_cases hik:i'=k
   ·subst hik;rw[YR WS]at hx1;cases hx1;rw[hy]at hx2;have hcl:(t.cells e).length=t.sz:=Ty.cw t e
    have hto:((t.cells e).take off).length=off:=by rw[X9];omega
    by_cases c1:off<=j/\j<off+sz
    ·rw[XP,XL (by omega),XQ (by omega),hto]at hx2;exact .inl ⟨rfl,c1.1,c1.2,hx2⟩
    ·refine .inr ⟨λh=>c1 h.2,e,hk,?_⟩;by_cases c2:j<off
     ·rw[XP,XQ (by omega),Yh,if_pos c2]at hx2;exact hx2
     ·rw[XP,XL (by omega),XL (by omega),XU,hto,show off+sz+(j-off-rs.length)=j from by omega]at hx2;exact hx2
   ·rw[Za (λh=>hik h.symm)]at hx1;exact .inr ⟨λh=>hik h.1,x,hx1,hx2⟩
  have tJ:∀{i' j},j<t.sz->i'≠k\/¬(off<=j/\j<off+sz)->¬(m+(k*t.sz+off)<=m+(i'*t.sz+j)/\m+(i'*t.sz+j)<m+(k*t.sz+off)+us.length):=λ{i' j} hj hne ⟨g1,g2⟩=>by
   by_cases e:i'=k
   ·subst e
    rcases hne with h|h
    ·exact h rfl
    ·exact h ⟨by omega,by omega⟩
   ·rcases Nat.lt_or_gt_of_ne e with h|h
    ·have:(i'+1)*t.sz<=k*t.sz:=XZ _ h;rw[Y0]at this;omega
    ·have:(k+1)*t.sz<=i'*t.sz:=XZ _ h;rw[Y0]at this;omega
  have Sv:∀j p,j<sz->f1 j p->¬reg b m (cap*t.sz) p:=λj p hj hf hp=>Tf j p hj hf (vc p hp);have frameD:∀{r:R} {u:Value} {f:Cell->Prop},fV w r u f->(∀p,f p->¬reg b m (cap*t.sz) p)->fV (w.setCells b (m+(k*t.sz+off)) us) r u f:=λh hno=>h.frame λp u hf hu=>⟨dH p u hu λhin=>hno p hf ⟨hin.1,by omega,by omega⟩,EW p⟩
  have frameR:∀{r:R} {u:Value} {d d':List Nat},RepR w (okd H pl d) r u->(∀k,mem k d=true->mem k d'=true)->hit (ids++[i]) d'=false->RepR (w.setCells b (m+(k*t.sz+off)) us) (okd H' (pl.set i (.slice (some ⟨b,m,none⟩) ys.length cap) λp=>reg b m (cap*t.sz) p\/(∃i' j r,aB t ys i' j r/\¬(i'=k/\off<=j/\j<off+sz)/\fs i' j p)\/∃j,j<sz/\f1 j p) d') r u:=λ{r u d d'} h hd hh2=>
   h.frame λp u hp hu=>(hh▸hkp).k2 d' p u (λx hx=>fX _ d' hh2 x hx) (jm hd hp) hu
  refine eL.oF ⟨some ⟨b,m,none⟩,cap,b,m,λi' j=>if i'=k/\off<=j/\j<off+sz then(us[j-off]?).getD undef else vs i' j,λi' j=>if i'=k/\off<=j/\j<off+sz then f1 (j-off)else fs i' j,by simp[Pl.set,hh],by simpa using hcap,.inr rfl,λj hj=>⟨?_,by rw[EW];exact(lC j hj).2⟩,λi' j r hx=>?_,λi' j r hx=>?_,λi' j r p hx hf=>?_,λi' j r i2 j2 r2 p hx hx' hf hf'=>?_,λp=>?_⟩
  ·by_cases hin:k*t.sz+off<=j/\j<k*t.sz+off+us.length
   ·have:=iH (j-(k*t.sz+off)) (by omega);rw[show m+(k*t.sz+off)+(j-(k*t.sz+off))=m+j from by omega]at this;exact⟨_,this.trans (So (by omega))⟩
   ·obtain⟨u,hu⟩:=(lC j hj).1;exact⟨u,dH _ u hu λh=>hin ⟨by have:=h.2.1;simp at this;omega,by have:=h.2.2;simp at this;omega⟩⟩
  ·rcases DB hx with⟨rfl,g1,g2,g3⟩|⟨g1,g2⟩
   ·rw[if_pos ⟨rfl,g1,g2⟩];obtain⟨u,hu,_⟩:=hin _ _ g3;have:=iH (j-off) (by omega);rw[show m+(i'*t.sz+off)+(j-off)=m+(i'*t.sz+j)from by omega]at this;rw[this,hu];rfl
   ·rw[if_neg g1];exact dH _ _ (hc _ _ _ g2) λh=>tJ (aO g2).2 (by by_cases e:i'=k;exact .inr λh=>g1 ⟨e,h⟩;exact .inl e) ⟨h.2.1,h.2.2⟩
  ·rcases DB hx with⟨rfl,g1,g2,g3⟩|⟨g1,g2⟩
   ·simp only[g1,g2,and_self,if_true];obtain⟨u,hu,hI⟩:=hin _ _ g3;rw[hu,YP]
    rcases hsh with⟨rfl,rfl⟩|⟨d,d',rfl,rfl,hdd⟩
    ·exact frameD hI λp hf=>Sv _ p (by omega) hf
    ·rw[hh];exact⟨frameR hI.1 (λ_ h=>h) Th,hI.2⟩
   ·simp only[if_neg g1];have hI:=hrr _ _ _ g2
    rcases hsh with⟨rfl,rfl⟩|⟨d,d',rfl,rfl,hdd⟩
    ·exact frameD hI λp hf=>hd1 _ _ _ p g2 hf
    ·rw[hh];exact⟨frameR hI.1 hdd Th,hI.2⟩
  ·rcases DB hx with⟨rfl,g1,g2,g3⟩|⟨g1,g2⟩
   ·simp only[g1,g2,and_self,if_true]at hf;exact Sv _ p (by omega) hf
   ·simp only[if_neg g1]at hf;exact hd1 _ _ _ p g2 hf
  ·rcases DB hx with⟨rfl,g1,g2,g3⟩|⟨g1,g2⟩<;>rcases DB hx' with⟨rfl,q1,q2,q3⟩|⟨q1,q2⟩
   ·simp only[g1,g2,and_self,if_true]at hf;simp only[q1,q2,and_self,if_true]at hf';have:=hf2 _ _ p (by omega) (by omega) hf hf';exact⟨rfl,by omega⟩
   ·simp only[g1,g2,and_self,if_true]at hf;simp only[if_neg q1]at hf';exact(Tf _ p (by omega) hf (C3 _ _ _ p q2 hf')).elim
   ·simp only[if_neg g1]at hf;simp only[q1,q2,and_self,if_true]at hf';exact(Tf _ p (by omega) hf' (C3 _ _ _ p g2 hf)).elim
   ·simp only[if_neg g1]at hf;simp only[if_neg q1]at hf';exact hd2 _ _ _ _ _ _ p g2 q2 hf hf'
  ·simp only[Pl.set,if_true];constructor
   ·rintro (h|⟨i',j,r,hx,hne,hf⟩|⟨j,hj,hf⟩)
    ·exact .inl h
    ·obtain⟨x,hx1,hx2⟩:=hx;have hj:=(aO ⟨x,hx1,hx2⟩).2;obtain⟨r',hr'⟩:=dU (t:=t) (xs:=ys.set k y) (i:=i') (j:=j) (by rw[YB];exact(Of.1 hx1).1) hj;exact .inr ⟨i',j,r',hr',by simp only[if_neg hne];exact hf⟩
    ·obtain⟨r',hr'⟩:=dU (t:=t) (xs:=ys.set k y) (i:=k) (j:=off+j) (by rw[YB];exact WS) (by omega);exact .inr ⟨k,off+j,r',hr',by rw[if_pos (show k=k/\off<=off+j/\off+j<off+sz from⟨rfl,by omega,by omega⟩),Yk];exact hf⟩
   ·rintro (h|⟨i',j,r,hx,hf⟩)
    ·exact .inl h
    ·rcases DB hx with⟨rfl,g1,g2,g3⟩|⟨g1,g2⟩
     ·simp only[g1,g2,and_self,if_true]at hf;exact .inr (.inr ⟨_,by omega,hf⟩)
     ·simp only[if_neg g1]at hf;exact .inr (.inl ⟨_,_,_,g2,g1,hf⟩)
end
end
section
variable [Tok]
section
variable {w:World} {H:aM} {pl:Pl} {P:Program}
theorem vd {n i:Nat} {c:CR} {B0:Blk} {sh:Option (List Nat)} {t:Ty} {ys:List t.El} {H':aM} (hl:look H i=some B0) (hu:c.upd=[(i,.arr sh t ys)]) (hw:c.news=[]) (hi:mem i c.kil.1=false) (ha:after H n c=some H'):
  o5 H H' c.kil i (.arr sh t ys)/\hit c.kil.2 (sh.getD [])=false:=by
 unfold after at ha;rw[hu,hw]at ha;simp only[tI,aN,XY,An,It]at ha;obtain⟨H1,h1,rfl⟩:=ha
 have GJ:∀k,look (put H i (.arr sh t ys)) k=if i=k then some (.arr sh t ys)else look H k:=λk=>fj _ _ _ _
 have QA:=jY c.gx h1;obtain⟨B',hB'⟩:=QA i _ (by rw[GJ,if_pos rfl]) hi
 have AQ:B'=.arr sh t ys/\hit c.kil.2 (sh.getD [])=false:=by
  cases sh with
  |none=>cases hB';exact⟨rfl,rfl⟩
  |some d=>
   simp only[Blk.aP]at hB';cases hd:hit c.kil.2 d<;>simp only[hd,cond_true,cond_false,It]at hB'
   ·exact⟨hB'.symm,hd⟩
   ·exact nomatch hB'
 obtain⟨rfl,hh⟩:=AQ;refine⟨⟨?_,λk B1 hB hm hne=>?_,λk B1 hB hne=>?_⟩,hh⟩
 ·rw[c9 c.gx h1 i,hi,GJ,if_pos rfl];exact hB'
 ·obtain⟨B2,hB2⟩:=QA k B1 (by rw[GJ,if_neg (λe=>hne e.symm)];exact hB) hm;refine⟨B2,hB2,?_⟩;rw[c9 c.gx h1 k,hm,GJ,if_neg (λe=>hne e.symm),hB];exact hB2
 ·rw[c9 c.gx h1 k,GJ,if_neg (λe=>hne e.symm)]at hB;cases hm:mem k c.kil.1<;>simp only[hm,cond_true,cond_false]at hB
  ·obtain⟨B2,g1,g2⟩:=An.1 hB;exact⟨rfl,B2,g1,g2⟩
  ·exact nomatch hB
theorem DC {o:Oper} {a:Act} {T:TypeId} {p x:Operand} {n i k off:Nat} {v:SV} {xs:List SV} {t:Ty} {sh sh':Option (List Nat)} {ys:List t.El} {y:t.El} {rs:List R} {ids:List Nat} {f1:Nat->Cell->Prop}
  (hr:cY H pl w) (ho:o.op=.store T p x) (hl:look H i=some (.arr sh t ys)) (hp:ar w H pl (.ptr i k off) (a.eval p)) (hv:ar w H pl v (a.eval x)) (hz:v.cells=some xs) (hT:jh P T=some xs.length)
  (UY:off+xs.length<=t.sz) (hrs:rs.length=xs.length) (hy:∀e,ys[k]? =some e->t.cells y=(t.cells e).take off++rs++(t.cells e).drop (off+xs.length))
  (hin:∀j r u,rs[j]? =some r->(a.eval x).cells[j]? =some u->AL w H pl sh' r u (f1 j)) (hf1:∀j p,j<xs.length->f1 j p->∃k B,mem k ids=true/\look H k=some B/\B.lF=false/\pl.fp k p)
  (hf2:∀j j' p,j<xs.length->j'<xs.length->f1 j p->f1 j' p->j=j') (hsh:(sh=none/\sh'=none)\/∃d d',sh=some d/\sh'=some d'/\∀k,mem k d=true->mem k d'=true)
  (hi:mem i ids=false):kK P o a w H pl n {v:=.undef,upd:=[(i,.arr sh' t (ys.set k y))],gone:=ids,mH:=[i]}:=by
 refine⟨λj B h=>?_,λH' next Q ha hN=>?_⟩
 ·rw[aC]at h;by_cases e:i=j
  ·subst e;exact⟨_,hl⟩
  ·rw[if_neg e]at h;simp[look]at h
 obtain⟨ht,hh⟩:=vd (c:={v:=.undef,upd:=[(i,.arr sh' t (ys.set k y))],gone:=ids,mH:=[i]}) hl rfl rfl hi ha;have hc:=hv.cells hz hr;obtain⟨ti,hti,hts⟩:=mu hT;generalize hpe:a.eval p=up at hp
 cases hp with
 |wQ _ _ cs b2 k2 hl2 hh2=>rw[hl]at hl2;exact nomatch hl2
 |uQ _ _ _ sh2 t2 zs b m n' cap hl2 hx hhd=>
  rw[hl]at hl2;cases hl2;have hk:ys[k]? =some ys[k]:=So hx
  have Du:∀u∈(a.eval x).cells.toList,one u=true:=λu hu=>by
   obtain⟨j,hj⟩:=Yw hu;exact hc.h1 j u (by simpa using hj)
  obtain⟨w',hst,fp',uZ⟩:=Ox (P:=P) (us:=(a.eval x).cells.toList) (f1:=f1) hr hl hhd hk UY hrs (by simp[hc.hl]) (hy _ hk) Du (λj r hj=>by
    have hj':j<(a.eval x).cells.size:=by rw[<-hc.hl,<-hrs];exact(Of.1 hj).1
    exact⟨(a.eval x).cells[j],by simp,hin j r _ hj (by simp)⟩) hf1 hf2 hsh hh hi ht
  unfold Oper.wp
  have hsz2:(a.eval x).cells.size=ti.size:=by rw[<-hc.hl];exact hts.symm
  have lG:(execOp a.eval o).run P w=.ok .skip w':=by
   rw[execOp,ho];simp only[Instr.storeAt,hpe,Instr.sureAddr,storeVar,Sem.run_bind,Sem.run_pure,Result.andThen_ok,ey hti,hsz2,ne_eq,not_true,if_false,Sem.run_ite];simp[hst]
  rw[lG];exact hN undef _ w' uZ (.undef _)
theorem Js {i:Nat} {l:List Nat} (h:iq (i::l)=true):mem i l=false/\l.Nodup:=by
 simp only[iq]at h;cases hm:mem i l<;>simp only[hm,cond_true,cond_false]at h
 ·exact⟨rfl,mL h⟩
 ·exact nomatch h
theorem GK {h:aM}:∀{ts:List Ty} {vs:List SV} {d:List Nat} {rs:List R},NK h ts vs=some (d,rs)->rs.length=vs.length/\∀(j:Nat) (r:R),rs[j]? =some r->∃v ty d',vs[j]? =some v/\v.asR h ty=some (d',r)/\∀k,mem k d'=true->mem k d=true
 |[],[],d,rs,e=>by cases e;exact⟨rfl,λj r hr=>by simp at hr⟩
 |t::ts,v::vs,d,rs,e=>by
  simp only[NK,An,It,XO]at e;obtain⟨⟨d1,r1⟩,q1,⟨d2,r2⟩,q2,rfl,rfl⟩:=e;obtain⟨g1,g2⟩:=GK q2;refine⟨by simp[g1],λj r hr=>?_⟩
  cases j with
  |zero=>simp at hr;subst hr;exact⟨v,t,d1,rfl,q1,λk hk=>by rw[mem_append,hk];rfl⟩
  |succ j=>
   obtain⟨v',ty,d',p1,p2,p3⟩:=g2 j r (by simpa using hr)
   exact⟨v',ty,d',by simpa using p1,p2,λk hk=>by rw[mem_append,p3 k hk,Y7]⟩
 |[],_::_,_,_,e=>nomatch e
 |_::_,[],_,_,e=>nomatch e
theorem GL {ρ:Type} {K:CR->Option ρ} {out:ρ} {o:Oper} {T:TypeId} {p x:Operand} {h0:aM} {n i k off:Nat} {v:SV} {t:Ty} {sh:Option (List Nat)} {ys:List t.El} (ho:o.op=.store T p x)
    (h:zL P T h0 i sh t ys k off v K=some out):∃c,K c=some out/\∀(H:aM) (a:Act) (w:World) (pl:Pl),Ext h0 H->look H i=some (.arr sh t ys)->cY H pl w->ar w H pl (.ptr i k off) (a.eval p)->
      ar w H pl v (a.eval x)->kK P o a w H pl n c:=by
  simp only[zL,An]at h;obtain⟨xs,hxs,sz,hsz,h⟩:=h;cases hb:(Nat.beq sz xs.length&&Nat.ble (off+sz) t.sz)<;>simp only[hb,cond_true,cond_false]at h
  · exact nomatch h
  simp only[XB]at hb;have e1:=On hb.1;have e2:=XT hb.2;subst e1
  cases sh with
  | none =>
    simp only[An]at h;obtain⟨⟨ids,rs⟩,hrs,h⟩:=h;cases hn:iq (i::ids)<;>simp only[hn,cond_true,cond_false]at h
    · exact nomatch h
    obtain⟨hmi,hnd⟩:=Js hn;obtain⟨g1,g2,g3,g4⟩:=wV hrs
    have fin:∀y,K {v:=.undef,upd:=[(i,.arr none t (ys.set k y))],gone:=ids,mH:=[i]}=some out->(∀e,ys[k]? =some e->t.cells y=(t.cells e).take off++rs++(t.cells e).drop (off+xs.length))->
        ∃c,K c=some out/\∀(H:aM) (a:Act) (w:World) (pl:Pl),Ext h0 H->look H i=some (.arr none t ys)->cY H pl w->ar w H pl (.ptr i k off) (a.eval p)->ar w H pl v (a.eval x)->kK P o a w H pl n c:=λy hK hy=>
      ⟨_,hK,λH a w pl he hl hr hp hv=>by
        have hc:=hv.cells hxs hr;refine DC (rs:=rs) (f1:=λj p=>∃v,xs[j]? =some v/\Jq pl v p) hr ho hl hp hv hxs hsz e2 (g2.trans g1.symm) hy (λj r u hj hu=>?_) (λj p hj ⟨v,hv,k',e,hf⟩=>?_) (λj j' p hj hj' ⟨v,hv,k',e,hf⟩ ⟨v2,hv2,k2,e',hf'⟩=>?_) (.inl ⟨rfl,rfl⟩) hmi
        · obtain⟨v,ty,q1,q2⟩:=g4 j r hj;exact(EX hr (EI he _ _ _ q2) (hc.h _ _ _ q1 hu)).congr λp=>⟨λh=>⟨v,q1,h⟩,λ⟨v',hv',h⟩=>by rw[q1]at hv';cases hv';exact h⟩
        · subst e;obtain⟨r,hr'⟩:∃r,rs[j]? =some r:=⟨_,So (by omega)⟩;obtain⟨v,ty,q1,q2⟩:=g4 j r hr';rw[hv]at q1;cases q1;obtain⟨t1,zs,hl2⟩:=wX (EI he _ _ _ q2) rfl;exact⟨k',_,(mem_iff _ _).2 (by rw[g3];exact o6 hv),hl2,rfl,hf⟩
        · subst e e'
          have thr:∀j k',xs[j]? =some (.own k')->j<xs.length->∃B,look H k'=some B:=λj k' hv hj=>by
            obtain⟨r,hr'⟩:∃r,rs[j]? =some r:=⟨_,So (by omega)⟩;obtain⟨v,ty,q1,q2⟩:=g4 j r hr';rw[hv]at q1;cases q1;obtain⟨t1,zs,hl2⟩:=wX (EI he _ _ _ q2) rfl;exact⟨_,hl2⟩
          obtain⟨B1,hB1⟩:=thr j k' hv hj;obtain⟨B2,hB2⟩:=thr j' k2 hv2 hj';have:=hr.dis k' k2 B1 B2 p hB1 hB2 hf hf';subst this
          exact AK (g3▸hnd) hv hv2⟩
    cases hw:Nat.beq xs.length t.sz<;>simp only[hw,cond_true,cond_false,An]at h
    · obtain⟨e,he,y,hy,h⟩:=h
      exact fin y h λe' he'=>by rw[he]at he';cases he';exact Ty.cM t _ y hy
    · obtain⟨y,hy,h⟩:=h;have hw:=On hw;refine fin y h λe he=>?_
      have ho0:off=0:=by omega
      subst ho0
      rw[Ty.cM t _ y hy,XN,hw,<-Ty.cw t e,Zj];simp
  | some d =>
    simp only[An]at h;obtain⟨⟨d1,rs⟩,hrs,h⟩:=h;cases hn:mem i d1<;>simp only[hn,cond_true,cond_false]at h
    rotate_left
    · exact nomatch h
    obtain⟨g1,g4⟩:=GK hrs
    have fin:∀y,K {v:=.undef,upd:=[(i,.arr (some (d++d1)) t (ys.set k y))],mH:=[i]}=some out->(∀e,ys[k]? =some e->t.cells y=(t.cells e).take off++rs++(t.cells e).drop (off+xs.length))->
        ∃c,K c=some out/\∀(H:aM) (a:Act) (w:World) (pl:Pl),Ext h0 H->look H i=some (.arr (some d) t ys)->cY H pl w->ar w H pl (.ptr i k off) (a.eval p)->ar w H pl v (a.eval x)->kK P o a w H pl n c:=λy hK hy=>
      ⟨_,hK,λH a w pl he hl hr hp hv=>by
        have hc:=hv.cells hxs hr;refine DC (rs:=rs) (ids:=[]) (f1:=λ_ _=>False) hr ho hl hp hv hxs hsz e2 g1 hy (λj r u hj hu=>?_) (λ_ _ _ h=>h.elim) (λ_ _ _ _ _ h=>h.elim) (.inr ⟨d,_,rfl,rfl,λk hk=>by rw[mem_append,hk];rfl⟩) rfl;obtain⟨v,ty,d',q1,q2,q3⟩:=g4 j r hj
        exact⟨(wS hr (Gz he _ _ _ q2) (hc.h _ _ _ q1 hu)).frame λp u hp hu=>⟨jm (λk hk=>by rw[mem_append,q3 k hk,Y7]) hp,hu⟩,λ_ h=>h⟩⟩
    cases hw:Nat.beq xs.length t.sz<;>simp only[hw,cond_true,cond_false,An]at h
    · obtain⟨e,he,y,hy,h⟩:=h
      exact fin y h λe' he'=>by rw[he]at he';cases he';exact Ty.cM t _ y hy
    · obtain⟨y,hy,h⟩:=h;have hw:=On hw;refine fin y h λe he=>?_
      have ho0:off=0:=by omega
      subst ho0;rw[Ty.cM t _ y hy,XN,hw,<-Ty.cw t e,Zj];simp
theorem wZ {a:Act} {s:List (Nat× SV)} {T e:TypeId} {sz len:Nat} {parts:Array (Nat× Operand)} {ps:List (Nat× SV)} {z cs:List SV} (hr:cY H pl w) (hs:gT w H pl s a)
  (he:mF P T=some e) (hsz:jh P e=some sz) (hps:ra s parts.toList=some ps) (hz:gv P e=some z) (hzl:z.length=sz) (hlen:len*sz<=16777216)
  (hf:qP (λi=>some (i*sz,sz)) (List.replicate (len*sz) .undef) ps=some cs):
  ∃cells,Mu w H pl cs cells/\(Instr.buildSlice T len (parts.map λp=>(p.1,a.eval p.2))).run P w=.ok (.slice (some ⟨w.heap.size,0,none⟩) len len) (w.alloc (.cells cells e)):=by
 obtain⟨ti,hti,rfl⟩:=mu hsz;obtain⟨zu,hzu,hzc⟩:=j3 hr hti hz
 have hzs:zu.cells.size=ti.size:=by rw[<-hzc.hl,hzl]
 obtain⟨g1,g2⟩:=wU hs hps
 have Wc:Mu w H pl (List.replicate (len*ti.size) .undef) (madeCells zu.cells (len*ti.size)):=by
  refine⟨by simp[size_madeCells],λj v hv=>?_,λj x u hx hu=>?_⟩
  ·have hj:j<len*ti.size:=by have:=(XW.1 hv).1;rwa [size_madeCells]at this
   rw[va hj]at hv;cases hv
   have NN:0<zu.cells.size:=by
    rw[hzs]
    rcases Nat.eq_zero_or_pos ti.size with h|h
    ·rw[h]at hj;omega
    ·exact h
   have hlt:j %zu.cells.size<zu.cells.size:=ZI _ NN;rw[getElem!_pos zu.cells _ hlt];exact hzc.h1 _ _ (XR hlt)
  ·have:=(ZJ.1 (XX hx)).2;subst this;exact .undef _
 obtain⟨cells,e1,e2⟩:=EO hr ps (parts.map λp=>(p.1,a.eval p.2)).toList _ cs _ Wc (by simp[g1]) (λj k x k' u hx hu=>g2 j k x k' u hx (by simpa using hu)) hf;exact⟨cells,e2,C0 (mr he) hti hzu len hlen e1⟩
theorem ve {place:Nat->Option (Nat× Nat)}:∀{ps:List (Nat× SV)} {cs cs':List SV},qP place cs ps=some cs'->cs'.length=cs.length
 |[],cs,cs',h=>by cases h;rfl
 |(k,v)::l,cs,cs',h=>by
  simp only[qP,An]at h;obtain⟨p,hp,vs,hvs,h⟩:=h;cases h1:Nat.beq vs.length p.2<;>simp only[h1,cond_true,cond_false]at h
  ·exact nomatch h
  cases h2:Nat.ble (p.1+vs.length) cs.length<;>simp only[h2,cond_true,cond_false]at h
  ·exact nomatch h
  have h2:=XT h2;rw[ve h];simp;omega
theorem tK {o:Oper} {a:Act} {s:List (Nat× SV)} {n:Nat} {T e:TypeId} {sz len:Nat} {parts:Array (Nat× Operand)} {ps:List (Nat× SV)} {z cs:List SV} {t:Ty} {xs:List t.El} (hr:cY H pl w) (hs:gT w H pl s a)
  (hn:look H n=none) (ho:o.op=.buildSlice T len parts) (he:mF P T=some e) (hsz:jh P e=some sz) (hps:ra s parts.toList=some ps) (hz:gv P e=some z) (hzl:z.length=sz) (hlen:len*sz<=16777216)
  (hf:qP (λi=>some (i*sz,sz)) (List.replicate (len*sz) .undef) ps=some cs) (hts:t.sz=sz) (hx:jj H t len cs=some ([],xs)):kK P o a w H pl n {v:=.own n,news:=[.arr none t xs]}:=by
 obtain⟨cells,hc,lG⟩:=wZ hr hs he hsz hps hz hzl hlen hf;refine EY hn rfl rfl rfl λH' ht=>?_;obtain⟨k1,_,_,_⟩:=jZ hx;have hst:=AP (e:=e) (cs:=cells) (cap:=len) hr hn (by omega) (by rw[<-hc.hl,ve hf,Zm,hts]) (kM hr hx hc) ht;refine⟨_,_,_,?_,hst⟩;rw[execOp,ho];simp only[Sem.run_bind,lG,Result.andThen_ok,k1];rfl
theorem Oy {w':World} (hr:cY H pl w) (hgr:dF w w') (hold:∀p x,w.at? p=some x->w'.at? p=some x/\w'.eK p=w.eK p):c7 H H ([],[]) pl pl w w':=by
 have tE:lM ([],[]) w H pl w' H pl:=⟨λi B hB _=>⟨B,hB,B.dB,rfl⟩,λd p u _ hok hu=>⟨hok,(hold p u hu).1⟩⟩;refine⟨⟨λi B hB=>(hr.blk i B hB).bJ tE rfl (λp=>Z8) (λp u _ hu=>hold p u hu) B.dC,hr.dis,hr.ob,λp hp=>hr.nb p ?_⟩,tE,rfl,hgr,λp u hp hno=>⟨hno,hold p u hp⟩⟩
 cases hq:w.at? p with
 |none=>rfl
 |some u=>rw[(hold p u hq).1]at hp;exact nomatch hp
theorem E0 {o:Oper} {a:Act} {s:List (Nat× SV)} {n:Nat} {T e:TypeId} {sz len:Nat} {parts:Array (Nat× Operand)} {ps:List (Nat× SV)} {z cs:List SV} {t:Ty} {xs:List t.El} (hr:cY H pl w) (hs:gT w H pl s a)
  (ho:o.op=.buildSlice T len parts) (he:mF P T=some e) (hsz:jh P e=some sz) (hps:ra s parts.toList=some ps) (hz:gv P e=some z) (hzl:z.length=sz) (hlen:len*sz<=16777216)
  (hf:qP (λi=>some (i*sz,sz)) (List.replicate (len*sz) .undef) ps=some cs) (hx:jj H t len cs=some ([],xs)):kK P o a w H pl n {v:=.r [] (.sl t xs)}:=by
 obtain⟨cells,hc,lG⟩:=wZ hr hs he hsz hps hz hzl hlen hf;obtain⟨k1,_,_,_⟩:=jZ hx;have hpl:=kM hr hx hc;refine⟨λi B h=>by simp[look]at h,λH' next Q ha hN=>?_⟩
 have hH:H'=H:=by
  have:some (H++[])=some H':=ha;rw[XY]at this;exact(YA this).symm
 subst hH;refine mK (u:=.slice (some ⟨w.heap.size,0,none⟩) len len) (w':=w.alloc (.cells cells e)) ?_ (hN _ pl _ (Oy hr (dF.alloc w cells e) λp x hp=>rl hp) ?_)
 ·rw[execOp,ho];simp only[Sem.run_bind,lG,Result.andThen_ok];rfl
 ·rw[<-k1];refine .r _ _ _ (.sl t xs _ _ w.heap.size 0 (λi j=>(cells[i*t.sz+j]?).getD undef) (X1 _) (.inr rfl) (λi j r hx=>?_) (λi j r hx=>?_))
  ·obtain⟨u,hu,_⟩:=hpl i j r hx;obtain⟨a1,_,a3⟩:=o7 (w:=w) (cs:=cells) (e:=e) (i*t.sz+j);refine⟨?_,by rw[XN,a1,hu];rfl⟩;rw[XN];refine⟨hr.nb _ a3,λk B hB _ hfp=>?_⟩;obtain⟨v,hv⟩:=hr.gy k B _ hB hfp;rw[a3]at hv;exact nomatch hv
  ·obtain⟨u,hu,hd⟩:=hpl i j r hx;rw[hu];exact(hd.frame (w':=w.alloc (.cells cells e)) λp u hf=>hf.elim).Oc λp hf=>hf.elim
theorem C4 {o:Oper} {a:Act} {s:List (Nat× SV)} {n:Nat} {T e:TypeId} {sz len:Nat} {parts:Array (Nat× Operand)} {ps:List (Nat× SV)} {z cs:List SV} (hr:cY H pl w) (hs:gT w H pl s a)
  (hn:look H n=none) (ho:o.op=.buildSlice T len parts) (he:mF P T=some e) (hsz:jh P e=some sz) (hps:ra s parts.toList=some ps) (hz:gv P e=some z) (hzl:z.length=sz) (hlen:len*sz<=16777216)
  (hf:qP (λi=>some (i*sz,sz)) (List.replicate (len*sz) .undef) ps=some cs):kK P o a w H pl n {v:=.bsl n len,news:=[.box cs]}:=by
 obtain⟨cells,hc,lG⟩:=wZ hr hs he hsz hps hz hzl hlen hf;refine⟨λi B h=>by simp[look]at h,λH' next Q ha hN=>?_⟩;cases ha;obtain⟨pl',hst,hh⟩:=EV hr hn hc e;refine mK (u:=.slice (some ⟨w.heap.size,0,none⟩) len len) (w':=push w cells e) ?_ (hN _ pl' _ hst ?_)
 ·rw[execOp,ho];simp only[Sem.run_bind,lG,Result.andThen_ok];rfl
 ·exact ar.bsl (w:=push w cells e) (H:=H++[(n,.box cs)]) (pl:=pl') n len cs _ (by rw[aJ,hn,aC];simp) hh
end
end
section
variable [Tok]
def tL:List R->Nat->Option Nat
 |[],_=>none
 |.sl _ _::_,0=>some 0
 |.sl _ _::l,k+1=>(tL l k).map (·+1)
 |_::l,k=>(tL l k).map (·+1)
theorem vf {r:R} {l:List R} (h:∀t ys,r≠.sl t ys) (k:Nat):tL (r::l) k=(tL l k).map (·+1):=by
 cases r with
 |sl t ys=>exact(h t ys rfl).elim
 |_=>rfl
theorem xa {r:R} {l:List R} (h:∀t ys,r≠.sl t ys):ns (r::l)=ns l:=by
 cases r with
 |sl t ys=>exact(h t ys rfl).elim
 |_=>rfl
theorem sy {r:R} {l:List R} (n:Nat) (h:∀t ys,r≠.sl t ys):uV n (r::l)=.r [] r::uV n l:=by
 cases r with
 |sl t ys=>exact(h t ys rfl).elim
 |_=>rfl
theorem ME (r:R):(∃t ys,r=.sl t ys)\/∀t ys,r≠.sl t ys:=by
 cases r with
 |sl t ys=>exact .inl ⟨t,ys,rfl⟩
 |_=>exact .inr λ_ _ e=>nomatch e
theorem rm:∀(l:List R) (n:Nat),(uV n l).length=l.length
 |[],_=>rfl
 |r::l,n=>by
  rcases ME r with⟨t,ys,rfl⟩|h
  ·simp[uV,rm l]
  ·rw[sy n h];simp[rm l]
theorem AR:∀{l:List R} {k:Nat} {B:Blk},(ns l)[k]? =some B->∃(j:Nat) (t:Ty) (ys:List t.El),tL l k=some j/\l[j]? =some (.sl t ys)/\B=.arr none t ys
 |[],k,B,h=>nomatch h
 |r::l,k,B,h=>by
  rcases ME r with⟨t,ys,rfl⟩|hr
  ·cases k with
   |zero=>simp[ns]at h;exact⟨0,t,ys,rfl,rfl,h.symm⟩
   |succ k=>
    obtain⟨j,t',ys',h1,h2,h3⟩:=AR (l:=l) (k:=k) (by simpa[ns]using h);exact⟨j+1,t',ys',by simp[tL,h1],by simpa using h2,h3⟩
  ·rw[xa hr]at h;obtain⟨j,t',ys',h1,h2,h3⟩:=AR h;exact⟨j+1,t',ys',by rw[vf hr,h1];rfl,by simpa using h2,h3⟩
theorem vg:∀{l:List R} {n j:Nat} {r:R},l[j]? =some r->
  (∃t ys k,r=.sl t ys/\(uV n l)[j]? =some (.own (n+k))/\tL l k=some j/\(ns l)[k]? =some (.arr none t ys))\/((∀t ys,r≠.sl t ys)/\(uV n l)[j]? =some (.r [] r))
 |[],n,j,r,h=>by simp at h
 |r0::l,n,j,r,h=>by
  rcases ME r0 with⟨t0,ys0,rfl⟩|hr
  ·cases j with
   |zero=>simp at h;subst h;exact .inl ⟨t0,ys0,0,rfl,rfl,rfl,rfl⟩
   |succ j=>
    rcases vg (n:=n+1) (by simpa using h:l[j]? =some r)with⟨t,ys,k,h1,h2,h3,h4⟩|⟨h1,h2⟩
    ·exact .inl ⟨t,ys,k+1,h1,by simpa[uV,Yz,Nat.add_comm 1 k]using h2,by simp[tL,h3],by simpa[ns]using h4⟩
    ·exact .inr ⟨h1,by simpa[uV]using h2⟩
  ·cases j with
   |zero=>simp at h;subst h;exact .inr ⟨hr,by rw[sy n hr];rfl⟩
   |succ j=>
    rcases vg (n:=n) (by simpa using h:l[j]? =some r)with⟨t,ys,k,h1,h2,h3,h4⟩|⟨h1,h2⟩
    ·exact .inl ⟨t,ys,k,h1,by rw[sy n hr];simpa using h2,by rw[vf hr,h3];rfl,by rw[xa hr];exact h4⟩
    ·exact .inr ⟨h1,by rw[sy n hr];simpa using h2⟩
theorem E1:∀{l:List R} {k k' j:Nat},tL l k=some j->tL l k'=some j->k=k'
 |[],_,_,_,h,_=>nomatch h
 |r::l,k,k',j,h,h'=>by
  rcases ME r with⟨t,ys,rfl⟩|hr
  ·cases k with
   |zero=>
    cases k' with
    |zero=>rfl
    |succ k'=>
     simp[tL]at h h';subst h;obtain⟨a,_,h'⟩:=h'
     exact nomatch h'
   |succ k=>
    cases k' with
    |zero=>
     simp[tL]at h h';subst h';obtain⟨a,_,h⟩:=h
     exact nomatch h
    |succ k'=>
     simp only[tL,XK]at h h';obtain⟨a,h1,rfl⟩:=h;obtain⟨b,h2,e⟩:=h';rw[show b=a from by omega]at h2;rw[E1 h1 h2]
  ·rw[vf hr,XK]at h h';obtain⟨a,h1,rfl⟩:=h;obtain⟨b,h2,e⟩:=h';rw[show b=a from by omega]at h2;exact E1 h1 h2
structure C5 (t t':Ty) where
 el:t.El->t'.El
 no:t'.El
 sz:t'.sz=t.sz
 cells:∀e,t'.cells (el e)=t.cells e
 nr:t'.cells no=List.replicate t.sz .nr
def UZ (s:S):C5 (.st s) (.ho s):=⟨some,none,rfl,λ_=>rfl,rfl⟩
def U0 (t:Ty):C5 (.sl t) (.hl t):=⟨some,none,rfl,λ_=>rfl,rfl⟩
section
variable {t t':Ty} (hh:C5 t t')
def C5.list (xs:List t.El) (x:Nat):List t'.El:=(xs.map hh.el).set x hh.no
theorem C5.len (xs:List t.El) (x:Nat):(hh.list xs x).length=xs.length:=by simp[C5.list]
theorem C5.get {xs:List t.El} {x i:Nat} {y:t'.El} (h:(hh.list xs x)[i]? =some y):(i=x/\y=hh.no)\/(i≠x/\∃z,xs[i]? =some z/\y=hh.el z):=by
 unfold C5.list at h;by_cases e:i=x
 ·subst e;have hl:=(Of.1 h).1;rw[YR (by simpa using hl)]at h;cases h;exact .inl ⟨rfl,rfl⟩
 ·rw[Za (λh=>e h.symm),Yl]at h;obtain⟨z,hz,rfl⟩:=XK.1 h;exact .inr ⟨e,z,hz,rfl⟩
theorem rn {xs:List t.El} {x i j:Nat} {r:R} (h:aB t' (hh.list xs x) i j r):
  (i=x/\r=.nr)\/(i≠x/\aB t xs i j r):=by
 obtain⟨y,hy,hr⟩:=h
 rcases hh.get hy with⟨e,rfl⟩|⟨e,z,hz,rfl⟩
 ·rw[hh.nr,List.getElem?_replicate]at hr;split at hr
  ·cases hr;exact .inl ⟨e,rfl⟩
  ·exact nomatch hr
 ·rw[hh.cells]at hr;exact .inr ⟨e,z,hz,hr⟩
theorem MF {xs:List t.El} {x i j:Nat} {r:R} (h:aB t xs i j r):∃r',aB t' (hh.list xs x) i j r':=by
 obtain⟨a,b⟩:=aO h;exact dU (t:=t') (by have:=hh.len xs x;omega) (by rw[hh.sz];exact b)
end
section
variable {w:World} {H H':aM} {pl:Pl} {P:Program}
theorem jo:∀{l:List R} {k j:Nat},tL l k=some j->∃(t:Ty) (ys:List t.El),l[j]? =some (.sl t ys)/\(ns l)[k]? =some (.arr none t ys)
 |[],_,_,h=>nomatch h
 |r::l,k,j,h=>by
  rcases ME r with⟨t,ys,rfl⟩|hr
  ·cases k with
   |zero=>simp[tL]at h;subst h;exact⟨t,ys,rfl,rfl⟩
   |succ k=>
    simp only[tL,XK]at h;obtain⟨a,h1,rfl⟩:=h;obtain⟨t',ys',g1,g2⟩:=jo h1;exact⟨t',ys',by simpa using g1,by simpa[ns]using g2⟩
  ·rw[vf hr,XK]at h;obtain⟨a,h1,rfl⟩:=h;obtain⟨t',ys',g1,g2⟩:=jo h1;exact⟨t',ys',by simpa using g1,by rw[xa hr];exact g2⟩
open Classical in
noncomputable def Pl.tak (pl:Pl) (n i:Nat) (l:List R) (v:Nat->Value) (f:Nat->Cell->Prop):Pl:=
 {base:=pl.base
  hdr:=λm=>if n<=m then((tL l (m-n)).map v).getD (pl.hdr m)else pl.hdr m
  fp:=λm=>if h:n<=m/\∃j,tL l (m-n)=some j then f h.2.choose else if m=i thenλp=>pl.fp i p/\∀j k,tL l k=some j->¬f j p else pl.fp m}
theorem Pl.E2 {pl:Pl} {n i k j:Nat} {l:List R} {v:Nat->Value} {f:Nat->Cell->Prop} (h:tL l k=some j):(pl.tak n i l v f).hdr (n+k)=v j/\(pl.tak n i l v f).fp (n+k)=f j:=by
 have e:n+k-n=k:=by omega
 refine⟨by simp[Pl.tak,e,h],?_⟩;have hh:n<=n+k/\∃j,tL l (n+k-n)=some j:=⟨by omega,j,by rw[e];exact h⟩;unfold Pl.tak;simp only;rw[dif_pos hh]
 have h2:tL l (n+k-n)=some j:=by rw[e];exact h
 exact congrArg f (YA (hh.2.choose_spec.symm.trans h2))
theorem Pl.rp {pl:Pl} {n i m:Nat} {l:List R} {v:Nat->Value} {f:Nat->Cell->Prop} (h:∀k j,m=n+k->tL l k=some j->False):
  (pl.tak n i l v f).hdr m=pl.hdr m/\(pl.tak n i l v f).fp m=if m=i then(λp=>pl.fp i p/\∀j k,tL l k=some j->¬f j p)else pl.fp m:=by
 have hh:¬(n<=m/\∃j,tL l (m-n)=some j):=λ⟨h1,j,h2⟩=>h (m-n) j (by omega) h2;refine⟨?_,?_⟩
 ·unfold Pl.tak;simp only;by_cases c:n<=m
  ·rw[if_pos c]
   cases hs:tL l (m-n)with
   |none=>rfl
   |some j=>exact(hh ⟨c,j,hs⟩).elim
  ·rw[if_neg c]
 ·unfold Pl.tak;simp only;rw[dif_neg hh]
theorem QW {n i x:Nat} {te th:Ty} (hh:C5 te th) {xs:List te.El} {e:te.El} {v0:SV} (hr:cY H pl w) (hl:look H i=some (.arr none te xs)) (hx:xs[x]? =some e)
    (hn:∀k,k<(ns (te.cells e)).length->look H (n+k)=none)
    (ha:after H n {v:=v0,news:=ns (te.cells e),upd:=[(i,.arr none th (hh.list xs x))],mH:=[i]}=some H'):
    ∃ (pl' : Pl) (b o cap : Nat), pl.hdr i = .slice (some ⟨b, o, none⟩) xs.length cap /\ c7 H H' ([], [i]) pl pl' w w /\
      ∀(j:Nat) (v:SV),(uV n (te.cells e))[j]? =some v->∃u,w.at? (b,o+(x*te.sz+j))=some u/\one u=true/\ar w H' pl' v u:=by
  obtain⟨⟨a,cap,b,o,vs,fs,h1,h2,h3,h4,h5,h6,h7,h8,h9⟩⟩:=hr.blk i _ hl;have hxl:x<xs.length:=(Of.1 hx).1
  have hc0:cap≠0:=λe=>by
    have:=ZK hxl h2;omega
  have h3:=h3.resolve_left hc0;subst h3;have hcell:∀{j r},(te.cells e)[j]? =some r->aB te xs x j r:=λh=>⟨e,hx,h⟩
  have hlt:∀{k j},tL (te.cells e) k=some j->k<(ns (te.cells e)).length:=λh=>by
    obtain⟨t,ys,_,g⟩:=jo h;exact(Of.1 g).1
  have QX:∀{m B},look H m=some B->∀k j,m=n+k->tL (te.cells e) k=some j->False:=λ{m B} hm k j e1 h=>by
    rw[e1,hn k (hlt h)]at hm;exact nomatch hm
  have U1:∀{k j p},tL (te.cells e) k=some j->fs x j p->pl.fp i p:=λ{k j p} h hp=>by
    obtain⟨t,ys,g,_⟩:=jo h;exact(h9 p).2 (.inr ⟨x,j,_,hcell g,hp⟩)
  unfold after at ha;simp only[CR.kil,YC,tI,An,It]at ha;obtain⟨H1,hs,rfl⟩:=ha;have hTT:∀i',mem i' (([],[i]):Kil).1=true->mem i' (([],[i]):Kil).2=true:=λ_ h=>nomatch h
  have GJ:∀k,look (put H i (.arr none th (hh.list xs x))) k=if i=k then some (.arr none th (hh.list xs x))else look H k:=λk=>fj _ _ _ _
  have QA:=jY hTT hs
  have hlk:∀k,look (H1++aN n (ns (te.cells e))) k=((look (put H i (.arr none th (hh.list xs x))) k).bind (Blk.aP ([],[i]))).or (if n<=k then(ns (te.cells e))[k-n]? else none):=λk=>by
    rw[aJ,c9 hTT hs k,bG];rfl
  generalize H1++aN n (ns (te.cells e))=H' at hlk⊢
  have back:∀{k B'},look H' k=some B'->(∃k0 j,k=n+k0/\tL (te.cells e) k0=some j/\(ns (te.cells e))[k0]? =some B')\/(k=i/\B'=.arr none th (hh.list xs x))\/(k≠i/\∃B0,look H k=some B0/\B0.aP ([],[i])=some B'):=λ{k B'} h=>by
    rw[hlk k,GJ]at h;by_cases c:i=k
    · subst c;rw[if_pos rfl]at h;simp only[XC,Blk.aP,Option.some_or,It]at h;exact .inr (.inl ⟨rfl,h.symm⟩)
    · rw [if_neg c] at h
      cases hk:look H k with
      | some B0 =>
        obtain⟨B1,hB1⟩:=QA k B0 (by rw[GJ,if_neg c];exact hk) rfl;rw[hk,XC,hB1,Option.some_or]at h
        exact .inr (.inr ⟨λe=>c e.symm,B0,rfl,by rw[hB1];exact h⟩)
      | none =>
        rw[hk,Yg,Option.none_or]at h;by_cases c2:n<=k
        · rw[if_pos c2]at h;obtain⟨j,t,ys,g1,_,_⟩:=AR h;exact .inl ⟨k-n,j,by omega,g1,h⟩
        · rw[if_neg c2]at h;exact nomatch h
  let pl':=pl.tak n i (te.cells e) (vs x) (fs x)
  have org:∀{k B' p},look H' k=some B'->pl'.fp k p->(∃k0 j,k=n+k0/\tL (te.cells e) k0=some j/\fs x j p)\/(k=i/\pl.fp i p/\∀j k,tL (te.cells e) k=some j->¬fs x j p)\/(k≠i/\pl.fp k p/\∃B0,look H k=some B0/\B0.aP ([],[i])=some B'):=λ{k B' p} hk hp=>by
    rcases back hk with⟨k0,j,rfl,g1,_⟩|⟨rfl,_⟩|⟨c,B0,g1,g2⟩
    · rw[show pl'.fp (n+k0)=fs x j from(Pl.E2 g1).2]at hp;exact .inl ⟨k0,j,rfl,g1,hp⟩
    · rw[show pl'.fp k=_ from(Pl.rp (QX hl)).2,if_pos rfl]at hp;exact .inr (.inl ⟨rfl,hp⟩)
    · rw[show pl'.fp k=_ from(Pl.rp (QX g1)).2,if_neg c]at hp;exact .inr (.inr ⟨c,hp,B0,g1,g2⟩)
  have Xe:look H' i=some (.arr none th (hh.list xs x)):=by
    rw[hlk i,GJ,if_pos rfl];rfl
  have hk:lM ([],[i]) w H pl w H' pl':=by
    refine⟨λk B hB _=>?_,λd p u hd hok hu=>⟨⟨hok.1,λk B' hB' hm hf=>?_⟩,hu⟩⟩
    · by_cases c:k=i
      · subst c;rw[hl]at hB;cases hB;exact⟨_,Xe,⟨hh.sz.symm,(hh.len xs x).symm⟩,(Pl.rp (QX hl)).1⟩
      · obtain⟨B1,hB1⟩:=QA k B (by rw[GJ,if_neg (λe=>c e.symm)];exact hB) rfl;refine⟨B1,by rw[hlk k,GJ,if_neg (λe=>c e.symm),hB,XC,hB1,Option.some_or],Blk.gU hB1,(Pl.rp (QX hB)).1⟩
    · have hni:pl.fp i p->False:=λh=>hok.2 i _ hl (λhm=>by have:=hd i hm;simp[mem]at this) h
      rcases org hB' hf with⟨k0,j,_,g1,g2⟩|⟨_,g1,_⟩|⟨c,g1,B0,g2,g3⟩
      · exact hni (U1 g1 g2)
      · exact hni g1
      · exact hok.2 k B0 g2 (λh=>(Blk.kq (Blk.gU g3)).trans (hm h)) g1
  have hnd:∀{i' j r},aB te xs i' j r->∀p,fs i' j p->(∃t ys,r=.sl t ys):=λ{i' j r} h p hp=>by
    rcases ME r with h'|h'
    · exact h'
    · have:=h6 _ _ _ h;generalize vs i' j=v1 at this;generalize fs i' j=f1 at this hp
      cases this with
      |sl t ys=>exact(h' t ys rfl).elim
      |_=>exact hp.elim
  refine⟨pl',b,o,cap,h1,⟨⟨λk B' hB'=>?_,λk1 k2 B1 B2 p e1 e2 f1 f2=>?_,λk B' p hB' hf=>?_,hr.nb⟩,hk,rfl,dF.refl w,λp u hp hno=>⟨λk B' hB' hf=>?_,hp,rfl⟩⟩,λj v hv=>?_⟩
  · rcases back hB' with⟨k0,j,rfl,g1,g2⟩|⟨rfl,rfl⟩|⟨c,B0,g1,g2⟩
    · obtain⟨t,ys,q1,q2⟩:=jo g1;rw[q2]at g2;cases g2;show Nonempty (Row w (fV w) t ys (pl'.hdr (n+k0)) (pl'.fp (n+k0)));rw[show pl'.fp (n+k0)=fs x j from(Pl.E2 g1).2,show pl'.hdr (n+k0)=vs x j from(Pl.E2 g1).1];exact(h6 x j _ (hcell q1)).row
    · show Nonempty (Row w (fV w) th (hh.list xs x) (pl'.hdr k) (pl'.fp k))
      have hst:∀{i' j r},aB th (hh.list xs x) i' j r->∃r',aB te xs i' j r':=λ{i' j r} h=>by
        obtain⟨q1,q2⟩:=aO h;exact dU (Nat.lt_of_lt_of_eq q1 (hh.len xs x)) (by rw[<-hh.sz];exact q2)
      rw[show pl'.hdr k=pl.hdr k from(Pl.rp (QX hl)).1,show pl'.fp k=_ from(Pl.rp (QX hl)).2,if_pos rfl];refine⟨⟨some ⟨b,o,none⟩,cap,b,o,vs,λi' j=>if i'=x then(λ_=>False)else fs i' j,by rw[h1];exact congrArg (λm=>Value.slice _ m cap) (hh.len xs x).symm,YW (Nat.le_of_eq (hh.len xs x)) h2,.inr rfl,by rw[hh.sz];exact h4,λi' j r h=>?_,λi' j r h=>?_,λi' j r p h hf=>?_,λi' j r i'' j' r' p h h' hf hf'=>?_,λp=>?_⟩⟩
      · obtain⟨r',h'⟩:=hst h;rw[hh.sz];exact h5 _ _ _ h'
      · rcases rn hh h with⟨rfl,rfl⟩|⟨c,h'⟩
        · rw[if_pos rfl];obtain⟨r',h'⟩:=hst h;exact .nr _ ((h6 _ _ _ h').Oc (ok:=λ_=>True) (λ_ _=>trivial)).tD
        · rw[if_neg c];exact h6 _ _ _ h'
      · rcases rn hh h with⟨rfl,rfl⟩|⟨c,h'⟩
        · rw[if_pos rfl]at hf;exact hf.elim
        · rw[if_neg c]at hf;rw[hh.sz];exact h7 _ _ _ p h' hf
      · rcases rn hh h with⟨rfl,rfl⟩|⟨c,h1'⟩
        · rw[if_pos rfl]at hf;exact hf.elim
        · rcases rn hh h' with⟨rfl,rfl⟩|⟨c',h2'⟩
          · rw[if_pos rfl]at hf';exact hf'.elim
          · rw[if_neg c]at hf;rw[if_neg c']at hf';exact h8 _ _ _ _ _ _ p h1' h2' hf hf'
      · rw [hh.sz];constructor
        · rintro ⟨hp,hno⟩
          rcases(h9 p).1 hp with hp|⟨i',j,r,h,hf⟩
          · exact .inl hp
          · obtain⟨r',h'⟩:=MF hh (x:=x) h;refine .inr ⟨i',j,r',h',?_⟩;by_cases c:i'=x
            · subst c;obtain⟨t,ys,rfl⟩:=hnd h p hf;obtain⟨z,hz,hzj⟩:=h;have hz:=hx.symm.trans hz;cases hz
              rcases vg (n:=n) hzj with⟨_,_,k',_,_,g,_⟩|⟨g,_⟩
              · exact(hno j k' g hf).elim
              · exact(g t ys rfl).elim
            · rw[if_neg c];exact hf
        · rintro (hp|⟨i',j,r,h,hf⟩)
          · refine⟨(h9 p).2 (.inl hp),λj k' g hf=>?_⟩;obtain⟨t,ys,q1,_⟩:=jo g;exact h7 _ _ _ p (hcell q1) hf hp
          · rcases rn hh h with⟨rfl,rfl⟩|⟨c,h'⟩
            · rw[if_pos rfl]at hf;exact hf.elim
            · rw[if_neg c]at hf;refine⟨(h9 p).2 (.inr ⟨_,_,_,h',hf⟩),λj' k' g hf'=>?_⟩;obtain⟨t,ys,q1,_⟩:=jo g;exact c (h8 _ _ _ _ _ _ p h' (hcell q1) hf hf').1
    · exact(hr.blk k B0 g1).bJ hk (Pl.rp (QX g1)).1 (λp=>by rw[show pl'.fp k=_ from(Pl.rp (QX g1)).2,if_neg c]) (λp u _ hu=>⟨hu,rfl⟩) g2
  · rcases org e1 f1 with⟨k0,j,rfl,g1,g2⟩|⟨rfl,g1,g2⟩|⟨c,g1,B0,g2,g3⟩<;>rcases org e2 f2 with⟨k0',j',rfl,g1',g2'⟩|⟨rfl,g1',g2'⟩|⟨c',g1',B0',g2'',g3'⟩
    · obtain⟨t,ys,q1,_⟩:=jo g1;obtain⟨t',ys',q1',_⟩:=jo g1';have:=(h8 _ _ _ _ _ _ p (hcell q1) (hcell q1') g2 g2').2;subst this;rw[E1 g1 g1']
    · exact(g2' j k0 g1 g2).elim
    · exact(c' (hr.dis i k2 _ _ p hl g2'' (U1 g1 g2) g1').symm).elim
    · exact(g2 j' k0' g1' g2').elim
    · rfl
    · exact(c' (hr.dis k1 k2 _ _ p hl g2'' g1 g1').symm).elim
    · exact(c (hr.dis k1 i _ _ p g2 hl g1 (U1 g1' g2'))).elim
    · exact(c (hr.dis k1 k2 _ _ p g2 hl g1 g1')).elim
    · exact hr.dis k1 k2 _ _ p g2 g2'' g1 g1'
  · rcases org hB' hf with⟨k0,j,_,g1,g2⟩|⟨_,g1,_⟩|⟨c,g1,B0,g2,g3⟩
    · exact hr.ob i _ p hl (U1 g1 g2)
    · exact hr.ob i _ p hl g1
    · exact hr.ob k _ p g2 g1
  · rcases org hB' hf with⟨k0,j,_,g1,g2⟩|⟨_,g1,_⟩|⟨c,g1,B0,g2,g3⟩
    · exact hno i _ hl (U1 g1 g2)
    · exact hno i _ hl g1
    · exact hno k _ g2 g1
  · have hj:j<(te.cells e).length:=by rw[<-rm (te.cells e) n];exact(Of.1 hv).1
    have hje:(te.cells e)[j]? =some (te.cells e)[j]:=So hj;have hcl:=hcell hje;refine⟨vs x j,h5 _ _ _ hcl,((h6 _ _ _ hcl).Oc (ok:=λ_=>True) (λ_ _=>trivial)).tD,?_⟩
    rcases vg (n:=n) hje with⟨t,ys,k,e1,e2,e3,e4⟩|⟨e1,e2⟩
    · rw[hv]at e2;cases e2;rw[<-show pl'.hdr (n+k)=vs x j from(Pl.E2 e3).1];refine .own (n+k) none t ys ?_;have hnk:=hn k (hlt e3);rw[hlk,GJ,if_neg (λe=>by rw[<-e,hl]at hnk;exact nomatch hnk),hnk,Yg,Option.none_or,if_pos (by omega),show n+k-n=k from by omega];exact e4
    · rw[hv]at e2;cases e2;exact .r _ _ _ (((h6 _ _ _ hcl).Oc (ok:=λ_=>True) (λ_ _=>trivial)).scalar _ e1)
theorem K7 {o:Oper} {a:Act} {T:TypeId} {p:Operand} {n i x:Nat} {te th:Ty} (h0:C5 te th) {xs:List te.El} {e:te.El} {v:SV} (hr:cY H pl w) (ho:o.op=.load T p)
  (hl:look H i=some (.arr none te xs)) (hx:xs[x]? =some e) (hv:ji P T (uV n (te.cells e))=some v) (hp:ar w H pl (.ptr i x 0) (a.eval p))
  (hn:∀k,k<(ns (te.cells e)).length->look H (n+k)=none):
  kK P o a w H pl n {v:=v,news:=ns (te.cells e),upd:=[(i,.arr none th (h0.list xs x))],mH:=[i]}:=by
 refine⟨λj B h=>?_,λH' next Q ha hN=>?_⟩
 ·rw[aC]at h;by_cases c:i=j
  ·subst c;exact⟨_,hl⟩
  ·rw[if_neg c]at h;simp[look]at h
 obtain⟨pl',b,k,cap,h1,hst,hc⟩:=QW h0 hr hl hx hn ha;generalize he:a.eval p=u at hp
 cases hp with
 |wQ _ _ cs b m hl' hh=>rw[hl]at hl';exact nomatch hl'
 |uQ _ _ _ sh t' xs' b' m nn jk hl' hx' hh=>
  rw[hl]at hl';cases hl';rw[h1]at hh;cases hh
  obtain⟨u,g1,g2⟩:=EK (H:=H') (pl:=pl') hv b (k+x*te.sz) (λj y hy=>by
   obtain⟨u,q1,q2,q3⟩:=hc j y hy
   exact⟨u,by rw[Yz];exact q1,q2,q3⟩)
  refine mK (u:=u) (w':=w) ?_ (hN u pl' w hst g2);rw[execOp,ho];refine eS ?_;rw[Instr.loadAt,he];exact g1
theorem ud {α:Type}:∀{zs:List (Option α)} {xs:List α},Gv zs=some xs->zs=xs.map some
 |[],xs,h=>by cases h;rfl
 |none::_,xs,h=>nomatch h
 |some a::l,xs,h=>by
  simp only[Gv,An,It]at h;obtain⟨ys,h,rfl⟩:=h;rw[ud h];rfl
structure GM (t t':Ty) (xs:List t.El) (ys:List t'.El):Prop where
 sz:t.sz=t'.sz
 len:xs.length=ys.length
 cells:∀i j r,aB t xs i j r↔aB t' ys i j r
theorem Oz {s:S} {xs:List s.E}:GM (.ho s) (.st s) (xs.map some) xs:=⟨rfl,List.length_map _,λi j r=>by
 constructor
 ·rintro ⟨y,hy,hr⟩
  have hy:(xs.map some)[i]? =some y:=hy;rw[Yl]at hy;obtain⟨z,hz,rfl⟩:=XK.1 hy;exact⟨z,hz,hr⟩
 ·rintro ⟨y,hy,hr⟩
  refine⟨some y,?_,hr⟩;show(xs.map some)[i]? =some (some y);rw[Yl]
  exact congrArg (Option.map some) hy⟩
theorem OA {t:Ty} {xs:List (List t.El)}:GM (.hl t) (.sl t) (xs.map some) xs:=⟨rfl,List.length_map _,λi j r=>by
 constructor
 ·rintro ⟨y,hy,hr⟩
  have hy:(xs.map some)[i]? =some y:=hy;rw[Yl]at hy;obtain⟨z,hz,rfl⟩:=XK.1 hy;exact⟨z,hz,hr⟩
 ·rintro ⟨y,hy,hr⟩
  refine⟨some y,?_,hr⟩;show(xs.map some)[i]? =some (some y);rw[Yl]
  exact congrArg (Option.map some) hy⟩
theorem GM.row {t t':Ty} {xs:List t.El} {ys:List t'.El} {inner:R->Value->(Cell->Prop)->Prop} {hdr:Value} {fp:Cell->Prop} (h:GM t t' xs ys) (hr:Nonempty (Row w inner t xs hdr fp)):
  Nonempty (Row w inner t' ys hdr fp):=by
 obtain⟨⟨a,cap,b,o,vs,fs,h1,h2,h3,h4,h5,h6,h7,h8,h9⟩⟩:=hr;rw[h.len]at h1 h2;rw[h.sz]at h4 h5 h7 h9
 refine⟨⟨a,cap,b,o,vs,fs,h1,h2,h3,h4,λi j r hc=>h5 i j r ((h.cells i j r).2 hc),λi j r hc=>h6 i j r ((h.cells i j r).2 hc),λi j r p hc=>h7 i j r p ((h.cells i j r).2 hc),
  λi j r i' j' r' p hc hc'=>h8 i j r i' j' r' p ((h.cells i j r).2 hc) ((h.cells i' j' r').2 hc'),λp=>(h9 p).trans ⟨?_,?_⟩⟩⟩
 ·rintro (hp|⟨i,j,r,hc,hf⟩)
  ·exact .inl hp
  ·exact .inr ⟨i,j,r,(h.cells i j r).1 hc,hf⟩
 ·rintro (hp|⟨i,j,r,hc,hf⟩)
  ·exact .inl hp
  ·exact .inr ⟨i,j,r,(h.cells i j r).2 hc,hf⟩
inductive Sw:Blk->Blk->Prop
 |same (B:Blk):Sw B B
 |arr (t t':Ty) (xs:List t.El) (ys:List t'.El) (h:GM t t' xs ys):Sw (.arr none t xs) (.arr none t' ys)
theorem Sw.nt {B B':Blk} (h:Sw B B'):B.nt B':=by
 cases h with
 |same=>exact B.dB
 |arr t t' xs ys h=>exact⟨h.sz,h.len⟩
def E3 (H H':aM):Prop:=∀k,(look H k=none/\look H' k=none)\/∃B B',look H k=some B/\look H' k=some B'/\Sw B B'
theorem E3.fwd (h:E3 H H') {k:Nat} {B:Blk} (e:look H k=some B):∃B',look H' k=some B'/\Sw B B':=by
 rcases h k with⟨g,_⟩|⟨B1,B',g1,g2,g3⟩
 ·rw[g]at e;exact nomatch e
 ·rw[g1]at e;cases e;exact⟨B',g2,g3⟩
theorem E3.bwd (h:E3 H H') {k:Nat} {B':Blk} (e:look H' k=some B'):∃B,look H k=some B/\Sw B B':=by
 rcases h k with⟨_,g⟩|⟨B,B1,g1,g2,g3⟩
 ·rw[g]at e;exact nomatch e
 ·rw[g2]at e;cases e;exact⟨B,g1,g3⟩
theorem E3.keeps (h:E3 H H'):lM ([],[]) w H pl w H' pl:=by
 refine⟨λi B hB _=>?_,λd p u _ hp hu=>⟨⟨hp.1,λi B' hB' hm=>?_⟩,hu⟩⟩
 ·obtain⟨B',g1,g2⟩:=h.fwd hB;exact⟨B',g1,g2.nt,rfl⟩
 ·obtain⟨B,g1,g2⟩:=h.bwd hB';exact hp.2 i B g1 λe=>(Blk.kq g2.nt).trans (hm e)
theorem E3.hrel (h:E3 H H') (hr:cY H pl w):cY H' pl w:=by
 refine⟨λi B' hB'=>?_,λi j B B' p h1 h2=>?_,λi B p h1=>?_,hr.nb⟩
 ·obtain⟨B,g1,g2⟩:=h.bwd hB';have hb:=hr.blk i B g1
  cases g2 with
  |same=>exact hb.bJ h.keeps rfl (λ_=>Z8) (λp u _ hu=>⟨hu,rfl⟩) (Blk.dC _)
  |arr t t' xs ys q=>exact q.row hb
 ·obtain⟨B1,g1,_⟩:=h.bwd h1;obtain⟨B2,g2,_⟩:=h.bwd h2;exact hr.dis i j B1 B2 p g1 g2
 ·obtain⟨B1,g1,_⟩:=h.bwd h1;exact hr.ob i B1 p g1
variable {ρ:Type}
theorem Blk.Jt {b:Blk} {K:Blk->Option ρ} {out:ρ} (h:b.N7 K=some out):∃b',K b'=some out/\Sw b b':=by
 unfold Blk.N7 at h;split at h
 ·rename_i s zs;rw[An]at h;obtain⟨xs,h1,h2⟩:=h;have:=ud h1;subst this;exact⟨_,h2,.arr _ _ _ _ Oz⟩
 ·rename_i t zs;rw[An]at h;obtain⟨xs,h1,h2⟩:=h;have:=ud h1;subst this;exact⟨_,h2,.arr _ _ _ _ OA⟩
 ·exact⟨_,h,.same _⟩
theorem AU:∀{H:aM} {K:aM->Option ρ} {out:ρ},N8 H K=some out->∃H',K H'=some out/\E3 H H'
 |[],K,out,h=>⟨[],h,λk=>.inl ⟨rfl,rfl⟩⟩
 |(k,b)::l,K,out,h=>by
  obtain⟨b',h1,h2⟩:=Blk.Jt h;obtain⟨l',h3,h4⟩:=AU h1;refine⟨_,h3,λm=>?_⟩;rw[aC,aC];by_cases c:k=m
  ·rw[if_pos c,if_pos c];exact .inr ⟨b,b',rfl,rfl,h2⟩
  ·rw[if_neg c,if_neg c];exact h4 m
end
end
section
variable [Tok]
section
variable {w:World} {H:aM} {pl:Pl} {P:Program}
theorem sA {t:Ty} {ys:List t.El} {y:t.El} {q n i j:Nat} {r:R} (hn:q+n<=ys.length) (h:aB t (ys.take q++List.replicate n y++ys.drop (q+n)) i j r):
  (q<=i/\i<q+n/\(t.cells y)[j]? =some r)\/(¬(q<=i/\i<q+n)/\aB t ys i j r):=by
 obtain⟨x,hx,hr⟩:=h
 have hl:(ys.take q).length=q:=by rw[X9];omega
 by_cases c:q<=i/\i<q+n
 ·rw[XP,XL (by omega),hl,XQ (by simp;omega),List.getElem?_replicate,if_pos (by omega)]at hx;cases hx;exact .inl ⟨c.1,c.2,hr⟩
 ·refine .inr ⟨c,x,?_,hr⟩;by_cases c1:i<q
  ·rw[XP,XQ (by omega),Yh,if_pos c1]at hx;exact hx
  ·rw[XL (by simp;omega),XU]at hx;rw[<-hx];congr 1;simp;omega
theorem QY {h h':aM} (hh:Ext h h') {v:SV} {p:Nat× Nat× Nat} (e:Ja h v=some p):Ja h' v=some p:=by
 unfold Ja at e⊢;split at e
 ·exact e
 ·split at e
  ·rename_i hl;rw[hh _ _ hl];exact e
  ·exact nomatch e
 ·exact nomatch e
theorem MH {t:Ty} {sh:Option (List Nat)} {ys:List t.El} {i q num:Nat} {H':aM} {y:t.El} {us:List Value} {b m n cap:Nat}
  (hr:cY H pl w) (hl:look H i=some (.arr sh t ys)) (hh:pl.hdr i=.slice (some ⟨b,m,none⟩) n cap) (hq:q+num<=ys.length) (hus:us.length=num*t.sz) (Du:∀u∈us,one u=true)
  (hin:∀j r,(t.cells y)[j]? =some r->∀x,x<num->∃u,us[x*t.sz+j]? =some u/\fV w r u (λ_=>False)) (hpos0:0<num)
  (Th:hit [i] (sh.getD [])=false) (ht:o5 H H' ([],[i]) i (.arr sh t (ys.take q++List.replicate num y++ys.drop (q+num)))):
  ∃w',(storeCells ⟨b,m+q*t.sz,none⟩ us).run P w=.ok () w'/\∃fp',c7 H H' ([],[i]) pl (pl.set i (pl.hdr i) fp') w w':=by
 obtain⟨⟨a,jk,b',o,vs,fs,hhd,hcap,ha,lC,hc,hrr,hd1,hd2,hfp⟩⟩:=(hr.blk i _ hl).Tc;rw[hh]at hhd;cases hhd;have hsp:=t.ie
 have hab:b=b'/\m=o:=by
  rcases ha with h|h
  ·omega
  ·cases h;exact⟨rfl,rfl⟩
 obtain⟨rfl,rfl⟩:=hab
 have NN:q*t.sz+us.length<=cap*t.sz:=by
  have:(q+num)*t.sz<=cap*t.sz:=XZ _ (by omega);rw[X7]at this;omega
 have hcell:∀j,j<us.length->∃u,w.at? (b,m+q*t.sz+j)=some u/\calm (w.eK (b,m+q*t.sz+j))=true:=λj hj=>by
  obtain⟨⟨u,q1⟩,q2⟩:=lC (q*t.sz+j) (by omega);rw[show m+q*t.sz+j=m+(q*t.sz+j)from by omega];exact⟨u,q1,sw q2⟩
 have hst:=run_storeCells_cells (P:=P) b (m+q*t.sz) us 0 w (λj hj=>by
   obtain⟨u,q1,_⟩:=hcell j hj;simp only[Yd];have q1:w.cell? ⟨b,m+q*t.sz+j,none⟩=some u:=q1
   rw[q1];rfl) (λj hj=>by
   obtain⟨u,q1,q2⟩:=hcell j hj
   simp only[Yd];exact mJ q1 q2) (λu hu=>pU (Du u hu))
 simp only[Yd]at hst
 have iH:∀j,j<us.length->(w.setCells b (m+q*t.sz) us).at? (b,m+q*t.sz+j)=us[j]? :=λj hj=>by
  have:=World.cell?_setCells_in b us (m+q*t.sz) w (λj hj=>by
   obtain⟨u,q1,_⟩:=hcell j hj;have q1:w.cell? ⟨b,m+q*t.sz+j,none⟩=some u:=q1
   rw[q1];rfl) j hj
  rw[So hj];simpa[World.at?]using this
 have dH:∀p u,w.at? p=some u->¬(p.1=b/\m+q*t.sz<=p.2/\p.2<m+q*t.sz+us.length)->(w.setCells b (m+q*t.sz) us).at? p=some u:=λp u hp hno=>by
  unfold World.at? at*;rw[World.cell?_setCells_out b _ _ w _ (λe1 _=>by simp at e1;simp;omega)];exact hp
 have EW:∀p,(w.setCells b (m+q*t.sz) us).eK p=w.eK p:=λp=>gR _ _ _ _ _;have vc:∀p,reg b m (cap*t.sz) p->pl.fp i p:=λp hp=>(hfp p).2 (.inl hp);have C3:∀i' j r p,aB t ys i' j r->fs i' j p->pl.fp i p:=λi' j r p hx hf=>(hfp p).2 (.inr ⟨i',j,r,hx,hf⟩)
 have hmi:mem i [i]=true:=by simp[mem]
 have E4:(ys.take q++List.replicate num y++ys.drop (q+num)).length=ys.length:=by simp;omega
 refine⟨_,hst,λp=>reg b m (cap*t.sz) p\/∃i' j r,aB t ys i' j r/\¬(q<=i'/\i'<q+num)/\fs i' j p,?_⟩;refine kL (dF.setCells _ _ _ _) hr ht (λx hx=>nomatch hx) (λx hx=>?_) (.inr ⟨_,hl,hmi,by simp only[Blk.nt];exact⟨trivial,E4.symm⟩,rfl⟩) (λp u hp hno=>⟨dH p u hp λhin=>?_,EW p⟩) (λp hp=>?_) (λp hp=>?_) λhkp=>?_
 ·refine .inr ?_;simp only[mem]at hx;cases hb:Nat.beq i x
  ·rw[hb]at hx;exact nomatch hx
  ·exact(On hb).symm
 ·exact hno i _ hmi hl (vc p ⟨hin.1,by omega,by omega⟩)
 ·refine hr.nb p ?_
  cases hq':w.at? p with
  |none=>rfl
  |some u=>
   by_cases hin:p.1=b/\m+q*t.sz<=p.2/\p.2<m+q*t.sz+us.length
   ·obtain⟨p1,p2⟩:=p;obtain⟨e1,e2,e3⟩:=hin;simp only at e1 e2 e3;subst e1;have:=iH (p2-(m+q*t.sz)) (by omega);rw[show m+q*t.sz+(p2-(m+q*t.sz))=p2 from by omega,hp,So (by omega)]at this;exact nomatch this
   ·rw[dH p u hq' hin]at hp;exact nomatch hp
 ·rcases hp with hp|⟨i',j,r,hx,_,hf⟩
  ·exact .inr ⟨i,_,hmi,hl,vc p hp⟩
  ·exact .inr ⟨i,_,hmi,hl,C3 i' j r p hx hf⟩
 ·have zv:∀{i' j},j<t.sz->¬(q<=i'/\i'<q+num)->¬(m+q*t.sz<=m+(i'*t.sz+j)/\m+(i'*t.sz+j)<m+q*t.sz+us.length):=λ{i' j} hj hne ⟨g1,g2⟩=>by
   rcases Nat.lt_or_ge i' q with h|h
   ·have:(i'+1)*t.sz<=q*t.sz:=XZ _ h;rw[Y0]at this;omega
   ·have h2:q+num<=i':=by omega
    have:(q+num)*t.sz<=i'*t.sz:=XZ _ h2;rw[X7]at this;omega
  have frameD:∀{r:R} {u:Value} {f:Cell->Prop},fV w r u f->(∀p,f p->¬reg b m (cap*t.sz) p)->fV (w.setCells b (m+q*t.sz) us) r u f:=λh hno=>h.frame λp u hf hu=>⟨dH p u hu λhin=>hno p hf ⟨hin.1,by omega,by omega⟩,EW p⟩;refine eL.oF ⟨some ⟨b,m,none⟩,cap,b,m,λi' j=>if q<=i'/\i'<q+num then(us[(i'-q)*t.sz+j]?).getD undef else vs i' j,λi' j p=>¬(q<=i'/\i'<q+num)/\fs i' j p,by rw[E4];simp[Pl.set,hh],by rw[E4];exact hcap,.inr rfl,λj hj=>⟨?_,by rw[EW];exact(lC j hj).2⟩,λi' j r hx=>?_,λi' j r hx=>?_,λi' j r p hx hf=>?_,λi' j r i2 j2 r2 p hx hx' hf hf'=>?_,λp=>?_⟩
  ·by_cases hin:q*t.sz<=j/\j<q*t.sz+us.length
   ·have:=iH (j-q*t.sz) (by omega);rw[show m+q*t.sz+(j-q*t.sz)=m+j from by omega]at this;exact⟨_,this.trans (So (by omega))⟩
   ·obtain⟨u,hu⟩:=(lC j hj).1;exact⟨u,dH _ u hu λh=>hin ⟨by have:=h.2.1;simp at this;omega,by have:=h.2.2;simp at this;omega⟩⟩
  ·rcases sA hq hx with⟨g1,g2,g3⟩|⟨g1,g2⟩
   ·rw[if_pos ⟨g1,g2⟩];obtain⟨u,hu,_⟩:=hin _ _ g3 (i'-q) (by omega);have hlt:=(Of.1 hu).1;have:=iH _ hlt
    have e:m+q*t.sz+((i'-q)*t.sz+j)=m+(i'*t.sz+j):=by
     have:i'*t.sz=q*t.sz+(i'-q)*t.sz:=by rw[<-X7];congr 1;omega
     omega
    rw[e]at this;rw[this,hu];rfl
   ·rw[if_neg g1];exact dH _ _ (hc _ _ _ g2) λh=>zv (aO g2).2 g1 ⟨h.2.1,h.2.2⟩
  ·rcases sA hq hx with⟨g1,g2,g3⟩|⟨g1,g2⟩
   ·rw[if_pos ⟨g1,g2⟩];obtain⟨u,hu,hI⟩:=hin _ _ g3 (i'-q) (by omega);rw[hu,YP];have hI':=frameD hI λp hf=>hf.elim;have hno:∀p,¬(¬(q<=i'/\i'<q+num)/\fs i' j p):=λp hf=>hf.1 ⟨g1,g2⟩
    cases sh with
    |none=>exact hI'.congr λp=>⟨λh=>h.elim,λh=>(hno p h).elim⟩
    |some d=>exact⟨hI'.Oc λp h=>h.elim,hno⟩
   ·simp only[if_neg g1];have hI:=hrr _ _ _ g2
    cases sh with
    |none=>exact fV.congr (frameD hI λp hf=>hd1 _ _ _ p g2 hf) λp=>⟨λh=>⟨g1,h⟩,λh=>h.2⟩
    |some d=>
     rw[hh];exact⟨hI.1.frame λp u hp hu=>(hh▸hkp).k2 d p u (λx hx=>fX _ d Th x hx) hp hu,λp hf=>hI.2 p hf.2⟩
  ·rcases sA hq hx with⟨g1,g2,g3⟩|⟨g1,g2⟩
   ·exact(hf.1 ⟨g1,g2⟩).elim
   ·exact hd1 _ _ _ p g2 hf.2
  ·rcases sA hq hx with⟨g1,g2,g3⟩|⟨g1,g2⟩
   ·exact(hf.1 ⟨g1,g2⟩).elim
   ·rcases sA hq hx' with⟨q1,q2,q3⟩|⟨q1,q2⟩
    ·exact(hf'.1 ⟨q1,q2⟩).elim
    ·exact hd2 _ _ _ _ _ _ p g2 q2 hf.2 hf'.2
  ·simp only[Pl.set,if_true];constructor
   ·rintro (h|⟨i',j,r,hx,hne,hf⟩)
    ·exact .inl h
    ·have hlt:=aO hx;obtain⟨r',hr'⟩:=dU (t:=t) (xs:=ys.take q++List.replicate num y++ys.drop (q+num)) (i:=i') (j:=j) (by rw[E4];exact hlt.1) hlt.2;exact .inr ⟨i',j,r',hr',hne,hf⟩
   ·rintro (h|⟨i',j,r,hx,hf⟩)
    ·exact .inl h
    ·rcases sA hq hx with⟨g1,g2,g3⟩|⟨g1,g2⟩
     ·exact(hf.1 ⟨g1,g2⟩).elim
     ·exact .inr ⟨_,_,_,g2,hf⟩
theorem OB {o:Oper} {a:Act} {s:List (Nat× SV)} {n:Nat} {args:Array Operand} {tys:Array TypeId} {v:SV} {T:TypeId} {e:TypeId} {t:Ty} {z:List SV} {sh:Option (List Nat)} {ys:List t.El} {y:t.El} {i q num:Nat}
  (hr:cY H pl w) (hs:gT w H pl s a) (ho:o.op=.call {callee:=.builtin .clear,args:=args,argTypes:=tys}) (hvs:tX s args.toList=some [v]) (hty:tys.toList=[T])
  (he:mF P T=some e) (hz:gv P e=some z) (hzl:z.length=t.sz) (hv:Ja H v=some (i,q,num)) (hl:look H i=some (.arr sh t ys)) (hy:jj H t 1 z=some ([],[y])):
  kK P o a w H pl n {v:=.undef,upd:=[(i,.arr sh t (ys.take q++List.replicate num y++ys.drop (q+num)))],mH:=[i]}:=by
 refine⟨λj B h=>?_,λH' next Q ha hN=>?_⟩
 ·rw[aC]at h;by_cases e:i=j
  ·subst e;exact⟨_,hl⟩
  ·rw[if_neg e]at h;simp[look]at h
 obtain⟨ht,hh⟩:=vd (c:={v:=.undef,upd:=[(i,.arr sh t (ys.take q++List.replicate num y++ys.drop (q+num)))],mH:=[i]}) hl rfl rfl rfl ha
 obtain⟨p,hpq,hp⟩:∃p,args.toList=[p]/\opd s p=some v:=by
  cases hq:args.toList with
  |nil=>rw[hq]at hvs;exact nomatch hvs
  |cons p l=>
   rw[hq]at hvs;simp only[tX,An,It]at hvs;obtain⟨v',h1,vs',h2,h3⟩:=hvs
   cases l with
   |nil=>cases h2;cases h3;exact⟨p,rfl,h1⟩
   |cons p2 l2=>
    simp only[tX,An,It]at h2;obtain⟨_,_,_,_,rfl⟩:=h2;cases h3
 have hpr:=aW hs hp
 have tF:args.map a.eval=#[a.eval p]:=by rw[show args=#[p]from Zg hpq];simp
 have hta:tys=#[T]:=Zg hty
 have hT:=mr he;obtain⟨zu,hzu,hzc⟩:=wT hr hz
 have hzs:zu.cells.size=t.sz:=by rw[<-hzc.hl,hzl]
 have hrun0:∀w',(Builtin.clear_ #[T] o.type #[a.eval p]).run P w=.ok (.tuple #[]) w'->(execOp a.eval o).run P w=.ok (.value (.tuple #[])) w':=λw' h=>by
  rw[execOp,ho,hta];simp only[resolve,tF,invoke,builtin,Sem.run_bind,Sem.run_pure,Result.andThen_ok,h]
 have hsl:∃A c b m n' cap,a.eval p=.slice A num c/\q+num<=ys.length/\(0<num->pl.hdr i=.slice (some ⟨b,m,none⟩) n' cap/\A=some ⟨b,m+q*t.sz,none⟩):=by
  obtain⟨⟨a0,cap,b,m,vs,fs,hhd,hcap,ha0,_⟩⟩:=(hr.blk i _ hl).Tc;generalize a.eval p=u at hpr
  cases hpr with
  |own j sh' t' xs' hl'=>
   simp only[Ja,hl',It,XO]at hv;obtain⟨rfl,rfl,rfl⟩:=hv;rw[hl]at hl';cases hl';refine⟨a0,cap,b,m,ys.length,cap,hhd,by omega,λh0=>?_⟩
   rcases ha0 with h|h
   ·omega
   ·rw[hhd,h];simp
  |sub j o' n' sh' t' xs' a1 a2 cap1 cap2 hl' hh' hn hc hc' ha'=>
   simp only[Ja,It,XO]at hv;obtain⟨rfl,rfl,rfl⟩:=hv;rw[hl]at hl';cases hl';rw[hh']at hhd;cases hhd;refine⟨a2,cap2,b,m,ys.length,cap,rfl,hn,λh0=>?_⟩
   rcases ha0 with h|h
   ·omega
   ·rcases ha' with h'|h'
    ·omega
    ·rw[hh',h',h];exact⟨rfl,by simp[Addr.add]⟩
  |_=>exact nomatch hv
 obtain⟨A,c,b,m,n',cap,hA,hqn,hA2⟩:=hsl;by_cases h0:num=0
 ·subst h0
  have lG:(Builtin.clear_ #[T] o.type #[a.eval p]).run P w=.ok (.tuple #[]) w:=by
   rw[hA];cases A<;>simp[Builtin.clear_,run_underlying hT]
  have AQ:ys.take q++List.replicate 0 y++ys.drop (q+0)=ys:=by simp
  rw[AQ]at ht;refine mK (hrun0 w lG) (hN _ _ w (kL (fp:=pl.fp i) (hdr:=pl.hdr i) (dF.refl w) hr ht (λx hx=>nomatch hx) (λx hx=>.inr ?_) (.inr ⟨_,hl,by simp[CR.kil,mem],Blk.dB _,rfl⟩) (λp u hp _=>⟨hp,rfl⟩) (λp hp=>hr.nb p hp) (λp hp=>.inr ⟨i,_,by simp[CR.kil,mem],hl,hp⟩) λhkp=>?_) (.undef _))
  ·have hx:mem x [i]=true:=hx;simp only[mem]at hx;cases hb:Nat.beq i x
   ·rw[hb]at hx;exact nomatch hx
   ·exact(On hb).symm
  ·obtain⟨⟨a0,cap0,b0,m0,vs,fs,q1,q2,q3,q4,q5,q6,q7,q8,q9⟩⟩:=(hr.blk i _ hl).Tc;refine eL.oF ⟨a0,cap0,b0,m0,vs,fs,by simpa[Pl.set]using q1,q2,q3,q4,q5,λi' j r hx=>?_,q7,q8,by simpa[Pl.set]using q9⟩;have hI:=q6 i' j r hx
   cases sh with
   |none=>exact hI
   |some d=>exact⟨hI.1.frame λp u hp hu=>hkp.k2 d p u (λx hx=>fX _ d hh x hx) hp hu,hI.2⟩
 ·obtain⟨hA3,hA4⟩:=hA2 (by omega)
  have hus:(Builtin.zeroCells zu.cells num).toList.length=num*t.sz:=by simp[Builtin.zeroCells,hzs]
  have AJ:∀k,k<num*t.sz->(Builtin.zeroCells zu.cells num).toList[k]? =some (zu.cells[k %t.sz]!):=λk hk=>by
   simp[Builtin.zeroCells,hzs,hk]
  have WT:∀k,k<t.sz->∃h:k<zu.cells.size,zu.cells[k]! =zu.cells[k]:=λk hk=>⟨by omega,by rw[getElem!_pos]⟩
  obtain⟨w',hst,fp',uZ⟩:=MH (P:=P) (us:=(Builtin.zeroCells zu.cells num).toList) hr hl hA3 hqn hus (λu hu=>by
    obtain⟨k,hk⟩:=Yw hu
    have hkl:k<num*t.sz:=by rw[<-hus];exact(Of.1 hk).1
    rw[AJ k hkl]at hk;cases hk;obtain⟨h1,h2⟩:=WT (k %t.sz) (ZI _ t.ie);rw[h2]
    exact hzc.h1 (k %t.sz) _ (by rw[XR h1])) (λj r hj x hx=>by
    have hjl:j<t.sz:=by have:=(Of.1 hj).1;rwa [Ty.cw]at this
    obtain⟨u,hu,hd⟩:=kM hr hy hzc 0 j r ⟨y,rfl,hj⟩;rw[ZQ,XN]at hu;refine⟨u,?_,hd⟩;have hlt:x*t.sz+j<num*t.sz:=rh hx hjl (X1 _);rw[AJ _ hlt,Ye,YH,Yq hjl];obtain⟨h1,h2⟩:=WT j hjl;rw[h2];rw[XR h1]at hu
    exact hu) (by omega) hh ht
  have lG:(Builtin.clear_ #[T] o.type #[a.eval p]).run P w=.ok (.tuple #[]) w':=by
   rw[hA,hA4];obtain⟨k,rfl⟩:∃k,num=k+1:=⟨num-1,by omega⟩;simp[Builtin.clear_,run_underlying hT,hzu,hst]
  exact mK (hrun0 w' lG) (hN _ _ w' uZ (.undef _))
end
end
end Go.Proofs.Ev
