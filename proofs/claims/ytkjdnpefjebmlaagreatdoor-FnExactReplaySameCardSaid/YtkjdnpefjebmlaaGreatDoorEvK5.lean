/- The evaluator over the model's code, and that it is sound: part 5. -/
import Derived.Test.YtkjdnpefjebmlaaGreatDoorEvK4
import Derived.Tactics
import Derived.LoopN
import Derived.Scope
set_option linter.unusedVariables false
set_option linter.unusedSimpArgs false
set_option linter.unusedSectionVars false
namespace Go.Proofs.Ev
section
variable [Tok] [Glo]
theorem GW {r:DR} {X X':SH} (h:r.app X=some X') (hup:∀i B,look r.c.upd i=some B->∃B',look X.2 i=some B'):∃H',after X.2 r.n0 r.c=some H':=by
 unfold DR.app at h;unfold after;rw[xd hup];simp only[An,It]at h;grind
theorem OS {r:DR} {X X':SH} {H':aM} (hx:r.app X=some X') (hup:∀i B,look r.c.upd i=some B->∃B',look X.2 i=some B') (ha:after X.2 r.n0 r.c=some H'):X'.2=H':=by
 unfold DR.app at hx;unfold after at ha;rw[xd hup]at ha;simp only[An,It]at hx ha;grind
theorem U4 {E:Env} {op:Op} {c:CR} (h:okW E op c=true):nz E op=false->c.kil.2=[]/\c.upd=[]:=by
 intro hw;unfold okW at h;rw[hw]at h;simp only[cond_false,XB]at h;exact⟨eR h.1,eR h.2⟩
def unl (l:Array Bool):Nat:=l.toList.countP (λb=>!b)
theorem countP_set {l:List Bool}:∀{i:Nat},l[i]? =some false->(l.set i true).countP (λb=>!b)+1=l.countP (λb=>!b):=by
 grind
theorem To {l:Array Bool} {i:Nat} (h:l.getD i true=false):unl (l.setIfInBounds i true)+1=unl l:=by
 unfold unl;rw[Array.toList_setIfInBounds];refine countP_set ?_;rw[X4]at h;grind
theorem Q7 {l:Array Bool} (h:unl l=0) (i:Nat):l.getD i true=true:=by
 unfold unl at h;rw[X4]
 cases hq:l[i]? with
 |none=>rfl
 |some b=>
  cases b
  ·have hm:false∈l.toList:=by
    grind
   grind
  ·rfl
theorem DK {l:Array Bool} {i:Nat} (hi:i<l.size):l.getD i true=l.getD i false:=by
 grind
section
variable {E:Env} {lH:Array Oper} {aK:List Nat} {s0:List (Nat× SV)} {h0:aM} {nid0 nidE n:Nat} {gh:List (Option Nat)} {rs:List DR} {XF:SH} {w0:World} {fp0:G0} {bs:Cell->Prop} {Q:Exit->Act->World->Prop}
def lp (l:Array Bool):Nat->Bool:=λj=>l.getD j false
def Sx (ops:Array Oper) (cN:Array Bool):Prop:=∀(j:Nat) (o:Oper),ops.toList[j]? =some o->lp cN j=true->∀e∈o.after.toList,Region.binds .any e=true->lp cN e.on=true
theorem MO (hm:JC lH.toList aK) {cN:Array Bool} (hs:cN.size=lH.size) (hr:Region.ready .any lH cN=[]):∀j,j<lH.size->lp cN j=true:=by
 intro j
 induction j using Nat.strongRecOn with
 |_ j ih=>
  intro hj
  cases hl:lp cN j with
  |true=>rfl
  |false=>
   have:j∈Region.ready .any lH cN:=mem_ready.2 ⟨by rw[DK (by omega)];exact hl,lH[j],by simp[hj],λe he hb=>by
    have hlt:=hm.back j lH[j] (by rw[YM];simp[hj]) e (by simpa using he) hb
    exact ih e.on hlt (by omega)⟩
   rw[hr]at this;cases this
theorem Q8 (hm:JC lH.toList aK) (F:GU E lH.toList aK (jS lH.toList) s0 h0 nid0 rs lH.size nidE) (hp:Dn (CT h0 rs) aK 0 rs=true) (hla:Dp (CT h0 rs) rs=true)
    (hnd:iq (jS lH.toList)=true) (hlt:Ml n (jS lH.toList)=true) (VO:replay (λ_=>true) 0 rs (s0,h0)=some XF) (hfr:∀i,nid0<=i->look h0 i=none) (hgh:∀(k i:Nat),gh[k]? =some (some i)->i<nid0)
    (hQ:∀a w,Rl w0 fp0 bs n ⟨XF.1,XF.2,nidE,n,gh⟩ a w->Q .normal a w):
    ∀ (f : Nat) (cN : Array Bool) (a : Act) (w : World) (X : SH), cN.size = lH.size -> unl cN <= f -> Sx lH cN -> replay (lp cN) 0 rs (s0, h0) = some X ->
      (∀k B0,look h0 k=some B0->(∀r∈rs,mem k r.c.kil.1=false)->∃B,look X.2 k=some B/\B0.nt B)->
      Rl w0 fp0 bs n ⟨X.1,X.2,nidE,n,gh⟩ a w->wpAny E.P .any lH Q f cN a w:=by
  have done:∀(cN:Array Bool) (a:Act) (w:World) (X:SH),cN.size=lH.size->replay (lp cN) 0 rs (s0,h0)=some X->Rl w0 fp0 bs n ⟨X.1,X.2,nidE,n,gh⟩ a w->
      Region.ready .any lH cN=[]->Q .normal a w:=λcN a w X hs hX hR hr=>by
    have QA:=MO hm hs hr;rw[kO (q:=λ_=>true) rs 0 _ λj hj=>by rw[F.len]at hj;rw[XN];exact QA j hj,VO]at hX;grind
  intro f
  induction f with
  | zero =>
    intro cN a w X hs hu hc hX hLK hR
    have hr:Region.ready .any lH cN=[]:=by
      cases hq:Region.ready .any lH cN with
      |nil=>rfl
      | cons i l =>
        have hi:i∈Region.ready .any lH cN:=by rw[hq];simp
        have:=(mem_ready.1 hi).1;rw[Q7 (by omega) i]at this;cases this
    exact⟨hr,done cN a w X hs hX hR hr⟩
  | succ f ih =>
    intro cN a w X hs hu hc hX hLK hR;refine⟨done cN a w X hs hX hR,λi hi=>?_⟩;obtain⟨hun,o,ho,U5⟩:=mem_ready.1 hi;have hil:i<lH.size:=(XW.1 ho).1
    have ho':lH.toList[i]? =some o:=by rwa [YM]
    have hpi:lp cN i=false:=by unfold lp;rw[<-DK (by omega)];exact hun
    obtain⟨r,hr⟩:∃r,rs[i]? =some r:=⟨_,So (by rw[F.len];exact hil)⟩;obtain⟨Tl,hok,x,t,hx,hw,Xi⟩:=F.Wh i o r ho' hr;have Uu:∀j,(aK.getD i 0).testBit j=true->lp cN j=true:=hm.closed hc i i o (X1 _) ho' λe he hb=>U5 e (by simpa using he) hb
    have Uv:∀(j:Nat) (b:DR),rs[j]? =some b->∃oj,lH.toList[j]? =some oj/\b.dst=oj.dst/\okW E oj.op b.c=true:=λj b hb=>by
      have hj:j<lH.toList.length:=by have:=(Of.1 hb).1;rw[F.len]at this;simpa using this
      obtain⟨g1,g2,_⟩:=F.Wh j _ b (So hj) hb;grind
    have ub:∀(j:Nat),lp cN j=true->(aK.getD j 0).testBit i=false:=λj hj=>by
      cases hq:(aK.getD j 0).testBit i with
      |false=>rfl
      | true =>
        cases hoj:lH.toList[j]? with
        | none =>
          have:lp cN j=false:=by
            unfold lp;grind
          grind
        | some oj =>
          have:=hm.closed hc j j oj (X1 _) hoj (λe he hb=>hc j oj hoj hj e he hb) i hq;grind
    have hcomm1:∀(j:Nat) (b:DR),j<i->rs[j]? =some b->(aK.getD i 0).testBit j=false->tC (CT h0 rs) b r=true:=λj b hj hb QX=>by
      have:=ui hp j i b r hj hb hr;grind
    have hcomm2:∀(j:Nat) (b:DR),i<j->rs[j]? =some b->lp cN j=true->tC (CT h0 rs) r b=true:=λj b hj hb hl=>by
      have:=ui hp i j r b hj hr hb;grind
    have Ju:∀(j j':Nat) (b b':DR) k,j≠j'->rs[j]? =some b->rs[j']? =some b'->b.ue k->¬b'.ue k:=λj j' b b' k hne h1 h2 m1 m2=>by
      rcases Nat.lt_or_gt_of_ne hne with h|h
      · have:=F.ord j j' b b' h h1 h2;have:=m1.2;have:=m2.1;omega
      · have:=F.ord j' j b' b h h2 h1;have:=m2.2;have:=m1.1;omega
    have hdd:∀(j j':Nat) (b b':DR) t,j≠j'->rs[j]? =some b->rs[j']? =some b'->b.dst=some t->b'.dst≠some t:=λj j' b b' t hne h1 h2 hb hb'=>by
      obtain⟨oj,q1,q2,_⟩:=Uv j b h1;obtain⟨oj',q1',q2',_⟩:=Uv j' b' h2;exact DI (mL hnd) hne q1 q1' (q2▸hb) (q2'▸hb')
    have uf:∀(b:DR) (j k:Nat),rs[j]? =some b->b.ue k->look h0 k=none:=λb j k hb hk=>hfr k (by have:=(F.lo j b hb).1;have:=hk.1;omega)
    have hx':replay (Nat.testBit (aK.getD i 0)) 0 rs (oX (QN aK i 0 lH.toList) s0 (fm o.op.operands.toList),h0)=some x:=by
      have hsp:=YN i rs;rw[<-hsp,eT,hx,XC];refine pV _ _ _ λj hj=>?_
      have hti:(rs.take i).length=i:=by rw[X9,F.len];omega
      rw[hti,XN]
      cases hq:(aK.getD i 0).testBit (i+j)with
      |false=>rfl
      |true=>have:=hm.lt ho' hq;omega
    have U6:∀(j:Nat) (b:DR),rs[j]? =some b->lp cN j=true->(aK.getD i 0).testBit j=false->gw (CT h0 rs) r=false->b.c.kil.2=[]/\QO r.see b.c.upd=false:=λj b hb h1 h2 hi=>by
      have idle:gw (CT h0 rs) b=true->b.c.kil.2=[]/\QO r.see b.c.upd=false:=λh=>by
        obtain⟨_,g1,g2,_⟩:=fq h;exact⟨g1,by rw[g2];rfl⟩
      rcases ZA j i with h|h|h
      · rcases fL (hcomm1 j b h hb h2)with⟨q,_⟩|⟨q,_⟩|⟨_,_,q⟩
        · exact idle q
        · rw[hi]at q;cases q
        · exact⟨(iV q).1,(GR q).1⟩
      · subst h;rw[hpi]at h1;cases h1
      · rcases fL (hcomm2 j b h hb h1)with⟨q,_⟩|⟨q,_⟩|⟨_,_,q⟩
        · rw[hi]at q;cases q
        · exact idle q
        · exact⟨(iV q).2.1,(GR q).2⟩
    have Xj:∀(j:Nat) (b:DR),rs[j]? =some b->lp cN j=true->(aK.getD i 0).testBit j=false->gw (CT h0 rs) r=true->r.c.v.aP b.c.kil=r.c.v:=λj b hb h1 h2 hi=>by
      rcases ZA j i with h|h|h
      · rcases fL (hcomm1 j b h hb h2)with⟨q,_⟩|⟨_,q⟩|⟨_,q,_⟩
        · exact vh (fq q).2.1
        · exact q
        · rw[hi]at q;cases q
      · subst h;rw[hpi]at h1;cases h1
      · rcases fL (hcomm2 j b h hb h1)with⟨_,q⟩|⟨q,_⟩|⟨q,_,_⟩
        · exact q
        · exact vh (fq q).2.1
        · rw[hi]at q;cases q
    have hfirm2:∀(j:Nat) (b:DR),rs[j]? =some b->lp cN j=true->(aK.getD i 0).testBit j=false->gw (CT h0 rs) r=true->∀u∈r.QM,u.aP b.c.kil=u:=λj b hb h1 h2 hi=>by
      rcases ZA j i with h|h|h
      · exact(Lc (hcomm1 j b h hb h2)).2 hi
      · subst h;rw[hpi]at h1;cases h1
      · exact(Lc (hcomm2 j b h hb h1)).1 hi
    have hg0:gw (CT h0 rs) r=false->∀(j:Nat) (b:DR),rs[j]? =some b->lp cN (0+j)=true->(aK.getD i 0).testBit (0+j)=false->b.c.kil.2=[]:=λhi j b hb h1 h2=>by
      rw[XN]at h1 h2;exact(U6 j b hb h1 h2 hi).1
    have hes:gw (CT h0 rs) r=false->Ext x.1 X.1:=λhi=>sC rs 0 _ _ x X Uu hx' hX (λt v hv=>by
        exact(mv hv).2)
      (λt v hv j b hb hj _ hdt=>by
        obtain⟨oj,q1,q2,_⟩:=Uv j b hb;rw[XN]at hj
        exact(mv hv).1 (Fb q1 (q2▸hdt) (by rw[XN];exact ub j hj))) hdd (hg0 hi)
    have hes0:gw (CT h0 rs) r=true->r.QM=EF x.1 (fm o.op.operands.toList)->Ext (oX [] x.1 (fm o.op.operands.toList)) X.1:=λhi hbl t u hu=>by
      have hxt:=(mv hu).2
      have hmv:u∈r.QM:=by rw[hbl];exact MN hu
      refine pX rs 0 _ _ x X Uu hx' hX hxt (λj b hb h1 h2=>⟨λhdt=>?_,hfirm2 j b hb (by rwa [XN]at h1) (by rwa [XN]at h2) hi u hmv⟩) (λu hu=>⟨[],(mv hu).2,by simp⟩);rw[XN]at h1 h2
      rcases pY rs 0 _ x hx' hxt with⟨u0,hu0⟩|⟨j',b',g1,g2,g3⟩
      · obtain⟨oj,q1,q2,_⟩:=Uv j b hb;exact(mv hu0).1 (Fb q1 (q2▸hdt) (by rw[XN];exact ub j h1))
      · rw[XN]at g2
        have hne:j≠j':=λe=>by subst e;rw[h2]at g2;cases g2
        exact hdd j j' b b' t hne hb g1 hdt g3
    have heh:r.see=V6 E aK i lH.toList x o->r.len=false->Ext (Mm E aK i lH.toList x o) X.2:=λXk hnl=>by
      cases hb:yI E aK i 0 lH.toList with
      | true =>
        unfold Mm;rw[hb,cond_true,<-Xk];intro k B hB;obtain⟨m1,m2⟩:=pW hB
        cases C7:gw (CT h0 rs) r with
        | true =>
          have hcm:=(fq C7).1;unfold CT at hcm;rw[hnl]at hcm;obtain⟨B0,hB0,hst⟩:=GV hcm m1;have e1:=nC rs 0 _ x hst (by exact hB0) hx';have e2:=nC rs 0 _ X hst (by exact hB0) hX
          rw[e2,<-m2,e1]
        |false=>
        refine mN (S:=λk=>mem k r.see=true) rs 0 _ _ x X Uu hx' hX (λ_ _ _ h=>h) (λj b k hb hk=>uf b j k hb hk) (λj j' b b' k=>Ju j j' b b' k) (λj b hjb h1 h2=>?_) k B m1 m2;rw[XN]at h1 h2;have hc:=U6 j b hjb h1 h2 C7
        exact⟨hc.1,GS hc.2⟩
      | false =>
        unfold Mm;rw[hb,cond_false];intro k B hB;refine mN (S:=λ_=>True) rs 0 _ _ x X Uu hx' hX (λ_ _ _ h=>h) (λj b k hb hk=>uf b j k hb hk) (λj j' b b' k=>Ju j j' b b' k) (λj b hjb h1 h2=>?_) k B trivial hB;rw[XN]at h1 h2;obtain⟨oj,q1,q2,q3⟩:=Uv j b hjb
        have hq:b.c.kil.2=[]/\b.c.upd=[]:=by
          refine U4 q3 ?_
          cases hwr:nz E oj.op with
          |false=>rfl
          | true =>
            have:=A8 hb j oj q1 hwr;rw[XN]at this;simp only[UM,Zq]at this
            rcases this with h|h|h
            · have:=On h;subst this;rw[hpi]at h1;cases h1
            · rw[h2]at h;cases h
            · rw[ub j h1]at h;cases h
        exact⟨hq.1,λ_ _=>by rw[hq.2];rfl⟩
    have Sy:∀k,k<r.c.news.length->look X.2 (r.n0+k)=none:=λk hk=>by
      cases hq:look X.2 (r.n0+k)with
      |none=>rfl
      | some B =>
        have hmk:r.ue (r.n0+k):=⟨by omega,by omega⟩
        rcases o9 rs 0 _ X hX _ B hq with⟨B',hB'⟩|⟨j,b,g1,g2,g3⟩
        · have:=uf r i _ hr hmk;rw[this]at hB';cases hB'
        · rw[XN]at g2
          have hne:j≠i:=λe=>by subst e;rw[hpi]at g2;cases g2
          exact(Ju j i b r _ hne g1 hr g3 hmk).elim
    obtain ⟨X', VP⟩ : ∃ X', r.app X = some X' := by
      cases hg:r.c.kil.2 with
      |nil=>exact⟨_,jq hg X⟩
      | cons b0 T =>
        have C7:gw (CT h0 rs) r=false:=by
          cases hq:gw (CT h0 rs) r with
          |false=>rfl
          |true=>have:=(fq hq).2.1;rw[hg]at this;cases this
        have hsp:rs=rs.take i++r::rs.drop (i+1):=by
          have hlen:i<rs.length:=by rw[F.len];exact hil
          conv=>lhs;rw[<-YN i rs]
          rw[Zo hlen,(Of.1 hr).2]
        have hti:(rs.take i).length=i:=by rw[X9,F.len];omega
        have Wi:∀(j:Nat) (b:DR),rs[j]? =some b->lp cN (0+j)≠(λj=>decide (j<i)) (0+j)->gw (CT h0 rs) b=true:=λj b hb hne=>by
          rw[XN]at hne
          rcases ZA j i with h|h|h
          · simp only[h,decide_true]at hne
            have hno:(aK.getD i 0).testBit j=false:=by
              cases hq:(aK.getD i 0).testBit j with
              |false=>rfl
              |true=>exact absurd (Uu j hq) hne
            rcases fL (hcomm1 j b h hb hno)with⟨q,_⟩|⟨q,_⟩|⟨_,_,q⟩
            · exact q
            · rw[C7]at q;cases q
            · have:=(iV q).2.1;rw[hg]at this;cases this
          · subst h;rw[hpi]at hne;simp at hne
          · have hl:lp cN j=true:=by
              cases hq:lp cN j with
              |true=>rfl
              |false=>rw[hq]at hne;simp at hne;omega
            rcases fL (hcomm2 j b h hb hl)with⟨q,_⟩|⟨q,_⟩|⟨_,_,q⟩
            · rw[C7]at q;cases q
            · exact q
            · have:=(iV q).1;rw[hg]at this;cases this
        obtain⟨X0,hX0,hh⟩:=mP (p':=λj=>decide (j<i)) rs 0 (s0,h0) (s0,h0) X Wi rfl hX
        have hXp:replay (λ_=>true) 0 (rs.take i) (s0,h0)=some X0:=by
          rw[hsp,eT,hti,XN]at hX0;rw[kO (q:=λj=>decide (j<i)) _ _ _ λj hj=>by rw[hti]at hj;rw[XN];exact(decide_eq_true hj).symm];rw[An]at hX0;obtain⟨y,hy,hX0⟩:=hX0;rw[pV _ _ _ λj _=>decide_eq_false (by omega)]at hX0;cases hX0;exact hy
        rw[hsp,eT,hXp]at VO;simp only[XC,replay,cond_true,An]at VO;obtain⟨y,hy,_⟩:=VO;obtain⟨y',hy',_⟩:=rr hh.symm hy;exact⟨y',hy'⟩
    have Wg:lp (cN.setIfInBounds i true) i=true:=by
      unfold lp;simp[X4,Array.getElem?_setIfInBounds,hs,hil]
    have hpp:∀j,j≠i->lp (cN.setIfInBounds i true) j=lp cN j:=λj hj=>getD_set_ne false (λe=>hj e.symm);obtain⟨X'',hX'',AQ⟩:=E9 hr hpi Wg hpp (λj b hj hb hl=>⟨hcomm2 j b hj hb hl,λt h1=>hdd i j r b t (by omega) hr hb h1,λk h1=>Ju i j r b k (by omega) hr hb h1⟩) hX VP
    have Xl:Sx lH (cN.setIfInBounds i true):=λj oj hoj hl e he hb=>by
      by_cases hji:j=i
      · subst hji;rw[ho']at hoj;cases hoj;exact getD_set_true (U5 e (by simpa using he) hb)
      · rw[hpp j hji]at hl;exact getD_set_true (hc j oj hoj hl e he hb)
    have hu':unl (cN.setIfInBounds i true)<=f:=by have:=To hun;omega
    have next:∀(H':aM) (pl pl':Pl) (u:Value) (w':World),after X.2 r.n0 r.c=some H'->Rel w0 fp0 ⟨X.1,X.2,nidE,n,gh⟩ pl a w->pl.base=bs->c7 X.2 H' r.c.kil pl pl' w w'->ar w' H' pl' r.c.v u->
        (∀i B,look r.c.upd i=some B->∃B',look X.2 i=some B')->wpAny E.P .any lH Q f (cN.setIfInBounds i true) (a.put o.dst u) w':=λH' pl pl' u w' A9 hR hb hst hv hup=>by
      have h1:=Rel.app hR VP hup (λt ht=>DH hlt t (sE ho' (Tl▸ht))) (λk j hj=>ZK (hgh k j hj) (F.lo i r hr).1) (F.lo i r hr).2 A9 hst hv;rw[Tl]at h1;have h2:=h1.congr (s':=X''.1) (H':=X''.2) (λt v hv=>(AQ.1 t).trans hv) (λk=>(AQ.2 k).symm);refine ih _ _ _ X'' (by simp[hs]) hu' Xl hX'' (λk B0 hB0 hk=>?_) ⟨pl',h2,hst.bs.trans hb,rfl⟩;obtain⟨B,g1,g2⟩:=hLK k B0 hB0 hk;obtain⟨B',g3,g4,_⟩:=hst.kp.k1 k B g1 (hk r (XX hr));exact⟨B',by rw[<-AQ.2 k,OS VP hup A9];exact g3,Blk.fo g2 g4⟩
    obtain⟨pl,hR,wY,_⟩:=hR
    have Tp:Region.wanted o (yielded lH a.tmps)=t:=by
      unfold nB at hw;unfold Region.wanted;split at hw
      · rename_i hg;rw[hg];exact hw.symm
      · rename_i g want hg;obtain⟨q1,rg,tg,q2,q3,q4⟩:=hw;rw[hg];simp only;obtain⟨og,p1,p2,_⟩:=Uv g rg q2;have hlen:g<rs.length:=(Of.1 q2).1
        have hsp:rs=rs.take g++rg::rs.drop (g+1):=by
          conv=>lhs;rw[<-YN g rs]
          rw[Zo hlen,(Of.1 q2).2]
        have hti:(rs.take g).length=g:=by rw[X9];omega
        have Q9:∀v,rg.c.v=v->(∀T,v.aP T=v)->look X.1 tg=some v:=λv q4 hsw=>by
          have hX2:=hX;rw[hsp,eT,hti,XN,An]at hX2;obtain⟨y,hy,hX2⟩:=hX2;simp only[replay,Uu g q1,cond_true,An]at hX2;obtain⟨y',hy',hX2⟩:=hX2;refine uh hsw _ _ y' X hX2 (λj b' hb'=>?_) (by rw[dW hy',dV,if_pos q3,q4]);rw[XU]at hb';exact hdd g (g+1+j) rg b' tg (by omega) q2 hb' q3
        rcases q4 with⟨b,q4,q5⟩|⟨q4,q5⟩
        rotate_left
        · have hval:=hR.sl tg _ (Q9 _ q4 λT=>by simp[SV.aP,iU])
          have hog:lH[g]? =some og:=by rwa [YM]at p1
          have hval:∃vs,a.tmps.getD tg undef=.tuple vs:=by
            generalize a.tmps.getD tg undef=u at hval
            cases hval with
            |tup _ vs=>exact⟨vs,rfl⟩
          obtain⟨vs,hval⟩:=hval;rw[p2]at q3
          have hy:yielded lH a.tmps g=none:=by
            rw[X4]at hval
            cases hq:a.tmps[tg]? with
            |none=>simp[yielded,hog,q3,hq]
            |some x=>rw[hq]at hval;simp[yielded,hog,q3,hq,show x=.tuple vs from hval]
          rw[hy,q5];rfl
        have hval:=hR.sl tg _ (Q9 _ q4 λT=>by simp[SV.aP,hit])
        have hval:a.tmps.getD tg undef=.bool b:=by
          generalize a.tmps.getD tg undef=u at hval
          cases hval with
          |r _ _ _ hx=>cases hx;rfl
        have hog:lH[g]? =some og:=by rwa [YM]at p1
        have hgd:a.tmps[tg]? =some (.bool b):=by
          rw[X4]at hval
          cases hq:a.tmps[tg]? with
          |none=>rw[hq]at hval;cases hval
          |some x=>rw[hq]at hval;exact congrArg some hval
        rw[p2]at q3
        have hy:yielded lH a.tmps g=some b:=by simp[yielded,hog,q3,hgd]
        rw[hy,q5];cases b<;>cases want<;>rfl
    unfold wpOp;rw[ho];simp only[Tp]
    rcases Xi with⟨rfl,hmk,hg,hgl⟩|⟨rfl,hcu,_⟩
    · rw [if_pos rfl];have hbl:r.QM=EF x.1 (fm o.op.operands.toList):=congrArg DR.QM hmk;have hlen:r.len=N5 E h0 x o:=congrArg DR.len hmk;have hse:r.see=VL E aK i lH.toList h0 x o:=congrArg DR.see hmk
      obtain⟨hup,We⟩:(∀i B,look r.c.upd i=some B->∃B',look X.2 i=some B')/\_:=by
        have SA:Ext (oX [] x.1 (fm o.op.operands.toList)) X.1:=by
          cases C7:gw (CT h0 rs) r with
          |false=>exactλt u hu=>hes C7 t u (mv hu).2
          |true=>exact hes0 C7 hbl
        cases hL:N5 E h0 x o with
        | false =>
          rw[hL]at hlen;unfold VL at hse;rw[hL,cond_false]at hse
          exact hg hL X.1 X.2 a w pl SA (heh hse hlen) hR.hr hR.sl Sy hR.WO
        | true =>
          rw[hL]at hlen;unfold VL at hse;rw[hL,cond_true]at hse;have C7:=A7 hla r (XX hr) hlen;have hcm:=(fq C7).1;unfold CT at hcm;rw[hlen,hse]at hcm;refine hgl hL X.1 X.2 a w pl SA (λk B hB=>?_) hR.hr hR.sl Sy;obtain⟨m1,m2⟩:=pW hB;exact hLK k B m2 (yM hcm k m1)
      obtain⟨H',A9⟩:=GW VP hup;exact .inl (We H' _ Q A9 λu pl' w' hst hv=>next H' pl pl' u w' A9 hR wY hst hv hup)
    · rw[if_neg (by simp)]
      have A9:after X.2 r.n0 r.c=some X.2:=by
        rw[hcu];simp only[after,tI,aN,XY,CR.kil,jg,XC]
      refine next X.2 pl pl undef w A9 hR wY ?_ ?_ ?_
      · rw[hcu];exact c7.refl hR.hr
      · rw[hcu];exact .tup [] #[] rfl λj x v hx _=>by simp at hx
      · rw[hcu];exactλi B hB=>by simp[look]at hB
theorem Rl.drew {n:Nat} {st:St} {a:Act} {w:World} (h:Rl w0 fp0 bs n st a w):Rl w0 fp0 bs n st a {w with drawn:=w.drawn+1}:=by
 obtain⟨pl,h,hb,hn⟩:=h;have hk:lM ([],[]) w st.heap pl {w with drawn:=w.drawn+1} st.heap pl:=⟨λi B hB _=>⟨B,hB,B.dB,rfl⟩,λd p u _ h hp=>⟨h,hp⟩⟩
 exact⟨pl,⟨⟨λi B hB=>(h.hr.blk i B hB).bJ hk rfl (λ_=>Z8) (λp u _ hu=>⟨hu,rfl⟩) B.dC,h.hr.dis,h.hr.ob,h.hr.nb⟩,
  λt v hv=>(h.sl t v hv).zt hk,h.sz,h.df,h.fresh,h.gr.trans (dF.drew w),λp u hp hno=>h.fr p u hp hno,h.gk⟩,hb,hn⟩
theorem Rl.less {n:Nat} {st:St} {s':List (Nat× SV)} {a:Act} {w:World} (h:Rl w0 fp0 bs n st a w) (hs:∀t v,look s' t=some v->look st.cJ t=some v):Rl w0 fp0 bs n ⟨s',st.heap,st.nid,st.n,st.gh⟩ a w:=by
 obtain⟨pl,h,hb,hn⟩:=h;exact⟨pl,h.congr hs λ_=>rfl,hb,hn⟩
theorem Rl.Wj {n nid CY m:Nat} {s:List (Nat× SV)} {H:aM} {a:Act} {w:World} (h:Rl w0 fp0 bs n ⟨s,H,nid,m,gh⟩ a w) (hn:nid<=CY):Rl w0 fp0 bs n ⟨s,H,CY,m,gh⟩ a w:=by
 obtain⟨pl,h,hb,hn'⟩:=h;exact⟨pl,⟨h.hr,h.sl,h.sz,h.df,λi hi=>h.fresh i (YW hn hi),h.gr,h.fr,λk i hi=>⟨ZK (h.gk k i hi).1 hn,(h.gk k i hi).2⟩⟩,hb,hn'⟩
theorem OT {ρ:Type} (hE:mM E) {n:Nat} {st:St} {a:Act} {w:World} {K:St->Option ρ} {out:ρ} (hR:Rl w0 fp0 bs n st a w) (h:EH E lH.toList st K=some out)
  (hK:∀st' a' w',K st'=some out->Rl w0 fp0 bs n st' a' w'->Q .normal a' w'):E.P.follows .mixedOrders=true/\wpAny E.P .any lH Q lH.size (Array.replicate lH.size false) a {w with drawn:=w.drawn+1}:=by
 unfold EH at h;cases hmo:E.P.follows .mixedOrders<;>simp only[hmo,cond_true,cond_false]at h
 ·cases h
 rw[An]at h;obtain⟨aK,U7,h⟩:=h;cases hnd:iq (jS lH.toList)<;>simp only[hnd,cond_true,cond_false]at h
 ·cases h
 cases hlt:Ml st.n (jS lH.toList)<;>simp only[hlt,cond_true,cond_false]at h
 ·cases h
 obtain⟨rs,nidE,h,Xm,F⟩:=rv (nid0:=st.nid) hE lH.toList 0 st.nid [] _ h ⟨rfl,λi o r _ hr=>by simp at hr,λi r hr=>by simp at hr,λi j a b _ ha=>by simp at ha⟩ (X1 _) (by simp);cases hp0:(Dn (CT st.heap rs) aK 0 rs&&Dp (CT st.heap rs) rs)<;>simp only[hp0,cond_true,cond_false]at h
 ·cases h
 rw[XB]at hp0;obtain⟨hp,hla⟩:=hp0;rw[An]at h;obtain⟨XF,hXF,h⟩:=h;rw[XN,show lH.toList.length=lH.size from by simp]at F;have hn:=hR;obtain⟨pl,hR0,_,hnn⟩:=hn
 refine⟨rfl,Q8 (XF:=XF) (n:=n) (nidE:=nidE) (w0:=w0) (fp0:=fp0) (bs:=bs) (Q5 U7) F hp hla hnd (by rw[<-hnn];exact hlt) hXF hR0.fresh (λk i hi=>(hR0.gk k i hi).1) (λa' w' hR'=>hK _ a' w' h (by rw[hnn];exact hR')) lH.size _ a _
  (st.cJ,st.heap) (by simp) (by unfold unl;exact YW List.countP_le_length (by simp)) (λj o _ hl=>?_) (pV _ _ _ λj _=>?_) (λk B0 hB0 _=>⟨B0,hB0,B0.dB⟩) ?_⟩
 ·have:lp (Array.replicate lH.size false) j=false:=by
   unfold lp;rw[X4,Array.getElem?_replicate];split<;>rfl
  grind
 ·show lp _ _=false;unfold lp;rw[X4,Array.getElem?_replicate];split<;>rfl
 ·have:=(hR.Wj Xm).drew;grind
theorem JE {ρ:Type} (hE:mM E) {id n:Nat} {st:St} {a:Act} {w:World} {K:St->Option ρ} {out:ρ} (hR:Rl w0 fp0 bs n st a w) (h:EH E lH.toList st K=some out)
  (hK:∀st' a' w',K st'=some out->Rl w0 fp0 bs n st' a' w'->Q .normal a' w'):(Code.region id lH true).wp E.P Q a w:=
 let⟨h1,h2⟩:=OT hE hR h hK
 wp_region_any h1 h2
end
end
section
variable [Tok] [Glo]
section
variable {w:World} {H:aM} {pl:Pl} {i:Nat} {t:Ty}
theorem vi {h:aM}:∀(l:aM) (k:Nat),look (Je i t h l) k=if k=i then none else(look l k).map (Blk.frz i t h)
  |[],k=>by simp[Je,look]
  | (k0, b) :: l, k => by
    have ih:=vi (h:=h) l k;simp only[Je];cases hk:Nat.beq k0 i
    · have hk:¬k0=i:=λe=>by subst e;simp at hk
      simp only[cond_false];rw[aC,aC,ih];by_cases c:k0=k
      · subst c;rw[if_pos rfl,if_pos rfl,if_neg hk];rfl
      · rw[if_neg c,if_neg c]
    · have hk:=On hk;simp only[cond_true];rw[aC,ih];by_cases c:k=i
      · rw[if_pos c,if_pos c]
      · rw[if_neg c,if_neg c,if_neg (λe=>c (by rw[<-e,hk]))]
theorem DL {h:aM}:∀(l:List (Nat× SV)) (k:Nat),look (Mo i t h l) k=(look l k).map (SV.frz i t h)
 |[],k=>by simp[Mo,look]
 |(k0,b)::l,k=>by
  simp only[Mo];rw[aC,aC,DL l k];by_cases c:k0=k
  ·rw[if_pos c,if_pos c];rfl
  ·rw[if_neg c,if_neg c]
theorem Ld {k:Nat} (hk:k≠i):∀(d:List Nat),mem k (Qy i d)=mem k d
 |[]=>rfl
 |x::l=>by
  have ih:=Ld hk l;simp only[Qy];cases hx:Nat.beq x i
  ·simp only[cond_false,mem,ih]
  ·have hx:=On hx;simp only[cond_true,mem,ih]
   have:Nat.beq x k=false:=by
    cases h:Nat.beq x k
    ·rfl
    ·exact(hk (by rw[<-On h,hx])).elim
   rw[this];rfl
theorem OU (B:Blk) (h:aM):(B.frz i t h).lF=B.lF:=by
 cases B with
 |box cs=>rfl
 |arr sh t' xs=>cases sh<;>rfl
theorem Ra (B:Blk) (h:aM):B.nt (B.frz i t h):=by
 have hl:∀cs:List SV,(Gi i t h cs).length=cs.length:=λcs=>by
  induction cs with
  |nil=>rfl
  |cons v l ih=>simp[Gi,ih]
 cases B with
 |box cs=>exact(hl cs).symm
 |arr sh t' xs=>cases sh<;>exact⟨rfl,rfl⟩
theorem pZ {h:aM} {k:Nat} {B':Blk} (e:look (Je i t h H) k=some B'):k≠i/\∃B,look H k=some B/\B'=B.frz i t h:=by
 rw[vi]at e;by_cases c:k=i
 ·rw[if_pos c]at e;exact nomatch e
 ·rw[if_neg c]at e;obtain⟨B,h1,h2⟩:=XK.1 e;exact⟨c,B,h1,h2.symm⟩
theorem xg {h:aM} {k:Nat} {B:Blk} (c:k≠i) (e:look H k=some B):look (Je i t h H) k=some (B.frz i t h):=by
 rw[vi,if_neg c,e];rfl
theorem uj {h:aM} {d:List Nat} {p:Cell} (e:okd H pl d p):okd (Je i t h H) pl (Qy i d) p:=
  ⟨e.1,λk B' hB' hb=>by
    obtain⟨c,B,h1,rfl⟩:=pZ hB'
    exact e.2 k B h1 λhm=>by
      have:=hb (by rw[Ld c];exact hm)
      rwa [OU]at this⟩
theorem Lf (h:aM):∀(cs:List SV) (j:Nat),(Gi i t h cs)[j]? =(cs[j]?).map (SV.frz i t h)
 |[],j=>by simp[Gi]
 |v::l,0=>by simp[Gi]
 |v::l,j+1=>by simp[Gi,Lf h l j]
theorem sF (h:aM):∀cs:List SV,(Gi i t h cs).length=cs.length
 |[]=>rfl
 |v::l=>by simp[Gi,sF h l]
theorem DM {j i:Nat} (h:Nat.beq j i=false):j≠i:=λe=>by subst e;simp at h
mutual
theorem OV (hr:cY H pl w):(v:SV)->{u:Value}->ar w H pl v u->ar w (Je i t H H) pl (v.frz i t H) u
 |.r d x,u,h=>by
  cases h with
  |r _ _ _ hx=>exact .r _ _ _ (hx.frame λp u hp hu=>⟨uj hp,hu⟩)
 |.own j,u,h=>by
  simp only[SV.frz];cases hj:Nat.beq j i
  ·simp only[cond_false]
   cases h with
   |own _ sh t' xs hl=>
    have:=xg (t:=t) (h:=H) (DM hj) hl
    cases sh with
    |none=>exact .own j none t' xs this
    |some d=>exact .own j _ t' xs this
  ·simp only[cond_true];unfold KT;split
   ·rename_i p hp;exact .r _ _ _ ((rk hr (d:=p.1) (xs:=p.2) hp h).frame λp u hp hu=>⟨uj hp,hu⟩)
   ·exact .undef _
 |.sub j o n,u,h=>by
  simp only[SV.frz];cases hj:Nat.beq j i
  ·simp only[cond_false]
   cases h with
   |sub _ _ _ sh t' xs a a' cap jk hl hh hn hc hc' ha=>
    have:=xg (t:=t) (h:=H) (DM hj) hl
    cases sh with
    |none=>exact .sub j o n none t' xs a a' cap jk this hh hn hc hc' ha
    |some d=>exact .sub j o n _ t' xs a a' cap jk this hh hn hc hc' ha
  ·simp only[cond_true];unfold KT;split
   ·rename_i p hp;exact .r _ _ _ ((rk hr (d:=p.1) (xs:=p.2) hp h).frame λp u hp hu=>⟨uj hp,hu⟩)
   ·exact .undef _
 |.bsl j n,u,h=>by
  simp only[SV.frz];cases hj:Nat.beq j i
  ·simp only[cond_false]
   cases h with
   |bsl _ _ cs a hl hh=>exact .bsl j n _ a (xg (t:=t) (h:=H) (DM hj) hl) hh
  ·exact .undef _
 |.ptr j x o,u,h=>by
  simp only[SV.frz];cases hj:Nat.beq j i
  ·simp only[cond_false]
   cases h with
   |wQ _ _ cs b k hl hh=>exact .wQ j o _ b k (xg (t:=t) (h:=H) (DM hj) hl) hh
   |uQ _ _ _ sh t' xs b k n cap hl hx hh=>
    have:=xg (t:=t) (h:=H) (DM hj) hl
    cases sh with
    |none=>exact .uQ j x o none t' xs b k n cap this hx hh
    |some d=>exact .uQ j x o _ t' xs b k n cap this hx hh
  ·exact .undef _
 |.inn j x c,u,h=>by
  simp only[SV.frz];cases hj:Nat.beq j i
  ·simp only[cond_false]
   cases h with
   |inn _ _ _ sh t' xs b k n cap _ hl hx hc hh hok hv h1=>
    have:=xg (t:=t) (h:=H) (DM hj) hl
    have WV:okd (Je i t H H) pl [j] (b,k+(x*t'.sz+c)):=by
     have:=uj (i:=i) (t:=t) (h:=H) hok;simpa only[Qy,hj,cond_false]using this
    cases sh with
    |none=>exact .inn j x c none t' xs b k n cap u this hx hc hh WV hv h1
    |some d=>exact .inn j x c _ t' xs b k n cap u this hx hc hh WV hv h1
  ·exact .undef _
 |.lB d cs,u,h=>by
  cases h with
  |lB _ _ b o vs hc hr'=>exact .lB _ _ b o vs (λj r hj=>⟨uj (hc j r hj).1,(hc j r hj).2⟩) λj r hj=>(hr' j r hj).frame λp u hp hu=>⟨uj hp,hu⟩
 |.agg cs,u,h=>by
  cases h with
  |agg _ vs hl h1 h3=>exact .agg _ _ (by rw[sF,hl]) h1 λj x v hx hv=>Ba hr cs vs.toList (λj x v hx hv=>h3 j x v hx (by simpa using hv)) j x v hx (by simpa using hv)
 |.tup cs,u,h=>by
  cases h with
  |tup _ vs hl h3=>exact .tup _ _ (by rw[sF,hl]) λj x v hx hv=>Ba hr cs vs.toList (λj x v hx hv=>h3 j x v hx (by simpa using hv)) j x v hx (by simpa using hv)
 |.fn f a b,u,h=>by
  cases h with
  |fn _ _ _ us vs h1 h3 h1' h3'=>
   exact .fn f _ _ _ _ (by rw[sF,h1]) (λj x v hx hv=>Ba hr a us.toList (λj x v hx hv=>h3 j x v hx (by simpa using hv)) j x v hx (by simpa using hv))
    (by rw[sF,h1']) (λj x v hx hv=>Ba hr b vs.toList (λj x v hx hv=>h3' j x v hx (by simpa using hv)) j x v hx (by simpa using hv))
 |.cF,u,h=>by cases h;exact .cF
 |.qZ,u,h=>by cases h;exact .qZ
 |.undef,u,h=>.undef _
theorem Ba (hr:cY H pl w):(cs:List SV)->(us:List Value)->(∀(j:Nat) (x:SV) (v:Value),cs[j]? =some x->us[j]? =some v->ar w H pl x v)->
  ∀(j:Nat) (x:SV) (v:Value),(Gi i t H cs)[j]? =some x->us[j]? =some v->ar w (Je i t H H) pl x v
 |[],us,_,j,x,v,hx,_=>by simp[Gi]at hx
 |c::cs,[],_,j,x,v,_,hv=>by simp at hv
 |c::cs,u::us,h,0,x,v,hx,hv=>by
  simp[Gi]at hx hv;subst hx hv
  exact OV hr c (h 0 c u rfl rfl)
 |c::cs,u::us,h,j+1,x,v,hx,hv=>Ba hr cs us (λj x v hx hv=>h (j+1) x v (by simpa using hx) (by simpa using hv)) j x v (by simpa[Gi]using hx) (by simpa using hv)
end
theorem Tq (hr:cY H pl w) {k:Nat}:(B:Blk)->eL w H pl k B->eL w (Je i t H H) pl k (B.frz i t H)
 |.box cs,⟨b,o,h1,h2,h3⟩=>by
  refine⟨b,o,h1,λp=>by rw[sF];exact h2 p,λj v hv=>?_⟩;rw[Lf]at hv;obtain⟨v0,hv0,rfl⟩:=XK.1 hv;obtain⟨u,g1,g2,g3,g4⟩:=h3 j v0 hv0
  exact⟨u,g1,g2,g3,OV hr v0 g4⟩
 |.arr none t' xs,h=>h
 |.arr (some d) t' xs,⟨R⟩=>⟨{R with hr:=λi j r hc=>⟨(R.hr i j r hc).1.frame λp u hp hu=>⟨uj hp,hu⟩,(R.hr i j r hc).2⟩}⟩
theorem Rb (hr:cY H pl w):cY (Je i t H H) pl w:=
  ⟨λk B' hB'=>by
    obtain⟨_,B,h1,rfl⟩:=pZ hB'
    exact Tq hr B (hr.blk k B h1),
   λk j B B' p h1 h2 f1 f2=>by
    obtain⟨_,B1,g1,_⟩:=pZ h1;obtain⟨_,B2,g2,_⟩:=pZ h2
    exact hr.dis k j B1 B2 p g1 g2 f1 f2,
   λk B p h1 hf=>by
    obtain⟨_,B1,g1,_⟩:=pZ h1
    exact hr.ob k B1 p g1 hf,hr.nb⟩
end
theorem Tt {w0:World} {fp0:G0} {bs:Cell->Prop} {n:Nat} {st:St} {a:Act} {w:World} (i:Nat) (h:Rl w0 fp0 bs n st a w):Rl w0 fp0 bs n (V7 i st) a w:=by
 unfold V7;split
 ·rename_i sh t xs hl;obtain⟨pl,hr,hb,hn⟩:=h;refine⟨pl,⟨Rb hr.hr,λk v hv=>?_,hr.sz,hr.df,λk hk=>?_,hr.gr,λp u hp hno=>?_,λk j hk=>?_⟩,hb,hn⟩
  ·have hv:look (Mo i t st.heap st.cJ) k=some v:=hv;rw[DL]at hv;obtain⟨v0,hv0,rfl⟩:=XK.1 hv;exact OV hr.hr v0 (hr.sl k v0 hv0)
  ·show look (Je i t st.heap st.heap) k=none;rw[vi,hr.fresh k hk];by_cases c:k=i
   ·rw[if_pos c]
   ·rw[if_neg c];rfl
  ·obtain⟨f1,f2,f3⟩:=hr.fr p u hp hno
   exact⟨λk B hB=>by
    obtain⟨_,B1,g1,_⟩:=pZ hB
    exact f1 k B1 g1,f2,f3⟩
  ·obtain⟨t1,t2⟩:=hr.gk k j hk;refine⟨t1,λB hB=>?_⟩;obtain⟨_,B1,g1,rfl⟩:=pZ hB;obtain⟨t3,t4⟩:=t2 B1 g1;exact⟨t3,Blk.fo t4 (Ra B1 st.heap)⟩
 ·exact h
theorem vj {H:aM} {i:Nat} {t:Ty} {xs:List t.El} (hl:look H i=some (.arr none t xs)) (k:Nat):look (put H i (.arr (some []) t xs)) k=if k=i then some (.arr (some []) t xs)else look H k:=by
 rw[fj];by_cases c:i=k
 ·rw[if_pos c,if_pos c.symm]
 ·rw[if_neg c,if_neg (λe=>c e.symm)]
theorem qa {H:aM} {i:Nat} {t:Ty} {xs:List t.El} (hl:look H i=some (.arr none t xs)) {k:Nat} {B':Blk} (e:look (put H i (.arr (some []) t xs)) k=some B'):
  ∃B,look H k=some B/\B.nt B'/\B'.lF=B.lF:=by
 rw[vj hl]at e;by_cases c:k=i
 ·rw[if_pos c]at e;cases e;exact⟨.arr none t xs,by rw[c];exact hl,show Blk.nt (.arr none t xs) (.arr (some []) t xs)from⟨rfl,rfl⟩,rfl⟩
 ·rw[if_neg c]at e;exact⟨B',e,B'.dB,rfl⟩
def Pl.less (pl:Pl) (i:Nat) (f:Cell->Prop):Pl:={pl with fp:=λk p=>(k=i->f p)/\(k≠i->pl.fp k p)}
theorem Pl.vk {pl:Pl} {i:Nat} {f:Cell->Prop} (hf:∀p,f p->pl.fp i p) {k:Nat} {p:Cell} (h:(pl.less i f).fp k p):pl.fp k p:=by
 by_cases c:k=i
 ·subst c;exact hf p (h.1 rfl)
 ·exact h.2 c
theorem OW {w:World} {H:aM} {pl:Pl} {i:Nat} {t:Ty} {xs:List t.El} {f:Cell->Prop} (hl:look H i=some (.arr none t xs)) (hf:∀p,f p->pl.fp i p):lM ([],[]) w H pl w (put H i (.arr (some []) t xs)) (pl.less i f):=
  ⟨λk B hB _=>by
    by_cases c:k=i
    · subst c;rw[hl]at hB;cases hB;exact⟨.arr (some []) t xs,by rw[vj hl,if_pos rfl],show Blk.nt (.arr none t xs) (.arr (some []) t xs)from⟨rfl,rfl⟩,rfl⟩
    · exact⟨B,by rw[vj hl,if_neg c];exact hB,B.dB,rfl⟩,
   λd p u _ hp hu=>⟨⟨hp.1,λk B' hB' hb hq=>by
    obtain⟨B,h1,_,h3⟩:=qa hl hB'
    exact hp.2 k B h1 (λhm=>by rw[<-h3];exact hb hm) (Pl.vk hf hq)⟩,hu⟩⟩
theorem Tu {w0:World} {fp0:G0} {bs:Cell->Prop} {n:Nat} {st:St} {a:Act} {w:World} (i:Nat) (h:Rl w0 fp0 bs n st a w):Rl w0 fp0 bs n (V8 i st) a w:=by
 unfold V8;split
 ·rename_i t xs hl;obtain⟨pl,hr,hb,hn⟩:=h;obtain⟨R⟩:=hr.hr.blk i _ hl;have hf:∀p,reg R.b R.o (R.cap*t.sz) p->pl.fp i p:=λp hp=>(R.hfp p).2 (.inl hp);have hk:=OW (w:=w) (pl:=pl) hl hf;refine⟨pl.less i (reg R.b R.o (R.cap*t.sz)),⟨⟨λk B' hB'=>?_,λk j B B' p h1 h2 f1 f2=>?_,λk B p h1 hf'=>?_,hr.hr.nb⟩,λk v hv=>?_,hr.sz,hr.df,λk hk=>?_,hr.gr,λp u hp hno=>?_,λk j hk=>?_⟩,hb,hn⟩
  ·have hB':look (put st.heap i (.arr (some []) t xs)) k=some B':=hB';rw[vj hl]at hB';by_cases c:k=i
   ·rw[if_pos c]at hB';cases hB';subst c;refine⟨⟨R.a,R.cap,R.b,R.o,R.vs,λ_ _ _=>False,R.Az,R.hcap,R.ha,R.lC,R.hc,λi' j r hx=>⟨?_,λ_ hf=>hf⟩,λ_ _ _ _ _ h=>h.elim,λ_ _ _ _ _ _ _ _ _ h=>h.elim,λp=>⟨λhp=>.inl (hp.1 rfl),λhp=>⟨λ_=>hp.elim id λ⟨_,_,_,_,h⟩=>h.elim,λh=>(h rfl).elim⟩⟩⟩⟩;refine(R.hr i' j r hx).Oc λp hp=>?_;have hpi:pl.fp k p:=(R.hfp p).2 (.inr ⟨i',j,r,hx,hp⟩);refine⟨hr.hr.ob k _ p hl hpi,λm B hB _ hq=>?_⟩;by_cases e:m=k
    ·subst e;exact R.hd1 i' j r p hx hp (hq.1 rfl)
    ·obtain⟨B1,g1,_⟩:=qa hl hB;exact e (hr.hr.dis m k B1 _ p g1 hl (hq.2 e) hpi)
   ·rw[if_neg c]at hB';exact(hr.hr.blk k _ hB').bJ hk rfl (λp=>⟨λh=>h.2 c,λh=>⟨λe=>(c e).elim,λ_=>h⟩⟩) (λp u _ hu=>⟨hu,rfl⟩) B'.dC
  ·obtain⟨B1,g1,_⟩:=qa hl h1;obtain⟨B2,g2,_⟩:=qa hl h2;exact hr.hr.dis k j B1 B2 p g1 g2 (Pl.vk hf f1) (Pl.vk hf f2)
  ·obtain⟨B1,g1,_⟩:=qa hl h1;exact hr.hr.ob k B1 p g1 (Pl.vk hf hf')
  ·exact(hr.sl k v hv).zt hk
  ·show look (put st.heap i (.arr (some []) t xs)) k=none;rw[vj hl];by_cases c:k=i
   ·have:=hr.fresh k hk;rw[c,hl]at this;exact nomatch this
   ·rw[if_neg c];exact hr.fresh k hk
  ·obtain⟨f1,f2,f3⟩:=hr.fr p u hp hno
   exact⟨λk B hB hq=>by
    obtain⟨B1,g1,_⟩:=qa hl hB
    exact f1 k B1 g1 (Pl.vk hf hq),f2,f3⟩
  ·obtain⟨t1,t2⟩:=hr.gk k j hk;refine⟨t1,λB hB=>?_⟩;obtain⟨B1,g1,g2,_⟩:=qa hl hB;obtain⟨t3,t4⟩:=t2 B1 g1;exact⟨t3,Blk.fo t4 g2⟩
 ·exact h
theorem Bb {w0:World} {fp0:G0} {bs:Cell->Prop} {n:Nat} {a:Act} {w:World}:∀(l:List (Bool× Nat× List Nat)) {st:St},Rl w0 fp0 bs n st a w->Rl w0 fp0 bs n (KU l st) a w
 |[],st,h=>h
 |x::l,st,h=>by
  refine Bb l ?_;unfold Sq;split
  ·split
   ·cases x.1
    ·exact Tt _ h
    ·exact Tu _ h
   ·exact h
  ·exact h
end
section
variable [Tok] [Glo]
theorem OX {j k:Nat} {d:List Nat} (h:mem k d=true):mem k (cond (mem j d) d (d++[j]))=true:=by
 cases mem j d
 ·rw[cond_false,AB,h];rfl
 ·exact h
section
variable {w:World} {H:aM} {pl:Pl}
theorem DN (hr:cY H pl w) {n:Nat} (hn:look H n=none) (sh:Bool) (t:Ty):
  c7 H (H++[(n,.arr (cond sh (some []) none) t [])]) ([],[]) pl (pl.set n (.slice none 0 0) λ_=>False) w w:=
 K5 hr hn (dF.refl w) (λp u hu=>⟨hu,rfl⟩) (λp h=>h.elim) λ_=>by
  refine eL.oF ?_;simp only[Pl.set,if_true];exact Row.nil _
theorem OY (hr:cY H pl w) {n:Nat} (hn:look H n=none) (c:Co) {v:SV} {u:Value} (hv:ar w H pl v u):
  ∃pl',c7 H (H++aN n (coV n H c v).2) ([],[]) pl pl' w w/\ar w (H++aN n (coV n H c v).2) pl' (coV n H c v).1 u:=by
 have still:∀{v':SV},ar w H pl v' u->∃pl',c7 H (H++aN n []) ([],[]) pl pl' w w/\ar w (H++aN n []) pl' v' u:=λ{v'} h=>by
  simp only[aN,XY];exact⟨pl,c7.refl hr,h⟩
 cases c with
 |mI sh t=>
  cases v with
  |cF=>
   have hst:=DN hr hn sh t;refine⟨_,hst,?_⟩;cases hv;have:=ar.own (w:=w) (H:=H++[(n,.arr (cond sh (some []) none) t [])]) (pl:=pl.set n (.slice none 0 0) λ_=>False) n (cond sh (some []) none) t [] (by rw[aJ,hn,aC];simp)
   simpa[Pl.set,coV,aN]using this
  |_=>exact still hv
 |ro t=>
  simp only[coV]
  cases hl:v.list H t with
  |none=>exact still hv
  |some p=>exact still (.r _ _ _ (rk hr hl hv))
 |drop=>exact still (.undef _)
 |dep j=>
  cases v with
  |r d x=>
   cases hv with
   |r _ _ _ hx=>exact still (.r _ _ _ (hx.frame λp u hp hu=>⟨jm (λk hk=>OX hk) hp,hu⟩))
  |_=>exact still hv
 |QK t j=>exact still hv
theorem JF (hr:cY H pl w) {i j:Nat} {cs:List SV} {x v:SV} (hl:look H i=some (.box cs)) (hj:cs[j]? =some x) (hx:∀u,ar w H pl x u->ar w H pl v u):
  c7 H (put H i (.box (cs.set j v))) ([],[]) pl pl w w:=by
 have hlk:∀k B,look (put H i (.box (cs.set j v))) k=some B->(k=i/\B=.box (cs.set j v))\/(k≠i/\look H k=some B):=λk B h=>by
  rw[fj]at h;by_cases e:i=k
  ·subst e;simp only[if_true,It]at h;exact .inl ⟨rfl,h.symm⟩
  ·rw[if_neg e]at h;exact .inr ⟨λh=>e h.symm,h⟩
 have hk:lM ([],[]) w H pl w (put H i (.box (cs.set j v))) pl:=by
  refine⟨λk B hB _=>?_,λd p u _ h hp=>⟨⟨h.1,λk B hB hm=>?_⟩,hp⟩⟩
  ·rw[fj];by_cases e:i=k
   ·subst e;rw[hl]at hB;cases hB;exact⟨_,by simp;rfl,by simp[Blk.nt],rfl⟩
   ·rw[if_neg e];exact⟨B,hB,B.dB,rfl⟩
  ·rcases hlk k B hB with⟨rfl,rfl⟩|⟨_,hB⟩
   ·exact h.2 k _ hl λ_=>rfl
   ·exact h.2 k B hB hm
 refine⟨⟨λk B hB=>?_,λk k' B B' p h1 h2=>?_,λk B p hB=>?_,hr.nb⟩,hk,rfl,dF.refl w,λp u hp hno=>⟨λk B hB=>?_,hp,rfl⟩⟩
 ·rcases hlk k B hB with⟨rfl,rfl⟩|⟨_,hB⟩
  ·obtain⟨b,o,q1,q2,q3⟩:=hr.blk k _ hl;refine⟨b,o,q1,λp=>by rw[q2,YB],λm y hy=>?_⟩;rw[List.getElem?_set]at hy;by_cases e:j=m
   ·subst e;obtain⟨u,g1,g2,g3,g4⟩:=q3 j x hj;simp only[if_true]at hy;split at hy
    ·cases hy;exact⟨u,g1,g2,g3,(hx u g4).zt hk⟩
    ·exact nomatch hy
   ·rw[if_neg e]at hy;obtain⟨u,g1,g2,g3,g4⟩:=q3 m y hy;exact⟨u,g1,g2,g3,g4.zt hk⟩
  ·exact(hr.blk k B hB).bJ hk rfl (λ_=>Z8) (λp u _ hu=>⟨hu,rfl⟩) B.dC
 ·have f1:∃B,look H k=some B:=by
   rcases hlk k B h1 with⟨rfl,rfl⟩|⟨_,h1⟩
   ·exact⟨_,hl⟩
   ·exact⟨_,h1⟩
  have f2:∃B,look H k'=some B:=by
   rcases hlk k' B' h2 with⟨rfl,rfl⟩|⟨_,h2⟩
   ·exact⟨_,hl⟩
   ·exact⟨_,h2⟩
  obtain⟨_,f1⟩:=f1;obtain⟨_,f2⟩:=f2;exact hr.dis k k' _ _ p f1 f2
 ·rcases hlk k B hB with⟨rfl,rfl⟩|⟨_,hB⟩
  ·exact hr.ob k _ p hl
  ·exact hr.ob k B p hB
 ·rcases hlk k B hB with⟨rfl,rfl⟩|⟨_,hB⟩
  ·exact hno k _ hl
  ·exact hno k B hB
end
theorem c7.U8 {H H' H'':aM} {pl pl' pl'':Pl} {w w' w'':World} (h:c7 H H' ([],[]) pl pl' w w') (g:c7 H' H'' ([],[]) pl' pl'' w' w''):c7 H H'' ([],[]) pl pl'' w w'':=by
 refine⟨g.hr,⟨λi B hB hm=>?_,λd p u hd ho hp=>?_⟩,g.bs.trans h.bs,h.gr.trans g.gr,λp u hp hno=>?_⟩
 ·obtain⟨B',q1,q2,q3⟩:=h.kp.k1 i B hB hm;obtain⟨B'',r1,r2,r3⟩:=g.kp.k1 i B' q1 hm;exact⟨B'',r1,Blk.fo q2 r2,r3.trans q3⟩
 ·obtain⟨q1,q2⟩:=h.kp.k2 d p u hd ho hp;exact g.kp.k2 d p u hd q1 q2
 ·obtain⟨q1,q2,q3⟩:=h.fr p u hp hno;obtain⟨r1,r2,r3⟩:=g.fr p u q2 q1;exact⟨r1,r2,r3.trans q3⟩
theorem Rel.ghost {w0:World} {fp0:G0} {st:St} {pl pl':Pl} {a:Act} {w:World} {H':aM} {CY:Nat} (h:Rel w0 fp0 st pl a w) (hs:c7 st.heap H' ([],[]) pl pl' w w) (hn:st.nid<=CY)
    (hf:∀i,CY<=i->look H' i=none) (hb:∀i B,i<st.nid->look H' i=some B->∃B',look st.heap i=some B'):Rel w0 fp0 {st with heap:=H',nid:=CY} pl' a w:=
  ⟨hs.hr,λt v hv=>(h.sl t v hv).zt hs.kp,h.sz,h.df,hf,h.gr,λp u hp hno=>by
    obtain⟨g1,g2,g3⟩:=h.fr p u hp hno;obtain⟨f1,f2,f3⟩:=hs.fr p u g2 g1
    exact⟨f1,f2,f3.trans g3⟩,h.gk.step hs.kp hn λk i B hki hB=>⟨rfl,hb i B (h.gk k i hki).1 hB⟩⟩
theorem GX {n i:Nat} {bs:List Blk} (h:i<n):look (aN n bs) i=none:=by rw[bG,if_neg (by omega)]
theorem xh {n i:Nat} {bs:List Blk} (h:n+bs.length<=i):look (aN n bs) i=none:=by rw[bG,if_pos (by omega),Yb (by omega)]
theorem OZ {w0:World} {fp0:G0} {bs:Cell->Prop} {n:Nat} {st:St} {a:Act} {w:World} (h:Rl w0 fp0 bs n st a w) (x:iG× Co):Rl w0 fp0 bs n (Gt st x) a w:=by
  obtain⟨pl,hr,hb,hnn⟩:=h;have Bc:=hr.fresh st.nid (X1 _)
  have app:∀(bl:List Blk) {pl':Pl},c7 st.heap (st.heap++aN st.nid bl) ([],[]) pl pl' w w->Rel w0 fp0 {st with heap:=st.heap++aN st.nid bl,nid:=st.nid+bl.length} pl' a w:=λbl pl' hs=>
    hr.ghost hs (by simp) (λi hi=>by rw[aJ,hr.fresh i (by omega),xh hi];rfl) λi B hi hB=>by
      rw[aJ,GX hi,YG]at hB;exact⟨B,hB⟩
  have cJ:∀{st1:St} {pl':Pl} {t:Nat} {v:SV},Rel w0 fp0 st1 pl' a w->st1.cJ=st.cJ->ar w st1.heap pl' v (a.tmps.getD t undef)->Rel w0 fp0 {st1 with cJ:=put st.cJ t v} pl' a w:=λ{st1 pl' t v} h1 e hv=>
    ⟨h1.hr,λt' v' h'=>by
      rw[fj]at h';by_cases c:t=t'
      · subst c;simp at h';subst h';exact hv
      · rw[if_neg c]at h';exact h1.sl t' v' (by rw[e];exact h'),h1.sz,h1.df,h1.fresh,h1.gr,h1.fr,h1.gk⟩
  obtain⟨wh,c⟩:=x
  have box:∀i j,Rl w0 fp0 bs n (QL st i j c) a w:=λi j=>by
    unfold QL;split
    · rename_i cs hl;split
      · rename_i v hj
        have hi:i<st.nid:=by
          by_cases c:i<st.nid
          · exact c
          · rw[hr.fresh i (by omega)]at hl;exact nomatch hl
        have hv:∃u,ar w st.heap pl v u:=by
          obtain⟨b,o,_,_,q3⟩:=hr.hr.blk i _ hl;obtain⟨u,_,_,_,h⟩:=q3 j v hj;exact⟨u,h⟩
        have key:∃pl',c7 st.heap (st.heap++aN st.nid (coV st.nid st.heap c v).2) ([],[]) pl pl' w w/\
            ∀u,ar w (st.heap++aN st.nid (coV st.nid st.heap c v).2) pl' v u->ar w (st.heap++aN st.nid (coV st.nid st.heap c v).2) pl' (coV st.nid st.heap c v).1 u:=by
          have still:(coV st.nid st.heap c v).2=[]->(∀u,ar w st.heap pl v u->ar w st.heap pl (coV st.nid st.heap c v).1 u)->
              ∃pl',c7 st.heap (st.heap++aN st.nid (coV st.nid st.heap c v).2) ([],[]) pl pl' w w/\
              ∀u,ar w (st.heap++aN st.nid (coV st.nid st.heap c v).2) pl' v u->ar w (st.heap++aN st.nid (coV st.nid st.heap c v).2) pl' (coV st.nid st.heap c v).1 u:=λe h=>by
            rw[e];simp only[aN,XY];exact⟨pl,c7.refl hr.hr,h⟩
          cases c with
          | mI sh t =>
            cases v with
            | cF =>
              obtain⟨u,hu⟩:=hv;refine⟨_,DN hr.hr Bc sh t,λu hu=>?_⟩;cases hu;have:=ar.own (w:=w) (H:=st.heap++[(st.nid,.arr (cond sh (some []) none) t [])]) (pl:=pl.set st.nid (.slice none 0 0) λ_=>False) st.nid (cond sh (some []) none) t [] (by rw[aJ,Bc,aC];simp)
              simpa[Pl.set,coV,aN]using this
            |_=>exact still rfl λu h=>h
          | ro t =>
            cases hq:v.list st.heap t with
            |none=>exact still (by simp only[coV,hq]) λu h=>by simp only[coV,hq];exact h
            |some p=>exact still (by simp only[coV,hq]) λu h=>by simp only[coV,hq];exact .r _ _ _ (rk hr.hr hq h)
          |drop=>exact still rfl λu _=>.undef _
          | dep j =>
            cases v with
            |r d x=>exact still rfl λu hv=>by cases hv with|r _ _ _ hx=>exact .r _ _ _ (hx.frame λp u hp hu=>⟨jm (λk hk=>OX hk) hp,hu⟩)
            |_=>exact still rfl λu h=>h
          |QK t j=>exact still rfl λu h=>h
        obtain⟨pl',h1,h2⟩:=key
        have hl':look (st.heap++aN st.nid (coV st.nid st.heap c v).2) i=some (.box cs):=by rw[aJ,hl];rfl
        have h3:=h1.U8 (JF h1.hr hl' hj h2);refine⟨pl',hr.ghost h3 (by simp) (λk hk=>?_) (λk B hk hB=>?_),h1.bs.trans hb,hnn⟩
        · rw[fj,if_neg (by omega),aJ,hr.fresh k (by omega),xh hk];rfl
        · rw[fj]at hB;by_cases e:i=k
          · subst e;exact⟨_,hl⟩
          · rw[if_neg e,aJ,GX hk,YG]at hB;exact⟨B,hB⟩
      · exact⟨pl,hr,hb,hnn⟩
    · exact⟨pl,hr,hb,hnn⟩
  cases wh with
  | slot t =>
    simp only[Gt]
    cases hl:look st.cJ t with
    |none=>exact⟨pl,hr,hb,hnn⟩
    | some v =>
      obtain⟨pl',h1,h2⟩:=OY hr.hr Bc c (hr.sl t v hl)
      exact⟨pl',cJ (app _ h1) rfl h2,h1.bs.trans hb,hnn⟩
  | cell t j =>
    simp only[Gt];split
    · rename_i cs hl;split
      · rename_i v hj;have hv:=hr.sl t _ hl;generalize hu:a.tmps.getD t undef=u at hv
        cases hv with
        | agg _ vs hlen Du QA =>
          have hjl:j<vs.size:=by rw[<-hlen];exact(Of.1 hj).1
          obtain⟨pl',h1,h2⟩:=OY hr.hr Bc c (QA j v vs[j] hj (by simp));refine⟨pl',cJ (app _ h1) rfl ?_,h1.bs.trans hb,hnn⟩;rw[hu];refine .agg _ _ (by simp[hlen]) Du λm y z hy hz=>?_;rw[List.getElem?_set]at hy;by_cases e:j=m
          · subst e;simp only[if_true]at hy;split at hy
            · cases hy
              have:vs[j]=z:=by have:=XR hjl;rw[this]at hz;exact YA hz
              rw[<-this];exact h2
            · exact nomatch hy
          · rw[if_neg e]at hy;exact(QA m y z hy hz).zt h1.kp
      · exact⟨pl,hr,hb,hnn⟩
    · exact⟨pl,hr,hb,hnn⟩
  |box i j=>exact box i j
  | Mi t j =>
    simp only[Gt];split
    · exact box _ j
    · exact⟨pl,hr,hb,hnn⟩
  | gh k =>
    refine⟨pl,⟨hr.hr,hr.sl,hr.sz,hr.df,hr.fresh,hr.gr,hr.fr,λj i hj=>?_⟩,hb,hnn⟩;have hj:(st.gh.set k none)[j]? =some (some i):=hj;rw[List.getElem?_set]at hj;by_cases e:k=j
    · rw[if_pos e]at hj;split at hj<;>exact nomatch hj
    · rw[if_neg e]at hj;exact hr.gk j i hj
theorem Rc {w0:World} {fp0:G0} {bs:Cell->Prop} {n:Nat} {st:St} {a:Act} {w:World} (h:Rl w0 fp0 bs n st a w) (x:iG× Co):Rl w0 fp0 bs n (UE st x) a w:=OZ h _
theorem zP {w0:World} {fp0:G0} {bs:Cell->Prop} {n:Nat} {a:Act} {w:World}:∀(l:List (iG× Co)) {st:St},Rl w0 fp0 bs n st a w->Rl w0 fp0 bs n (N3 l st) a w
 |[],_,h=>h
 |x::l,_,h=>zP l (Rc h x)
end
section
variable [Tok] [Glo]
section
variable {ρ:Type} {E:Env} {w0:World} {fp0:G0} {bs:Cell->Prop}
theorem Rl.put {n:Nat} {st:St} {a:Act} {w:World} {t:Nat} {v:SV} (h:Rl w0 fp0 bs n st a w) (hv:∀pl,ar w st.heap pl v (a.tmps.getD t undef)):Rl w0 fp0 bs n {st with cJ:=put st.cJ t v} a w:=by
 obtain⟨pl,h,hb,hn⟩:=h;refine⟨pl,⟨h.hr,λt' v' h'=>?_,h.sz,h.df,h.fresh,h.gr,h.fr,h.gk⟩,hb,hn⟩;rw[fj]at h';by_cases e:t=t'
 ·subst e;simp at h';subst h';exact hv pl
 ·rw[if_neg e]at h';exact h.sl t' v' h'
theorem JG (hE:mM E) {n:Nat} {o:Oper} {st:St} {a:Act} {w:World} {K:St->Option ρ} {out:ρ} {next:Act->World->Prop} {Q:Exit->Act->World->Prop}
  (hr:Rl w0 fp0 bs n st a w) (h:Us E o st K=some out) (hK:∀st' a' w',K st'=some out->Rl w0 fp0 bs n st' a' w'->next a' w'):o.wp E.P a w next Q:=by
 obtain⟨pl,hr,hb,hn⟩:=hr;exact MI hE hr h λst' pl' a' w' hk hb' hn' hr'=>hK st' a' w' hk ⟨pl',hr',hb'.trans hb,hn'.trans hn⟩
theorem JH {n:Nat} {o:Oper} {st:St} {a:Act} {w:World} {K:St->Option ρ} {out:ρ} {next:Act->World->Prop}
  (hr:Rl w0 fp0 bs n st a w) (h:Gw o st K=some out) (hK:∀st' a' w',K st'=some out->Rl w0 fp0 bs n st' a' w'->next a' w'):next (a.put o.dst undef) w:=by
 simp only[Gw,An]at h;obtain⟨s,hs,h⟩:=h;obtain⟨pl,hr,hb,hn⟩:=hr
 exact hK _ _ _ h ⟨pl,⟨hr.hr,gT.put hr.sl hr.sz hs (.tup [] #[] rfl λj x v hx _=>by simp at hx),by rw[Act.EU];exact hr.sz,by rw[Act.Oj];exact hr.df,hr.fresh,hr.gr,hr.fr,hr.gk⟩,hb,hn⟩
theorem j5 (hE:mM E) {n:Nat} {ops:Array Oper} {Q:Exit->Act->World->Prop} {out:ρ}:∀(l:List Oper) (st:St) (a:Act) (w:World) (K:St->Option ρ),
  Rl w0 fp0 bs n st a w->EE E ops.toList l st K=some out->(∀st' a' w',K st'=some out->Rl w0 fp0 bs n st' a' w'->Q .normal a' w')->wpList E.P ops Q l a w
 |[],st,a,w,K,hr,h,hK=>hK st a w h hr
 |o::rest,st,a,w,K,hr,h,hK=>by
  simp only[EE]at h
  cases hg:o.guard with
  |none=>
   simp only[hg]at h
   refine wpList_plain hg λK' hK'=>JG hE hr h λst' a' w' h' hr'=>hK' _ _ (j5 hE rest st' a' w' K hr' h' hK)
  |some jw=>
   obtain⟨j,want⟩:=jw;simp only[hg,An]at h;obtain⟨t,ht,v,hv,h⟩:=h;split at h
   ·have hy:yielded ops a.tmps j=none:=by
     simp only[S3,An]at ht;obtain⟨oj,hoj,hd⟩:=ht
     have VQ:ops[j]? =some oj:=by rwa [YM]at hoj
     have hval:∃vs,a.tmps.getD t undef=.tuple vs:=by
      obtain⟨pl,hr,_,_⟩:=hr;have:=hr.sl t _ hv;generalize a.tmps.getD t undef=u at this
      cases this with
      |tup _ vs=>exact⟨vs,rfl⟩
     obtain⟨vs,hval⟩:=hval;rw[X4]at hval
     cases hq:a.tmps[t]? with
     |none=>simp[yielded,VQ,hd,hq]
     |some x=>rw[hq]at hval;simp[yielded,VQ,hd,hq,show x=.tuple vs from hval]
    refine wpList_step λK' hK'=>?_;simp only[Region.wanted,hg,hy];rw[if_neg (by simp)];exact JH (next:=K') hr h λst' a' w' h' hr'=>hK' _ _ (j5 hE rest st' a' w' K hr' h' hK)
   simp only[An]at h;obtain⟨b,hb,h⟩:=h
   have hval:a.tmps.getD t undef=.bool b:=by
    obtain⟨pl,hr,_,_⟩:=hr;exact Jn hb (hr.sl t v hv)
   have hy:yielded ops a.tmps j=some b:=by
    simp only[S3,An]at ht;obtain⟨oj,hoj,hd⟩:=ht
    have VQ:ops[j]? =some oj:=by rwa [YM]at hoj
    have hg:a.tmps[t]? =some (.bool b):=by
     rw[X4]at hval
     cases hq:a.tmps[t]? with
     |none=>rw[hq]at hval;exact nomatch hval
     |some x=>rw[hq]at hval;exact congrArg some hval
    simp[yielded,VQ,hd,hg]
   refine wpList_step λK' hK'=>?_;simp only[Region.wanted,hg,hy]
   have GJ:∀b',b'=b->Rl w0 fp0 bs n {st with cJ:=put st.cJ t (.b b')} a w:=λb' e=>hr.put λpl=>by rw[hval,e];exact nA
   cases b<;>simp only[cond_true,cond_false]at h
   ·have hr':=GJ false rfl;cases want<;>simp only[cond_true,cond_false]at h
    ·rw[if_pos (by rfl)];exact JG hE hr' h λst' a' w' h' hr'=>hK' _ _ (j5 hE rest st' a' w' K hr' h' hK)
    ·rw[if_neg (by simp)];exact JH (next:=K') hr' h λst' a' w' h' hr'=>hK' _ _ (j5 hE rest st' a' w' K hr' h' hK)
   ·have hr':=GJ true rfl;cases want<;>simp only[cond_true,cond_false]at h
    ·rw[if_neg (by simp)];exact JH (next:=K') hr' h λst' a' w' h' hr'=>hK' _ _ (j5 hE rest st' a' w' K hr' h' hK)
    ·rw[if_pos (by rfl)];exact JG hE hr' h λst' a' w' h' hr'=>hK' _ _ (j5 hE rest st' a' w' K hr' h' hK)
def Ex.up:Ex->Exit
 |.normal=>.normal
 |.exit id=>.exit id
 |.ret=>.ret
def Sound (P:Program) (c:Code) (f:Ev ρ):Prop:=
 ∀(w0:World) (fp0:G0) (bs:Cell->Prop) (n:Nat) (st:St) (a:Act) (w:World) (K:Ex->St->Option ρ) (out:ρ) (Q:Exit->Act->World->Prop),
  Rl w0 fp0 bs n st a w->f st K=some out->(∀e st' a' w',K e st'=some out->Rl w0 fp0 bs n st' a' w'->Q e.up a' w')->c.wp P Q a w
def jr (E:Env) (LP:Nat->Ev ρ->Ev ρ):Nat->Code->Prop
 |cb,.seq a b=>jr E LP cb a/\jr E LP cb b
 |cb,.cond _ a b=>jr E LP cb a/\jr E LP cb b
 |_,.block id c=>jr E LP id c
 |cb,.scope c=>jr E LP cb c
 |cb,.loop c=>Sound E.P (.loop c) (LP cb λst K=>ev E LP cb c st K)
 |_,_=>True
theorem GY {n:Nat} {st:St} {a:Act} {w:World} {c:Operand} {b:Bool} (h:Rl w0 fp0 bs n st a w) (hc:a.eval c=.bool b):Rl w0 fp0 bs n (refine c b st) a w:=by
 cases c with
 |tmp t=>exact h.put λpl=>by rw[show a.tmps.getD t undef=.bool b from hc];exact nA
 |_=>exact h
theorem GZ {n:Nat} {st:St} {a:Act} {w:World} {K:St->Option ρ} {out:ρ} (h:KV E K st=some out) (hr:Rl w0 fp0 bs n st a w):∃st',K st'=some out/\Rl w0 fp0 bs n st' a w:=by
 unfold KV at h;cases ht:E.tak<;>simp only[ht,cond_true,cond_false]at h
 ·exact⟨_,h,hr⟩
 obtain⟨H',h1,h2⟩:=AU h;refine⟨_,h1,?_⟩;obtain⟨pl,hr,hb,hn⟩:=hr;refine⟨pl,⟨h2.hrel hr.hr,λk v hv=>(hr.sl k v hv).zt h2.keeps,hr.sz,hr.df,λk hk=>?_,hr.gr,λp u hp hno=>?_,λk j hk=>?_⟩,hb,hn⟩
 ·rcases h2 k with⟨_,g⟩|⟨B,B',g1,_⟩
  ·exact g
  ·rw[hr.fresh k hk]at g1;exact nomatch g1
 ·obtain⟨f1,f2,f3⟩:=hr.fr p u hp hno
  exact⟨λk B hB=>by
   obtain⟨B1,g1,_⟩:=h2.bwd hB
   exact f1 k B1 g1,f2,f3⟩
 ·obtain⟨t1,t2⟩:=hr.gk k j hk;refine⟨t1,λB hB=>?_⟩;obtain⟨B1,g1,g2⟩:=h2.bwd hB;obtain⟨t3,t4⟩:=t2 B1 g1;exact⟨t3,Blk.fo t4 g2.nt⟩
theorem jt (hE:mM E) {LP:Nat->Ev ρ->Ev ρ}:∀(c:Code) (cb:Nat),jr E LP cb c->Sound E.P c (ev E LP cb c)
 |.skip,cb,_=>λw0 fp0 bs n st a w K out Q hr h hK=>wp_skip (hK .normal st a w h hr)
 |.label l,cb,_=>λw0 fp0 bs n st a w K out Q hr h hK=>wp_label (hK .normal st a w h hr)
 |.region id ops false,cb,_=>λw0 fp0 bs n st a w K out Q hr h hK=>wp_region_list (j5 hE _ _ a w _ (zP _ (Bb _ hr)) h λst' a' w' h' hr'=>by
   obtain⟨st2,h2,hr2⟩:=GZ h' hr'
   exact hK .normal st2 a' w' h2 hr2)
 |.region id ops true,cb,_=>λw0 fp0 bs n st a w K out Q hr h hK=>JE hE (zP _ (Bb _ hr)) h λst' a' w' h' hr'=>by
   obtain⟨st2,h2,hr2⟩:=GZ h' hr'
   exact hK .normal st2 a' w' h2 hr2
 |.seq x y,cb,hg=>λw0 fp0 bs n st a w K out Q hr h hK=>wp_seq<|
  jt hE x cb hg.1 w0 fp0 bs n st a w _ out _ hr h λe st' a' w' h' hr'=>match e,h' with
   |.normal,h'=>jt hE y cb hg.2 w0 fp0 bs n st' a' w' K out Q hr' h' hK
   |.exit _,h'=>hK _ st' a' w' h' hr'
   |.ret,h'=>hK _ st' a' w' h' hr'
 |.cond c x y,cb,hg=>λw0 fp0 bs n st a w K out Q hr h hK=>by
  simp only[ev,An]at h;obtain⟨v,hv,b,hb,h⟩:=h
  have hval:a.eval c=.bool b:=by
   obtain⟨pl,hr,_,_⟩:=hr;exact Jn hb (aW hr.sl hv)
  refine wp_cond hval ?_;cases b
  ·exact jt hE y cb hg.2 w0 fp0 bs n _ a w K out Q (GY hr hval) h hK
  ·exact jt hE x cb hg.1 w0 fp0 bs n _ a w K out Q (GY hr hval) h hK
 |.block id c,cb,hg=>λw0 fp0 bs n st a w K out Q hr h hK=>wp_block<|
  jt hE c id hg w0 fp0 bs n st a w _ out _ hr h λe st' a' w' h' hr'=>match e,h' with
   |.normal,h'=>hK .normal st' a' w' h' hr'
   |.exit j,h'=>by
    simp only[inBlock]at h';show Exit.inBlock id Q (.exit j) a' w';cases hj:Nat.beq j id<;>simp only[hj,cond_true,cond_false]at h'
    ·have:¬j=id:=λe=>by subst e;simp at hj
     simp only[Exit.inBlock,if_neg this];exact hK (.exit j) st' a' w' h' hr'
    ·simp only[Exit.inBlock,if_pos (On hj)]
     exact hK .normal st' a' w' h' hr'
   |.ret,h'=>hK .ret st' a' w' h' hr'
 |.loop c,cb,hg=>hg
 |.exit id,cb,_=>λw0 fp0 bs n st a w K out Q hr h hK=>wp_exit (hK (.exit id) st a w h hr)
 |.scope c,cb,hg=>λw0 fp0 bs n st a w K out Q hr h hK=>wp_scope_straight<|
  jt hE c cb hg w0 fp0 bs n st a w K out _ hr h λe st' a' w' h' hr'=>match e,h' with
   |.normal,h'=>hK .normal st' a' w' h' hr'
   |.exit j,h'=>hK (.exit j) st' a' w' h' hr'
   |.ret,h'=>hK .ret st' a' w' h' hr'
 |.ret,cb,_=>λw0 fp0 bs n st a w K out Q hr h hK=>wp_ret (hK .ret st a w h hr)
 |.rangeFunc _ _ _ _,cb,_=>λw0 fp0 bs n st a w K out Q hr h hK=>nomatch h
 |.goto _,cb,_=>λw0 fp0 bs n st a w K out Q hr h hK=>nomatch h
 |.refuse _,cb,_=>λw0 fp0 bs n st a w K out Q hr h hK=>nomatch h
theorem DP {P:Program} {c:Code} {f:Ev ρ} (hf:Sound P c f) (k:Nat):Sound P (.loop c) (QP f k):=by
 intro w0 fp0 bs n st a w K out Q hr h hK;refine wp_loop_rounds k ?_
 induction k generalizing st a w with
 |zero=>exact nomatch h
 |succ k ih=>
  rw[rounds_succ]
  exact hf w0 fp0 bs n st a w _ out _ hr h λe st' a' w' h' hr'=>match e,h' with
   |.normal,h'=>ih st' a' w' hr' h'
   |.exit j,h'=>hK (.exit j) st' a' w' h' hr'
   |.ret,h'=>hK .ret st' a' w' h' hr'
end
end
section
variable [Tok] [Glo]
inductive Arg where
 |one (r:R)
 |agg (rs:List R)
 |fn (f:Fn) (first cap:List R)
def Arg.sv:Arg->SV
 |.one r=>.r [] r
 |.agg rs=>.agg (rs.map (SV.r []))
 |.fn f a b=>.fn f (a.map (SV.r [])) (b.map (SV.r []))
def Rd (w:World) (ok:Cell->Prop) (rs:List R) (vs:Array Value):Prop:=
 rs.length=vs.size/\∀(j:Nat) (r:R) (u:Value),rs[j]? =some r->vs[j]? =some u->RepR w ok r u
def tO (w:World) (ok:Cell->Prop):Arg->Value->Prop
 |.one r,v=>RepR w ok r v
 |.agg rs,v=>∃vs,v=.agg vs/\Rd w ok rs vs
 |.fn f a b,v=>∃us vs,v=.func f us vs/\Rd w ok a us/\Rd w ok b vs
def mQ (P:Program) (g:FuncId) (args:List Arg) (out:Out):Prop:=
 GN P g/\∀(w:World) (us:Array Value) (ok:Cell->Prop),args.length=us.size->(∀(j:Nat) (x:Arg) (u:Value),args[j]? =some x->us[j]? =some u->tO w ok x u)->GlobW w (λ_=>False)->
  Calls P g us w λe w'=>∃u pl,e=.returned u/\cY (aN 0 out.2) pl w'/\ar w' (aN 0 out.2) pl out.1 u/\pl.base=(λp=>ok p\/w.at? p=none)/\
   (∀p x,w.at? p=some x->w'.at? p=some x/\w'.eK p=w.eK p)/\(∀i B p,look (aN 0 out.2) i=some B->pl.fp i p->w.at? p=none)/\dF w w'
def Wk (P:Program) (st:St):ResultVar->Option SV
 |.tmp t=>look st.cJ t
 |.cell a T=>(look st.cJ a).bind λp=>(mG st.heap p).bind λcs=>ji P T cs
def VR (P:Program) (st:St):List ResultVar->Option (List SV)
 |[]=>some []
 |r::l=>(Wk P st r).bind λv=>(VR P st l).bind λvs=>some (v::vs)
def SB (P:Program) (fn:Func) (st:St):Option SV:=
  (VR P st fn.results.toList).bind λvs=>match vs with
    |[v]=>some v
    |vs=>some (.tup vs)
inductive RT where
 |sc
 |own (t:Ty)
 |shl (t:Ty)
 |ro (t:Ty)
 |agg (l:List RT)
 |tup (l:List RT)
 |fn (as bs:List RT)
 |ptr
def posOf (i:Nat):List (Option Nat)->Nat->Option Nat
 |[],_=>none
 |none::l,n=>posOf i l (n+1)
 |some k::l,n=>cond (Nat.beq k i) (some n) (posOf i l (n+1))
mutual
def RT.MP:RT->SV->Option (List (Bool× Ty× Option Nat))
 |.sc,_=>some []
 |.ro _,_=>some []
 |.own t,.own i=>some [(false,t,some i)]
 |.own t,.cF=>some [(false,t,none)]
 |.shl t,.own i=>some [(true,t,some i)]
 |.shl t,.cF=>some [(true,t,none)]
 |.agg l,.agg cs=>Fc l cs
 |.tup l,.tup cs=>Fc l cs
 |.fn as bs,.fn _ a b=>(Fc as a).bind λx=>(Fc bs b).bind λy=>some (x++y)
 |.ptr,.ptr _ 0 _=>some []
 |_,_=>none
def Fc:List RT->List SV->Option (List (Bool× Ty× Option Nat))
 |[],[]=>some []
 |r::l,v::cs=>(r.MP v).bind λa=>(Fc l cs).bind λb=>some (a++b)
 |_,_=>none
end
def j6:List (Bool× Ty× Option Nat)->List Nat
 |[]=>[]
 |(_,_,some i)::l=>i::j6 l
 |(_,_,none)::l=>j6 l
mutual
def RT.out (h:aM) (L:List Nat) (gh:List (Option Nat)):RT->Nat->SV->Option (SV× Nat)
 |.sc,k,.r _ (.int kk n)=>some (.r [] (.int kk n),k)
 |.sc,k,.r _ (.bool b)=>some (.r [] (.bool b),k)
 |.sc,k,.r _ (.str l)=>some (.r [] (.str l),k)
 |.sc,k,.cF=>some (.cF,k)
 |.own _,k,_=>some (.own k,k+1)
 |.shl _,k,_=>some (.own k,k+1)
 |.ro t,k,v=>(v.list h t).bind λp=>cond (hit L p.1) none (some (.r [] (.sl t p.2),k))
 |.agg l,k,.agg cs=>(QB h L gh l k cs).bind λp=>some (.agg p.1,p.2)
 |.tup l,k,.tup cs=>(QB h L gh l k cs).bind λp=>some (.tup p.1,p.2)
 |.fn as bs,k,.fn f a b=>(QB h L gh as k a).bind λp=>(QB h L gh bs p.2 b).bind λq=>some (.fn f p.1 q.1,q.2)
 |.ptr,k,.ptr i 0 o=>(posOf i gh 0).bind λj=>some (.ptr j 0 o,k)
 |_,_,_=>none
def QB (h:aM) (L:List Nat) (gh:List (Option Nat)):List RT->Nat->List SV->Option (List SV× Nat)
 |[],k,[]=>some ([],k)
 |r::l,k,v::cs=>(r.out h L gh k v).bind λp=>(QB h L gh l p.2 cs).bind λq=>some (p.1::q.1,q.2)
 |_,_,_=>none
end
def placeOf (i:Nat):List Nat->Nat->Option Nat
 |[],_=>none
 |k::l,n=>cond (Nat.beq k i) (some n) (placeOf i l (n+1))
def nodup:List Nat->Bool
 |[]=>true
 |k::l=>cond (mem k l) false (nodup l)
def vl (h:aM) (L:List Nat):Bool× Ty× Option Nat->Option Blk
 |(false,t,none)=>some (.arr none t [])
 |(true,t,none)=>some (.arr (some []) t [])
 |(false,t,some i)=>match look h i with
  |some (.arr none t' xs)=>cond (decide (t'=t)) (some (.arr none t' xs)) none
  |_=>none
 |(true,t,some i)=>match look h i with
  |some (.arr (some d) t' xs)=>cond (hit L d) none (cond (decide (t'=t)) (some (.arr (some []) t' xs)) none)
  |_=>none
def oJ (h:aM) (L:List Nat):List (Bool× Ty× Option Nat)->Option (List Blk)
 |[]=>some []
 |i::l=>(vl h L i).bind λb=>(oJ h L l).bind λl=>some (b::l)
def canon (rt:RT) (h:aM) (v:SV):Option Out:=
 (rt.MP v).bind λs=>cond (nodup (j6 s)) ((oJ h (j6 s) s).bind λbs=>(rt.out h (j6 s) [] 0 v).bind λp=>some (p.1,bs)) none
def fin {ρ:Type} (P:Program) (fn:Func) (rt:RT) (dec:Out->Option ρ):Ex->St->Option ρ
 |.exit _,_=>none
 |.normal,st=>(SB P fn st).bind λv=>(canon rt st.heap v).bind dec
 |.ret,st=>(SB P fn st).bind λv=>(canon rt st.heap v).bind dec
def G1:Nat->List Arg->List (Nat× SV)
 |_,[]=>[]
 |n,a::l=>(n,a.sv)::G1 (n+1) l
def st0 (fn:Func) (args:List Arg):St:={cJ:=G1 0 args,heap:=[],nid:=0,n:=fn.ntmps}
section
variable {P:Program}
def Lg (a:Act):ResultVar->Sem Value
 |.tmp t=>pure (a.tmps.getD t undef)
 |.cell b t=>do loadVar t (<-asAddr (a.tmps.getD b undef))
theorem DQ (fn:Func) (a:Act):results fn a.tmps=(fn.results.mapM (Lg a)>>= λvs=>pure (if h:vs.size=1 then vs[0]else .tuple vs)):=by
 unfold results
 congr 1
theorem Re {w:World} {st:St} {pl:Pl} {a:Act} (hr:cY st.heap pl w) (hs:gT w st.heap pl st.cJ a) {r:ResultVar} {v:SV} (h:Wk P st r=some v):
  ∃u,(Lg a r).run P w=.ok u w/\ar w st.heap pl v u:=by
 cases r with
 |tmp t=>exact⟨_,rfl,hs t v h⟩
 |cell b T=>
  simp only[Wk,An]at h;obtain⟨p,hp,cs,hcs,hv⟩:=h;obtain⟨b',o',hpu,hc⟩:=AF hr (hs b p hp) hcs;obtain⟨u,h1,h2⟩:=EK hv b' o' hc;exact⟨u,by simp[Lg,hpu,asAddr,h1],h2⟩
theorem Lh {w:World} {st:St} {pl:Pl} {a:Act} (hr:cY st.heap pl w) (hs:gT w st.heap pl st.cJ a):∀{l:List ResultVar} {vs:List SV},VR P st l=some vs->
  ∃us,(l.mapM (Lg a):Sem (List Value)).run P w=.ok us w/\vs.length=us.length/\
   ∀(j:Nat) (x:SV) (u:Value),vs[j]? =some x->us[j]? =some u->ar w st.heap pl x u
 |[],vs,h=>by cases h;exact⟨[],rfl,rfl,λj x u hx _=>by simp at hx⟩
 |r::l,vs,h=>by
  simp only[VR,An,It]at h;obtain⟨v,hv,vs',hvs,rfl⟩:=h;obtain⟨us,h1,h2,h3⟩:=Lh hr hs hvs;obtain⟨u,h4,h5⟩:=Re (P:=P) hr hs hv;refine⟨u::us,?_,by simp[h2],λj x u' hx hu=>?_⟩
  ·rw[List.mapM_cons,Sem.run_bind,h4];simp only[Result.andThen_ok,Sem.run_bind,h1,Sem.run_pure]
  ·grind
theorem Li {w:World} {st:St} {pl:Pl} {a:Act} (hr:cY st.heap pl w) (hs:gT w st.heap pl st.cJ a) {fn:Func} {v:SV} (h:SB P fn st=some v):
  ∃u,(results fn a.tmps).run P w=.ok u w/\ar w st.heap pl v u:=by
 simp only[SB,An]at h;obtain⟨vs,hvs,h⟩:=h;obtain⟨us,h1,h2,h3⟩:=Lh (P:=P) hr hs hvs
 have hm:(fn.results.mapM (Lg a):Sem (Array Value)).run P w=.ok us.toArray w:=by
  rw[Array.mapM_eq_mapM_toList,Sem.run_map,h1];rfl
 split at h
 ·rename_i v';cases h
  match us,h2,h3,hm with
  |[u],h2,h3,hm=>
   refine⟨u,?_,h3 0 _ _ rfl rfl⟩;rw[DQ,Sem.run_bind,hm];simp
 ·rename_i hne;cases h
  have hsz:¬us.toArray.size=1:=λe=>by
   have:us.length=1:=by simpa using e
   match vs,h2,hne with
   |[v'],h2,hne=>grind
   |[],h2,_=>grind
   |_::_::_,h2,_=>grind
  refine⟨.tuple us.toArray,?_,.tup _ _ (by simpa using h2) λj x u hx hu=>h3 j x u hx (by simpa using hu)⟩;rw[DQ,Sem.run_bind,hm];simp only[Result.andThen_ok,dif_neg hsz];rfl
theorem kQ {i:Nat}:∀{L:List Nat} {n k:Nat},placeOf i L n=some k->n<=k/\L[k-n]? =some i
 |j::l,n,k,h=>by
  simp only[placeOf]at h;cases hj:Nat.beq j i<;>simp only[hj,cond_true,cond_false,It]at h
  ·obtain⟨h1,h2⟩:=kQ h;grind
  ·subst h;exact⟨X1 _,by simp[On hj]⟩
theorem ft:∀{L:List Nat},nodup L=true->L.Nodup
 |[],_=>List.nodup_nil
 |k::l,h=>by
  simp only[nodup]at h;cases hk:mem k l<;>simp only[hk,cond_true,cond_false]at h
  ·refine YI.2 ⟨λhm=>?_,ft h⟩;rw[(mem_iff k l).2 hm]at hk;cases hk
  ·cases h
theorem kR {h:aM} {L:List Nat}:∀{l:List (Bool× Ty× Option Nat)} {bs:List Blk},oJ h L l=some bs->bs.length=l.length/\
  ∀(k:Nat) (b:Blk),bs[k]? =some b->∃s,l[k]? =some s/\vl h L s=some b
 |[],bs,e=>by cases e;exact⟨rfl,λk b hb=>by simp at hb⟩
 |i::l,bs,e=>by
  simp only[oJ,An,It]at e;obtain⟨b,h2,l',h3,rfl⟩:=e;obtain⟨g1,g2⟩:=kR h3;grind
def Pl.out (pl:Pl) (L:List Nat):Pl:=⟨λk=>pl.hdr (L.getD k 0),λk=>pl.fp (L.getD k 0),pl.base⟩
def Pl.res (pl:Pl) (S:List (Bool× Ty× Option Nat)):Pl:=
  ⟨λk=>match S[k]? with
    |some (_,_,some i)=>pl.hdr i
    |_=>.slice none 0 0,
   λk p=>match S[k]? with
    |some (_,_,some i)=>pl.fp i p
    |_=>False,pl.base⟩
theorem pb {S:List (Bool× Ty× Option Nat)} {k:Nat} {b:Bool} {t:Ty} {i:Nat} (h:S[k]? =some (b,t,some i)):i∈j6 S:=by
 induction S generalizing k with
 |nil=>simp at h
 |cons x l ih=>
  obtain⟨b',t',o⟩:=x
  cases k with
  |zero=>simp at h;obtain⟨rfl,rfl,rfl⟩:=h;simp[j6]
  |succ k=>
   have:=ih (k:=k) (by simpa using h);cases o<;>simp[j6,this]
theorem G2 {S:List (Bool× Ty× Option Nat)} (hn:(j6 S).Nodup) {k k':Nat} {b b':Bool} {t t':Ty} {i:Nat} (h:S[k]? =some (b,t,some i)) (h':S[k']? =some (b',t',some i)):k=k':=by
 induction S generalizing k k' with
 |nil=>simp at h
 |cons x l ih=>
  obtain⟨b0,t0,o⟩:=x
  cases k with
  |zero=>
   cases k' with
   |zero=>rfl
   |succ k'=>
    simp at h;obtain⟨rfl,rfl,rfl⟩:=h;have:=pb (k:=k') (by simpa using h');simp[j6]at hn
    grind
  |succ k=>
   cases k' with
   |zero=>
    simp at h';obtain⟨rfl,rfl,rfl⟩:=h';have:=pb (k:=k) (by simpa using h);simp[j6]at hn
    grind
   |succ k'=>
    have hn':(j6 l).Nodup:=by
     cases o with
     |none=>exact hn
     |some x=>simp[j6]at hn;exact hn.2
    grind
section
variable {w:World} {H:aM} {pl:Pl} {S:List (Bool× Ty× Option Nat)} {bs:List Blk}
theorem sG (hL:oJ H (j6 S) S=some bs) {k:Nat} {B:Blk} (hB:look (aN 0 bs) k=some B):∃s,S[k]? =some s/\vl H (j6 S) s=some B:=by
 rw[bG,if_pos (Ya _),Yt]at hB;exact(kR hL).2 k B hB
theorem cL {L:List Nat} {b:Bool} {t:Ty} {i:Nat} {B:Blk} (h:vl H L (b,t,some i)=some B):∃sh xs,look H i=some (.arr sh t xs)/\
  ((sh=none/\B=.arr none t xs)\/∃d,sh=some d/\hit L d=false/\B=.arr (some []) t xs):=by
 cases b with
 |false=>
  simp only[vl]at h
  grind
 |true=>
  simp only[vl]at h;grind
theorem O0 (hL:oJ H (j6 S) S=some bs) {d:List Nat} (hd:hit (j6 S) d=false) {p:Cell} (h:okd H pl d p):okd (aN 0 bs) (pl.res S) [] p:=by
 refine⟨h.1,λk B hB _ hf=>?_⟩;obtain⟨⟨b,t,o⟩,h1,h2⟩:=sG hL hB
 cases o with
 |none=>simp[Pl.res,h1]at hf
 |some i=>
  simp only[Pl.res,h1]at hf;obtain⟨sh,xs,hl,_⟩:=cL h2;refine h.2 i _ hl (λhm=>?_) hf;have hm2:=fX _ d hd i hm;rw[(mem_iff i _).2 (pb h1)]at hm2;cases hm2
theorem Lj {r:RT} {v:SV} {s:List (Bool× Ty× Option Nat)} {t:Ty} {b:Bool} (hr:r=if b then .shl t else .own t) (h:r.MP v=some s):(∃i,v=.own i/\s=[(b,t,some i)])\/(v=.cF/\s=[(b,t,none)]):=by
 cases b<;>simp at hr<;>subst hr<;>(cases v<;>simp only[RT.MP]at h<;>first|(cases h;done)|(cases h;first|exact .inl ⟨_,rfl,rfl⟩|exact .inr ⟨rfl,rfl⟩))
theorem Tv (hL:oJ H (j6 S) S=some bs) {k:Nat} {b:Bool} {t:Ty} {v:SV} {u:Value} (hv:ar w H pl v u)
  (h:(∃i,v=.own i/\S[k]? =some (b,t,some i))\/(v=.cF/\S[k]? =some (b,t,none))):ar w (aN 0 bs) (pl.res S) (.own k) u:=by
 have hlt:∀{s},S[k]? =some s->k<bs.length:=λ{s} h=>by rw[(kR hL).1];exact(Of.1 h).1
 have AJ:∀{s},S[k]? =some s->∃B,look (aN 0 bs) k=some B/\vl H (j6 S) s=some B:=λ{s} h=>by
  have hk:=So (hlt h);obtain⟨s',h1,h2⟩:=(kR hL).2 k _ hk;rw[h]at h1;cases h1;exact⟨_,by rw[bG,if_pos (Ya _),Yt];exact hk,h2⟩
 rcases h with⟨i,rfl,h⟩|⟨rfl,h⟩
 ·obtain⟨B,h1,h2⟩:=AJ h;obtain⟨sh,xs,hl,h3⟩:=cL h2
  have e:(pl.res S).hdr k=pl.hdr i:=by simp only[Pl.res,h]
  cases hv with
  |own _ sh' t' ys hl'=>
   rw[<-e]
   rcases h3 with⟨_,rfl⟩|⟨d,_,_,rfl⟩
   ·exact .own k none t xs h1
   ·exact .own k (some []) t xs h1
 ·obtain⟨B,h1,h2⟩:=AJ h
  have e:(pl.res S).hdr k=.slice none 0 0:=by simp only[Pl.res,h]
  cases hv with
  |cF=>
   rw[<-e]
   cases b with
   |false=>cases h2;exact .own k none t [] h1
   |true=>cases h2;exact .own k (some []) t [] h1
section
variable {H2:aM} {plR:Pl} {m:Nat} {LL:List Nat} {gh:List (Option Nat)}
mutual
theorem Fe (hr:cY H pl w) (hown:∀(k:Nat) (b:Bool) (t:Ty) (v:SV) (u:Value),ar w H pl v u->((∃i,v=.own i/\S[k]? =some (b,t,some i))\/(v=.cF/\S[k]? =some (b,t,none)))->ar w H2 plR (.own (m+k)) u)
  (hro:∀d p,hit LL d=false->okd H pl d p->okd H2 plR [] p) (JI:∀i j o u,posOf i gh 0=some j->ar w H pl (.ptr i 0 o) u->ar w H2 plR (.ptr j 0 o) u):(r:RT)->{v v':SV}->{u:Value}->{k k':Nat}->{s:List (Bool× Ty× Option Nat)}->r.MP v=some s->(∀(j:Nat) (x:Bool× Ty× Option Nat),s[j]? =some x->S[k+j]? =some x)->
  r.out H LL gh (m+k) v=some (v',k')->ar w H pl v u->ar w H2 plR v' u/\k'=m+(k+s.length)
 |.sc,v,v',u,k,k',s,hs,hS,h,hv=>by
  simp only[RT.MP,It]at hs;subst hs
  cases hv with
  |r d x _ hx=>cases hx<;>(simp only[RT.out,It,XO]at h)<;>first|(obtain⟨rfl,rfl⟩:=h;exact⟨by first|exact pR|exact nA|exact Jl,rfl⟩)|(exact nomatch h)
  |cF=>
   simp only[RT.out,It,XO]at h;obtain⟨rfl,rfl⟩:=h
   exact⟨.cF,rfl⟩
  |_=>simp[RT.out]at h
 |.own t,v,v',u,k,k',s,hs,hS,h,hv=>by
  simp only[RT.out,It,XO]at h;obtain⟨rfl,rfl⟩:=h
  rcases Lj (b:=false) rfl hs with⟨i,rfl,rfl⟩|⟨rfl,rfl⟩
  ·exact⟨hown k _ t _ u hv (.inl ⟨i,rfl,hS 0 _ rfl⟩),rfl⟩
  ·exact⟨hown k _ t _ u hv (.inr ⟨rfl,hS 0 _ rfl⟩),rfl⟩
 |.shl t,v,v',u,k,k',s,hs,hS,h,hv=>by
  simp only[RT.out,It,XO]at h;obtain⟨rfl,rfl⟩:=h
  rcases Lj (b:=true) rfl hs with⟨i,rfl,rfl⟩|⟨rfl,rfl⟩
  ·exact⟨hown k _ t _ u hv (.inl ⟨i,rfl,hS 0 _ rfl⟩),rfl⟩
  ·exact⟨hown k _ t _ u hv (.inr ⟨rfl,hS 0 _ rfl⟩),rfl⟩
 |.ro t,v,v',u,k,k',s,hs,hS,h,hv=>by
  simp only[RT.MP,It]at hs;subst hs;simp only[RT.out,An]at h;obtain⟨⟨d,xs⟩,h1,h2⟩:=h;cases hd:hit LL d<;>simp only[hd,cond_true,cond_false,It,XO]at h2
  ·obtain⟨rfl,rfl⟩:=h2;exact⟨.r _ _ _ ((rk hr h1 hv).frame λp u hp hu=>⟨hro d p hd hp,hu⟩),rfl⟩
  ·cases h2
 |.agg l,v,v',u,k,k',s,hs,hS,h,hv=>by
  cases hv with
  |agg cs vs h1 h2 h3=>
   simp only[RT.out,An,It,XO]at h;obtain⟨⟨l',k2⟩,h4,rfl,rfl⟩:=h;simp only[RT.MP]at hs;obtain⟨g1,g2,g3⟩:=pc hr hown hro JI l hs hS h4 vs.toList (by simpa using h1) λj x u hx hu=>h3 j x u hx (by simpa using hu)
   exact⟨.agg _ _ (by simpa using g1) h2 λj x u hx hu=>g2 j x u hx (by simpa using hu),g3⟩
  |_=>simp[RT.out]at h
 |.tup l,v,v',u,k,k',s,hs,hS,h,hv=>by
  cases hv with
  |tup cs vs h1 h3=>
   simp only[RT.out,An,It,XO]at h;obtain⟨⟨l',k2⟩,h4,rfl,rfl⟩:=h;simp only[RT.MP]at hs;obtain⟨g1,g2,g3⟩:=pc hr hown hro JI l hs hS h4 vs.toList (by simpa using h1) λj x u hx hu=>h3 j x u hx (by simpa using hu)
   exact⟨.tup _ _ (by simpa using g1) λj x u hx hu=>g2 j x u hx (by simpa using hu),g3⟩
  |_=>simp[RT.out]at h
 |.fn as bs,v,v',u,k,k',s,hs,hS,h,hv=>by
  cases hv with
  |fn f a b us vs h1 h3 h1' h3'=>
   simp only[RT.out,An,It,XO]at h;obtain⟨⟨l',k2⟩,h4,⟨l2',k3⟩,h5,rfl,rfl⟩:=h;simp only[RT.MP,An,It]at hs;obtain⟨s1,e1,s2,e2,rfl⟩:=hs;obtain⟨g1,g2,g3⟩:=pc hr hown hro JI as e1 (λj x hx=>hS j x (by rw[XQ (Of.1 hx).1];exact hx)) h4 us.toList (by simpa using h1) λj x u hx hu=>h3 j x u hx (by simpa using hu);simp only at h5;subst g3
   obtain⟨q1,q2,q3⟩:=pc hr hown hro JI bs e2 (λj x hx=>by
    have:=hS (s1.length+j) x (by rw[XL (by omega),Yk];exact hx)
    rw[Yz];exact this) h5 vs.toList (by simpa using h1') λj x u hx hu=>h3' j x u hx (by simpa using hu)
   exact⟨.fn _ _ _ _ _ (by simpa using g1) (λj x u hx hu=>g2 j x u hx (by simpa using hu)) (by simpa using q1) (λj x u hx hu=>q2 j x u hx (by simpa using hu)),by simp;omega⟩
  |_=>simp[RT.out]at h
 |.ptr,v,v',u,k,k',s,hs,hS,h,hv=>by
  cases v with
  |ptr i x o=>
   cases x with
   |zero=>
    simp only[RT.out,An,It,XO]at h;simp only[RT.MP,It]at hs
    grind
   |succ x=>simp[RT.out]at h
  |_=>simp[RT.out]at h
theorem pc (hr:cY H pl w) (hown:∀(k:Nat) (b:Bool) (t:Ty) (v:SV) (u:Value),ar w H pl v u->((∃i,v=.own i/\S[k]? =some (b,t,some i))\/(v=.cF/\S[k]? =some (b,t,none)))->ar w H2 plR (.own (m+k)) u)
  (hro:∀d p,hit LL d=false->okd H pl d p->okd H2 plR [] p) (JI:∀i j o u,posOf i gh 0=some j->ar w H pl (.ptr i 0 o) u->ar w H2 plR (.ptr j 0 o) u):(l:List RT)->{cs cs':List SV}->{k k':Nat}->{s:List (Bool× Ty× Option Nat)}->Fc l cs=some s->(∀(j:Nat) (x:Bool× Ty× Option Nat),s[j]? =some x->S[k+j]? =some x)->
  QB H LL gh l (m+k) cs=some (cs',k')->(us:List Value)->cs.length=us.length->(∀(j:Nat) (x:SV) (u:Value),cs[j]? =some x->us[j]? =some u->ar w H pl x u)->
  cs'.length=us.length/\(∀(j:Nat) (x:SV) (u:Value),cs'[j]? =some x->us[j]? =some u->ar w H2 plR x u)/\k'=m+(k+s.length)
 |[],[],cs',k,k',s,hs,hS,h,us,hl,_=>by
  simp only[Fc,It]at hs;simp only[QB,It,XO]at h
  grind
 |r::l,v::cs,cs',k,k',s,hs,hS,h,u::us,hl,hp=>by
  simp only[Fc,An,It]at hs;obtain⟨s1,hs1,s2,hs2,rfl⟩:=hs;simp only[QB,An,It,XO]at h;obtain⟨⟨v',k2⟩,h1,⟨l',k3⟩,h2,rfl,rfl⟩:=h;obtain⟨g1,g2⟩:=Fe hr hown hro JI r hs1 (λj x hx=>hS j x (by rw[XQ (Of.1 hx).1];exact hx)) h1 (hp 0 v u rfl rfl);simp only at h2;subst g2
  obtain⟨q1,q2,q3⟩:=pc hr hown hro JI l hs2 (λj x hx=>by
    have:=hS (s1.length+j) x (by rw[XL (by omega),Yk];exact hx)
    rw[Yz];exact this) h2 us (by simpa using hl) λj x u hx hu=>hp (j+1) x u (by simpa using hx) (by simpa using hu)
  refine⟨by simp[q1],λj x u' hx hu=>?_,by simp;omega⟩
  cases j with
  |zero=>grind
  |succ j=>grind
 |[],_::_,_,_,_,_,hs,_,_,_,_,_=>nomatch hs
 |_::_,[],_,_,_,_,hs,_,_,_,_,_=>nomatch hs
end
end
theorem Tw (hr:cY H pl w) (hL:oJ H (j6 S) S=some bs) (r:RT) {v v':SV} {u:Value} {k k':Nat} {s:List (Bool× Ty× Option Nat)} (hs:r.MP v=some s) (hS:∀(j:Nat) (x:Bool× Ty× Option Nat),s[j]? =some x->S[k+j]? =some x)
  (h:r.out H (j6 S) [] k v=some (v',k')) (hv:ar w H pl v u):ar w (aN 0 bs) (pl.res S) v' u/\k'=k+s.length:=by
 have:=Fe (H2:=aN 0 bs) (plR:=pl.res S) (m:=0) (LL:=j6 S) (gh:=[]) hr (λk b t v u hv hc=>by rw[XN];exact Tv hL hv hc) (λd p hd hp=>O0 hL hd hp) (λi j o u h=>nomatch h) r hs hS (by rw[XN];exact h) hv;grind
theorem Rf (hr:cY H pl w) (hn:nodup (j6 S)=true) (hL:oJ H (j6 S) S=some bs):cY (aN 0 bs) (pl.res S) w:=by
  refine⟨λk B hB=>?_,λk k' B B' p h1 h2 f1 f2=>?_,λk B p hB hf=>?_,hr.nb⟩
  · obtain ⟨⟨b, t, o⟩, h1, h2⟩ := sG hL hB
    cases o with
    | none =>
      have e:(pl.res S).hdr k=.slice none 0 0:=by simp only[Pl.res,h1]
      have ef:∀p,¬(pl.res S).fp k p:=λp hp=>by simp[Pl.res,h1]at hp
      have row:∀inner,Nonempty (Row w inner t [] ((pl.res S).hdr k) ((pl.res S).fp k)):=λinner=>
        ⟨⟨none,0,0,0,λ_ _=>undef,λ_ _ _=>False,e,X1 _,.inl rfl,λj hj=>by simp at hj,λi j r h=>by have:=(aO h).1;simp at this,λi j r h=>by have:=(aO h).1;simp at this,
          λi j r p h=>by have:=(aO h).1;simp at this,λi j r i' j' r' p h=>by have:=(aO h).1;simp at this,λp=>⟨λhp=>(ef p hp).elim,λhp=>by
            rcases hp with⟨_,h,h'⟩|⟨i,j,r,h,_⟩
            · omega
            · have:=(aO h).1;simp at this⟩⟩⟩
      cases b with
      |false=>cases h2;exact row _
      |true=>cases h2;exact row _
    | some i =>
      have e:(pl.res S).hdr k=pl.hdr i:=by simp only[Pl.res,h1]
      have ef:(pl.res S).fp k=pl.fp i:=by funext p;simp only[Pl.res,h1]
      obtain⟨sh,xs,hl,h3⟩:=cL h2;have hb:=hr.blk i _ hl
      rcases h3 with⟨rfl,rfl⟩|⟨d,rfl,hd,rfl⟩
      · show Nonempty (Row w (fV w) t xs ((pl.res S).hdr k) ((pl.res S).fp k));rw[e,ef];exact hb
      · obtain⟨⟨a,cap,b,o,vs,fs,q1,q2,q3,q4,q5,q6,q7,q8,q9⟩⟩:=hb;exact⟨⟨a,cap,b,o,vs,fs,e.trans q1,q2,q3,q4,q5,λi j r hc=>⟨(q6 i j r hc).1.frame λp u hp hu=>⟨O0 hL hd hp,hu⟩,(q6 i j r hc).2⟩,q7,q8,λp=>by rw[ef];exact q9 p⟩⟩
  · obtain⟨⟨b,t,o⟩,g1,g2⟩:=sG hL h1;obtain⟨⟨b',t',o'⟩,g1',g2'⟩:=sG hL h2
    cases o with
    |none=>simp[Pl.res,g1]at f1
    | some i =>
      cases o' with
      |none=>simp[Pl.res,g1']at f2
      | some i' =>
        simp only[Pl.res,g1]at f1;simp only[Pl.res,g1']at f2;obtain⟨_,_,hl,_⟩:=cL g2;obtain⟨_,_,hl',_⟩:=cL g2';have:=hr.dis i i' _ _ p hl hl' f1 f2;subst this;exact G2 (ft hn) g1 g1'
  · obtain⟨⟨b,t,o⟩,g1,g2⟩:=sG hL hB
    cases o with
    |none=>simp[Pl.res,g1]at hf
    | some i =>
      simp only[Pl.res,g1]at hf;obtain⟨_,_,hl,_⟩:=cL g2;exact hr.ob i _ p hl hf
end
theorem JJ (args:List Arg) (n t:Nat):look (G1 n args) t=if n<=t then(args[t-n]?).map Arg.sv else none:=by
 induction args generalizing n with
 |nil=>simp[G1,look]
 |cons a l ih=>
  rw[G1,aC,ih];grind
theorem Ff {w:World} {ok:Cell->Prop} {pl:Pl} (hb:∀p,ok p->pl.base p) {rs:List R} {vs:Array Value} (h:Rd w ok rs vs):
  (rs.map (SV.r [])).length=vs.size/\∀(j:Nat) (x:SV) (u:Value),(rs.map (SV.r []))[j]? =some x->vs[j]? =some u->ar w [] pl x u:=by
 refine⟨by simpa using h.1,λj x u hx hu=>?_⟩;rw[Yl]at hx;obtain⟨r,hr,rfl⟩:=XK.1 hx;exact .r _ _ _ ((h.2 j r u hr hu).frame λp u hp hu=>⟨⟨hb p hp,λi B hB=>by simp[look]at hB⟩,hu⟩)
theorem Tx {w:World} {ok:Cell->Prop} {pl:Pl} (hb:∀p,ok p->pl.base p) {x:Arg} {u:Value} (h:tO w ok x u):ar w [] pl x.sv u:=by
 cases x with
 |one r=>exact .r _ _ _ (h.frame λp u hp hu=>⟨⟨hb p hp,λi B hB=>by simp[look]at hB⟩,hu⟩)
 |agg rs=>
  obtain⟨vs,rfl,h⟩:=h;obtain⟨g1,g2⟩:=Ff (pl:=pl) hb h;refine .agg _ _ g1 (λj v hv=>?_) g2
  have hj:j<rs.length:=by rw[h.1];exact(XW.1 hv).1
  exact(h.2 j _ v (So hj) hv).tD
 |fn f a b=>
  obtain⟨us,vs,rfl,h,h'⟩:=h;obtain⟨g1,g2⟩:=Ff (pl:=pl) hb h;obtain⟨g3,g4⟩:=Ff (pl:=pl) hb h';exact .fn _ _ _ _ _ g1 g2 g3 g4
theorem MQ {ρ:Type} {E:Env} (hE:mM E) {LP:Nat->Ev ρ->Ev ρ} {g:FuncId} {fn:Func} {c:Code} {args:List Arg} {r:ρ} {dec:Out->Option ρ} {enc:ρ->Out} (hd:∀o r,dec o=some r->o=enc r) (hf:E.P.funcs[g]? =some fn) (hc:fn.body=some c)
  (hnm:(fn.name== "runtime.NumGoroutine")=false) (hn:Nat.ble args.length fn.ntmps=true) (hLP:jr E LP 0 c) {rt:RT} (h:ev E LP 0 c (st0 fn args) (fin E.P fn rt dec)=some r):mQ E.P g args (enc r):=by
 generalize ho:enc r=out;refine⟨enters_of hf (by rw[hc];rfl) hnm,λw us ok hlen tF hgl=>?_⟩;have hn:=XT hn;refine calls_of_wp hf hc ?_
 let pl0:Pl:=⟨λ_=>undef,λ_ _=>False,λp=>ok p\/w.at? p=none⟩
 have hrel:Rl w ⟨λ_=>False,λ_=>undef,λ_=>.box [],[]⟩ pl0.base fn.ntmps (st0 fn args) {tmps:=us++Array.replicate (fn.ntmps-us.size) undef,defers:=[]} w:=by
  refine⟨pl0,⟨⟨λi B hB=>by simp[st0,look]at hB,λi j B B' p hB=>by simp[st0,look]at hB,λi B p hB=>by simp[st0,look]at hB,λp hp=>.inr hp⟩,λt v hv=>?_,by simp[st0];omega,⟨rfl,hgl⟩,λi _=>rfl,dF.refl w,λp u hp _=>⟨λi B hB=>by simp[st0,look]at hB,hp,rfl⟩,λk i hk=>by simp[st0]at hk⟩,rfl,rfl⟩;simp only[st0]at hv;rw[JJ,if_pos (Ya _),Yt]at hv;obtain⟨x,hx,rfl⟩:=XK.1 hv
  have ht:t<us.size:=by rw[<-hlen];exact(Of.1 hx).1
  have hg:(us++Array.replicate (fn.ntmps-us.size) undef).getD t undef=us[t]:=by
   rw[X4,YO ht,XR ht];rfl
  rw[hg];exact Tx (λp hp=>Or.inl hp) (tF t x _ hx (XR ht))
 refine jt hE c 0 hLP w ⟨λ_=>False,λ_=>undef,λ_=>.box [],[]⟩ pl0.base fn.ntmps _ _ w _ r _ hrel h λe st' a' w' hK hr'=>?_;obtain⟨pl,hr,hb,_⟩:=hr'
 have key:∀v,SB E.P fn st'=some v->canon rt st'.heap v=some out->a'.defers=[]/\∃u,(results fn a'.tmps).run E.P w'=.ok u w'/\∃u' pl',Ending.returned u=.returned u'/\cY (aN 0 out.2) pl' w'/\
   ar w' (aN 0 out.2) pl' out.1 u'/\pl'.base=(λp=>ok p\/w.at? p=none)/\
   (∀p x,w.at? p=some x->w'.at? p=some x/\w'.eK p=w.eK p)/\(∀i B p,look (aN 0 out.2) i=some B->pl'.fp i p->w.at? p=none)/\dF w w':=λv hv hcn=>by
  obtain⟨u,hu,hvr⟩:=Li (P:=E.P) hr.hr hr.sl hv;simp only[canon,An]at hcn;obtain⟨S,hS,hcn⟩:=hcn;cases hnd:nodup (j6 S)<;>simp only[hnd,cond_true,cond_false,An,It]at hcn
  ·cases hcn
  ·obtain⟨bs,hbs,⟨v',k'⟩,hv',rfl⟩:=hcn;refine⟨hr.df.1,u,hu,u,pl.res S,rfl,Rf hr.hr hnd hbs,(Tw hr.hr hbs rt hS (λj x hx=>by rw[XN];exact hx) hv' hvr).1,hb,λp x hp=>?_,λi B p hB hf=>?_,hr.gr⟩
   ·obtain⟨_,g2,g3⟩:=hr.fr p x hp (λh=>h);grind
   ·obtain⟨⟨b,t,o⟩,g1,g2⟩:=sG hbs hB
    cases o with
    |none=>simp[Pl.res,g1]at hf
    |some i'=>
     simp only[Pl.res,g1]at hf;obtain⟨_,_,hl,_⟩:=cL g2
     cases hq:w.at? p with
     |none=>rfl
     |some x=>exact((hr.fr p x hq (λh=>h)).1 i' _ hl hf).elim
 cases e with
 |exit j=>cases hK
 |normal=>
  simp only[fin,An]at hK;obtain⟨v,hv,o,hcn,Tz⟩:=hK
  exact key v hv (hcn.trans (congrArg some ((hd o r Tz).trans ho)))
 |ret=>
  simp only[fin,An]at hK;obtain⟨v,hv,o,hcn,Tz⟩:=hK;exact key v hv (hcn.trans (congrArg some ((hd o r Tz).trans ho)))
end
end
section
variable [Tok] [Glo]
section
variable {w:World} {H:aM} {pl:Pl} {P:Program}
end
inductive Sh where
 |one (t:Ty)
 |agg (ts:List Ty)
 |fn
def toArg (h:aM):Sh->SV->Option (List Nat× Arg)
 |.one t,v=>(v.asR h t).bind λp=>some (p.1,.one p.2)
 |.agg ts,.agg cs=>(NK h ts cs).bind λp=>some (p.1,.agg p.2)
 |.fn,.fn f [] []=>some ([],.fn f [] [])
 |_,_=>none
def DS (h:aM):List Sh->List SV->Option (List Nat× List Arg)
 |[],[]=>some ([],[])
 |s::ss,v::vs=>(toArg h s v).bind λp=>(DS h ss vs).bind λq=>some (p.1++q.1,p.2::q.2)
 |_,_=>none
mutual
def SV.shift (n:Nat) (d:List Nat):SV->SV
 |.own i=>.own (n+i)
 |.r [] x=>mkR d x
 |.cF=>.cF
 |.agg cs=>.agg (vm n d cs)
 |.tup cs=>.tup (vm n d cs)
 |_=>.undef
def vm (n:Nat) (d:List Nat):List SV->List SV
 |[]=>[]
 |v::l=>v.shift n d::vm n d l
end
def Blk.shift (d:List Nat):Blk->Blk
 |.arr none t xs=>.arr none t xs
 |.arr (some _) t xs=>.arr (some d) t xs
 |.box cs=>.box cs
def nD (d:List Nat):List Blk->List Blk
 |[]=>[]
 |b::l=>b.shift d::nD d l
def MR:List Blk->Bool
 |[]=>true
 |.arr none _ _::l=>MR l
 |.arr (some []) _ _::l=>MR l
 |_::_=>false
abbrev PG:=(ρ:Type)->List Arg->(Out->Option ρ)->Option ρ
def JK (ss:List Sh) (G:PG):Orc:=λρ nid vs h K=>
 (DS h ss vs).bind λp=>G ρ p.2 λo=>cond (MR o.2) (K {v:=o.1.shift nid p.1,news:=nD p.1 o.2}) none
def Ll (P:Program) (g:FuncId) (G:PG):Prop:=
 ∀(ρ:Type) args (K:Out->Option ρ) (out:ρ),G ρ args K=some out->∃o,K o=some out/\mQ P g args o
section
variable {w:World} {H:aM} {pl:Pl} {P:Program}
theorem O1 (hr:cY H pl w) {s:Sh} {v:SV} {u:Value} {d:List Nat} {x:Arg} (h:toArg H s v=some (d,x)) (hv:ar w H pl v u):tO w (okd H pl d) x u:=by
 unfold toArg at h;split at h
 ·simp only[An,It,XO]at h;obtain⟨⟨d',r⟩,h1,rfl,rfl⟩:=h;exact wS hr h1 hv
 ·simp only[An,It,XO]at h;obtain⟨⟨d',rs⟩,h1,rfl,rfl⟩:=h
  cases hv with
  |agg cs vs hl h2 h3=>
   obtain⟨g1,g2⟩:=K3 hr h1 (us:=vs.toList) (by simpa using hl) λj x u hx hu=>h3 j x u hx (by simpa using hu);exact⟨vs,rfl,by simpa using g1,λj r u hr hu=>g2 j r u hr (by simpa using hu)⟩
 ·cases h
  cases hv with
  |fn f as bs us vs hl h1 hl' h2=>
   exact⟨us,vs,rfl,⟨hl,λj r u hr _=>by simp at hr⟩,⟨hl',λj r u hr _=>by simp at hr⟩⟩
 ·exact nomatch h
theorem tO.mono {ok ok':Cell->Prop} (hk:∀p,ok p->ok' p) {x:Arg} {u:Value} (h:tO w ok x u):tO w ok' x u:=by
 cases x with
 |one r=>exact RepR.frame h λp u hp hu=>⟨hk p hp,hu⟩
 |agg rs=>obtain⟨vs,e,h1,h2⟩:=h;exact⟨vs,e,h1,λj r u hr hu=>(h2 j r u hr hu).frame λp u hp hu=>⟨hk p hp,hu⟩⟩
 |fn f a b=>
  obtain⟨us,vs,e,⟨h1,h2⟩,h3,h4⟩:=h;exact⟨us,vs,e,⟨h1,λj r u hr hu=>(h2 j r u hr hu).frame λp u hp hu=>⟨hk p hp,hu⟩⟩,h3,λj r u hr hu=>(h4 j r u hr hu).frame λp u hp hu=>⟨hk p hp,hu⟩⟩
theorem DT (hr:cY H pl w):∀{ss:List Sh} {vs:List SV} {us:List Value} {d:List Nat} {xs:List Arg},DS H ss vs=some (d,xs)->vs.length=us.length->
  (∀(j:Nat) (x:SV) (u:Value),vs[j]? =some x->us[j]? =some u->ar w H pl x u)->
  xs.length=us.length/\∀(j:Nat) (x:Arg) (u:Value),xs[j]? =some x->us[j]? =some u->tO w (okd H pl d) x u
 |[],[],us,d,xs,h,hl,_=>by cases h;exact⟨hl,λj r u hr _=>by simp at hr⟩
 |s::ss,v::vs,u::us,d,xs,h,hl,hp=>by
  simp only[DS,An,It,XO]at h;obtain⟨⟨d1,x1⟩,h1,⟨d2,xs2⟩,h2,rfl,rfl⟩:=h;obtain⟨g1,g2⟩:=DT hr h2 (by simpa using hl) λj x u hx hu=>hp (j+1) x u (by simpa using hx) (by simpa using hu);refine⟨by simp[g1],λj r u' hj hu=>?_⟩
  cases j with
  |zero=>simp at hj hu;subst hj hu;exact(O1 hr h1 (hp 0 v u rfl rfl)).mono λp hp=>jm (λi hi=>by rw[mem_append,hi];rfl) hp
  |succ j=>exact(g2 j r u' (by simpa using hj) (by simpa using hu)).mono λp hp=>jm (λi hi=>by rw[mem_append,hi,Y7]) hp
 |[],_::_,_,_,_,h,_,_=>nomatch h
 |_::_,[],_,_,_,h,_,_=>nomatch h
theorem Bd (d:List Nat) (bs:List Blk) (n i:Nat):look (aN n (nD d bs)) i=(look (aN n bs) i).map (Blk.shift d):=by
 induction bs generalizing n with
 |nil=>rfl
 |cons b l ih=>
  rw[nD,aN,aN,aC,aC,ih];by_cases h:n=i<;>simp[h]
theorem xi:∀{bs:List Blk},MR bs=true->∀(k:Nat) (b:Blk),bs[k]? =some b->∃t xs,b=.arr none t xs\/b=.arr (some []) t xs
 |.arr none t xs::l,h,k,b,hb=>by
  cases k with
  |zero=>simp at hb;exact⟨t,xs,.inl hb.symm⟩
  |succ k=>exact xi (bs:=l) h k b (by simpa using hb)
 |.arr (some []) t xs::l,h,k,b,hb=>by
  cases k with
  |zero=>simp at hb;exact⟨t,xs,.inr hb.symm⟩
  |succ k=>exact xi (bs:=l) h k b (by simpa using hb)
def Pl.join (pl po:Pl) (n m:Nat):Pl:=⟨λi=>if i<n\/n+m<=i then pl.hdr i else po.hdr (i-n),λi=>if i<n\/n+m<=i then pl.fp i else po.fp (i-n),pl.base⟩
section
variable {w w':World} {H:aM} {pl po:Pl} {n:Nat} {bs:List Blk} {d:List Nat}
theorem TA {i:Nat} {B:Blk} {bs:List Blk} (h:look (aN 0 bs) i=some B):i<bs.length:=by
 rw[bG,if_pos (Ya _),Yt]at h;exact(Of.1 h).1
theorem qb (d:List Nat):(bs:List Blk)->(nD d bs).length=bs.length
 |[]=>rfl
 |_::l=>by simp[nD,qb d l]
theorem kr {d:List Nat} {bs:List Blk} {n i:Nat} (hi:i<n\/n+bs.length<=i):look (aN n (nD d bs)) i=none:=by
 rw[bG];by_cases h:n<=i
 ·rw[if_pos h,Yb];rw[qb];omega
 ·rw[if_neg h]
theorem xj {H:aM} {n m i:Nat} (hn:∀k,k<m->look H (n+k)=none) (hi:¬(i<n\/n+m<=i)):look H i=none:=by
 have:=hn (i-n) (by omega);rwa [show n+(i-n)=i from by omega]at this
theorem Rg {h h':aM} (hh:Ext h h') (s:Sh) (v:SV):Le (toArg h s v) (toArg h' s v):=by
 intro p hp;unfold toArg at hp;split at hp<;>simp only[toArg]
 ·exact((Gz hh _ _).bind λ_=>Le.refl _) p hp
 ·exact((Jh hh _ _).bind λ_=>Le.refl _) p hp
 ·exact hp
 ·exact nomatch hp
theorem G3 {h h':aM} (hh:Ext h h'):(ss:List Sh)->(vs:List SV)->Le (DS h ss vs) (DS h' ss vs)
 |[],[]=>Le.refl _
 |s::ss,v::vs=>(Rg hh s v).bind λ_=>(G3 hh ss vs).bind λ_=>Le.refl _
 |[],_::_=>Le.refl _
 |_::_,[]=>Le.refl _
theorem Lm (hr:cY H pl w) (hn:∀k,k<bs.length->look H (n+k)=none) (hown:∀i B p,look H i=some B->pl.fp i p->∃u,w.at? p=some u)
  (hb:po.base=λp=>okd H pl d p\/w.at? p=none) {p:Cell} (h:okd (aN 0 bs) po [] p):okd (H++aN n (nD d bs)) (pl.join po n bs.length) d p:=by
 have wY:okd H pl d p\/w.at? p=none:=by have:=h.1;rw[hb]at this;exact this
 refine⟨wY.elim (λh=>h.1) (hr.nb p),λi B hB hm hf=>?_⟩;by_cases hi:i<n\/n+bs.length<=i
 ·simp only[Pl.join,if_pos hi]at hf
  have hB':look H i=some B:=by
   rw[aJ,kr hi]at hB;simpa using hB
  rcases wY with h'|h'
  ·exact h'.2 i B hB' hm hf
  ·obtain⟨u,hu⟩:=hown i B p hB' hf;rw[h']at hu;exact nomatch hu
 ·simp only[Pl.join,if_neg hi]at hf;rw[aJ,xj hn hi,Bd,bG,if_pos (by omega)]at hB;simp only[Option.none_or,XK]at hB;obtain⟨b0,hb0,rfl⟩:=hB;exact h.2 (i-n) b0 (by rw[bG,if_pos (Ya _),Yt];exact hb0) (λhm=>by simp[mem]at hm) hf
theorem G4 (hn:∀k,k<bs.length->look H (n+k)=none) (k:Nat) (hk:k<bs.length):look (H++aN n (nD d bs)) (n+k)=(look (aN 0 bs) k).map (Blk.shift d):=by
 rw[aJ,hn _ hk,Bd,bG,bG,if_pos (by omega),if_pos (Ya _),Yk,Yt];rfl
mutual
theorem G5 (hr:cY H pl w) (hn:∀k,k<bs.length->look H (n+k)=none) (hown:∀i B p,look H i=some B->pl.fp i p->∃u,w.at? p=some u)
  (hb:po.base=λp=>okd H pl d p\/w.at? p=none):(v:SV)->{u:Value}->ar w' (aN 0 bs) po v u->ar w' (H++aN n (nD d bs)) (pl.join po n bs.length) (v.shift n d) u
 |.own i,u,h=>by
  cases h with
  |own _ sh t xs hl=>
   have hib:i<bs.length:=TA hl;have hk:=G4 (d:=d) (bs:=bs) hn i hib;rw[hl]at hk
   have hh:(pl.join po n bs.length).hdr (n+i)=po.hdr i:=by
    show(if n+i<n\/n+bs.length<=n+i then _ else po.hdr (n+i-n))=po.hdr i;rw[if_neg (by omega),Yk]
   rw[<-hh]
   cases sh with
   |none=>exact .own (n+i) none t xs hk
   |some d0=>exact .own (n+i) (some d) t xs hk
 |.r [] x,u,h=>by
  cases h with
  |r _ _ _ hx=>exact AD (hx.frame λp u hp hu=>⟨Lm hr hn hown hb hp,hu⟩)
 |.r (_::_) x,u,h=>.undef _
 |.cF,u,h=>by cases h;exact .cF
 |.agg cs,u,h=>by
  cases h with
  |agg _ vs h1 h2 h3=>
   obtain⟨g1,g2⟩:=xk hr hn hown hb cs vs.toList (by simpa using h1) λj x u hx hu=>h3 j x u hx (by simpa using hu)
   exact .agg _ _ (by simpa using g1) h2 λj x u hx hu=>g2 j x u hx (by simpa using hu)
 |.tup cs,u,h=>by
  cases h with
  |tup _ vs h1 h3=>
   obtain⟨g1,g2⟩:=xk hr hn hown hb cs vs.toList (by simpa using h1) λj x u hx hu=>h3 j x u hx (by simpa using hu)
   exact .tup _ _ (by simpa using g1) λj x u hx hu=>g2 j x u hx (by simpa using hu)
 |.qZ,_,_=>.undef _
 |.sub _ _ _,_,_=>.undef _
 |.bsl _ _,_,_=>.undef _
 |.ptr _ _ _,_,_=>.undef _
 |.inn _ _ _,_,_=>.undef _
 |.lB _ _,_,_=>.undef _
 |.fn _ _ _,_,_=>.undef _
 |.undef,_,_=>.undef _
theorem xk (hr:cY H pl w) (hn:∀k,k<bs.length->look H (n+k)=none) (hown:∀i B p,look H i=some B->pl.fp i p->∃u,w.at? p=some u)
  (hb:po.base=λp=>okd H pl d p\/w.at? p=none):(cs:List SV)->(us:List Value)->cs.length=us.length->
  (∀(j:Nat) (x:SV) (u:Value),cs[j]? =some x->us[j]? =some u->ar w' (aN 0 bs) po x u)->
  (vm n d cs).length=us.length/\∀(j:Nat) (x:SV) (u:Value),(vm n d cs)[j]? =some x->us[j]? =some u->ar w' (H++aN n (nD d bs)) (pl.join po n bs.length) x u
 |[],us,hl,_=>⟨hl,λj x u hx _=>by simp[vm]at hx⟩
 |v::cs,u::us,hl,hp=>by
  obtain⟨g1,g2⟩:=xk hr hn hown hb cs us (by simpa using hl) λj x u hx hu=>hp (j+1) x u (by simpa using hx) (by simpa using hu);refine⟨by simp[vm,g1],λj x u' hx hu=>?_⟩
  cases j with
  |zero=>simp[vm]at hx hu;subst hx hu;exact G5 hr hn hown hb v (hp 0 v u rfl rfl)
  |succ j=>exact g2 j x u' (by simpa[vm]using hx) (by simpa using hu)
end
theorem O3 (hgr:dF w w') (hr:cY H pl w) (hn:∀k,k<bs.length->look H (n+k)=none) (hg:MR bs=true) (hro:cY (aN 0 bs) po w') (hb:po.base=λp=>okd H pl d p\/w.at? p=none)
  (hold:∀p x,w.at? p=some x->w'.at? p=some x/\w'.eK p=w.eK p) (IV:∀i B p,look (aN 0 bs) i=some B->po.fp i p->w.at? p=none):
  c7 H (H++aN n (nD d bs)) ([],[]) pl (pl.join po n bs.length) w w':=by
 have hown:=hr.gy
 have zx:∀i B,look (H++aN n (nD d bs)) i=some B->((i<n\/n+bs.length<=i)/\look H i=some B)\/(¬(i<n\/n+bs.length<=i)/\∃b0,look (aN 0 bs) (i-n)=some b0/\B=b0.shift d):=λi B hB=>by
  by_cases hi:i<n\/n+bs.length<=i
  ·rw[aJ,kr hi]at hB;exact .inl ⟨hi,by simpa using hB⟩
  ·rw[show i=n+(i-n)from by omega,G4 hn _ (by omega)]at hB;obtain⟨b0,h1,h2⟩:=XK.1 hB;exact .inr ⟨hi,b0,h1,h2.symm⟩
 have hlt:∀i B,look H i=some B->(i<n\/n+bs.length<=i):=λi B hB=>by
  by_cases hi:i<n\/n+bs.length<=i
  ·exact hi
  ·rw[xj hn hi]at hB;exact nomatch hB
 have tE:lM ([],[]) w H pl w' (H++aN n (nD d bs)) (pl.join po n bs.length):=by
  refine⟨λi B hB _=>⟨B,by rw[aJ,hB];rfl,B.dB,by simp only[Pl.join,if_pos (hlt i B hB)]⟩,λd' p u _ hok hu=>⟨⟨hok.1,λi B hB hm hf=>?_⟩,(hold p u hu).1⟩⟩
  rcases zx i B hB with⟨hi,hB'⟩|⟨hi,b0,h1,_⟩
  ·simp only[Pl.join,if_pos hi]at hf;exact hok.2 i B hB' hm hf
  ·simp only[Pl.join,if_neg hi]at hf;rw[IV _ b0 p h1 hf]at hu;exact nomatch hu
 refine⟨⟨λi B hB=>?_,λi j B B' p h1 h2 f1 f2=>?_,λi B p hB hf=>?_,λp hp=>hr.nb p ?_⟩,tE,rfl,hgr,λp u hp hno=>⟨λi B hB hf=>?_,hold p u hp⟩⟩
 ·rcases zx i B hB with⟨hi,hB'⟩|⟨hi,b0,h1,rfl⟩
  ·exact(hr.blk i B hB').bJ tE (by simp only[Pl.join,if_pos hi]) (λp=>by simp only[Pl.join,if_pos hi]) (λp u _ hu=>hold p u hu) B.dC
  ·have hbl:=hro.blk _ b0 h1
   have AJ:bs[i-n]? =some b0:=by rw[bG,if_pos (Ya _),Yt]at h1;exact h1
   have e1:(pl.join po n bs.length).hdr i=po.hdr (i-n):=by simp only[Pl.join,if_neg hi]
   have e2:(pl.join po n bs.length).fp i=po.fp (i-n):=by simp only[Pl.join,if_neg hi]
   obtain⟨t,xs,rfl|rfl⟩:=xi hg _ _ AJ
   ·show Nonempty (Row w' (fV w') t xs ((pl.join po n bs.length).hdr i) ((pl.join po n bs.length).fp i));rw[e1,e2];exact hbl
   ·obtain⟨⟨a,cap,b,o,vs,fs,q1,q2,q3,q4,q5,q6,q7,q8,q9⟩⟩:=hbl;refine⟨⟨a,cap,b,o,vs,fs,by rw[e1];exact q1,q2,q3,q4,q5,λi j r hc=>⟨(q6 i j r hc).1.frame λp u hp hu=>⟨Lm hr hn hown hb hp,hu⟩,(q6 i j r hc).2⟩,q7,q8,λp=>by rw[e2];exact q9 p⟩⟩
 ·rcases zx i B h1 with⟨hi,q1⟩|⟨hi,b0,q1,_⟩<;>rcases zx j B' h2 with⟨hj,q2⟩|⟨hj,b1,q2,_⟩
  ·simp only[Pl.join,if_pos hi]at f1;simp only[Pl.join,if_pos hj]at f2;exact hr.dis i j _ _ p q1 q2 f1 f2
  ·simp only[Pl.join,if_pos hi]at f1;simp only[Pl.join,if_neg hj]at f2;obtain⟨u,hu⟩:=hown i _ p q1 f1;rw[IV _ _ p q2 f2]at hu;exact nomatch hu
  ·simp only[Pl.join,if_neg hi]at f1;simp only[Pl.join,if_pos hj]at f2;obtain⟨u,hu⟩:=hown j _ p q2 f2;rw[IV _ _ p q1 f1]at hu;exact nomatch hu
  ·simp only[Pl.join,if_neg hi]at f1;simp only[Pl.join,if_neg hj]at f2;have:=hro.dis _ _ _ _ p q1 q2 f1 f2;omega
 ·rcases zx i B hB with⟨hi,q1⟩|⟨hi,b0,q1,_⟩
  ·simp only[Pl.join,if_pos hi]at hf;exact hr.ob i B p q1 hf
  ·simp only[Pl.join,if_neg hi]at hf;exact hr.nb p (IV _ _ p q1 hf)
 ·cases hq:w.at? p with
  |none=>rfl
  |some u=>rw[(hold p u hq).1]at hp;exact nomatch hp
 ·rcases zx i B hB with⟨hi,q1⟩|⟨hi,b0,q1,_⟩
  ·simp only[Pl.join,if_pos hi]at hf;exact hno i B q1 hf
  ·simp only[Pl.join,if_neg hi]at hf;rw[IV _ _ p q1 hf]at hp;exact nomatch hp
end
theorem DU {g:FuncId} {ss:List Sh} {G:PG} (h:Ll P g G):tG P g (JK ss G):=by
 intro ρ nid vs H K out hK;simp only[JK,An]at hK;obtain⟨⟨d,args⟩,tF,hG⟩:=hK;obtain⟨o,ho,hen,G6⟩:=h ρ args _ out hG;cases hg:MR o.2<;>simp only[hg,cond_true,cond_false]at ho
 ·exact nomatch ho
 ·refine⟨_,ho,hen,λi B hB=>by simp[look]at hB,λH1 pl w us he hr hgl hn hl hp H' ha=>?_⟩;have hn:∀k,k<o.2.length->look H1 (nid+k)=none:=λk hk=>hn k (by rw[qb];exact hk);obtain⟨g1,g2⟩:=DT (us:=us.toList) hr (G3 he _ _ _ tF) (by simpa using hl) λj x u hx hu=>hp j x u hx (by simpa using hu);refine(G6 w us (okd H1 pl d) (by simpa using g1) (λj x u hx hu=>g2 j x u hx (by simpa using hu)) (hgl.bJ (dF.refl w) λp u hp _=>⟨id,hp⟩)).mono λe w' ⟨u,po,he,h1,h2,h3,h4,h5,h6⟩=>?_;cases ha;have hst:=O3 (d:=d) h6 hr hn hg h1 h3 h4 h5;exact⟨u,_,he,hst,G5 hr hn hr.gy h3 o.1 h2⟩
end
end
end Go.Proofs.Ev
