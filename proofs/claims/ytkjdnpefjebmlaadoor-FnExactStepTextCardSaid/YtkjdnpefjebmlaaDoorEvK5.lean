/- The evaluator over the model's code, and that it is sound: part 5. -/
import Derived.Test.YtkjdnpefjebmlaaDoorEvK4
import Derived.Tactics
import Derived.LoopN
import Derived.Scope
set_option linter.unusedVariables false
set_option linter.unusedSimpArgs false
set_option linter.unusedSectionVars false
namespace Go.Proofs.Ev
section
variable [Tok] [Glo]
theorem nz {r:DR} {X X':SH} (h:r.app X=some X') (hup:∀i B,look r.c.upd i=some B->∃B',look X.2 i=some B'):∃H',after X.2 r.n0 r.c=some H':=by
 unfold DR.app at h;unfold after;rw[iB hup];simp only[An,AP]at h;grind
theorem tz {r:DR} {X X':SH} {H':ak} (hx:r.app X=some X') (hup:∀i B,look r.c.upd i=some B->∃B',look X.2 i=some B') (ha:after X.2 r.n0 r.c=some H'):X'.2=H':=by
 unfold DR.app at hx;unfold after at ha;rw[iB hup]at ha;simp only[An,AP]at hx ha;grind
theorem yF {E:Env} {op:Op} {c:CR} (h:okW E op c=true):dw E op=false->c.kil.2=[]/\c.upd=[]:=by
 intro hw;unfold okW at h;rw[hw]at h;simp only[cond_false,AW]at h;exact⟨bf h.1,bf h.2⟩
def unl (l:Array Bool):Nat:=l.toList.countP (λb=>!b)
theorem countP_set {l:List Bool}:∀{i:Nat},l[i]? =some false->(l.set i true).countP (λb=>!b)+1=l.countP (λb=>!b):=by
 grind
theorem wS {l:Array Bool} {i:Nat} (h:l.getD i true=false):unl (l.setIfInBounds i true)+1=unl l:=by
 unfold unl;rw[Array.toList_setIfInBounds];refine countP_set ?_;rw[A7]at h;grind
theorem uZ {l:Array Bool} (h:unl l=0) (i:Nat):l.getD i true=true:=by
 unfold unl at h;rw[A7]
 cases hq:l[i]? with
 |none=>rfl
 |some b=>
  cases b
  ·have hm:false∈l.toList:=by
    grind
   grind
  ·rfl
theorem lz {l:Array Bool} {i:Nat} (hi:i<l.size):l.getD i true=l.getD i false:=by
 grind
section
variable {E:Env} {cR:Array Oper} {ai:List Nat} {s0:List (Nat× SV)} {h0:ak} {nid0 nidE n:Nat} {gh:List (Option Nat)} {rs:List DR} {XF:SH} {w0:World} {fp0:G0} {bs:Cell->Prop} {Q:Exit->Act->World->Prop}
def lp (l:Array Bool):Nat->Bool:=λj=>l.getD j false
def vT (ops:Array Oper) (aD:Array Bool):Prop:=∀(j:Nat) (o:Oper),ops.toList[j]? =some o->lp aD j=true->∀e∈o.after.toList,Region.binds .any e=true->lp aD e.on=true
theorem rJ (hm:pg cR.toList ai) {aD:Array Bool} (hs:aD.size=cR.size) (hr:Region.ready .any cR aD=[]):∀j,j<cR.size->lp aD j=true:=by
 intro j
 induction j using Nat.strongRecOn with
 |_ j ih=>
  intro hj
  cases hl:lp aD j with
  |true=>rfl
  |false=>
   have:j∈Region.ready .any cR aD:=mem_ready.2 ⟨by rw[lz (by omega)];exact hl,cR[j],by simp[hj],λe he hb=>by
    have hlt:=hm.back j cR[j] (by rw[Bs];simp[hj]) e (by simpa using he) hb
    exact ih e.on hlt (by omega)⟩
   rw[hr]at this;cases this
theorem u6 (hm:pg cR.toList ai) (F:nx E cR.toList ai (cn cR.toList) s0 h0 nid0 rs cR.size nidE) (hp:kZ (kG h0 rs) ai 0 rs=true) (hla:k5 (kG h0 rs) rs=true)
    (hnd:eH (cn cR.toList)=true) (hlt:qZ n (cn cR.toList)=true) (zf:replay (λ_=>true) 0 rs (s0,h0)=some XF) (hfr:∀i,nid0<=i->look h0 i=none) (hgh:∀(k i:Nat),gh[k]? =some (some i)->i<nid0)
    (hQ:∀a w,Rl w0 fp0 bs n ⟨XF.1,XF.2,nidE,n,gh⟩ a w->Q .normal a w):
    ∀ (f : Nat) (aD : Array Bool) (a : Act) (w : World) (X : SH), aD.size = cR.size -> unl aD <= f -> vT cR aD -> replay (lp aD) 0 rs (s0, h0) = some X ->
      (∀k B0,look h0 k=some B0->(∀r∈rs,mem k r.c.kil.1=false)->∃B,look X.2 k=some B/\B0.ec B)->
      Rl w0 fp0 bs n ⟨X.1,X.2,nidE,n,gh⟩ a w->wpAny E.P .any cR Q f aD a w:=by
  have done:∀(aD:Array Bool) (a:Act) (w:World) (X:SH),aD.size=cR.size->replay (lp aD) 0 rs (s0,h0)=some X->Rl w0 fp0 bs n ⟨X.1,X.2,nidE,n,gh⟩ a w->
      Region.ready .any cR aD=[]->Q .normal a w:=λaD a w X hs hX hR hr=>by
    have uv:=rJ hm hs hr;rw[cK (q:=λ_=>true) rs 0 _ λj hj=>by rw[F.len]at hj;rw[AY];exact uv j hj,zf]at hX;grind
  intro f
  induction f with
  | zero =>
    intro aD a w X hs hu hc hX hLK hR
    have hr:Region.ready .any cR aD=[]:=by
      cases hq:Region.ready .any cR aD with
      |nil=>rfl
      | cons i l =>
        have hi:i∈Region.ready .any cR aD:=by rw[hq];simp
        have:=(mem_ready.1 hi).1;rw[uZ (by omega) i]at this;cases this
    exact⟨hr,done aD a w X hs hX hR hr⟩
  | succ f ih =>
    intro aD a w X hs hu hc hX hLK hR;refine⟨done aD a w X hs hX hR,λi hi=>?_⟩;obtain⟨hun,o,ho,yG⟩:=mem_ready.1 hi;have hil:i<cR.size:=(A2.1 ho).1
    have ho':cR.toList[i]? =some o:=by rwa [Bs]
    have hpi:lp aD i=false:=by unfold lp;rw[<-lz (by omega)];exact hun
    obtain⟨r,hr⟩:∃r,rs[i]? =some r:=⟨_,AU (by rw[F.len];exact hil)⟩;obtain⟨wP,hok,x,t,hx,hw,Ay⟩:=F.zJ i o r ho' hr;have xy:∀j,(ai.getD i 0).testBit j=true->lp aD j=true:=hm.closed hc i i o (Bh _) ho' λe he hb=>yG e (by simpa using he) hb
    have xz:∀(j:Nat) (b:DR),rs[j]? =some b->∃oj,cR.toList[j]? =some oj/\b.dst=oj.dst/\okW E oj.op b.c=true:=λj b hb=>by
      have hj:j<cR.toList.length:=by have:=(AQ.1 hb).1;rw[F.len]at this;simpa using this
      obtain⟨g1,g2,_⟩:=F.zJ j _ b (AU hj) hb;grind
    have gi:∀(j:Nat),lp aD j=true->(ai.getD j 0).testBit i=false:=λj hj=>by
      cases hq:(ai.getD j 0).testBit i with
      |false=>rfl
      | true =>
        cases hoj:cR.toList[j]? with
        | none =>
          have:lp aD j=false:=by
            unfold lp;grind
          grind
        | some oj =>
          have:=hm.closed hc j j oj (Bh _) hoj (λe he hb=>hc j oj hoj hj e he hb) i hq;grind
    have hcomm1:∀(j:Nat) (b:DR),j<i->rs[j]? =some b->(ai.getD i 0).testBit j=false->fL (kG h0 rs) b r=true:=λj b hj hb uP=>by
      have:=gq hp j i b r hj hb hr;grind
    have hcomm2:∀(j:Nat) (b:DR),i<j->rs[j]? =some b->lp aD j=true->fL (kG h0 rs) r b=true:=λj b hj hb hl=>by
      have:=gq hp i j r b hj hr hb;grind
    have o7:∀(j j':Nat) (b b':DR) k,j≠j'->rs[j]? =some b->rs[j']? =some b'->b.gm k->¬b'.gm k:=λj j' b b' k hne h1 h2 m1 m2=>by
      rcases Nat.lt_or_gt_of_ne hne with h|h
      · have:=F.ord j j' b b' h h1 h2;have:=m1.2;have:=m2.1;omega
      · have:=F.ord j' j b' b h h2 h1;have:=m2.2;have:=m1.1;omega
    have hdd:∀(j j':Nat) (b b':DR) t,j≠j'->rs[j]? =some b->rs[j']? =some b'->b.dst=some t->b'.dst≠some t:=λj j' b b' t hne h1 h2 hb hb'=>by
      obtain⟨oj,q1,q2,_⟩:=xz j b h1;obtain⟨oj',q1',q2',_⟩:=xz j' b' h2;exact lx (eo hnd) hne q1 q1' (q2▸hb) (q2'▸hb')
    have iC:∀(b:DR) (j k:Nat),rs[j]? =some b->b.gm k->look h0 k=none:=λb j k hb hk=>hfr k (by have:=(F.lo j b hb).1;have:=hk.1;omega)
    have hx':replay (Nat.testBit (ai.getD i 0)) 0 rs (dO (uF ai i 0 cR.toList) s0 (bg o.op.operands.toList),h0)=some x:=by
      have hsp:=BD i rs;rw[<-hsp,ba,hx,A5];refine ep _ _ _ λj hj=>?_
      have hti:(rs.take i).length=i:=by rw[Bj,F.len];omega
      rw[hti,AY]
      cases hq:(ai.getD i 0).testBit (i+j)with
      |false=>rfl
      |true=>have:=hm.lt ho' hq;omega
    have yH:∀(j:Nat) (b:DR),rs[j]? =some b->lp aD j=true->(ai.getD i 0).testBit j=false->bA (kG h0 rs) r=false->b.c.kil.2=[]/\uG r.see b.c.upd=false:=λj b hb h1 h2 hi=>by
      have idle:bA (kG h0 rs) b=true->b.c.kil.2=[]/\uG r.see b.c.upd=false:=λh=>by
        obtain⟨_,g1,g2,_⟩:=bh h;exact⟨g1,by rw[g2];rfl⟩
      rcases Nat.lt_trichotomy j i with h|h|h
      · rcases bm (hcomm1 j b h hb h2)with⟨q,_⟩|⟨q,_⟩|⟨_,_,q⟩
        · exact idle q
        · rw[hi]at q;cases q
        · exact⟨(bW q).1,(nv q).1⟩
      · subst h;rw[hpi]at h1;cases h1
      · rcases bm (hcomm2 j b h hb h1)with⟨q,_⟩|⟨q,_⟩|⟨_,_,q⟩
        · rw[hi]at q;cases q
        · exact idle q
        · exact⟨(bW q).2.1,(nv q).2⟩
    have Az:∀(j:Nat) (b:DR),rs[j]? =some b->lp aD j=true->(ai.getD i 0).testBit j=false->bA (kG h0 rs) r=true->r.c.v.al b.c.kil=r.c.v:=λj b hb h1 h2 hi=>by
      rcases Nat.lt_trichotomy j i with h|h|h
      · rcases bm (hcomm1 j b h hb h2)with⟨q,_⟩|⟨_,q⟩|⟨_,q,_⟩
        · exact gQ (bh q).2.1
        · exact q
        · rw[hi]at q;cases q
      · subst h;rw[hpi]at h1;cases h1
      · rcases bm (hcomm2 j b h hb h1)with⟨_,q⟩|⟨q,_⟩|⟨q,_,_⟩
        · exact q
        · exact gQ (bh q).2.1
        · rw[hi]at q;cases q
    have hfirm2:∀(j:Nat) (b:DR),rs[j]? =some b->lp aD j=true->(ai.getD i 0).testBit j=false->bA (kG h0 rs) r=true->∀u∈r.uE,u.al b.c.kil=u:=λj b hb h1 h2 hi=>by
      rcases Nat.lt_trichotomy j i with h|h|h
      · exact(qA (hcomm1 j b h hb h2)).2 hi
      · subst h;rw[hpi]at h1;cases h1
      · exact(qA (hcomm2 j b h hb h1)).1 hi
    have hg0:bA (kG h0 rs) r=false->∀(j:Nat) (b:DR),rs[j]? =some b->lp aD (0+j)=true->(ai.getD i 0).testBit (0+j)=false->b.c.kil.2=[]:=λhi j b hb h1 h2=>by
      rw[AY]at h1 h2;exact(yH j b hb h1 h2 hi).1
    have hes:bA (kG h0 rs) r=false->Ext x.1 X.1:=λhi=>fw rs 0 _ _ x X xy hx' hX (λt v hv=>by
        exact(c9 hv).2)
      (λt v hv j b hb hj _ hdt=>by
        obtain⟨oj,q1,q2,_⟩:=xz j b hb;rw[AY]at hj
        exact(c9 hv).1 (mB q1 (q2▸hdt) (by rw[AY];exact gi j hj))) hdd (hg0 hi)
    have hes0:bA (kG h0 rs) r=true->r.uE=lW x.1 (bg o.op.operands.toList)->Ext (dO [] x.1 (bg o.op.operands.toList)) X.1:=λhi hbl t u hu=>by
      have hxt:=(c9 hu).2
      have hmv:u∈r.uE:=by rw[hbl];exact rI hu
      refine et rs 0 _ _ x X xy hx' hX hxt (λj b hb h1 h2=>⟨λhdt=>?_,hfirm2 j b hb (by rwa [AY]at h1) (by rwa [AY]at h2) hi u hmv⟩) (λu hu=>⟨[],(c9 hu).2,by simp⟩);rw[AY]at h1 h2
      rcases eu rs 0 _ x hx' hxt with⟨u0,hu0⟩|⟨j',b',g1,g2,g3⟩
      · obtain⟨oj,q1,q2,_⟩:=xz j b hb;exact(c9 hu0).1 (mB q1 (q2▸hdt) (by rw[AY];exact gi j h1))
      · rw[AY]at g2
        have hne:j≠j':=λe=>by subst e;rw[h2]at g2;cases g2
        exact hdd j j' b b' t hne hb g1 hdt g3
    have heh:r.see=zy E ai i cR.toList x o->r.len=false->Ext (q0 E ai i cR.toList x o) X.2:=λAA hnl=>by
      cases hb:iV E ai i 0 cR.toList with
      | true =>
        unfold q0;rw[hb,cond_true,<-AA];intro k B hB;obtain⟨m1,m2⟩:=er hB
        cases kS:bA (kG h0 rs) r with
        | true =>
          have hcm:=(bh kS).1;unfold kG at hcm;rw[hnl]at hcm;obtain⟨B0,hB0,hst⟩:=ny hcm m1;have e1:=dA rs 0 _ x hst (by exact hB0) hx';have e2:=dA rs 0 _ X hst (by exact hB0) hX
          rw[e2,<-m2,e1]
        |false=>
        refine dk (S:=λk=>mem k r.see=true) rs 0 _ _ x X xy hx' hX (λ_ _ _ h=>h) (λj b k hb hk=>iC b j k hb hk) (λj j' b b' k=>o7 j j' b b' k) (λj b hjb h1 h2=>?_) k B m1 m2;rw[AY]at h1 h2;have hc:=yH j b hjb h1 h2 kS
        exact⟨hc.1,nw hc.2⟩
      | false =>
        unfold q0;rw[hb,cond_false];intro k B hB;refine dk (S:=λ_=>True) rs 0 _ _ x X xy hx' hX (λ_ _ _ h=>h) (λj b k hb hk=>iC b j k hb hk) (λj j' b b' k=>o7 j j' b b' k) (λj b hjb h1 h2=>?_) k B trivial hB;rw[AY]at h1 h2;obtain⟨oj,q1,q2,q3⟩:=xz j b hjb
        have hq:b.c.kil.2=[]/\b.c.upd=[]:=by
          refine yF q3 ?_
          cases hwr:dw E oj.op with
          |false=>rfl
          | true =>
            have:=j7 hb j oj q1 hwr;rw[AY]at this;simp only[xP,BV]at this
            rcases this with h|h|h
            · have:=AR h;subst this;rw[hpi]at h1;cases h1
            · rw[h2]at h;cases h
            · rw[gi j h1]at h;cases h
        exact⟨hq.1,λ_ _=>by rw[hq.2];rfl⟩
    have vU:∀k,k<r.c.news.length->look X.2 (r.n0+k)=none:=λk hk=>by
      cases hq:look X.2 (r.n0+k)with
      |none=>rfl
      | some B =>
        have hmk:r.gm (r.n0+k):=⟨by omega,by omega⟩
        rcases dV rs 0 _ X hX _ B hq with⟨B',hB'⟩|⟨j,b,g1,g2,g3⟩
        · have:=iC r i _ hr hmk;rw[this]at hB';cases hB'
        · rw[AY]at g2
          have hne:j≠i:=λe=>by subst e;rw[hpi]at g2;cases g2
          exact(o7 j i b r _ hne g1 hr g3 hmk).elim
    obtain ⟨X', zg⟩ : ∃ X', r.app X = some X' := by
      cases hg:r.c.kil.2 with
      |nil=>exact⟨_,cg hg X⟩
      | cons b0 T =>
        have kS:bA (kG h0 rs) r=false:=by
          cases hq:bA (kG h0 rs) r with
          |false=>rfl
          |true=>have:=(bh hq).2.1;rw[hg]at this;cases this
        have hsp:rs=rs.take i++r::rs.drop (i+1):=by
          have hlen:i<rs.length:=by rw[F.len];exact hil
          conv=>lhs;rw[<-BD i rs]
          rw[List.drop_eq_getElem_cons hlen,(AQ.1 hr).2]
        have hti:(rs.take i).length=i:=by rw[Bj,F.len];omega
        have zK:∀(j:Nat) (b:DR),rs[j]? =some b->lp aD (0+j)≠(λj=>decide (j<i)) (0+j)->bA (kG h0 rs) b=true:=λj b hb hne=>by
          rw[AY]at hne
          rcases Nat.lt_trichotomy j i with h|h|h
          · simp only[h,decide_true]at hne
            have hno:(ai.getD i 0).testBit j=false:=by
              cases hq:(ai.getD i 0).testBit j with
              |false=>rfl
              |true=>exact absurd (xy j hq) hne
            rcases bm (hcomm1 j b h hb hno)with⟨q,_⟩|⟨q,_⟩|⟨_,_,q⟩
            · exact q
            · rw[kS]at q;cases q
            · have:=(bW q).2.1;rw[hg]at this;cases this
          · subst h;rw[hpi]at hne;simp at hne
          · have hl:lp aD j=true:=by
              cases hq:lp aD j with
              |true=>rfl
              |false=>rw[hq]at hne;simp at hne;omega
            rcases bm (hcomm2 j b h hb hl)with⟨q,_⟩|⟨q,_⟩|⟨_,_,q⟩
            · rw[kS]at q;cases q
            · exact q
            · have:=(bW q).1;rw[hg]at this;cases this
        obtain⟨X0,hX0,hh⟩:=dn (p':=λj=>decide (j<i)) rs 0 (s0,h0) (s0,h0) X zK rfl hX
        have hXp:replay (λ_=>true) 0 (rs.take i) (s0,h0)=some X0:=by
          rw[hsp,ba,hti,AY]at hX0;rw[cK (q:=λj=>decide (j<i)) _ _ _ λj hj=>by rw[hti]at hj;rw[AY];exact(decide_eq_true hj).symm];rw[An]at hX0;obtain⟨y,hy,hX0⟩:=hX0;rw[ep _ _ _ λj _=>decide_eq_false (by omega)]at hX0;cases hX0;exact hy
        rw[hsp,ba,hXp]at zf;simp only[A5,replay,cond_true,An]at zf;obtain⟨y,hy,_⟩:=zf;obtain⟨y',hy',_⟩:=e7 hh.symm hy;exact⟨y',hy'⟩
    have zI:lp (aD.setIfInBounds i true) i=true:=by
      unfold lp;simp[A7,Array.getElem?_setIfInBounds,hs,hil]
    have hpp:∀j,j≠i->lp (aD.setIfInBounds i true) j=lp aD j:=λj hj=>getD_set_ne false (λe=>hj e.symm);obtain⟨X'',hX'',jW⟩:=mz hr hpi zI hpp (λj b hj hb hl=>⟨hcomm2 j b hj hb hl,λt h1=>hdd i j r b t (by omega) hr hb h1,λk h1=>o7 i j r b k (by omega) hr hb h1⟩) hX zg
    have AB:vT cR (aD.setIfInBounds i true):=λj oj hoj hl e he hb=>by
      by_cases hji:j=i
      · subst hji;rw[ho']at hoj;cases hoj;exact getD_set_true (yG e (by simpa using he) hb)
      · rw[hpp j hji]at hl;exact getD_set_true (hc j oj hoj hl e he hb)
    have hu':unl (aD.setIfInBounds i true)<=f:=by have:=wS hun;omega
    have next:∀(H':ak) (pl pl':Pl) (u:Value) (w':World),after X.2 r.n0 r.c=some H'->Rel w0 fp0 ⟨X.1,X.2,nidE,n,gh⟩ pl a w->pl.base=bs->aJ X.2 H' r.c.kil pl pl' w w'->aa w' H' pl' r.c.v u->
        (∀i B,look r.c.upd i=some B->∃B',look X.2 i=some B')->wpAny E.P .any cR Q f (aD.setIfInBounds i true) (a.put o.dst u) w':=λH' pl pl' u w' j8 hR hb hst hv hup=>by
      have h1:=Rel.app hR zg hup (λt ht=>lu hlt t (fy ho' (wP▸ht))) (λk j hj=>Nat.lt_of_lt_of_le (hgh k j hj) (F.lo i r hr).1) (F.lo i r hr).2 j8 hst hv;rw[wP]at h1;have h2:=h1.congr (s':=X''.1) (H':=X''.2) (λt v hv=>(jW.1 t).trans hv) (λk=>(jW.2 k).symm);refine ih _ _ _ X'' (by simp[hs]) hu' AB hX'' (λk B0 hB0 hk=>?_) ⟨pl',h2,hst.bs.trans hb,rfl⟩;obtain⟨B,g1,g2⟩:=hLK k B0 hB0 hk;obtain⟨B',g3,g4,_⟩:=hst.kp.k1 k B g1 (hk r (A6 hr));exact⟨B',by rw[<-jW.2 k,tz zg hup j8];exact g3,Blk.bp g2 g4⟩
    obtain⟨pl,hR,jU,_⟩:=hR
    have wT:Region.wanted o (yielded cR a.tmps)=t:=by
      unfold dz at hw;unfold Region.wanted;split at hw
      · rename_i hg;rw[hg];exact hw.symm
      · rename_i g want hg;obtain⟨q1,rg,tg,q2,q3,q4⟩:=hw;rw[hg];simp only;obtain⟨og,p1,p2,_⟩:=xz g rg q2;have hlen:g<rs.length:=(AQ.1 q2).1
        have hsp:rs=rs.take g++rg::rs.drop (g+1):=by
          conv=>lhs;rw[<-BD g rs]
          rw[List.drop_eq_getElem_cons hlen,(AQ.1 q2).2]
        have hti:(rs.take g).length=g:=by rw[Bj];omega
        have yI:∀v,rg.c.v=v->(∀T,v.al T=v)->look X.1 tg=some v:=λv q4 hsw=>by
          have hX2:=hX;rw[hsp,ba,hti,AY,An]at hX2;obtain⟨y,hy,hX2⟩:=hX2;simp only[replay,xy g q1,cond_true,An]at hX2;obtain⟨y',hy',hX2⟩:=hX2;refine gp hsw _ _ y' X hX2 (λj b' hb'=>?_) (by rw[aU hy',aT,if_pos q3,q4]);rw[A8]at hb';exact hdd g (g+1+j) rg b' tg (by omega) q2 hb' q3
        rcases q4 with⟨b,q4,q5⟩|⟨q4,q5⟩
        rotate_left
        · have hval:=hR.sl tg _ (yI _ q4 λT=>by simp[SV.al,bV])
          have hog:cR[g]? =some og:=by rwa [Bs]at p1
          have hval:∃vs,a.tmps.getD tg undef=.tuple vs:=by
            generalize a.tmps.getD tg undef=u at hval
            cases hval with
            |tup _ vs=>exact⟨vs,rfl⟩
          obtain⟨vs,hval⟩:=hval;rw[p2]at q3
          have hy:yielded cR a.tmps g=none:=by
            rw[A7]at hval
            cases hq:a.tmps[tg]? with
            |none=>simp[yielded,hog,q3,hq]
            |some x=>rw[hq]at hval;simp[yielded,hog,q3,hq,show x=.tuple vs from hval]
          rw[hy,q5];rfl
        have hval:=hR.sl tg _ (yI _ q4 λT=>by simp[SV.al,hit])
        have hval:a.tmps.getD tg undef=.bool b:=by
          generalize a.tmps.getD tg undef=u at hval
          cases hval with
          |r _ _ _ hx=>cases hx;rfl
        have hog:cR[g]? =some og:=by rwa [Bs]at p1
        have hgd:a.tmps[tg]? =some (.bool b):=by
          rw[A7]at hval
          cases hq:a.tmps[tg]? with
          |none=>rw[hq]at hval;cases hval
          |some x=>rw[hq]at hval;exact congrArg some hval
        rw[p2]at q3
        have hy:yielded cR a.tmps g=some b:=by simp[yielded,hog,q3,hgd]
        rw[hy,q5];cases b<;>cases want<;>rfl
    unfold wpOp;rw[ho];simp only[wT]
    rcases Ay with⟨rfl,hmk,hg,hgl⟩|⟨rfl,hcu,_⟩
    · rw [if_pos rfl];have hbl:r.uE=lW x.1 (bg o.op.operands.toList):=congrArg DR.uE hmk;have hlen:r.len=sI E h0 x o:=congrArg DR.len hmk;have hse:r.see=zc E ai i cR.toList h0 x o:=congrArg DR.see hmk
      obtain⟨hup,zH⟩:(∀i B,look r.c.upd i=some B->∃B',look X.2 i=some B')/\_:=by
        have vV:Ext (dO [] x.1 (bg o.op.operands.toList)) X.1:=by
          cases kS:bA (kG h0 rs) r with
          |false=>exactλt u hu=>hes kS t u (c9 hu).2
          |true=>exact hes0 kS hbl
        cases hL:sI E h0 x o with
        | false =>
          rw[hL]at hlen;unfold zc at hse;rw[hL,cond_false]at hse
          exact hg hL X.1 X.2 a w pl vV (heh hse hlen) hR.hr hR.sl vU hR.z8
        | true =>
          rw[hL]at hlen;unfold zc at hse;rw[hL,cond_true]at hse;have kS:=j6 hla r (A6 hr) hlen;have hcm:=(bh kS).1;unfold kG at hcm;rw[hlen,hse]at hcm;refine hgl hL X.1 X.2 a w pl vV (λk B hB=>?_) hR.hr hR.sl vU;obtain⟨m1,m2⟩:=er hB;exact hLK k B m2 (iZ hcm k m1)
      obtain⟨H',j8⟩:=nz zg hup;exact .inl (zH H' _ Q j8 λu pl' w' hst hv=>next H' pl pl' u w' j8 hR jU hst hv hup)
    · rw[if_neg (by simp)]
      have j8:after X.2 r.n0 r.c=some X.2:=by
        rw[hcu];simp only[after,fP,au,Be,CR.kil,b5,A5]
      refine next X.2 pl pl undef w j8 hR jU ?_ ?_ ?_
      · rw[hcu];exact aJ.refl hR.hr
      · rw[hcu];exact .tup [] #[] rfl λj x v hx _=>by simp at hx
      · rw[hcu];exactλi B hB=>by simp[look]at hB
theorem Rl.drew {n:Nat} {st:St} {a:Act} {w:World} (h:Rl w0 fp0 bs n st a w):Rl w0 fp0 bs n st a {w with drawn:=w.drawn+1}:=by
 obtain⟨pl,h,hb,hn⟩:=h;have hk:cT ([],[]) w st.heap pl {w with drawn:=w.drawn+1} st.heap pl:=⟨λi B hB _=>⟨B,hB,B.aS,rfl⟩,λd p u _ h hp=>⟨h,hp⟩⟩
 exact⟨pl,⟨⟨λi B hB=>(h.hr.blk i B hB).aY hk rfl (λ_=>Cn) (λp u _ hu=>⟨hu,rfl⟩) B.aO,h.hr.dis,h.hr.ob,h.hr.nb⟩,
  λt v hv=>(h.sl t v hv).jg hk,h.sz,h.df,h.fresh,h.gr.trans (aV.drew w),λp u hp hno=>h.fr p u hp hno,h.gk⟩,hb,hn⟩
theorem Rl.less {n:Nat} {st:St} {s':List (Nat× SV)} {a:Act} {w:World} (h:Rl w0 fp0 bs n st a w) (hs:∀t v,look s' t=some v->look st.aE t=some v):Rl w0 fp0 bs n ⟨s',st.heap,st.nid,st.n,st.gh⟩ a w:=by
 obtain⟨pl,h,hb,hn⟩:=h;exact⟨pl,h.congr hs λ_=>rfl,hb,hn⟩
theorem Rl.zL {n nid kJ m:Nat} {s:List (Nat× SV)} {H:ak} {a:Act} {w:World} (h:Rl w0 fp0 bs n ⟨s,H,nid,m,gh⟩ a w) (hn:nid<=kJ):Rl w0 fp0 bs n ⟨s,H,kJ,m,gh⟩ a w:=by
 obtain⟨pl,h,hb,hn'⟩:=h;exact⟨pl,⟨h.hr,h.sl,h.sz,h.df,λi hi=>h.fresh i (BZ hn hi),h.gr,h.fr,λk i hi=>⟨Nat.lt_of_lt_of_le (h.gk k i hi).1 hn,(h.gk k i hi).2⟩⟩,hb,hn'⟩
theorem tA {ρ:Type} (hE:fN E) {n:Nat} {st:St} {a:Act} {w:World} {K:St->Option ρ} {out:ρ} (hR:Rl w0 fp0 bs n st a w) (h:lY E cR.toList st K=some out)
  (hK:∀st' a' w',K st'=some out->Rl w0 fp0 bs n st' a' w'->Q .normal a' w'):E.P.follows .mixedOrders=true/\wpAny E.P .any cR Q cR.size (Array.replicate cR.size false) a {w with drawn:=w.drawn+1}:=by
 unfold lY at h;cases hmo:E.P.follows .mixedOrders<;>simp only[hmo,cond_true,cond_false]at h
 ·cases h
 rw[An]at h;obtain⟨ai,yJ,h⟩:=h;cases hnd:eH (cn cR.toList)<;>simp only[hnd,cond_true,cond_false]at h
 ·cases h
 cases hlt:qZ st.n (cn cR.toList)<;>simp only[hlt,cond_true,cond_false]at h
 ·cases h
 obtain⟨rs,nidE,h,AD,F⟩:=e9 (nid0:=st.nid) hE cR.toList 0 st.nid [] _ h ⟨rfl,λi o r _ hr=>by simp at hr,λi r hr=>by simp at hr,λi j a b _ ha=>by simp at ha⟩ (Bh _) (by simp);cases hp0:(kZ (kG st.heap rs) ai 0 rs&&k5 (kG st.heap rs) rs)<;>simp only[hp0,cond_true,cond_false]at h
 ·cases h
 rw[AW]at hp0;obtain⟨hp,hla⟩:=hp0;rw[An]at h;obtain⟨XF,hXF,h⟩:=h;rw[AY,show cR.toList.length=cR.size from by simp]at F;have hn:=hR;obtain⟨pl,hR0,_,hnn⟩:=hn
 refine⟨rfl,u6 (XF:=XF) (n:=n) (nidE:=nidE) (w0:=w0) (fp0:=fp0) (bs:=bs) (uX yJ) F hp hla hnd (by rw[<-hnn];exact hlt) hXF hR0.fresh (λk i hi=>(hR0.gk k i hi).1) (λa' w' hR'=>hK _ a' w' h (by rw[hnn];exact hR')) cR.size _ a _
  (st.aE,st.heap) (by simp) (by unfold unl;exact BZ List.countP_le_length (by simp)) (λj o _ hl=>?_) (ep _ _ _ λj _=>?_) (λk B0 hB0 _=>⟨B0,hB0,B0.aS⟩) ?_⟩
 ·have:lp (Array.replicate cR.size false) j=false:=by
   unfold lp;rw[A7,Array.getElem?_replicate];split<;>rfl
  grind
 ·show lp _ _=false;unfold lp;rw[A7,Array.getElem?_replicate];split<;>rfl
 ·have:=(hR.zL AD).drew;grind
theorem pj {ρ:Type} (hE:fN E) {id n:Nat} {st:St} {a:Act} {w:World} {K:St->Option ρ} {out:ρ} (hR:Rl w0 fp0 bs n st a w) (h:lY E cR.toList st K=some out)
  (hK:∀st' a' w',K st'=some out->Rl w0 fp0 bs n st' a' w'->Q .normal a' w'):(Code.region id cR true).wp E.P Q a w:=
 let⟨h1,h2⟩:=tA hE hR h hK
 wp_region_any h1 h2
end
end
section
variable [Tok] [Glo]
section
variable {w:World} {H:ak} {pl:Pl} {i:Nat} {t:Ty}
theorem gR {h:ak}:∀(l:ak) (k:Nat),look (oH i t h l) k=if k=i then none else(look l k).map (Blk.frz i t h)
  |[],k=>by simp[oH,look]
  | (k0, b) :: l, k => by
    have ih:=gR (h:=h) l k;simp only[oH];cases hk:Nat.beq k0 i
    · have hk:¬k0=i:=λe=>by subst e;simp at hk
      simp only[cond_false];rw[ae,ae,ih];by_cases c:k0=k
      · subst c;rw[if_pos rfl,if_pos rfl,if_neg hk];rfl
      · rw[if_neg c,if_neg c]
    · have hk:=AR hk;simp only[cond_true];rw[ae,ih];by_cases c:k=i
      · rw[if_pos c,if_pos c]
      · rw[if_neg c,if_neg c,if_neg (λe=>c (by rw[<-e,hk]))]
theorem lA {h:ak}:∀(l:List (Nat× SV)) (k:Nat),look (rb i t h l) k=(look l k).map (SV.frz i t h)
 |[],k=>by simp[rb,look]
 |(k0,b)::l,k=>by
  simp only[rb];rw[ae,ae,lA l k];by_cases c:k0=k
  ·rw[if_pos c,if_pos c];rfl
  ·rw[if_neg c,if_neg c]
theorem qB {k:Nat} (hk:k≠i):∀(d:List Nat),mem k (ur i d)=mem k d
 |[]=>rfl
 |x::l=>by
  have ih:=qB hk l;simp only[ur];cases hx:Nat.beq x i
  ·simp only[cond_false,mem,ih]
  ·have hx:=AR hx;simp only[cond_true,mem,ih]
   have:Nat.beq x k=false:=by
    cases h:Nat.beq x k
    ·rfl
    ·exact(hk (by rw[<-AR h,hx])).elim
   rw[this];rfl
theorem tB (B:Blk) (h:ak):(B.frz i t h).dg=B.dg:=by
 cases B with
 |box cs=>rfl
 |arr sh t' xs=>cases sh<;>rfl
theorem u9 (B:Blk) (h:ak):B.ec (B.frz i t h):=by
 have hl:∀cs:List SV,(mS i t h cs).length=cs.length:=λcs=>by
  induction cs with
  |nil=>rfl
  |cons v l ih=>simp[mS,ih]
 cases B with
 |box cs=>exact(hl cs).symm
 |arr sh t' xs=>cases sh<;>exact⟨rfl,rfl⟩
theorem ew {h:ak} {k:Nat} {B':Blk} (e:look (oH i t h H) k=some B'):k≠i/\∃B,look H k=some B/\B'=B.frz i t h:=by
 rw[gR]at e;by_cases c:k=i
 ·rw[if_pos c]at e;exact nomatch e
 ·rw[if_neg c]at e;obtain⟨B,h1,h2⟩:=AV.1 e;exact⟨c,B,h1,h2.symm⟩
theorem iF {h:ak} {k:Nat} {B:Blk} (c:k≠i) (e:look H k=some B):look (oH i t h H) k=some (B.frz i t h):=by
 rw[gR,if_neg c,e];rfl
theorem gu {h:ak} {d:List Nat} {p:Cell} (e:okd H pl d p):okd (oH i t h H) pl (ur i d) p:=
  ⟨e.1,λk B' hB' hb=>by
    obtain⟨c,B,h1,rfl⟩:=ew hB'
    exact e.2 k B h1 λhm=>by
      have:=hb (by rw[qB c];exact hm)
      rwa [tB]at this⟩
theorem qC (h:ak):∀(cs:List SV) (j:Nat),(mS i t h cs)[j]? =(cs[j]?).map (SV.frz i t h)
 |[],j=>by simp[mS]
 |v::l,0=>by simp[mS]
 |v::l,j+1=>by simp[mS,qC h l j]
theorem fA (h:ak):∀cs:List SV,(mS i t h cs).length=cs.length
 |[]=>rfl
 |v::l=>by simp[mS,fA h l]
theorem lB {j i:Nat} (h:Nat.beq j i=false):j≠i:=λe=>by subst e;simp at h
mutual
theorem tC (hr:aR H pl w):(v:SV)->{u:Value}->aa w H pl v u->aa w (oH i t H H) pl (v.frz i t H) u
 |.r d x,u,h=>by
  cases h with
  |r _ _ _ hx=>exact .r _ _ _ (hx.frame λp u hp hu=>⟨gu hp,hu⟩)
 |.own j,u,h=>by
  simp only[SV.frz];cases hj:Nat.beq j i
  ·simp only[cond_false]
   cases h with
   |own _ sh t' xs hl=>
    have:=iF (t:=t) (h:=H) (lB hj) hl
    cases sh with
    |none=>exact .own j none t' xs this
    |some d=>exact .own j _ t' xs this
  ·simp only[cond_true];unfold qf;split
   ·rename_i p hp;exact .r _ _ _ ((eV hr (d:=p.1) (xs:=p.2) hp h).frame λp u hp hu=>⟨gu hp,hu⟩)
   ·exact .undef _
 |.sub j o n,u,h=>by
  simp only[SV.frz];cases hj:Nat.beq j i
  ·simp only[cond_false]
   cases h with
   |sub _ _ _ sh t' xs a a' cap cp hl hh hn hc hc' ha=>
    have:=iF (t:=t) (h:=H) (lB hj) hl
    cases sh with
    |none=>exact .sub j o n none t' xs a a' cap cp this hh hn hc hc' ha
    |some d=>exact .sub j o n _ t' xs a a' cap cp this hh hn hc hc' ha
  ·simp only[cond_true];unfold qf;split
   ·rename_i p hp;exact .r _ _ _ ((eV hr (d:=p.1) (xs:=p.2) hp h).frame λp u hp hu=>⟨gu hp,hu⟩)
   ·exact .undef _
 |.bsl j n,u,h=>by
  simp only[SV.frz];cases hj:Nat.beq j i
  ·simp only[cond_false]
   cases h with
   |bsl _ _ cs a hl hh=>exact .bsl j n _ a (iF (t:=t) (h:=H) (lB hj) hl) hh
  ·exact .undef _
 |.ptr j x o,u,h=>by
  simp only[SV.frz];cases hj:Nat.beq j i
  ·simp only[cond_false]
   cases h with
   |jI _ _ cs b k hl hh=>exact .jI j o _ b k (iF (t:=t) (h:=H) (lB hj) hl) hh
   |jn _ _ _ sh t' xs b k n cap hl hx hh=>
    have:=iF (t:=t) (h:=H) (lB hj) hl
    cases sh with
    |none=>exact .jn j x o none t' xs b k n cap this hx hh
    |some d=>exact .jn j x o _ t' xs b k n cap this hx hh
  ·exact .undef _
 |.inn j x c,u,h=>by
  simp only[SV.frz];cases hj:Nat.beq j i
  ·simp only[cond_false]
   cases h with
   |inn _ _ _ sh t' xs b k n cap _ hl hx hc hh hok hv h1=>
    have:=iF (t:=t) (h:=H) (lB hj) hl
    have Af:okd (oH i t H H) pl [j] (b,k+(x*t'.sz+c)):=by
     have:=gu (i:=i) (t:=t) (h:=H) hok;simpa only[ur,hj,cond_false]using this
    cases sh with
    |none=>exact .inn j x c none t' xs b k n cap u this hx hc hh Af hv h1
    |some d=>exact .inn j x c _ t' xs b k n cap u this hx hc hh Af hv h1
  ·exact .undef _
 |.cY d cs,u,h=>by
  cases h with
  |cY _ _ b o vs hc hr'=>exact .cY _ _ b o vs (λj r hj=>⟨gu (hc j r hj).1,(hc j r hj).2⟩) λj r hj=>(hr' j r hj).frame λp u hp hu=>⟨gu hp,hu⟩
 |.agg cs,u,h=>by
  cases h with
  |agg _ vs hl h1 h3=>exact .agg _ _ (by rw[fA,hl]) h1 λj x v hx hv=>j9 hr cs vs.toList (λj x v hx hv=>h3 j x v hx (by simpa using hv)) j x v hx (by simpa using hv)
 |.tup cs,u,h=>by
  cases h with
  |tup _ vs hl h3=>exact .tup _ _ (by rw[fA,hl]) λj x v hx hv=>j9 hr cs vs.toList (λj x v hx hv=>h3 j x v hx (by simpa using hv)) j x v hx (by simpa using hv)
 |.fn f a b,u,h=>by
  cases h with
  |fn _ _ _ us vs h1 h3 h1' h3'=>
   exact .fn f _ _ _ _ (by rw[fA,h1]) (λj x v hx hv=>j9 hr a us.toList (λj x v hx hv=>h3 j x v hx (by simpa using hv)) j x v hx (by simpa using hv))
    (by rw[fA,h1']) (λj x v hx hv=>j9 hr b vs.toList (λj x v hx hv=>h3' j x v hx (by simpa using hv)) j x v hx (by simpa using hv))
 |.br,u,h=>by cases h;exact .br
 |.fK,u,h=>by cases h;exact .fK
 |.undef,u,h=>.undef _
theorem j9 (hr:aR H pl w):(cs:List SV)->(us:List Value)->(∀(j:Nat) (x:SV) (v:Value),cs[j]? =some x->us[j]? =some v->aa w H pl x v)->
  ∀(j:Nat) (x:SV) (v:Value),(mS i t H cs)[j]? =some x->us[j]? =some v->aa w (oH i t H H) pl x v
 |[],us,_,j,x,v,hx,_=>by simp[mS]at hx
 |c::cs,[],_,j,x,v,_,hv=>by simp at hv
 |c::cs,u::us,h,0,x,v,hx,hv=>by
  simp[mS]at hx hv;subst hx hv
  exact tC hr c (h 0 c u rfl rfl)
 |c::cs,u::us,h,j+1,x,v,hx,hv=>j9 hr cs us (λj x v hx hv=>h (j+1) x v (by simpa using hx) (by simpa using hv)) j x v (by simpa[mS]using hx) (by simpa using hv)
end
theorem wU (hr:aR H pl w) {k:Nat}:(B:Blk)->bo w H pl k B->bo w (oH i t H H) pl k (B.frz i t H)
 |.box cs,⟨b,o,h1,h2,h3⟩=>by
  refine⟨b,o,h1,λp=>by rw[fA];exact h2 p,λj v hv=>?_⟩;rw[qC]at hv;obtain⟨v0,hv0,rfl⟩:=AV.1 hv;obtain⟨u,g1,g2,g3,g4⟩:=h3 j v0 hv0
  exact⟨u,g1,g2,g3,tC hr v0 g4⟩
 |.arr none t' xs,h=>h
 |.arr (some d) t' xs,⟨R⟩=>⟨{R with hr:=λi j r hc=>⟨(R.hr i j r hc).1.frame λp u hp hu=>⟨gu hp,hu⟩,(R.hr i j r hc).2⟩}⟩
theorem va (hr:aR H pl w):aR (oH i t H H) pl w:=
  ⟨λk B' hB'=>by
    obtain⟨_,B,h1,rfl⟩:=ew hB'
    exact wU hr B (hr.blk k B h1),
   λk j B B' p h1 h2 f1 f2=>by
    obtain⟨_,B1,g1,_⟩:=ew h1;obtain⟨_,B2,g2,_⟩:=ew h2
    exact hr.dis k j B1 B2 p g1 g2 f1 f2,
   λk B p h1 hf=>by
    obtain⟨_,B1,g1,_⟩:=ew h1
    exact hr.ob k B1 p g1 hf,hr.nb⟩
end
theorem wV {w0:World} {fp0:G0} {bs:Cell->Prop} {n:Nat} {st:St} {a:Act} {w:World} (i:Nat) (h:Rl w0 fp0 bs n st a w):Rl w0 fp0 bs n (zz i st) a w:=by
 unfold zz;split
 ·rename_i sh t xs hl;obtain⟨pl,hr,hb,hn⟩:=h;refine⟨pl,⟨va hr.hr,λk v hv=>?_,hr.sz,hr.df,λk hk=>?_,hr.gr,λp u hp hno=>?_,λk j hk=>?_⟩,hb,hn⟩
  ·have hv:look (rb i t st.heap st.aE) k=some v:=hv;rw[lA]at hv;obtain⟨v0,hv0,rfl⟩:=AV.1 hv;exact tC hr.hr v0 (hr.sl k v0 hv0)
  ·show look (oH i t st.heap st.heap) k=none;rw[gR,hr.fresh k hk];by_cases c:k=i
   ·rw[if_pos c]
   ·rw[if_neg c];rfl
  ·obtain⟨f1,f2,f3⟩:=hr.fr p u hp hno
   exact⟨λk B hB=>by
    obtain⟨_,B1,g1,_⟩:=ew hB
    exact f1 k B1 g1,f2,f3⟩
  ·obtain⟨t1,t2⟩:=hr.gk k j hk;refine⟨t1,λB hB=>?_⟩;obtain⟨_,B1,g1,rfl⟩:=ew hB;obtain⟨t3,t4⟩:=t2 B1 g1;exact⟨t3,Blk.bp t4 (u9 B1 st.heap)⟩
 ·exact h
theorem gS {H:ak} {i:Nat} {t:Ty} {xs:List t.El} (hl:look H i=some (.arr none t xs)) (k:Nat):look (put H i (.arr (some []) t xs)) k=if k=i then some (.arr (some []) t xs)else look H k:=by
 rw[bd];by_cases c:i=k
 ·rw[if_pos c,if_pos c.symm]
 ·rw[if_neg c,if_neg (λe=>c e.symm)]
theorem ey {H:ak} {i:Nat} {t:Ty} {xs:List t.El} (hl:look H i=some (.arr none t xs)) {k:Nat} {B':Blk} (e:look (put H i (.arr (some []) t xs)) k=some B'):
  ∃B,look H k=some B/\B.ec B'/\B'.dg=B.dg:=by
 rw[gS hl]at e;by_cases c:k=i
 ·rw[if_pos c]at e;cases e;exact⟨.arr none t xs,by rw[c];exact hl,show Blk.ec (.arr none t xs) (.arr (some []) t xs)from⟨rfl,rfl⟩,rfl⟩
 ·rw[if_neg c]at e;exact⟨B',e,B'.aS,rfl⟩
def Pl.less (pl:Pl) (i:Nat) (f:Cell->Prop):Pl:={pl with fp:=λk p=>(k=i->f p)/\(k≠i->pl.fp k p)}
theorem Pl.gT {pl:Pl} {i:Nat} {f:Cell->Prop} (hf:∀p,f p->pl.fp i p) {k:Nat} {p:Cell} (h:(pl.less i f).fp k p):pl.fp k p:=by
 by_cases c:k=i
 ·subst c;exact hf p (h.1 rfl)
 ·exact h.2 c
theorem tD {w:World} {H:ak} {pl:Pl} {i:Nat} {t:Ty} {xs:List t.El} {f:Cell->Prop} (hl:look H i=some (.arr none t xs)) (hf:∀p,f p->pl.fp i p):cT ([],[]) w H pl w (put H i (.arr (some []) t xs)) (pl.less i f):=
  ⟨λk B hB _=>by
    by_cases c:k=i
    · subst c;rw[hl]at hB;cases hB;exact⟨.arr (some []) t xs,by rw[gS hl,if_pos rfl],show Blk.ec (.arr none t xs) (.arr (some []) t xs)from⟨rfl,rfl⟩,rfl⟩
    · exact⟨B,by rw[gS hl,if_neg c];exact hB,B.aS,rfl⟩,
   λd p u _ hp hu=>⟨⟨hp.1,λk B' hB' hb hq=>by
    obtain⟨B,h1,_,h3⟩:=ey hl hB'
    exact hp.2 k B h1 (λhm=>by rw[<-h3];exact hb hm) (Pl.gT hf hq)⟩,hu⟩⟩
theorem wW {w0:World} {fp0:G0} {bs:Cell->Prop} {n:Nat} {st:St} {a:Act} {w:World} (i:Nat) (h:Rl w0 fp0 bs n st a w):Rl w0 fp0 bs n (zA i st) a w:=by
 unfold zA;split
 ·rename_i t xs hl;obtain⟨pl,hr,hb,hn⟩:=h;obtain⟨R⟩:=hr.hr.blk i _ hl;have hf:∀p,reg R.b R.o (R.cap*t.sz) p->pl.fp i p:=λp hp=>(R.hfp p).2 (.inl hp);have hk:=tD (w:=w) (pl:=pl) hl hf;refine⟨pl.less i (reg R.b R.o (R.cap*t.sz)),⟨⟨λk B' hB'=>?_,λk j B B' p h1 h2 f1 f2=>?_,λk B p h1 hf'=>?_,hr.hr.nb⟩,λk v hv=>?_,hr.sz,hr.df,λk hk=>?_,hr.gr,λp u hp hno=>?_,λk j hk=>?_⟩,hb,hn⟩
  ·have hB':look (put st.heap i (.arr (some []) t xs)) k=some B':=hB';rw[gS hl]at hB';by_cases c:k=i
   ·rw[if_pos c]at hB';cases hB';subst c;refine⟨⟨R.a,R.cap,R.b,R.o,R.vs,λ_ _ _=>False,R.ng,R.hcap,R.ha,R.dx,R.hc,λi' j r hx=>⟨?_,λ_ hf=>hf⟩,λ_ _ _ _ _ h=>h.elim,λ_ _ _ _ _ _ _ _ _ h=>h.elim,λp=>⟨λhp=>.inl (hp.1 rfl),λhp=>⟨λ_=>hp.elim id λ⟨_,_,_,_,h⟩=>h.elim,λh=>(h rfl).elim⟩⟩⟩⟩;refine(R.hr i' j r hx).sQ λp hp=>?_;have hpi:pl.fp k p:=(R.hfp p).2 (.inr ⟨i',j,r,hx,hp⟩);refine⟨hr.hr.ob k _ p hl hpi,λm B hB _ hq=>?_⟩;by_cases e:m=k
    ·subst e;exact R.hd1 i' j r p hx hp (hq.1 rfl)
    ·obtain⟨B1,g1,_⟩:=ey hl hB;exact e (hr.hr.dis m k B1 _ p g1 hl (hq.2 e) hpi)
   ·rw[if_neg c]at hB';exact(hr.hr.blk k _ hB').aY hk rfl (λp=>⟨λh=>h.2 c,λh=>⟨λe=>(c e).elim,λ_=>h⟩⟩) (λp u _ hu=>⟨hu,rfl⟩) B'.aO
  ·obtain⟨B1,g1,_⟩:=ey hl h1;obtain⟨B2,g2,_⟩:=ey hl h2;exact hr.hr.dis k j B1 B2 p g1 g2 (Pl.gT hf f1) (Pl.gT hf f2)
  ·obtain⟨B1,g1,_⟩:=ey hl h1;exact hr.hr.ob k B1 p g1 (Pl.gT hf hf')
  ·exact(hr.sl k v hv).jg hk
  ·show look (put st.heap i (.arr (some []) t xs)) k=none;rw[gS hl];by_cases c:k=i
   ·have:=hr.fresh k hk;rw[c,hl]at this;exact nomatch this
   ·rw[if_neg c];exact hr.fresh k hk
  ·obtain⟨f1,f2,f3⟩:=hr.fr p u hp hno
   exact⟨λk B hB hq=>by
    obtain⟨B1,g1,_⟩:=ey hl hB
    exact f1 k B1 g1 (Pl.gT hf hq),f2,f3⟩
  ·obtain⟨t1,t2⟩:=hr.gk k j hk;refine⟨t1,λB hB=>?_⟩;obtain⟨B1,g1,g2,_⟩:=ey hl hB;obtain⟨t3,t4⟩:=t2 B1 g1;exact⟨t3,Blk.bp t4 g2⟩
 ·exact h
theorem ka {w0:World} {fp0:G0} {bs:Cell->Prop} {n:Nat} {a:Act} {w:World}:∀(l:List (Bool× Nat× List Nat)) {st:St},Rl w0 fp0 bs n st a w->Rl w0 fp0 bs n (qg l st) a w
 |[],st,h=>h
 |x::l,st,h=>by
  refine ka l ?_;unfold vO;split
  ·split
   ·cases x.1
    ·exact wV _ h
    ·exact wW _ h
   ·exact h
  ·exact h
end
section
variable [Tok] [Glo]
theorem tE {j k:Nat} {d:List Nat} (h:mem k d=true):mem k (cond (mem j d) d (d++[j]))=true:=by
 cases mem j d
 ·rw[cond_false,jK,h];rfl
 ·exact h
section
variable {w:World} {H:ak} {pl:Pl}
theorem lC (hr:aR H pl w) {n:Nat} (hn:look H n=none) (sh:Bool) (t:Ty):
  aJ H (H++[(n,.arr (cond sh (some []) none) t [])]) ([],[]) pl (pl.set n (.slice none 0 0) λ_=>False) w w:=
 qq hr hn (aV.refl w) (λp u hu=>⟨hu,rfl⟩) (λp h=>h.elim) λ_=>by
  refine bo.gf ?_;simp only[Pl.set,if_true];exact Row.nil _
theorem tF (hr:aR H pl w) {n:Nat} (hn:look H n=none) (c:Co) {v:SV} {u:Value} (hv:aa w H pl v u):
  ∃pl',aJ H (H++au n (coV n H c v).2) ([],[]) pl pl' w w/\aa w (H++au n (coV n H c v).2) pl' (coV n H c v).1 u:=by
 have still:∀{v':SV},aa w H pl v' u->∃pl',aJ H (H++au n []) ([],[]) pl pl' w w/\aa w (H++au n []) pl' v' u:=λ{v'} h=>by
  simp only[au,Be];exact⟨pl,aJ.refl hr,h⟩
 cases c with
 |sF sh t=>
  cases v with
  |br=>
   have hst:=lC hr hn sh t;refine⟨_,hst,?_⟩;cases hv;have:=aa.own (w:=w) (H:=H++[(n,.arr (cond sh (some []) none) t [])]) (pl:=pl.set n (.slice none 0 0) λ_=>False) n (cond sh (some []) none) t [] (by rw[ag,hn,ae];simp)
   simpa[Pl.set,coV,au]using this
  |_=>exact still hv
 |ro t=>
  simp only[coV]
  cases hl:v.list H t with
  |none=>exact still hv
  |some p=>exact still (.r _ _ _ (eV hr hl hv))
 |drop=>exact still (.undef _)
 |dep j=>
  cases v with
  |r d x=>
   cases hv with
   |r _ _ _ hx=>exact still (.r _ _ _ (hx.frame λp u hp hu=>⟨ca (λk hk=>tE hk) hp,hu⟩))
  |_=>exact still hv
 |wv t j=>exact still hv
theorem pk (hr:aR H pl w) {i j:Nat} {cs:List SV} {x v:SV} (hl:look H i=some (.box cs)) (hj:cs[j]? =some x) (hx:∀u,aa w H pl x u->aa w H pl v u):
  aJ H (put H i (.box (cs.set j v))) ([],[]) pl pl w w:=by
 have hlk:∀k B,look (put H i (.box (cs.set j v))) k=some B->(k=i/\B=.box (cs.set j v))\/(k≠i/\look H k=some B):=λk B h=>by
  rw[bd]at h;by_cases e:i=k
  ·subst e;simp only[if_true,AP]at h;exact .inl ⟨rfl,h.symm⟩
  ·rw[if_neg e]at h;exact .inr ⟨λh=>e h.symm,h⟩
 have hk:cT ([],[]) w H pl w (put H i (.box (cs.set j v))) pl:=by
  refine⟨λk B hB _=>?_,λd p u _ h hp=>⟨⟨h.1,λk B hB hm=>?_⟩,hp⟩⟩
  ·rw[bd];by_cases e:i=k
   ·subst e;rw[hl]at hB;cases hB;exact⟨_,by simp;rfl,by simp[Blk.ec],rfl⟩
   ·rw[if_neg e];exact⟨B,hB,B.aS,rfl⟩
  ·rcases hlk k B hB with⟨rfl,rfl⟩|⟨_,hB⟩
   ·exact h.2 k _ hl λ_=>rfl
   ·exact h.2 k B hB hm
 refine⟨⟨λk B hB=>?_,λk k' B B' p h1 h2=>?_,λk B p hB=>?_,hr.nb⟩,hk,rfl,aV.refl w,λp u hp hno=>⟨λk B hB=>?_,hp,rfl⟩⟩
 ·rcases hlk k B hB with⟨rfl,rfl⟩|⟨_,hB⟩
  ·obtain⟨b,o,q1,q2,q3⟩:=hr.blk k _ hl;refine⟨b,o,q1,λp=>by rw[q2,BU],λm y hy=>?_⟩;rw[List.getElem?_set]at hy;by_cases e:j=m
   ·subst e;obtain⟨u,g1,g2,g3,g4⟩:=q3 j x hj;simp only[if_true]at hy;split at hy
    ·cases hy;exact⟨u,g1,g2,g3,(hx u g4).jg hk⟩
    ·exact nomatch hy
   ·rw[if_neg e]at hy;obtain⟨u,g1,g2,g3,g4⟩:=q3 m y hy;exact⟨u,g1,g2,g3,g4.jg hk⟩
  ·exact(hr.blk k B hB).aY hk rfl (λ_=>Cn) (λp u _ hu=>⟨hu,rfl⟩) B.aO
 ·have f1:∃B,look H k=some B:=by
   rcases hlk k B h1 with⟨rfl,rfl⟩|⟨_,h1⟩
   ·exact⟨_,hl⟩
   ·exact⟨_,h1⟩
  have f2:∃B,look H k'=some B:=by
   rcases hlk k' B' h2 with⟨rfl,rfl⟩|⟨_,h2⟩
   ·exact⟨_,hl⟩
   ·exact⟨_,h2⟩
  obtain⟨_,f1⟩:=f1;obtain⟨_,f2⟩:=f2;exact hr.dis k k' _ _ p f1 f2
 ·rcases hlk k B hB with⟨rfl,rfl⟩|⟨_,hB⟩
  ·exact hr.ob k _ p hl
  ·exact hr.ob k B p hB
 ·rcases hlk k B hB with⟨rfl,rfl⟩|⟨_,hB⟩
  ·exact hno k _ hl
  ·exact hno k B hB
end
theorem aJ.yK {H H' H'':ak} {pl pl' pl'':Pl} {w w' w'':World} (h:aJ H H' ([],[]) pl pl' w w') (g:aJ H' H'' ([],[]) pl' pl'' w' w''):aJ H H'' ([],[]) pl pl'' w w'':=by
 refine⟨g.hr,⟨λi B hB hm=>?_,λd p u hd ho hp=>?_⟩,g.bs.trans h.bs,h.gr.trans g.gr,λp u hp hno=>?_⟩
 ·obtain⟨B',q1,q2,q3⟩:=h.kp.k1 i B hB hm;obtain⟨B'',r1,r2,r3⟩:=g.kp.k1 i B' q1 hm;exact⟨B'',r1,Blk.bp q2 r2,r3.trans q3⟩
 ·obtain⟨q1,q2⟩:=h.kp.k2 d p u hd ho hp;exact g.kp.k2 d p u hd q1 q2
 ·obtain⟨q1,q2,q3⟩:=h.fr p u hp hno;obtain⟨r1,r2,r3⟩:=g.fr p u q2 q1;exact⟨r1,r2,r3.trans q3⟩
theorem Rel.ghost {w0:World} {fp0:G0} {st:St} {pl pl':Pl} {a:Act} {w:World} {H':ak} {kJ:Nat} (h:Rel w0 fp0 st pl a w) (hs:aJ st.heap H' ([],[]) pl pl' w w) (hn:st.nid<=kJ)
    (hf:∀i,kJ<=i->look H' i=none) (hb:∀i B,i<st.nid->look H' i=some B->∃B',look st.heap i=some B'):Rel w0 fp0 {st with heap:=H',nid:=kJ} pl' a w:=
  ⟨hs.hr,λt v hv=>(h.sl t v hv).jg hs.kp,h.sz,h.df,hf,h.gr,λp u hp hno=>by
    obtain⟨g1,g2,g3⟩:=h.fr p u hp hno;obtain⟨f1,f2,f3⟩:=hs.fr p u g2 g1
    exact⟨f1,f2,f3.trans g3⟩,h.gk.step hs.kp hn λk i B hki hB=>⟨rfl,hb i B (h.gk k i hki).1 hB⟩⟩
theorem nA {n i:Nat} {bs:List Blk} (h:i<n):look (au n bs) i=none:=by rw[ax,if_neg (by omega)]
theorem lD {n i:Nat} {bs:List Blk} (h:n+bs.length<=i):look (au n bs) i=none:=by rw[ax,if_pos (by omega),Bt (by omega)]
theorem tG {w0:World} {fp0:G0} {bs:Cell->Prop} {n:Nat} {st:St} {a:Act} {w:World} (h:Rl w0 fp0 bs n st a w) (x:bP× Co):Rl w0 fp0 bs n (m5 st x) a w:=by
  obtain⟨pl,hr,hb,hnn⟩:=h;have qD:=hr.fresh st.nid (Bh _)
  have app:∀(bl:List Blk) {pl':Pl},aJ st.heap (st.heap++au st.nid bl) ([],[]) pl pl' w w->Rel w0 fp0 {st with heap:=st.heap++au st.nid bl,nid:=st.nid+bl.length} pl' a w:=λbl pl' hs=>
    hr.ghost hs (by simp) (λi hi=>by rw[ag,hr.fresh i (by omega),lD hi];rfl) λi B hi hB=>by
      rw[ag,nA hi,Bq]at hB;exact⟨B,hB⟩
  have aE:∀{st1:St} {pl':Pl} {t:Nat} {v:SV},Rel w0 fp0 st1 pl' a w->st1.aE=st.aE->aa w st1.heap pl' v (a.tmps.getD t undef)->Rel w0 fp0 {st1 with aE:=put st.aE t v} pl' a w:=λ{st1 pl' t v} h1 e hv=>
    ⟨h1.hr,λt' v' h'=>by
      rw[bd]at h';by_cases c:t=t'
      · subst c;simp at h';subst h';exact hv
      · rw[if_neg c]at h';exact h1.sl t' v' (by rw[e];exact h'),h1.sz,h1.df,h1.fresh,h1.gr,h1.fr,h1.gk⟩
  obtain⟨wh,c⟩:=x
  have box:∀i j,Rl w0 fp0 bs n (uD st i j c) a w:=λi j=>by
    unfold uD;split
    · rename_i cs hl;split
      · rename_i v hj
        have hi:i<st.nid:=by
          by_cases c:i<st.nid
          · exact c
          · rw[hr.fresh i (by omega)]at hl;exact nomatch hl
        have hv:∃u,aa w st.heap pl v u:=by
          obtain⟨b,o,_,_,q3⟩:=hr.hr.blk i _ hl;obtain⟨u,_,_,_,h⟩:=q3 j v hj;exact⟨u,h⟩
        have key:∃pl',aJ st.heap (st.heap++au st.nid (coV st.nid st.heap c v).2) ([],[]) pl pl' w w/\
            ∀u,aa w (st.heap++au st.nid (coV st.nid st.heap c v).2) pl' v u->aa w (st.heap++au st.nid (coV st.nid st.heap c v).2) pl' (coV st.nid st.heap c v).1 u:=by
          have still:(coV st.nid st.heap c v).2=[]->(∀u,aa w st.heap pl v u->aa w st.heap pl (coV st.nid st.heap c v).1 u)->
              ∃pl',aJ st.heap (st.heap++au st.nid (coV st.nid st.heap c v).2) ([],[]) pl pl' w w/\
              ∀u,aa w (st.heap++au st.nid (coV st.nid st.heap c v).2) pl' v u->aa w (st.heap++au st.nid (coV st.nid st.heap c v).2) pl' (coV st.nid st.heap c v).1 u:=λe h=>by
            rw[e];simp only[au,Be];exact⟨pl,aJ.refl hr.hr,h⟩
          cases c with
          | sF sh t =>
            cases v with
            | br =>
              obtain⟨u,hu⟩:=hv;refine⟨_,lC hr.hr qD sh t,λu hu=>?_⟩;cases hu;have:=aa.own (w:=w) (H:=st.heap++[(st.nid,.arr (cond sh (some []) none) t [])]) (pl:=pl.set st.nid (.slice none 0 0) λ_=>False) st.nid (cond sh (some []) none) t [] (by rw[ag,qD,ae];simp)
              simpa[Pl.set,coV,au]using this
            |_=>exact still rfl λu h=>h
          | ro t =>
            cases hq:v.list st.heap t with
            |none=>exact still (by simp only[coV,hq]) λu h=>by simp only[coV,hq];exact h
            |some p=>exact still (by simp only[coV,hq]) λu h=>by simp only[coV,hq];exact .r _ _ _ (eV hr.hr hq h)
          |drop=>exact still rfl λu _=>.undef _
          | dep j =>
            cases v with
            |r d x=>exact still rfl λu hv=>by cases hv with|r _ _ _ hx=>exact .r _ _ _ (hx.frame λp u hp hu=>⟨ca (λk hk=>tE hk) hp,hu⟩)
            |_=>exact still rfl λu h=>h
          |wv t j=>exact still rfl λu h=>h
        obtain⟨pl',h1,h2⟩:=key
        have hl':look (st.heap++au st.nid (coV st.nid st.heap c v).2) i=some (.box cs):=by rw[ag,hl];rfl
        have h3:=h1.yK (pk h1.hr hl' hj h2);refine⟨pl',hr.ghost h3 (by simp) (λk hk=>?_) (λk B hk hB=>?_),h1.bs.trans hb,hnn⟩
        · rw[bd,if_neg (by omega),ag,hr.fresh k (by omega),lD hk];rfl
        · rw[bd]at hB;by_cases e:i=k
          · subst e;exact⟨_,hl⟩
          · rw[if_neg e,ag,nA hk,Bq]at hB;exact⟨B,hB⟩
      · exact⟨pl,hr,hb,hnn⟩
    · exact⟨pl,hr,hb,hnn⟩
  cases wh with
  | slot t =>
    simp only[m5]
    cases hl:look st.aE t with
    |none=>exact⟨pl,hr,hb,hnn⟩
    | some v =>
      obtain⟨pl',h1,h2⟩:=tF hr.hr qD c (hr.sl t v hl)
      exact⟨pl',aE (app _ h1) rfl h2,h1.bs.trans hb,hnn⟩
  | cell t j =>
    simp only[m5];split
    · rename_i cs hl;split
      · rename_i v hj;have hv:=hr.sl t _ hl;generalize hu:a.tmps.getD t undef=u at hv
        cases hv with
        | agg _ vs hlen la uv =>
          have hjl:j<vs.size:=by rw[<-hlen];exact(AQ.1 hj).1
          obtain⟨pl',h1,h2⟩:=tF hr.hr qD c (uv j v vs[j] hj (by simp));refine⟨pl',aE (app _ h1) rfl ?_,h1.bs.trans hb,hnn⟩;rw[hu];refine .agg _ _ (by simp[hlen]) la λm y z hy hz=>?_;rw[List.getElem?_set]at hy;by_cases e:j=m
          · subst e;simp only[if_true]at hy;split at hy
            · cases hy
              have:vs[j]=z:=by have:=A0 hjl;rw[this]at hz;exact BS hz
              rw[<-this];exact h2
            · exact nomatch hy
          · rw[if_neg e]at hy;exact(uv m y z hy hz).jg h1.kp
      · exact⟨pl,hr,hb,hnn⟩
    · exact⟨pl,hr,hb,hnn⟩
  |box i j=>exact box i j
  | zZ t j =>
    simp only[m5];split
    · exact box _ j
    · exact⟨pl,hr,hb,hnn⟩
  | gh k =>
    refine⟨pl,⟨hr.hr,hr.sl,hr.sz,hr.df,hr.fresh,hr.gr,hr.fr,λj i hj=>?_⟩,hb,hnn⟩;have hj:(st.gh.set k none)[j]? =some (some i):=hj;rw[List.getElem?_set]at hj;by_cases e:k=j
    · rw[if_pos e]at hj;split at hj<;>exact nomatch hj
    · rw[if_neg e]at hj;exact hr.gk j i hj
theorem vb {w0:World} {fp0:G0} {bs:Cell->Prop} {n:Nat} {st:St} {a:Act} {w:World} (h:Rl w0 fp0 bs n st a w) (x:bP× Co):Rl w0 fp0 bs n (xH st x) a w:=tG h _
theorem jt {w0:World} {fp0:G0} {bs:Cell->Prop} {n:Nat} {a:Act} {w:World}:∀(l:List (bP× Co)) {st:St},Rl w0 fp0 bs n st a w->Rl w0 fp0 bs n (sG l st) a w
 |[],_,h=>h
 |x::l,_,h=>jt l (vb h x)
end
section
variable [Tok] [Glo]
section
variable {ρ:Type} {E:Env} {w0:World} {fp0:G0} {bs:Cell->Prop}
theorem Rl.put {n:Nat} {st:St} {a:Act} {w:World} {t:Nat} {v:SV} (h:Rl w0 fp0 bs n st a w) (hv:∀pl,aa w st.heap pl v (a.tmps.getD t undef)):Rl w0 fp0 bs n {st with aE:=put st.aE t v} a w:=by
 obtain⟨pl,h,hb,hn⟩:=h;refine⟨pl,⟨h.hr,λt' v' h'=>?_,h.sz,h.df,h.fresh,h.gr,h.fr,h.gk⟩,hb,hn⟩;rw[bd]at h';by_cases e:t=t'
 ·subst e;simp at h';subst h';exact hv pl
 ·rw[if_neg e]at h';exact h.sl t' v' h'
theorem pn (hE:fN E) {n:Nat} {o:Oper} {st:St} {a:Act} {w:World} {K:St->Option ρ} {out:ρ} {next:Act->World->Prop} {Q:Exit->Act->World->Prop}
  (hr:Rl w0 fp0 bs n st a w) (h:xu E o st K=some out) (hK:∀st' a' w',K st'=some out->Rl w0 fp0 bs n st' a' w'->next a' w'):o.wp E.P a w next Q:=by
 obtain⟨pl,hr,hb,hn⟩:=hr;exact rD hE hr h λst' pl' a' w' hk hb' hn' hr'=>hK st' a' w' hk ⟨pl',hr',hb'.trans hb,hn'.trans hn⟩
theorem pq {n:Nat} {o:Oper} {st:St} {a:Act} {w:World} {K:St->Option ρ} {out:ρ} {next:Act->World->Prop}
  (hr:Rl w0 fp0 bs n st a w) (h:m8 o st K=some out) (hK:∀st' a' w',K st'=some out->Rl w0 fp0 bs n st' a' w'->next a' w'):next (a.put o.dst undef) w:=by
 simp only[m8,An]at h;obtain⟨s,hs,h⟩:=h;obtain⟨pl,hr,hb,hn⟩:=hr
 exact hK _ _ _ h ⟨pl,⟨hr.hr,bI.put hr.sl hr.sz hs (.tup [] #[] rfl λj x v hx _=>by simp at hx),by rw[Act.me];exact hr.sz,by rw[Act.sW];exact hr.df,hr.fresh,hr.gr,hr.fr,hr.gk⟩,hb,hn⟩
theorem cC (hE:fN E) {n:Nat} {ops:Array Oper} {Q:Exit->Act->World->Prop} {out:ρ}:∀(l:List Oper) (st:St) (a:Act) (w:World) (K:St->Option ρ),
  Rl w0 fp0 bs n st a w->lV E ops.toList l st K=some out->(∀st' a' w',K st'=some out->Rl w0 fp0 bs n st' a' w'->Q .normal a' w')->wpList E.P ops Q l a w
 |[],st,a,w,K,hr,h,hK=>hK st a w h hr
 |o::rest,st,a,w,K,hr,h,hK=>by
  simp only[lV]at h
  cases hg:o.guard with
  |none=>
   simp only[hg]at h
   refine wpList_plain hg λK' hK'=>pn hE hr h λst' a' w' h' hr'=>hK' _ _ (cC hE rest st' a' w' K hr' h' hK)
  |some jw=>
   obtain⟨j,want⟩:=jw;simp only[hg,An]at h;obtain⟨t,ht,v,hv,h⟩:=h;split at h
   ·have hy:yielded ops a.tmps j=none:=by
     simp only[wx,An]at ht;obtain⟨oj,hoj,hd⟩:=ht
     have zh:ops[j]? =some oj:=by rwa [Bs]at hoj
     have hval:∃vs,a.tmps.getD t undef=.tuple vs:=by
      obtain⟨pl,hr,_,_⟩:=hr;have:=hr.sl t _ hv;generalize a.tmps.getD t undef=u at this
      cases this with
      |tup _ vs=>exact⟨vs,rfl⟩
     obtain⟨vs,hval⟩:=hval;rw[A7]at hval
     cases hq:a.tmps[t]? with
     |none=>simp[yielded,zh,hd,hq]
     |some x=>rw[hq]at hval;simp[yielded,zh,hd,hq,show x=.tuple vs from hval]
    refine wpList_step λK' hK'=>?_;simp only[Region.wanted,hg,hy];rw[if_neg (by simp)];exact pq (next:=K') hr h λst' a' w' h' hr'=>hK' _ _ (cC hE rest st' a' w' K hr' h' hK)
   simp only[An]at h;obtain⟨b,hb,h⟩:=h
   have hval:a.tmps.getD t undef=.bool b:=by
    obtain⟨pl,hr,_,_⟩:=hr;exact oR hb (hr.sl t v hv)
   have hy:yielded ops a.tmps j=some b:=by
    simp only[wx,An]at ht;obtain⟨oj,hoj,hd⟩:=ht
    have zh:ops[j]? =some oj:=by rwa [Bs]at hoj
    have hg:a.tmps[t]? =some (.bool b):=by
     rw[A7]at hval
     cases hq:a.tmps[t]? with
     |none=>rw[hq]at hval;exact nomatch hval
     |some x=>rw[hq]at hval;exact congrArg some hval
    simp[yielded,zh,hd,hg]
   refine wpList_step λK' hK'=>?_;simp only[Region.wanted,hg,hy]
   have oX:∀b',b'=b->Rl w0 fp0 bs n {st with aE:=put st.aE t (.b b')} a w:=λb' e=>hr.put λpl=>by rw[hval,e];exact dy
   cases b<;>simp only[cond_true,cond_false]at h
   ·have hr':=oX false rfl;cases want<;>simp only[cond_true,cond_false]at h
    ·rw[if_pos (by rfl)];exact pn hE hr' h λst' a' w' h' hr'=>hK' _ _ (cC hE rest st' a' w' K hr' h' hK)
    ·rw[if_neg (by simp)];exact pq (next:=K') hr' h λst' a' w' h' hr'=>hK' _ _ (cC hE rest st' a' w' K hr' h' hK)
   ·have hr':=oX true rfl;cases want<;>simp only[cond_true,cond_false]at h
    ·rw[if_neg (by simp)];exact pq (next:=K') hr' h λst' a' w' h' hr'=>hK' _ _ (cC hE rest st' a' w' K hr' h' hK)
    ·rw[if_pos (by rfl)];exact pn hE hr' h λst' a' w' h' hr'=>hK' _ _ (cC hE rest st' a' w' K hr' h' hK)
def Ex.up:Ex->Exit
 |.normal=>.normal
 |.exit id=>.exit id
 |.ret=>.ret
def Sound (P:Program) (c:Code) (f:Ev ρ):Prop:=
 ∀(w0:World) (fp0:G0) (bs:Cell->Prop) (n:Nat) (st:St) (a:Act) (w:World) (K:Ex->St->Option ρ) (out:ρ) (Q:Exit->Act->World->Prop),
  Rl w0 fp0 bs n st a w->f st K=some out->(∀e st' a' w',K e st'=some out->Rl w0 fp0 bs n st' a' w'->Q e.up a' w')->c.wp P Q a w
def dp (E:Env) (LP:Nat->Ev ρ->Ev ρ):Nat->Code->Prop
 |cb,.seq a b=>dp E LP cb a/\dp E LP cb b
 |cb,.cond _ a b=>dp E LP cb a/\dp E LP cb b
 |_,.block id c=>dp E LP id c
 |cb,.scope c=>dp E LP cb c
 |cb,.loop c=>Sound E.P (.loop c) (LP cb λst K=>ev E LP cb c st K)
 |_,_=>True
theorem nB {n:Nat} {st:St} {a:Act} {w:World} {c:Operand} {b:Bool} (h:Rl w0 fp0 bs n st a w) (hc:a.eval c=.bool b):Rl w0 fp0 bs n (refine c b st) a w:=by
 cases c with
 |tmp t=>exact h.put λpl=>by rw[show a.tmps.getD t undef=.bool b from hc];exact dy
 |_=>exact h
theorem nC {n:Nat} {st:St} {a:Act} {w:World} {K:St->Option ρ} {out:ρ} (h:qh E K st=some out) (hr:Rl w0 fp0 bs n st a w):∃st',K st'=some out/\Rl w0 fp0 bs n st' a w:=by
 unfold qh at h;cases ht:E.tak<;>simp only[ht,cond_true,cond_false]at h
 ·exact⟨_,h,hr⟩
 obtain⟨H',h1,h2⟩:=jY h;refine⟨_,h1,?_⟩;obtain⟨pl,hr,hb,hn⟩:=hr;refine⟨pl,⟨h2.hrel hr.hr,λk v hv=>(hr.sl k v hv).jg h2.keeps,hr.sz,hr.df,λk hk=>?_,hr.gr,λp u hp hno=>?_,λk j hk=>?_⟩,hb,hn⟩
 ·rcases h2 k with⟨_,g⟩|⟨B,B',g1,_⟩
  ·exact g
  ·rw[hr.fresh k hk]at g1;exact nomatch g1
 ·obtain⟨f1,f2,f3⟩:=hr.fr p u hp hno
  exact⟨λk B hB=>by
   obtain⟨B1,g1,_⟩:=h2.bwd hB
   exact f1 k B1 g1,f2,f3⟩
 ·obtain⟨t1,t2⟩:=hr.gk k j hk;refine⟨t1,λB hB=>?_⟩;obtain⟨B1,g1,g2⟩:=h2.bwd hB;obtain⟨t3,t4⟩:=t2 B1 g1;exact⟨t3,Blk.bp t4 g2.ec⟩
theorem dB (hE:fN E) {LP:Nat->Ev ρ->Ev ρ}:∀(c:Code) (cb:Nat),dp E LP cb c->Sound E.P c (ev E LP cb c)
 |.skip,cb,_=>λw0 fp0 bs n st a w K out Q hr h hK=>wp_skip (hK .normal st a w h hr)
 |.label l,cb,_=>λw0 fp0 bs n st a w K out Q hr h hK=>wp_label (hK .normal st a w h hr)
 |.region id ops false,cb,_=>λw0 fp0 bs n st a w K out Q hr h hK=>wp_region_list (cC hE _ _ a w _ (jt _ (ka _ hr)) h λst' a' w' h' hr'=>by
   obtain⟨st2,h2,hr2⟩:=nC h' hr'
   exact hK .normal st2 a' w' h2 hr2)
 |.region id ops true,cb,_=>λw0 fp0 bs n st a w K out Q hr h hK=>pj hE (jt _ (ka _ hr)) h λst' a' w' h' hr'=>by
   obtain⟨st2,h2,hr2⟩:=nC h' hr'
   exact hK .normal st2 a' w' h2 hr2
 |.seq x y,cb,hg=>λw0 fp0 bs n st a w K out Q hr h hK=>wp_seq<|
  dB hE x cb hg.1 w0 fp0 bs n st a w _ out _ hr h λe st' a' w' h' hr'=>match e,h' with
   |.normal,h'=>dB hE y cb hg.2 w0 fp0 bs n st' a' w' K out Q hr' h' hK
   |.exit _,h'=>hK _ st' a' w' h' hr'
   |.ret,h'=>hK _ st' a' w' h' hr'
 |.cond c x y,cb,hg=>λw0 fp0 bs n st a w K out Q hr h hK=>by
  simp only[ev,An]at h;obtain⟨v,hv,b,hb,h⟩:=h
  have hval:a.eval c=.bool b:=by
   obtain⟨pl,hr,_,_⟩:=hr;exact oR hb (aq hr.sl hv)
  refine wp_cond hval ?_;cases b
  ·exact dB hE y cb hg.2 w0 fp0 bs n _ a w K out Q (nB hr hval) h hK
  ·exact dB hE x cb hg.1 w0 fp0 bs n _ a w K out Q (nB hr hval) h hK
 |.block id c,cb,hg=>λw0 fp0 bs n st a w K out Q hr h hK=>wp_block<|
  dB hE c id hg w0 fp0 bs n st a w _ out _ hr h λe st' a' w' h' hr'=>match e,h' with
   |.normal,h'=>hK .normal st' a' w' h' hr'
   |.exit j,h'=>by
    simp only[inBlock]at h';show Exit.inBlock id Q (.exit j) a' w';cases hj:Nat.beq j id<;>simp only[hj,cond_true,cond_false]at h'
    ·have:¬j=id:=λe=>by subst e;simp at hj
     simp only[Exit.inBlock,if_neg this];exact hK (.exit j) st' a' w' h' hr'
    ·simp only[Exit.inBlock,if_pos (AR hj)]
     exact hK .normal st' a' w' h' hr'
   |.ret,h'=>hK .ret st' a' w' h' hr'
 |.loop c,cb,hg=>hg
 |.exit id,cb,_=>λw0 fp0 bs n st a w K out Q hr h hK=>wp_exit (hK (.exit id) st a w h hr)
 |.scope c,cb,hg=>λw0 fp0 bs n st a w K out Q hr h hK=>wp_scope_straight<|
  dB hE c cb hg w0 fp0 bs n st a w K out _ hr h λe st' a' w' h' hr'=>match e,h' with
   |.normal,h'=>hK .normal st' a' w' h' hr'
   |.exit j,h'=>hK (.exit j) st' a' w' h' hr'
   |.ret,h'=>hK .ret st' a' w' h' hr'
 |.ret,cb,_=>λw0 fp0 bs n st a w K out Q hr h hK=>wp_ret (hK .ret st a w h hr)
 |.rangeFunc _ _ _ _,cb,_=>λw0 fp0 bs n st a w K out Q hr h hK=>nomatch h
 |.goto _,cb,_=>λw0 fp0 bs n st a w K out Q hr h hK=>nomatch h
 |.refuse _,cb,_=>λw0 fp0 bs n st a w K out Q hr h hK=>nomatch h
end
end
section
variable [Tok] [Glo]
inductive Arg where
 |one (r:R)
 |agg (rs:List R)
 |fn (f:Fn) (first cap:List R)
def Arg.sv:Arg->SV
 |.one r=>.r [] r
 |.agg rs=>.agg (rs.map (SV.r []))
 |.fn f a b=>.fn f (a.map (SV.r [])) (b.map (SV.r []))
def vc (w:World) (ok:Cell->Prop) (rs:List R) (vs:Array Value):Prop:=
 rs.length=vs.size/\∀(j:Nat) (r:R) (u:Value),rs[j]? =some r->vs[j]? =some u->RepR w ok r u
def fV (w:World) (ok:Cell->Prop):Arg->Value->Prop
 |.one r,v=>RepR w ok r v
 |.agg rs,v=>∃vs,v=.agg vs/\vc w ok rs vs
 |.fn f a b,v=>∃us vs,v=.func f us vs/\vc w ok a us/\vc w ok b vs
def dq (P:Program) (g:FuncId) (args:List Arg) (out:Out):Prop:=
 qw P g/\∀(w:World) (us:Array Value) (ok:Cell->Prop),args.length=us.size->(∀(j:Nat) (x:Arg) (u:Value),args[j]? =some x->us[j]? =some u->fV w ok x u)->GlobW w (λ_=>False)->
  Calls P g us w λe w'=>∃u pl,e=.returned u/\aR (au 0 out.2) pl w'/\aa w' (au 0 out.2) pl out.1 u/\pl.base=(λp=>ok p\/w.at? p=none)/\
   (∀p x,w.at? p=some x->w'.at? p=some x/\w'.bc p=w.bc p)/\(∀i B p,look (au 0 out.2) i=some B->pl.fp i p->w.at? p=none)/\aV w w'
def zM (P:Program) (st:St):ResultVar->Option SV
 |.tmp t=>look st.aE t
 |.cell a T=>(look st.aE a).bind λp=>(dd st.heap p).bind λcs=>b7 P T cs
def zi (P:Program) (st:St):List ResultVar->Option (List SV)
 |[]=>some []
 |r::l=>(zM P st r).bind λv=>(zi P st l).bind λvs=>some (v::vs)
def yL (P:Program) (fn:Func) (st:St):Option SV:=
  (zi P st fn.results.toList).bind λvs=>match vs with
    |[v]=>some v
    |vs=>some (.tup vs)
inductive RT where
 |sc
 |own (t:Ty)
 |shl (t:Ty)
 |ro (t:Ty)
 |agg (l:List RT)
 |tup (l:List RT)
 |fn (as bs:List RT)
 |ptr
def posOf (i:Nat):List (Option Nat)->Nat->Option Nat
 |[],_=>none
 |none::l,n=>posOf i l (n+1)
 |some k::l,n=>cond (Nat.beq k i) (some n) (posOf i l (n+1))
mutual
def RT.sj:RT->SV->Option (List (Bool× Ty× Option Nat))
 |.sc,_=>some []
 |.ro _,_=>some []
 |.own t,.own i=>some [(false,t,some i)]
 |.own t,.br=>some [(false,t,none)]
 |.shl t,.own i=>some [(true,t,some i)]
 |.shl t,.br=>some [(true,t,none)]
 |.agg l,.agg cs=>nD l cs
 |.tup l,.tup cs=>nD l cs
 |.fn as bs,.fn _ a b=>(nD as a).bind λx=>(nD bs b).bind λy=>some (x++y)
 |.ptr,.ptr _ 0 _=>some []
 |_,_=>none
def nD:List RT->List SV->Option (List (Bool× Ty× Option Nat))
 |[],[]=>some []
 |r::l,v::cs=>(r.sj v).bind λa=>(nD l cs).bind λb=>some (a++b)
 |_,_=>none
end
def cS:List (Bool× Ty× Option Nat)->List Nat
 |[]=>[]
 |(_,_,some i)::l=>i::cS l
 |(_,_,none)::l=>cS l
mutual
def RT.out (h:ak) (L:List Nat) (gh:List (Option Nat)):RT->Nat->SV->Option (SV× Nat)
 |.sc,k,.r _ (.int kk n)=>some (.r [] (.int kk n),k)
 |.sc,k,.r _ (.bool b)=>some (.r [] (.bool b),k)
 |.sc,k,.r _ (.str l)=>some (.r [] (.str l),k)
 |.sc,k,.br=>some (.br,k)
 |.own _,k,_=>some (.own k,k+1)
 |.shl _,k,_=>some (.own k,k+1)
 |.ro t,k,v=>(v.list h t).bind λp=>cond (hit L p.1) none (some (.r [] (.sl t p.2),k))
 |.agg l,k,.agg cs=>(vW h L gh l k cs).bind λp=>some (.agg p.1,p.2)
 |.tup l,k,.tup cs=>(vW h L gh l k cs).bind λp=>some (.tup p.1,p.2)
 |.fn as bs,k,.fn f a b=>(vW h L gh as k a).bind λp=>(vW h L gh bs p.2 b).bind λq=>some (.fn f p.1 q.1,q.2)
 |.ptr,k,.ptr i 0 o=>(posOf i gh 0).bind λj=>some (.ptr j 0 o,k)
 |_,_,_=>none
def vW (h:ak) (L:List Nat) (gh:List (Option Nat)):List RT->Nat->List SV->Option (List SV× Nat)
 |[],k,[]=>some ([],k)
 |r::l,k,v::cs=>(r.out h L gh k v).bind λp=>(vW h L gh l p.2 cs).bind λq=>some (p.1::q.1,q.2)
 |_,_,_=>none
end
def placeOf (i:Nat):List Nat->Nat->Option Nat
 |[],_=>none
 |k::l,n=>cond (Nat.beq k i) (some n) (placeOf i l (n+1))
def nodup:List Nat->Bool
 |[]=>true
 |k::l=>cond (mem k l) false (nodup l)
def kb (h:ak) (L:List Nat):Bool× Ty× Option Nat->Option Blk
 |(false,t,none)=>some (.arr none t [])
 |(true,t,none)=>some (.arr (some []) t [])
 |(false,t,some i)=>match look h i with
  |some (.arr none t' xs)=>cond (decide (t'=t)) (some (.arr none t' xs)) none
  |_=>none
 |(true,t,some i)=>match look h i with
  |some (.arr (some d) t' xs)=>cond (hit L d) none (cond (decide (t'=t)) (some (.arr (some []) t' xs)) none)
  |_=>none
def ez (h:ak) (L:List Nat):List (Bool× Ty× Option Nat)->Option (List Blk)
 |[]=>some []
 |i::l=>(kb h L i).bind λb=>(ez h L l).bind λl=>some (b::l)
def canon (rt:RT) (h:ak) (v:SV):Option Out:=
 (rt.sj v).bind λs=>cond (nodup (cS s)) ((ez h (cS s) s).bind λbs=>(rt.out h (cS s) [] 0 v).bind λp=>some (p.1,bs)) none
def fin {ρ:Type} (P:Program) (fn:Func) (rt:RT) (dec:Out->Option ρ):Ex->St->Option ρ
 |.exit _,_=>none
 |.normal,st=>(yL P fn st).bind λv=>(canon rt st.heap v).bind dec
 |.ret,st=>(yL P fn st).bind λv=>(canon rt st.heap v).bind dec
def nE:Nat->List Arg->List (Nat× SV)
 |_,[]=>[]
 |n,a::l=>(n,a.sv)::nE (n+1) l
def st0 (fn:Func) (args:List Arg):St:={aE:=nE 0 args,heap:=[],nid:=0,n:=fn.ntmps}
section
variable {P:Program}
def xA (a:Act):ResultVar->Sem Value
 |.tmp t=>pure (a.tmps.getD t undef)
 |.cell b t=>do loadVar t (<-asAddr (a.tmps.getD b undef))
theorem lE (fn:Func) (a:Act):results fn a.tmps=(fn.results.mapM (xA a)>>= λvs=>pure (if h:vs.size=1 then vs[0]else .tuple vs)):=by
 unfold results
 congr 1
theorem vd {w:World} {st:St} {pl:Pl} {a:Act} (hr:aR st.heap pl w) (hs:bI w st.heap pl st.aE a) {r:ResultVar} {v:SV} (h:zM P st r=some v):
  ∃u,(xA a r).run P w=.ok u w/\aa w st.heap pl v u:=by
 cases r with
 |tmp t=>exact⟨_,rfl,hs t v h⟩
 |cell b T=>
  simp only[zM,An]at h;obtain⟨p,hp,cs,hcs,hv⟩:=h;obtain⟨b',o',hpu,hc⟩:=jN hr (hs b p hp) hcs;obtain⟨u,h1,h2⟩:=l3 hv b' o' hc;exact⟨u,by simp[xA,hpu,asAddr,h1],h2⟩
theorem qE {w:World} {st:St} {pl:Pl} {a:Act} (hr:aR st.heap pl w) (hs:bI w st.heap pl st.aE a):∀{l:List ResultVar} {vs:List SV},zi P st l=some vs->
  ∃us,(l.mapM (xA a):Sem (List Value)).run P w=.ok us w/\vs.length=us.length/\
   ∀(j:Nat) (x:SV) (u:Value),vs[j]? =some x->us[j]? =some u->aa w st.heap pl x u
 |[],vs,h=>by cases h;exact⟨[],rfl,rfl,λj x u hx _=>by simp at hx⟩
 |r::l,vs,h=>by
  simp only[zi,An,AP]at h;obtain⟨v,hv,vs',hvs,rfl⟩:=h;obtain⟨us,h1,h2,h3⟩:=qE hr hs hvs;obtain⟨u,h4,h5⟩:=vd (P:=P) hr hs hv;refine⟨u::us,?_,by simp[h2],λj x u' hx hu=>?_⟩
  ·rw[List.mapM_cons,Sem.run_bind,h4];simp only[Result.andThen_ok,Sem.run_bind,h1,Sem.run_pure]
  ·grind
theorem ve {w:World} {st:St} {pl:Pl} {a:Act} (hr:aR st.heap pl w) (hs:bI w st.heap pl st.aE a) {fn:Func} {v:SV} (h:yL P fn st=some v):
  ∃u,(results fn a.tmps).run P w=.ok u w/\aa w st.heap pl v u:=by
 simp only[yL,An]at h;obtain⟨vs,hvs,h⟩:=h;obtain⟨us,h1,h2,h3⟩:=qE (P:=P) hr hs hvs
 have hm:(fn.results.mapM (xA a):Sem (Array Value)).run P w=.ok us.toArray w:=by
  rw[Array.mapM_eq_mapM_toList,Sem.run_map,h1];rfl
 split at h
 ·rename_i v';cases h
  match us,h2,h3,hm with
  |[u],h2,h3,hm=>
   refine⟨u,?_,h3 0 _ _ rfl rfl⟩;rw[lE,Sem.run_bind,hm];simp
 ·rename_i hne;cases h
  have hsz:¬us.toArray.size=1:=λe=>by
   have:us.length=1:=by simpa using e
   match vs,h2,hne with
   |[v'],h2,hne=>grind
   |[],h2,_=>grind
   |_::_::_,h2,_=>grind
  refine⟨.tuple us.toArray,?_,.tup _ _ (by simpa using h2) λj x u hx hu=>h3 j x u hx (by simpa using hu)⟩;rw[lE,Sem.run_bind,hm];simp only[Result.andThen_ok,dif_neg hsz];rfl
theorem cM {i:Nat}:∀{L:List Nat} {n k:Nat},placeOf i L n=some k->n<=k/\L[k-n]? =some i
 |j::l,n,k,h=>by
  simp only[placeOf]at h;cases hj:Nat.beq j i<;>simp only[hj,cond_true,cond_false,AP]at h
  ·obtain⟨h1,h2⟩:=cM h;grind
  ·subst h;exact⟨Bh _,by simp[AR hj]⟩
theorem bX:∀{L:List Nat},nodup L=true->L.Nodup
 |[],_=>List.nodup_nil
 |k::l,h=>by
  simp only[nodup]at h;cases hk:mem k l<;>simp only[hk,cond_true,cond_false]at h
  ·refine BJ.2 ⟨λhm=>?_,bX h⟩;rw[(mem_iff k l).2 hm]at hk;cases hk
  ·cases h
theorem dC {h:ak} {L:List Nat}:∀{l:List (Bool× Ty× Option Nat)} {bs:List Blk},ez h L l=some bs->bs.length=l.length/\
  ∀(k:Nat) (b:Blk),bs[k]? =some b->∃s,l[k]? =some s/\kb h L s=some b
 |[],bs,e=>by cases e;exact⟨rfl,λk b hb=>by simp at hb⟩
 |i::l,bs,e=>by
  simp only[ez,An,AP]at e;obtain⟨b,h2,l',h3,rfl⟩:=e;obtain⟨g1,g2⟩:=dC h3;grind
def Pl.out (pl:Pl) (L:List Nat):Pl:=⟨λk=>pl.hdr (L.getD k 0),λk=>pl.fp (L.getD k 0),pl.base⟩
def Pl.res (pl:Pl) (S:List (Bool× Ty× Option Nat)):Pl:=
  ⟨λk=>match S[k]? with
    |some (_,_,some i)=>pl.hdr i
    |_=>.slice none 0 0,
   λk p=>match S[k]? with
    |some (_,_,some i)=>pl.fp i p
    |_=>False,pl.base⟩
theorem kd {S:List (Bool× Ty× Option Nat)} {k:Nat} {b:Bool} {t:Ty} {i:Nat} (h:S[k]? =some (b,t,some i)):i∈cS S:=by
 induction S generalizing k with
 |nil=>simp at h
 |cons x l ih=>
  obtain⟨b',t',o⟩:=x
  cases k with
  |zero=>simp at h;obtain⟨rfl,rfl,rfl⟩:=h;simp[cS]
  |succ k=>
   have:=ih (k:=k) (by simpa using h);cases o<;>simp[cS,this]
theorem tH {S:List (Bool× Ty× Option Nat)} (hn:(cS S).Nodup) {k k':Nat} {b b':Bool} {t t':Ty} {i:Nat} (h:S[k]? =some (b,t,some i)) (h':S[k']? =some (b',t',some i)):k=k':=by
 induction S generalizing k k' with
 |nil=>simp at h
 |cons x l ih=>
  obtain⟨b0,t0,o⟩:=x
  cases k with
  |zero=>
   cases k' with
   |zero=>rfl
   |succ k'=>
    simp at h;obtain⟨rfl,rfl,rfl⟩:=h;have:=kd (k:=k') (by simpa using h');simp[cS]at hn
    grind
  |succ k=>
   cases k' with
   |zero=>
    simp at h';obtain⟨rfl,rfl,rfl⟩:=h';have:=kd (k:=k) (by simpa using h);simp[cS]at hn
    grind
   |succ k'=>
    have hn':(cS l).Nodup:=by
     cases o with
     |none=>exact hn
     |some x=>simp[cS]at hn;exact hn.2
    grind
section
variable {w:World} {H:ak} {pl:Pl} {S:List (Bool× Ty× Option Nat)} {bs:List Blk}
theorem fB (hL:ez H (cS S) S=some bs) {k:Nat} {B:Blk} (hB:look (au 0 bs) k=some B):∃s,S[k]? =some s/\kb H (cS S) s=some B:=by
 rw[ax,if_pos (Bo _),Bv]at hB;exact(dC hL).2 k B hB
theorem bR {L:List Nat} {b:Bool} {t:Ty} {i:Nat} {B:Blk} (h:kb H L (b,t,some i)=some B):∃sh xs,look H i=some (.arr sh t xs)/\
  ((sh=none/\B=.arr none t xs)\/∃d,sh=some d/\hit L d=false/\B=.arr (some []) t xs):=by
 cases b with
 |false=>
  simp only[kb]at h
  grind
 |true=>
  simp only[kb]at h;grind
theorem tI (hL:ez H (cS S) S=some bs) {d:List Nat} (hd:hit (cS S) d=false) {p:Cell} (h:okd H pl d p):okd (au 0 bs) (pl.res S) [] p:=by
 refine⟨h.1,λk B hB _ hf=>?_⟩;obtain⟨⟨b,t,o⟩,h1,h2⟩:=fB hL hB
 cases o with
 |none=>simp[Pl.res,h1]at hf
 |some i=>
  simp only[Pl.res,h1]at hf;obtain⟨sh,xs,hl,_⟩:=bR h2;refine h.2 i _ hl (λhm=>?_) hf;have hm2:=bB _ d hd i hm;rw[(mem_iff i _).2 (kd h1)]at hm2;cases hm2
theorem qF {r:RT} {v:SV} {s:List (Bool× Ty× Option Nat)} {t:Ty} {b:Bool} (hr:r=if b then .shl t else .own t) (h:r.sj v=some s):(∃i,v=.own i/\s=[(b,t,some i)])\/(v=.br/\s=[(b,t,none)]):=by
 cases b<;>simp at hr<;>subst hr<;>(cases v<;>simp only[RT.sj]at h<;>first|(cases h;done)|(cases h;first|exact .inl ⟨_,rfl,rfl⟩|exact .inr ⟨rfl,rfl⟩))
theorem wX (hL:ez H (cS S) S=some bs) {k:Nat} {b:Bool} {t:Ty} {v:SV} {u:Value} (hv:aa w H pl v u)
  (h:(∃i,v=.own i/\S[k]? =some (b,t,some i))\/(v=.br/\S[k]? =some (b,t,none))):aa w (au 0 bs) (pl.res S) (.own k) u:=by
 have hlt:∀{s},S[k]? =some s->k<bs.length:=λ{s} h=>by rw[(dC hL).1];exact(AQ.1 h).1
 have mT:∀{s},S[k]? =some s->∃B,look (au 0 bs) k=some B/\kb H (cS S) s=some B:=λ{s} h=>by
  have hk:=AU (hlt h);obtain⟨s',h1,h2⟩:=(dC hL).2 k _ hk;rw[h]at h1;cases h1;exact⟨_,by rw[ax,if_pos (Bo _),Bv];exact hk,h2⟩
 rcases h with⟨i,rfl,h⟩|⟨rfl,h⟩
 ·obtain⟨B,h1,h2⟩:=mT h;obtain⟨sh,xs,hl,h3⟩:=bR h2
  have e:(pl.res S).hdr k=pl.hdr i:=by simp only[Pl.res,h]
  cases hv with
  |own _ sh' t' ys hl'=>
   rw[<-e]
   rcases h3 with⟨_,rfl⟩|⟨d,_,_,rfl⟩
   ·exact .own k none t xs h1
   ·exact .own k (some []) t xs h1
 ·obtain⟨B,h1,h2⟩:=mT h
  have e:(pl.res S).hdr k=.slice none 0 0:=by simp only[Pl.res,h]
  cases hv with
  |br=>
   rw[<-e]
   cases b with
   |false=>cases h2;exact .own k none t [] h1
   |true=>cases h2;exact .own k (some []) t [] h1
section
variable {H2:ak} {plR:Pl} {m:Nat} {LL:List Nat} {gh:List (Option Nat)}
mutual
theorem qG (hr:aR H pl w) (hown:∀(k:Nat) (b:Bool) (t:Ty) (v:SV) (u:Value),aa w H pl v u->((∃i,v=.own i/\S[k]? =some (b,t,some i))\/(v=.br/\S[k]? =some (b,t,none)))->aa w H2 plR (.own (m+k)) u)
  (hro:∀d p,hit LL d=false->okd H pl d p->okd H2 plR [] p) (wY:∀i j o u,posOf i gh 0=some j->aa w H pl (.ptr i 0 o) u->aa w H2 plR (.ptr j 0 o) u):(r:RT)->{v v':SV}->{u:Value}->{k k':Nat}->{s:List (Bool× Ty× Option Nat)}->r.sj v=some s->(∀(j:Nat) (x:Bool× Ty× Option Nat),s[j]? =some x->S[k+j]? =some x)->
  r.out H LL gh (m+k) v=some (v',k')->aa w H pl v u->aa w H2 plR v' u/\k'=m+(k+s.length)
 |.sc,v,v',u,k,k',s,hs,hS,h,hv=>by
  simp only[RT.sj,AP]at hs;subst hs
  cases hv with
  |r d x _ hx=>cases hx<;>(simp only[RT.out,AP,A4]at h)<;>first|(obtain⟨rfl,rfl⟩:=h;exact⟨by first|exact ed|exact dy|exact oO,rfl⟩)|(exact nomatch h)
  |br=>
   simp only[RT.out,AP,A4]at h;obtain⟨rfl,rfl⟩:=h
   exact⟨.br,rfl⟩
  |_=>simp[RT.out]at h
 |.own t,v,v',u,k,k',s,hs,hS,h,hv=>by
  simp only[RT.out,AP,A4]at h;obtain⟨rfl,rfl⟩:=h
  rcases qF (b:=false) rfl hs with⟨i,rfl,rfl⟩|⟨rfl,rfl⟩
  ·exact⟨hown k _ t _ u hv (.inl ⟨i,rfl,hS 0 _ rfl⟩),rfl⟩
  ·exact⟨hown k _ t _ u hv (.inr ⟨rfl,hS 0 _ rfl⟩),rfl⟩
 |.shl t,v,v',u,k,k',s,hs,hS,h,hv=>by
  simp only[RT.out,AP,A4]at h;obtain⟨rfl,rfl⟩:=h
  rcases qF (b:=true) rfl hs with⟨i,rfl,rfl⟩|⟨rfl,rfl⟩
  ·exact⟨hown k _ t _ u hv (.inl ⟨i,rfl,hS 0 _ rfl⟩),rfl⟩
  ·exact⟨hown k _ t _ u hv (.inr ⟨rfl,hS 0 _ rfl⟩),rfl⟩
 |.ro t,v,v',u,k,k',s,hs,hS,h,hv=>by
  simp only[RT.sj,AP]at hs;subst hs;simp only[RT.out,An]at h;obtain⟨⟨d,xs⟩,h1,h2⟩:=h;cases hd:hit LL d<;>simp only[hd,cond_true,cond_false,AP,A4]at h2
  ·obtain⟨rfl,rfl⟩:=h2;exact⟨.r _ _ _ ((eV hr h1 hv).frame λp u hp hu=>⟨hro d p hd hp,hu⟩),rfl⟩
  ·cases h2
 |.agg l,v,v',u,k,k',s,hs,hS,h,hv=>by
  cases hv with
  |agg cs vs h1 h2 h3=>
   simp only[RT.out,An,AP,A4]at h;obtain⟨⟨l',k2⟩,h4,rfl,rfl⟩:=h;simp only[RT.sj]at hs;obtain⟨g1,g2,g3⟩:=fa hr hown hro wY l hs hS h4 vs.toList (by simpa using h1) λj x u hx hu=>h3 j x u hx (by simpa using hu)
   exact⟨.agg _ _ (by simpa using g1) h2 λj x u hx hu=>g2 j x u hx (by simpa using hu),g3⟩
  |_=>simp[RT.out]at h
 |.tup l,v,v',u,k,k',s,hs,hS,h,hv=>by
  cases hv with
  |tup cs vs h1 h3=>
   simp only[RT.out,An,AP,A4]at h;obtain⟨⟨l',k2⟩,h4,rfl,rfl⟩:=h;simp only[RT.sj]at hs;obtain⟨g1,g2,g3⟩:=fa hr hown hro wY l hs hS h4 vs.toList (by simpa using h1) λj x u hx hu=>h3 j x u hx (by simpa using hu)
   exact⟨.tup _ _ (by simpa using g1) λj x u hx hu=>g2 j x u hx (by simpa using hu),g3⟩
  |_=>simp[RT.out]at h
 |.fn as bs,v,v',u,k,k',s,hs,hS,h,hv=>by
  cases hv with
  |fn f a b us vs h1 h3 h1' h3'=>
   simp only[RT.out,An,AP,A4]at h;obtain⟨⟨l',k2⟩,h4,⟨l2',k3⟩,h5,rfl,rfl⟩:=h;simp only[RT.sj,An,AP]at hs;obtain⟨s1,e1,s2,e2,rfl⟩:=hs;obtain⟨g1,g2,g3⟩:=fa hr hown hro wY as e1 (λj x hx=>hS j x (by rw[A1 (AQ.1 hx).1];exact hx)) h4 us.toList (by simpa using h1) λj x u hx hu=>h3 j x u hx (by simpa using hu);simp only at h5;subst g3
   obtain⟨q1,q2,q3⟩:=fa hr hown hro wY bs e2 (λj x hx=>by
    have:=hS (s1.length+j) x (by rw[AX (by omega),Bl];exact hx)
    rw[Bx];exact this) h5 vs.toList (by simpa using h1') λj x u hx hu=>h3' j x u hx (by simpa using hu)
   exact⟨.fn _ _ _ _ _ (by simpa using g1) (λj x u hx hu=>g2 j x u hx (by simpa using hu)) (by simpa using q1) (λj x u hx hu=>q2 j x u hx (by simpa using hu)),by simp;omega⟩
  |_=>simp[RT.out]at h
 |.ptr,v,v',u,k,k',s,hs,hS,h,hv=>by
  cases v with
  |ptr i x o=>
   cases x with
   |zero=>
    simp only[RT.out,An,AP,A4]at h;simp only[RT.sj,AP]at hs
    grind
   |succ x=>simp[RT.out]at h
  |_=>simp[RT.out]at h
theorem fa (hr:aR H pl w) (hown:∀(k:Nat) (b:Bool) (t:Ty) (v:SV) (u:Value),aa w H pl v u->((∃i,v=.own i/\S[k]? =some (b,t,some i))\/(v=.br/\S[k]? =some (b,t,none)))->aa w H2 plR (.own (m+k)) u)
  (hro:∀d p,hit LL d=false->okd H pl d p->okd H2 plR [] p) (wY:∀i j o u,posOf i gh 0=some j->aa w H pl (.ptr i 0 o) u->aa w H2 plR (.ptr j 0 o) u):(l:List RT)->{cs cs':List SV}->{k k':Nat}->{s:List (Bool× Ty× Option Nat)}->nD l cs=some s->(∀(j:Nat) (x:Bool× Ty× Option Nat),s[j]? =some x->S[k+j]? =some x)->
  vW H LL gh l (m+k) cs=some (cs',k')->(us:List Value)->cs.length=us.length->(∀(j:Nat) (x:SV) (u:Value),cs[j]? =some x->us[j]? =some u->aa w H pl x u)->
  cs'.length=us.length/\(∀(j:Nat) (x:SV) (u:Value),cs'[j]? =some x->us[j]? =some u->aa w H2 plR x u)/\k'=m+(k+s.length)
 |[],[],cs',k,k',s,hs,hS,h,us,hl,_=>by
  simp only[nD,AP]at hs;simp only[vW,AP,A4]at h
  grind
 |r::l,v::cs,cs',k,k',s,hs,hS,h,u::us,hl,hp=>by
  simp only[nD,An,AP]at hs;obtain⟨s1,hs1,s2,hs2,rfl⟩:=hs;simp only[vW,An,AP,A4]at h;obtain⟨⟨v',k2⟩,h1,⟨l',k3⟩,h2,rfl,rfl⟩:=h;obtain⟨g1,g2⟩:=qG hr hown hro wY r hs1 (λj x hx=>hS j x (by rw[A1 (AQ.1 hx).1];exact hx)) h1 (hp 0 v u rfl rfl);simp only at h2;subst g2
  obtain⟨q1,q2,q3⟩:=fa hr hown hro wY l hs2 (λj x hx=>by
    have:=hS (s1.length+j) x (by rw[AX (by omega),Bl];exact hx)
    rw[Bx];exact this) h2 us (by simpa using hl) λj x u hx hu=>hp (j+1) x u (by simpa using hx) (by simpa using hu)
  refine⟨by simp[q1],λj x u' hx hu=>?_,by simp;omega⟩
  cases j with
  |zero=>grind
  |succ j=>grind
 |[],_::_,_,_,_,_,hs,_,_,_,_,_=>nomatch hs
 |_::_,[],_,_,_,_,hs,_,_,_,_,_=>nomatch hs
end
end
theorem wZ (hr:aR H pl w) (hL:ez H (cS S) S=some bs) (r:RT) {v v':SV} {u:Value} {k k':Nat} {s:List (Bool× Ty× Option Nat)} (hs:r.sj v=some s) (hS:∀(j:Nat) (x:Bool× Ty× Option Nat),s[j]? =some x->S[k+j]? =some x)
  (h:r.out H (cS S) [] k v=some (v',k')) (hv:aa w H pl v u):aa w (au 0 bs) (pl.res S) v' u/\k'=k+s.length:=by
 have:=qG (H2:=au 0 bs) (plR:=pl.res S) (m:=0) (LL:=cS S) (gh:=[]) hr (λk b t v u hv hc=>by rw[AY];exact wX hL hv hc) (λd p hd hp=>tI hL hd hp) (λi j o u h=>nomatch h) r hs hS (by rw[AY];exact h) hv;grind
theorem vf (hr:aR H pl w) (hn:nodup (cS S)=true) (hL:ez H (cS S) S=some bs):aR (au 0 bs) (pl.res S) w:=by
  refine⟨λk B hB=>?_,λk k' B B' p h1 h2 f1 f2=>?_,λk B p hB hf=>?_,hr.nb⟩
  · obtain ⟨⟨b, t, o⟩, h1, h2⟩ := fB hL hB
    cases o with
    | none =>
      have e:(pl.res S).hdr k=.slice none 0 0:=by simp only[Pl.res,h1]
      have ef:∀p,¬(pl.res S).fp k p:=λp hp=>by simp[Pl.res,h1]at hp
      have row:∀inner,Nonempty (Row w inner t [] ((pl.res S).hdr k) ((pl.res S).fp k)):=λinner=>
        ⟨⟨none,0,0,0,λ_ _=>undef,λ_ _ _=>False,e,Bh _,.inl rfl,λj hj=>by simp at hj,λi j r h=>by have:=(ao h).1;simp at this,λi j r h=>by have:=(ao h).1;simp at this,
          λi j r p h=>by have:=(ao h).1;simp at this,λi j r i' j' r' p h=>by have:=(ao h).1;simp at this,λp=>⟨λhp=>(ef p hp).elim,λhp=>by
            rcases hp with⟨_,h,h'⟩|⟨i,j,r,h,_⟩
            · omega
            · have:=(ao h).1;simp at this⟩⟩⟩
      cases b with
      |false=>cases h2;exact row _
      |true=>cases h2;exact row _
    | some i =>
      have e:(pl.res S).hdr k=pl.hdr i:=by simp only[Pl.res,h1]
      have ef:(pl.res S).fp k=pl.fp i:=by funext p;simp only[Pl.res,h1]
      obtain⟨sh,xs,hl,h3⟩:=bR h2;have hb:=hr.blk i _ hl
      rcases h3 with⟨rfl,rfl⟩|⟨d,rfl,hd,rfl⟩
      · show Nonempty (Row w (bG w) t xs ((pl.res S).hdr k) ((pl.res S).fp k));rw[e,ef];exact hb
      · obtain⟨⟨a,cap,b,o,vs,fs,q1,q2,q3,q4,q5,q6,q7,q8,q9⟩⟩:=hb;exact⟨⟨a,cap,b,o,vs,fs,e.trans q1,q2,q3,q4,q5,λi j r hc=>⟨(q6 i j r hc).1.frame λp u hp hu=>⟨tI hL hd hp,hu⟩,(q6 i j r hc).2⟩,q7,q8,λp=>by rw[ef];exact q9 p⟩⟩
  · obtain⟨⟨b,t,o⟩,g1,g2⟩:=fB hL h1;obtain⟨⟨b',t',o'⟩,g1',g2'⟩:=fB hL h2
    cases o with
    |none=>simp[Pl.res,g1]at f1
    | some i =>
      cases o' with
      |none=>simp[Pl.res,g1']at f2
      | some i' =>
        simp only[Pl.res,g1]at f1;simp only[Pl.res,g1']at f2;obtain⟨_,_,hl,_⟩:=bR g2;obtain⟨_,_,hl',_⟩:=bR g2';have:=hr.dis i i' _ _ p hl hl' f1 f2;subst this;exact tH (bX hn) g1 g1'
  · obtain⟨⟨b,t,o⟩,g1,g2⟩:=fB hL hB
    cases o with
    |none=>simp[Pl.res,g1]at hf
    | some i =>
      simp only[Pl.res,g1]at hf;obtain⟨_,_,hl,_⟩:=bR g2;exact hr.ob i _ p hl hf
end
theorem pr (args:List Arg) (n t:Nat):look (nE n args) t=if n<=t then(args[t-n]?).map Arg.sv else none:=by
 induction args generalizing n with
 |nil=>simp[nE,look]
 |cons a l ih=>
  rw[nE,ae,ih];grind
theorem mC {w:World} {ok:Cell->Prop} {pl:Pl} (hb:∀p,ok p->pl.base p) {rs:List R} {vs:Array Value} (h:vc w ok rs vs):
  (rs.map (SV.r [])).length=vs.size/\∀(j:Nat) (x:SV) (u:Value),(rs.map (SV.r []))[j]? =some x->vs[j]? =some u->aa w [] pl x u:=by
 refine⟨by simpa using h.1,λj x u hx hu=>?_⟩;rw[Bu]at hx;obtain⟨r,hr,rfl⟩:=AV.1 hx;exact .r _ _ _ ((h.2 j r u hr hu).frame λp u hp hu=>⟨⟨hb p hp,λi B hB=>by simp[look]at hB⟩,hu⟩)
theorem w3 {w:World} {ok:Cell->Prop} {pl:Pl} (hb:∀p,ok p->pl.base p) {x:Arg} {u:Value} (h:fV w ok x u):aa w [] pl x.sv u:=by
 cases x with
 |one r=>exact .r _ _ _ (h.frame λp u hp hu=>⟨⟨hb p hp,λi B hB=>by simp[look]at hB⟩,hu⟩)
 |agg rs=>
  obtain⟨vs,rfl,h⟩:=h;obtain⟨g1,g2⟩:=mC (pl:=pl) hb h;refine .agg _ _ g1 (λj v hv=>?_) g2
  have hj:j<rs.length:=by rw[h.1];exact(A2.1 hv).1
  exact(h.2 j _ v (AU hj) hv).fZ
 |fn f a b=>
  obtain⟨us,vs,rfl,h,h'⟩:=h;obtain⟨g1,g2⟩:=mC (pl:=pl) hb h;obtain⟨g3,g4⟩:=mC (pl:=pl) hb h';exact .fn _ _ _ _ _ g1 g2 g3 g4
theorem rK {ρ:Type} {E:Env} (hE:fN E) {LP:Nat->Ev ρ->Ev ρ} {g:FuncId} {fn:Func} {c:Code} {args:List Arg} {r:ρ} {dec:Out->Option ρ} {enc:ρ->Out} (hd:∀o r,dec o=some r->o=enc r) (hf:E.P.funcs[g]? =some fn) (hc:fn.body=some c)
  (hnm:(fn.name== "runtime.NumGoroutine")=false) (hn:Nat.ble args.length fn.ntmps=true) (hLP:dp E LP 0 c) {rt:RT} (h:ev E LP 0 c (st0 fn args) (fin E.P fn rt dec)=some r):dq E.P g args (enc r):=by
 generalize ho:enc r=out;refine⟨enters_of hf (by rw[hc];rfl) hnm,λw us ok hlen kQ hgl=>?_⟩;have hn:=AZ hn;refine calls_of_wp hf hc ?_
 let pl0:Pl:=⟨λ_=>undef,λ_ _=>False,λp=>ok p\/w.at? p=none⟩
 have hrel:Rl w ⟨λ_=>False,λ_=>undef,λ_=>.box [],[]⟩ pl0.base fn.ntmps (st0 fn args) {tmps:=us++Array.replicate (fn.ntmps-us.size) undef,defers:=[]} w:=by
  refine⟨pl0,⟨⟨λi B hB=>by simp[st0,look]at hB,λi j B B' p hB=>by simp[st0,look]at hB,λi B p hB=>by simp[st0,look]at hB,λp hp=>.inr hp⟩,λt v hv=>?_,by simp[st0];omega,⟨rfl,hgl⟩,λi _=>rfl,aV.refl w,λp u hp _=>⟨λi B hB=>by simp[st0,look]at hB,hp,rfl⟩,λk i hk=>by simp[st0]at hk⟩,rfl,rfl⟩;simp only[st0]at hv;rw[pr,if_pos (Bo _),Bv]at hv;obtain⟨x,hx,rfl⟩:=AV.1 hv
  have ht:t<us.size:=by rw[<-hlen];exact(AQ.1 hx).1
  have hg:(us++Array.replicate (fn.ntmps-us.size) undef).getD t undef=us[t]:=by
   rw[A7,BB ht,A0 ht];rfl
  rw[hg];exact w3 (λp hp=>Or.inl hp) (kQ t x _ hx (A0 ht))
 refine dB hE c 0 hLP w ⟨λ_=>False,λ_=>undef,λ_=>.box [],[]⟩ pl0.base fn.ntmps _ _ w _ r _ hrel h λe st' a' w' hK hr'=>?_;obtain⟨pl,hr,hb,_⟩:=hr'
 have key:∀v,yL E.P fn st'=some v->canon rt st'.heap v=some out->a'.defers=[]/\∃u,(results fn a'.tmps).run E.P w'=.ok u w'/\∃u' pl',Ending.returned u=.returned u'/\aR (au 0 out.2) pl' w'/\
   aa w' (au 0 out.2) pl' out.1 u'/\pl'.base=(λp=>ok p\/w.at? p=none)/\
   (∀p x,w.at? p=some x->w'.at? p=some x/\w'.bc p=w.bc p)/\(∀i B p,look (au 0 out.2) i=some B->pl'.fp i p->w.at? p=none)/\aV w w':=λv hv hcn=>by
  obtain⟨u,hu,hvr⟩:=ve (P:=E.P) hr.hr hr.sl hv;simp only[canon,An]at hcn;obtain⟨S,hS,hcn⟩:=hcn;cases hnd:nodup (cS S)<;>simp only[hnd,cond_true,cond_false,An,AP]at hcn
  ·cases hcn
  ·obtain⟨bs,hbs,⟨v',k'⟩,hv',rfl⟩:=hcn;refine⟨hr.df.1,u,hu,u,pl.res S,rfl,vf hr.hr hnd hbs,(wZ hr.hr hbs rt hS (λj x hx=>by rw[AY];exact hx) hv' hvr).1,hb,λp x hp=>?_,λi B p hB hf=>?_,hr.gr⟩
   ·obtain⟨_,g2,g3⟩:=hr.fr p x hp (λh=>h);grind
   ·obtain⟨⟨b,t,o⟩,g1,g2⟩:=fB hbs hB
    cases o with
    |none=>simp[Pl.res,g1]at hf
    |some i'=>
     simp only[Pl.res,g1]at hf;obtain⟨_,_,hl,_⟩:=bR g2
     cases hq:w.at? p with
     |none=>rfl
     |some x=>exact((hr.fr p x hq (λh=>h)).1 i' _ hl hf).elim
 cases e with
 |exit j=>cases hK
 |normal=>
  simp only[fin,An]at hK;obtain⟨v,hv,o,hcn,zN⟩:=hK
  exact key v hv (hcn.trans (congrArg some ((hd o r zN).trans ho)))
 |ret=>
  simp only[fin,An]at hK;obtain⟨v,hv,o,hcn,zN⟩:=hK;exact key v hv (hcn.trans (congrArg some ((hd o r zN).trans ho)))
end
end
section
variable [Tok] [Glo]
section
variable {w:World} {H:ak} {pl:Pl} {P:Program}
end
inductive Sh where
 |one (t:Ty)
 |agg (ts:List Ty)
 |fn
def toArg (h:ak):Sh->SV->Option (List Nat× Arg)
 |.one t,v=>(v.asR h t).bind λp=>some (p.1,.one p.2)
 |.agg ts,.agg cs=>(sf h ts cs).bind λp=>some (p.1,.agg p.2)
 |.fn,.fn f [] []=>some ([],.fn f [] [])
 |_,_=>none
def lF (h:ak):List Sh->List SV->Option (List Nat× List Arg)
 |[],[]=>some ([],[])
 |s::ss,v::vs=>(toArg h s v).bind λp=>(lF h ss vs).bind λq=>some (p.1++q.1,p.2::q.2)
 |_,_=>none
mutual
def SV.shift (n:Nat) (d:List Nat):SV->SV
 |.own i=>.own (n+i)
 |.r [] x=>mkR d x
 |.br=>.br
 |.agg cs=>.agg (gU n d cs)
 |.tup cs=>.tup (gU n d cs)
 |_=>.undef
def gU (n:Nat) (d:List Nat):List SV->List SV
 |[]=>[]
 |v::l=>v.shift n d::gU n d l
end
def Blk.shift (d:List Nat):Blk->Blk
 |.arr none t xs=>.arr none t xs
 |.arr (some _) t xs=>.arr (some d) t xs
 |.box cs=>.box cs
def dD (d:List Nat):List Blk->List Blk
 |[]=>[]
 |b::l=>b.shift d::dD d l
def rL:List Blk->Bool
 |[]=>true
 |.arr none _ _::l=>rL l
 |.arr (some []) _ _::l=>rL l
 |_::_=>false
abbrev PG:=(ρ:Type)->List Arg->(Out->Option ρ)->Option ρ
def pt (ss:List Sh) (G:PG):Orc:=λρ nid vs h K=>
 (lF h ss vs).bind λp=>G ρ p.2 λo=>cond (rL o.2) (K {v:=o.1.shift nid p.1,news:=dD p.1 o.2}) none
def qH (P:Program) (g:FuncId) (G:PG):Prop:=
 ∀(ρ:Type) args (K:Out->Option ρ) (out:ρ),G ρ args K=some out->∃o,K o=some out/\dq P g args o
section
variable {w:World} {H:ak} {pl:Pl} {P:Program}
theorem tJ (hr:aR H pl w) {s:Sh} {v:SV} {u:Value} {d:List Nat} {x:Arg} (h:toArg H s v=some (d,x)) (hv:aa w H pl v u):fV w (okd H pl d) x u:=by
 unfold toArg at h;split at h
 ·simp only[An,AP,A4]at h;obtain⟨⟨d',r⟩,h1,rfl,rfl⟩:=h;exact l7 hr h1 hv
 ·simp only[An,AP,A4]at h;obtain⟨⟨d',rs⟩,h1,rfl,rfl⟩:=h
  cases hv with
  |agg cs vs hl h2 h3=>
   obtain⟨g1,g2⟩:=qo hr h1 (us:=vs.toList) (by simpa using hl) λj x u hx hu=>h3 j x u hx (by simpa using hu);exact⟨vs,rfl,by simpa using g1,λj r u hr hu=>g2 j r u hr (by simpa using hu)⟩
 ·cases h
  cases hv with
  |fn f as bs us vs hl h1 hl' h2=>
   exact⟨us,vs,rfl,⟨hl,λj r u hr _=>by simp at hr⟩,⟨hl',λj r u hr _=>by simp at hr⟩⟩
 ·exact nomatch h
theorem fV.mono {ok ok':Cell->Prop} (hk:∀p,ok p->ok' p) {x:Arg} {u:Value} (h:fV w ok x u):fV w ok' x u:=by
 cases x with
 |one r=>exact RepR.frame h λp u hp hu=>⟨hk p hp,hu⟩
 |agg rs=>obtain⟨vs,e,h1,h2⟩:=h;exact⟨vs,e,h1,λj r u hr hu=>(h2 j r u hr hu).frame λp u hp hu=>⟨hk p hp,hu⟩⟩
 |fn f a b=>
  obtain⟨us,vs,e,⟨h1,h2⟩,h3,h4⟩:=h;exact⟨us,vs,e,⟨h1,λj r u hr hu=>(h2 j r u hr hu).frame λp u hp hu=>⟨hk p hp,hu⟩⟩,h3,λj r u hr hu=>(h4 j r u hr hu).frame λp u hp hu=>⟨hk p hp,hu⟩⟩
theorem lG (hr:aR H pl w):∀{ss:List Sh} {vs:List SV} {us:List Value} {d:List Nat} {xs:List Arg},lF H ss vs=some (d,xs)->vs.length=us.length->
  (∀(j:Nat) (x:SV) (u:Value),vs[j]? =some x->us[j]? =some u->aa w H pl x u)->
  xs.length=us.length/\∀(j:Nat) (x:Arg) (u:Value),xs[j]? =some x->us[j]? =some u->fV w (okd H pl d) x u
 |[],[],us,d,xs,h,hl,_=>by cases h;exact⟨hl,λj r u hr _=>by simp at hr⟩
 |s::ss,v::vs,u::us,d,xs,h,hl,hp=>by
  simp only[lF,An,AP,A4]at h;obtain⟨⟨d1,x1⟩,h1,⟨d2,xs2⟩,h2,rfl,rfl⟩:=h;obtain⟨g1,g2⟩:=lG hr h2 (by simpa using hl) λj x u hx hu=>hp (j+1) x u (by simpa using hx) (by simpa using hu);refine⟨by simp[g1],λj r u' hj hu=>?_⟩
  cases j with
  |zero=>simp at hj hu;subst hj hu;exact(tJ hr h1 (hp 0 v u rfl rfl)).mono λp hp=>ca (λi hi=>by rw[mem_append,hi];rfl) hp
  |succ j=>exact(g2 j r u' (by simpa using hj) (by simpa using hu)).mono λp hp=>ca (λi hi=>by rw[mem_append,hi,BP]) hp
 |[],_::_,_,_,_,h,_,_=>nomatch h
 |_::_,[],_,_,_,h,_,_=>nomatch h
theorem ke (d:List Nat) (bs:List Blk) (n i:Nat):look (au n (dD d bs)) i=(look (au n bs) i).map (Blk.shift d):=by
 induction bs generalizing n with
 |nil=>rfl
 |cons b l ih=>
  rw[dD,au,au,ae,ae,ih];by_cases h:n=i<;>simp[h]
theorem iG:∀{bs:List Blk},rL bs=true->∀(k:Nat) (b:Blk),bs[k]? =some b->∃t xs,b=.arr none t xs\/b=.arr (some []) t xs
 |.arr none t xs::l,h,k,b,hb=>by
  cases k with
  |zero=>simp at hb;exact⟨t,xs,.inl hb.symm⟩
  |succ k=>exact iG (bs:=l) h k b (by simpa using hb)
 |.arr (some []) t xs::l,h,k,b,hb=>by
  cases k with
  |zero=>simp at hb;exact⟨t,xs,.inr hb.symm⟩
  |succ k=>exact iG (bs:=l) h k b (by simpa using hb)
def Pl.join (pl po:Pl) (n m:Nat):Pl:=⟨λi=>if i<n\/n+m<=i then pl.hdr i else po.hdr (i-n),λi=>if i<n\/n+m<=i then pl.fp i else po.fp (i-n),pl.base⟩
section
variable {w w':World} {H:ak} {pl po:Pl} {n:Nat} {bs:List Blk} {d:List Nat}
theorem w4 {i:Nat} {B:Blk} {bs:List Blk} (h:look (au 0 bs) i=some B):i<bs.length:=by
 rw[ax,if_pos (Bo _),Bv]at h;exact(AQ.1 h).1
theorem eA (d:List Nat):(bs:List Blk)->(dD d bs).length=bs.length
 |[]=>rfl
 |_::l=>by simp[dD,eA d l]
theorem cF {d:List Nat} {bs:List Blk} {n i:Nat} (hi:i<n\/n+bs.length<=i):look (au n (dD d bs)) i=none:=by
 rw[ax];by_cases h:n<=i
 ·rw[if_pos h,Bt];rw[eA];omega
 ·rw[if_neg h]
theorem iH {H:ak} {n m i:Nat} (hn:∀k,k<m->look H (n+k)=none) (hi:¬(i<n\/n+m<=i)):look H i=none:=by
 have:=hn (i-n) (by omega);rwa [show n+(i-n)=i from by omega]at this
theorem vg {h h':ak} (hh:Ext h h') (s:Sh) (v:SV):Le (toArg h s v) (toArg h' s v):=by
 intro p hp;unfold toArg at hp;split at hp<;>simp only[toArg]
 ·exact((sM hh _ _).bind λ_=>Le.refl _) p hp
 ·exact((oK hh _ _).bind λ_=>Le.refl _) p hp
 ·exact hp
 ·exact nomatch hp
theorem nF {h h':ak} (hh:Ext h h'):(ss:List Sh)->(vs:List SV)->Le (lF h ss vs) (lF h' ss vs)
 |[],[]=>Le.refl _
 |s::ss,v::vs=>(vg hh s v).bind λ_=>(nF hh ss vs).bind λ_=>Le.refl _
 |[],_::_=>Le.refl _
 |_::_,[]=>Le.refl _
theorem qI (hr:aR H pl w) (hn:∀k,k<bs.length->look H (n+k)=none) (hown:∀i B p,look H i=some B->pl.fp i p->∃u,w.at? p=some u)
  (hb:po.base=λp=>okd H pl d p\/w.at? p=none) {p:Cell} (h:okd (au 0 bs) po [] p):okd (H++au n (dD d bs)) (pl.join po n bs.length) d p:=by
 have jU:okd H pl d p\/w.at? p=none:=by have:=h.1;rw[hb]at this;exact this
 refine⟨jU.elim (λh=>h.1) (hr.nb p),λi B hB hm hf=>?_⟩;by_cases hi:i<n\/n+bs.length<=i
 ·simp only[Pl.join,if_pos hi]at hf
  have hB':look H i=some B:=by
   rw[ag,cF hi]at hB;simpa using hB
  rcases jU with h'|h'
  ·exact h'.2 i B hB' hm hf
  ·obtain⟨u,hu⟩:=hown i B p hB' hf;rw[h']at hu;exact nomatch hu
 ·simp only[Pl.join,if_neg hi]at hf;rw[ag,iH hn hi,ke,ax,if_pos (by omega)]at hB;simp only[Option.none_or,AV]at hB;obtain⟨b0,hb0,rfl⟩:=hB;exact h.2 (i-n) b0 (by rw[ax,if_pos (Bo _),Bv];exact hb0) (λhm=>by simp[mem]at hm) hf
theorem nG (hn:∀k,k<bs.length->look H (n+k)=none) (k:Nat) (hk:k<bs.length):look (H++au n (dD d bs)) (n+k)=(look (au 0 bs) k).map (Blk.shift d):=by
 rw[ag,hn _ hk,ke,ax,ax,if_pos (by omega),if_pos (Bo _),Bl,Bv];rfl
mutual
theorem nH (hr:aR H pl w) (hn:∀k,k<bs.length->look H (n+k)=none) (hown:∀i B p,look H i=some B->pl.fp i p->∃u,w.at? p=some u)
  (hb:po.base=λp=>okd H pl d p\/w.at? p=none):(v:SV)->{u:Value}->aa w' (au 0 bs) po v u->aa w' (H++au n (dD d bs)) (pl.join po n bs.length) (v.shift n d) u
 |.own i,u,h=>by
  cases h with
  |own _ sh t xs hl=>
   have hib:i<bs.length:=w4 hl;have hk:=nG (d:=d) (bs:=bs) hn i hib;rw[hl]at hk
   have hh:(pl.join po n bs.length).hdr (n+i)=po.hdr i:=by
    show(if n+i<n\/n+bs.length<=n+i then _ else po.hdr (n+i-n))=po.hdr i;rw[if_neg (by omega),Bl]
   rw[<-hh]
   cases sh with
   |none=>exact .own (n+i) none t xs hk
   |some d0=>exact .own (n+i) (some d) t xs hk
 |.r [] x,u,h=>by
  cases h with
  |r _ _ _ hx=>exact jL (hx.frame λp u hp hu=>⟨qI hr hn hown hb hp,hu⟩)
 |.r (_::_) x,u,h=>.undef _
 |.br,u,h=>by cases h;exact .br
 |.agg cs,u,h=>by
  cases h with
  |agg _ vs h1 h2 h3=>
   obtain⟨g1,g2⟩:=iI hr hn hown hb cs vs.toList (by simpa using h1) λj x u hx hu=>h3 j x u hx (by simpa using hu)
   exact .agg _ _ (by simpa using g1) h2 λj x u hx hu=>g2 j x u hx (by simpa using hu)
 |.tup cs,u,h=>by
  cases h with
  |tup _ vs h1 h3=>
   obtain⟨g1,g2⟩:=iI hr hn hown hb cs vs.toList (by simpa using h1) λj x u hx hu=>h3 j x u hx (by simpa using hu)
   exact .tup _ _ (by simpa using g1) λj x u hx hu=>g2 j x u hx (by simpa using hu)
 |.fK,_,_=>.undef _
 |.sub _ _ _,_,_=>.undef _
 |.bsl _ _,_,_=>.undef _
 |.ptr _ _ _,_,_=>.undef _
 |.inn _ _ _,_,_=>.undef _
 |.cY _ _,_,_=>.undef _
 |.fn _ _ _,_,_=>.undef _
 |.undef,_,_=>.undef _
theorem iI (hr:aR H pl w) (hn:∀k,k<bs.length->look H (n+k)=none) (hown:∀i B p,look H i=some B->pl.fp i p->∃u,w.at? p=some u)
  (hb:po.base=λp=>okd H pl d p\/w.at? p=none):(cs:List SV)->(us:List Value)->cs.length=us.length->
  (∀(j:Nat) (x:SV) (u:Value),cs[j]? =some x->us[j]? =some u->aa w' (au 0 bs) po x u)->
  (gU n d cs).length=us.length/\∀(j:Nat) (x:SV) (u:Value),(gU n d cs)[j]? =some x->us[j]? =some u->aa w' (H++au n (dD d bs)) (pl.join po n bs.length) x u
 |[],us,hl,_=>⟨hl,λj x u hx _=>by simp[gU]at hx⟩
 |v::cs,u::us,hl,hp=>by
  obtain⟨g1,g2⟩:=iI hr hn hown hb cs us (by simpa using hl) λj x u hx hu=>hp (j+1) x u (by simpa using hx) (by simpa using hu);refine⟨by simp[gU,g1],λj x u' hx hu=>?_⟩
  cases j with
  |zero=>simp[gU]at hx hu;subst hx hu;exact nH hr hn hown hb v (hp 0 v u rfl rfl)
  |succ j=>exact g2 j x u' (by simpa[gU]using hx) (by simpa using hu)
end
theorem tK (hgr:aV w w') (hr:aR H pl w) (hn:∀k,k<bs.length->look H (n+k)=none) (hg:rL bs=true) (hro:aR (au 0 bs) po w') (hb:po.base=λp=>okd H pl d p\/w.at? p=none)
  (hold:∀p x,w.at? p=some x->w'.at? p=some x/\w'.bc p=w.bc p) (om:∀i B p,look (au 0 bs) i=some B->po.fp i p->w.at? p=none):
  aJ H (H++au n (dD d bs)) ([],[]) pl (pl.join po n bs.length) w w':=by
 have hown:=hr.cc
 have ji:∀i B,look (H++au n (dD d bs)) i=some B->((i<n\/n+bs.length<=i)/\look H i=some B)\/(¬(i<n\/n+bs.length<=i)/\∃b0,look (au 0 bs) (i-n)=some b0/\B=b0.shift d):=λi B hB=>by
  by_cases hi:i<n\/n+bs.length<=i
  ·rw[ag,cF hi]at hB;exact .inl ⟨hi,by simpa using hB⟩
  ·rw[show i=n+(i-n)from by omega,nG hn _ (by omega)]at hB;obtain⟨b0,h1,h2⟩:=AV.1 hB;exact .inr ⟨hi,b0,h1,h2.symm⟩
 have hlt:∀i B,look H i=some B->(i<n\/n+bs.length<=i):=λi B hB=>by
  by_cases hi:i<n\/n+bs.length<=i
  ·exact hi
  ·rw[iH hn hi]at hB;exact nomatch hB
 have fM:cT ([],[]) w H pl w' (H++au n (dD d bs)) (pl.join po n bs.length):=by
  refine⟨λi B hB _=>⟨B,by rw[ag,hB];rfl,B.aS,by simp only[Pl.join,if_pos (hlt i B hB)]⟩,λd' p u _ hok hu=>⟨⟨hok.1,λi B hB hm hf=>?_⟩,(hold p u hu).1⟩⟩
  rcases ji i B hB with⟨hi,hB'⟩|⟨hi,b0,h1,_⟩
  ·simp only[Pl.join,if_pos hi]at hf;exact hok.2 i B hB' hm hf
  ·simp only[Pl.join,if_neg hi]at hf;rw[om _ b0 p h1 hf]at hu;exact nomatch hu
 refine⟨⟨λi B hB=>?_,λi j B B' p h1 h2 f1 f2=>?_,λi B p hB hf=>?_,λp hp=>hr.nb p ?_⟩,fM,rfl,hgr,λp u hp hno=>⟨λi B hB hf=>?_,hold p u hp⟩⟩
 ·rcases ji i B hB with⟨hi,hB'⟩|⟨hi,b0,h1,rfl⟩
  ·exact(hr.blk i B hB').aY fM (by simp only[Pl.join,if_pos hi]) (λp=>by simp only[Pl.join,if_pos hi]) (λp u _ hu=>hold p u hu) B.aO
  ·have hbl:=hro.blk _ b0 h1
   have mT:bs[i-n]? =some b0:=by rw[ax,if_pos (Bo _),Bv]at h1;exact h1
   have e1:(pl.join po n bs.length).hdr i=po.hdr (i-n):=by simp only[Pl.join,if_neg hi]
   have e2:(pl.join po n bs.length).fp i=po.fp (i-n):=by simp only[Pl.join,if_neg hi]
   obtain⟨t,xs,rfl|rfl⟩:=iG hg _ _ mT
   ·show Nonempty (Row w' (bG w') t xs ((pl.join po n bs.length).hdr i) ((pl.join po n bs.length).fp i));rw[e1,e2];exact hbl
   ·obtain⟨⟨a,cap,b,o,vs,fs,q1,q2,q3,q4,q5,q6,q7,q8,q9⟩⟩:=hbl;refine⟨⟨a,cap,b,o,vs,fs,by rw[e1];exact q1,q2,q3,q4,q5,λi j r hc=>⟨(q6 i j r hc).1.frame λp u hp hu=>⟨qI hr hn hown hb hp,hu⟩,(q6 i j r hc).2⟩,q7,q8,λp=>by rw[e2];exact q9 p⟩⟩
 ·rcases ji i B h1 with⟨hi,q1⟩|⟨hi,b0,q1,_⟩<;>rcases ji j B' h2 with⟨hj,q2⟩|⟨hj,b1,q2,_⟩
  ·simp only[Pl.join,if_pos hi]at f1;simp only[Pl.join,if_pos hj]at f2;exact hr.dis i j _ _ p q1 q2 f1 f2
  ·simp only[Pl.join,if_pos hi]at f1;simp only[Pl.join,if_neg hj]at f2;obtain⟨u,hu⟩:=hown i _ p q1 f1;rw[om _ _ p q2 f2]at hu;exact nomatch hu
  ·simp only[Pl.join,if_neg hi]at f1;simp only[Pl.join,if_pos hj]at f2;obtain⟨u,hu⟩:=hown j _ p q2 f2;rw[om _ _ p q1 f1]at hu;exact nomatch hu
  ·simp only[Pl.join,if_neg hi]at f1;simp only[Pl.join,if_neg hj]at f2;have:=hro.dis _ _ _ _ p q1 q2 f1 f2;omega
 ·rcases ji i B hB with⟨hi,q1⟩|⟨hi,b0,q1,_⟩
  ·simp only[Pl.join,if_pos hi]at hf;exact hr.ob i B p q1 hf
  ·simp only[Pl.join,if_neg hi]at hf;exact hr.nb p (om _ _ p q1 hf)
 ·cases hq:w.at? p with
  |none=>rfl
  |some u=>rw[(hold p u hq).1]at hp;exact nomatch hp
 ·rcases ji i B hB with⟨hi,q1⟩|⟨hi,b0,q1,_⟩
  ·simp only[Pl.join,if_pos hi]at hf;exact hno i B q1 hf
  ·simp only[Pl.join,if_neg hi]at hf;rw[om _ _ p q1 hf]at hp;exact nomatch hp
end
theorem lH {g:FuncId} {ss:List Sh} {G:PG} (h:qH P g G):jZ P g (pt ss G):=by
 intro ρ nid vs H K out hK;simp only[pt,An]at hK;obtain⟨⟨d,args⟩,kQ,hG⟩:=hK;obtain⟨o,ho,hen,yM⟩:=h ρ args _ out hG;cases hg:rL o.2<;>simp only[hg,cond_true,cond_false]at ho
 ·exact nomatch ho
 ·refine⟨_,ho,hen,λi B hB=>by simp[look]at hB,λH1 pl w us he hr hgl hn hl hp H' ha=>?_⟩;have hn:∀k,k<o.2.length->look H1 (nid+k)=none:=λk hk=>hn k (by rw[eA];exact hk);obtain⟨g1,g2⟩:=lG (us:=us.toList) hr (nF he _ _ _ kQ) (by simpa using hl) λj x u hx hu=>hp j x u hx (by simpa using hu);refine(yM w us (okd H1 pl d) (by simpa using g1) (λj x u hx hu=>g2 j x u hx (by simpa using hu)) (hgl.aY (aV.refl w) λp u hp _=>⟨id,hp⟩)).mono λe w' ⟨u,po,he,h1,h2,h3,h4,h5,h6⟩=>?_;cases ha;have hst:=tK (d:=d) h6 hr hn hg h1 h3 h4 h5;exact⟨u,_,he,hst,nH hr hn hr.cc h3 o.1 h2⟩
end
end
end Go.Proofs.Ev
