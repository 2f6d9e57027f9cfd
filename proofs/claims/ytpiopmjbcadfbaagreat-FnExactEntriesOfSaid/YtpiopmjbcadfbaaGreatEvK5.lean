/- The evaluator over the model's code, and that it is sound: part 5. -/
import Derived.Test.YtpiopmjbcadfbaaGreatEvK4
import Derived.Tactics
import Derived.LoopN
import Derived.Scope
set_option linter.unusedVariables false
set_option linter.unusedSimpArgs false
set_option linter.unusedSectionVars false
namespace Go.Proofs.Ev
section
variable [Tok]
theorem DN {r:DR} {X X':SH} (h:r.app X=some X') (hup:∀i B,look r.c.upd i=some B->∃B',look X.2 i=some B'):∃H',after X.2 r.n0 r.c=some H':=by
 unfold DR.app at h;unfold after;rw[uF hup];simp only[An,It]at h;obtain⟨h1,e1,_⟩:=h;exact⟨_,by rw[e1];rfl⟩
theorem KU {r:DR} {X X':SH} {H':aI} (hx:r.app X=some X') (hup:∀i B,look r.c.upd i=some B->∃B',look X.2 i=some B') (ha:after X.2 r.n0 r.c=some H'):X'.2=H':=by
 unfold DR.app at hx;unfold after at ha;rw[uF hup]at ha;simp only[An,It]at hx ha;obtain⟨h1,e1,rfl⟩:=hx;obtain⟨h2,e2,rfl⟩:=ha;rw[e1]at e2;cases e2;rfl
theorem Qd {E:Env} {op:Op} {c:CR} (h:okW E op c=true):lS E op=false->c.kil.2=[]/\c.upd=[]:=by
 intro hw;unfold okW at h;rw[hw]at h;simp only[cond_false,Rq]at h;exact⟨dY h.1,dY h.2⟩
def unl (l:Array Bool):Nat:=l.toList.countP (λb=>!b)
theorem countP_set {l:List Bool}:∀{i:Nat},l[i]? =some false->(l.set i true).countP (λb=>!b)+1=l.countP (λb=>!b):=by
 induction l with
 |nil=>intro i h;simp at h
 |cons b l ih=>
  intro i h
  cases i with
  |zero=>simp at h;subst h;simp
  |succ i=>have:=ih (i:=i) (by simpa using h);simp only[List.set_cons_succ,List.countP_cons];omega
theorem OR {l:Array Bool} {i:Nat} (h:l.getD i true=false):unl (l.setIfInBounds i true)+1=unl l:=by
 unfold unl;rw[Array.toList_setIfInBounds];refine countP_set ?_;rw[RI]at h
 cases hq:l[i]? with
 |none=>rw[hq]at h;exact nomatch h
 |some b=>rw[hq]at h;simp at h;subst h;rw[Si,hq]
theorem M1 {l:Array Bool} (h:unl l=0) (i:Nat):l.getD i true=true:=by
 unfold unl at h;rw[RI]
 cases hq:l[i]? with
 |none=>rfl
 |some b=>
  cases b
  ·have hm:false∈l.toList:=by
    rw[<-Si]at hq;exact RH hq
   have:=List.countP_eq_zero.1 h false hm;simp at this
  ·rfl
theorem AF {l:Array Bool} {i:Nat} (hi:i<l.size):l.getD i true=l.getD i false:=by
 simp[RI,hi]
section
variable {E:Env} {opsA:Array Oper} {masks:List Nat} {s0:List (Nat× SV)} {h0:aI} {nid0 nidE n:Nat} {gh:List (Option Nat)} {rs:List DR} {XF:SH} {w0:World} {fp0:G0} {bs:Cell->Prop} {Q:Exit->Act->World->Prop}
def lp (l:Array Bool):Nat->Bool:=λj=>l.getD j false
def N9 (ops:Array Oper) (listed:Array Bool):Prop:=∀(j:Nat) (o:Oper),ops.toList[j]? =some o->lp listed j=true->∀e∈o.after.toList,Region.binds .any e=true->lp listed e.on=true
theorem Jb (hm:F4 opsA.toList masks) {listed:Array Bool} (hs:listed.size=opsA.size) (hr:Region.ready .any opsA listed=[]):∀j,j<opsA.size->lp listed j=true:=by
 intro j
 induction j using Nat.strongRecOn with
 |_ j ih=>
  intro hj
  cases hl:lp listed j with
  |true=>rfl
  |false=>
   have:j∈Region.ready .any opsA listed:=mem_ready.2 ⟨by rw[AF (by omega)];exact hl,opsA[j],by simp[hj],λe he hb=>by
    have hlt:=hm.back j opsA[j] (by rw[Si];simp[hj]) e (by simpa using he) hb
    exact ih e.on hlt (by omega)⟩
   rw[hr]at this;exact nomatch this
theorem M3 (hm:F4 opsA.toList masks) (F:DL E opsA.toList masks (iV opsA.toList) s0 h0 nid0 rs opsA.size nidE) (hp:Ah (zL h0 rs) masks 0 rs=true) (hla:Ai (zL h0 rs) rs=true)
    (hnd:gu (iV opsA.toList)=true) (hlt:IE n (iV opsA.toList)=true) (hfin:replay (λ_=>true) 0 rs (s0,h0)=some XF) (hfr:∀i,nid0<=i->look h0 i=none) (hgh:∀(k i:Nat),gh[k]? =some (some i)->i<nid0)
    (hQ:∀a w,Rl w0 fp0 bs n ⟨XF.1,XF.2,nidE,n,gh⟩ a w->Q .normal a w):
    ∀ (f : Nat) (listed : Array Bool) (a : Act) (w : World) (X : SH), listed.size = opsA.size -> unl listed <= f -> N9 opsA listed -> replay (lp listed) 0 rs (s0, h0) = some X ->
      (∀k B0,look h0 k=some B0->(∀r∈rs,mem k r.c.kil.1=false)->∃B,look X.2 k=some B/\B0.lQ B)->
      Rl w0 fp0 bs n ⟨X.1,X.2,nidE,n,gh⟩ a w->wpAny E.P .any opsA Q f listed a w:=by
  have done:∀(listed:Array Bool) (a:Act) (w:World) (X:SH),listed.size=opsA.size->replay (lp listed) 0 rs (s0,h0)=some X->Rl w0 fp0 bs n ⟨X.1,X.2,nidE,n,gh⟩ a w->
      Region.ready .any opsA listed=[]->Q .normal a w:=λlisted a w X hs hX hR hr=>by
    have hall:=Jb hm hs hr;rw[jG (q:=λ_=>true) rs 0 _ λj hj=>by rw[F.len]at hj;rw[Rz];exact hall j hj,hfin]at hX;cases hX;exact hQ a w hR
  intro f
  induction f with
  | zero =>
    intro listed a w X hs hu hc hX hLK hR
    have hr:Region.ready .any opsA listed=[]:=by
      cases hq:Region.ready .any opsA listed with
      |nil=>rfl
      | cons i l =>
        have hi:i∈Region.ready .any opsA listed:=by rw[hq];simp
        have:=(mem_ready.1 hi).1;rw[M1 (by omega) i]at this;exact nomatch this
    exact⟨hr,done listed a w X hs hX hR hr⟩
  | succ f ih =>
    intro listed a w X hs hu hc hX hLK hR;refine⟨done listed a w X hs hX hR,λi hi=>?_⟩;obtain⟨hun,o,ho,hedge⟩:=mem_ready.1 hi;have hil:i<opsA.size:=(RO.1 ho).1
    have ho':opsA.toList[i]? =some o:=by rwa [Si]
    have hpi:lp listed i=false:=by unfold lp;rw[<-AF (by omega)];exact hun
    obtain⟨r,hr⟩:∃r,rs[i]? =some r:=⟨_,On (by rw[F.len];exact hil)⟩;obtain⟨hdst,hok,x,t,hx,hw,hgen⟩:=F.QV i o r ho' hr;have hanc:∀j,(masks.getD i 0).testBit j=true->lp listed j=true:=hm.closed hc i i o (RJ _) ho' λe he hb=>hedge e (by simpa using he) hb
    have hopr:∀(j:Nat) (b:DR),rs[j]? =some b->∃oj,opsA.toList[j]? =some oj/\b.dst=oj.dst/\okW E oj.op b.c=true:=λj b hb=>by
      have hj:j<opsA.toList.length:=by have:=(Of.1 hb).1;rw[F.len]at this;simpa using this
      obtain⟨g1,g2,_⟩:=F.QV j _ b (On hj) hb;exact⟨_,On hj,g1,g2⟩
    have hback:∀(j:Nat),lp listed j=true->(masks.getD j 0).testBit i=false:=λj hj=>by
      cases hq:(masks.getD j 0).testBit i with
      |false=>rfl
      | true =>
        cases hoj:opsA.toList[j]? with
        | none =>
          have:lp listed j=false:=by
            unfold lp;rw[RI,Tm];rfl;rw[hs];have:=List.getElem?_eq_none_iff.1 hoj;simpa using this
          rw[this]at hj;exact nomatch hj
        | some oj =>
          have:=hm.closed hc j j oj (RJ _) hoj (λe he hb=>hc j oj hoj hj e he hb) i hq;rw[hpi]at this;exact nomatch this
    have hcomm1:∀(j:Nat) (b:DR),j<i->rs[j]? =some b->(masks.getD i 0).testBit j=false->rk (zL h0 rs) b r=true:=λj b hj hb hnot=>by
      have:=rT hp j i b r hj hb hr;simp only[Rz]at this;exact this.resolve_left (by rw[hnot];simp)
    have hcomm2:∀(j:Nat) (b:DR),i<j->rs[j]? =some b->lp listed j=true->rk (zL h0 rs) r b=true:=λj b hj hb hl=>by
      have:=rT hp i j r b hj hr hb;simp only[Rz]at this;exact this.resolve_left (by rw[hback j hl];simp)
    have hmine:∀(j j':Nat) (b b':DR) k,j≠j'->rs[j]? =some b->rs[j']? =some b'->b.rP k->¬b'.rP k:=λj j' b b' k hne h1 h2 m1 m2=>by
      rcases Nat.lt_or_gt_of_ne hne with h|h
      · have:=F.ord j j' b b' h h1 h2;have:=m1.2;have:=m2.1;omega
      · have:=F.ord j' j b' b h h2 h1;have:=m2.2;have:=m1.1;omega
    have hdd:∀(j j':Nat) (b b':DR) t,j≠j'->rs[j]? =some b->rs[j']? =some b'->b.dst=some t->b'.dst≠some t:=λj j' b b' t hne h1 h2 hb hb'=>by
      obtain⟨oj,q1,q2,_⟩:=hopr j b h1;obtain⟨oj',q1',q2',_⟩:=hopr j' b' h2;exact AD (lk hnd) hne q1 q1' (q2▸hb) (q2'▸hb')
    have rQ:∀(b:DR) (j k:Nat),rs[j]? =some b->b.rP k->look h0 k=none:=λb j k hb hk=>hfr k (by have:=(F.lo j b hb).1;have:=hk.1;omega)
    have hx':replay (Nat.testBit (masks.getD i 0)) 0 rs (mX (MJ masks i 0 opsA.toList) s0 (eH o.op.operands.toList),h0)=some x:=by
      have hsp:=SJ i rs;rw[<-hsp,ed,hx,RE];refine nR _ _ _ λj hj=>?_
      have hti:(rs.take i).length=i:=by rw[R8,F.len];omega
      rw[hti,Rz]
      cases hq:(masks.getD i 0).testBit (i+j)with
      |false=>rfl
      |true=>have:=hm.lt ho' hq;omega
    have hpair:∀(j:Nat) (b:DR),rs[j]? =some b->lp listed j=true->(masks.getD i 0).testBit j=false->fC (zL h0 rs) r=false->b.c.kil.2=[]/\MK r.see b.c.upd=false:=λj b hb h1 h2 hi=>by
      have idle:fC (zL h0 rs) b=true->b.c.kil.2=[]/\MK r.see b.c.upd=false:=λh=>by
        obtain⟨_,g1,g2,_⟩:=eJ h;exact⟨g1,by rw[g2];rfl⟩
      rcases Tq j i with h|h|h
      · rcases fa (hcomm1 j b h hb h2)with⟨q,_⟩|⟨q,_⟩|⟨_,_,q⟩
        · exact idle q
        · rw[hi]at q;exact nomatch q
        · exact⟨(gY q).1,(DJ q).1⟩
      · subst h;rw[hpi]at h1;exact nomatch h1
      · rcases fa (hcomm2 j b h hb h1)with⟨q,_⟩|⟨q,_⟩|⟨_,_,q⟩
        · rw[hi]at q;exact nomatch q
        · exact idle q
        · exact⟨(gY q).2.1,(DJ q).2⟩
    have hfirm:∀(j:Nat) (b:DR),rs[j]? =some b->lp listed j=true->(masks.getD i 0).testBit j=false->fC (zL h0 rs) r=true->r.c.v.aL b.c.kil=r.c.v:=λj b hb h1 h2 hi=>by
      rcases Tq j i with h|h|h
      · rcases fa (hcomm1 j b h hb h2)with⟨q,_⟩|⟨_,q⟩|⟨_,q,_⟩
        · exact sT (eJ q).2.1
        · exact q
        · rw[hi]at q;exact nomatch q
      · subst h;rw[hpi]at h1;exact nomatch h1
      · rcases fa (hcomm2 j b h hb h1)with⟨_,q⟩|⟨q,_⟩|⟨q,_,_⟩
        · exact q
        · exact sT (eJ q).2.1
        · rw[hi]at q;exact nomatch q
    have hfirm2:∀(j:Nat) (b:DR),rs[j]? =some b->lp listed j=true->(masks.getD i 0).testBit j=false->fC (zL h0 rs) r=true->∀u∈r.MI,u.aL b.c.kil=u:=λj b hb h1 h2 hi=>by
      rcases Tq j i with h|h|h
      · exact(HI (hcomm1 j b h hb h2)).2 hi
      · subst h;rw[hpi]at h1;exact nomatch h1
      · exact(HI (hcomm2 j b h hb h1)).1 hi
    have hg0:fC (zL h0 rs) r=false->∀(j:Nat) (b:DR),rs[j]? =some b->lp listed (0+j)=true->(masks.getD i 0).testBit (0+j)=false->b.c.kil.2=[]:=λhi j b hb h1 h2=>by
      rw[Rz]at h1 h2;exact(hpair j b hb h1 h2 hi).1
    have hes:fC (zL h0 rs) r=false->Ext x.1 X.1:=λhi=>qq rs 0 _ _ x X hanc hx' hX (λt v hv=>by
        exact(kZ hv).2)
      (λt v hv j b hb hj _ hdt=>by
        obtain⟨oj,q1,q2,_⟩:=hopr j b hb;rw[Rz]at hj
        exact(kZ hv).1 (Cc q1 (q2▸hdt) (by rw[Rz];exact hback j hj))) hdd (hg0 hi)
    have hes0:fC (zL h0 rs) r=true->r.MI=BG x.1 (eH o.op.operands.toList)->Ext (mX [] x.1 (eH o.op.operands.toList)) X.1:=λhi hbl t u hu=>by
      have hxt:=(kZ hu).2
      have hmv:u∈r.MI:=by rw[hbl];exact Ja hu
      refine nT rs 0 _ _ x X hanc hx' hX hxt (λj b hb h1 h2=>⟨λhdt=>?_,hfirm2 j b hb (by rwa [Rz]at h1) (by rwa [Rz]at h2) hi u hmv⟩) (λu hu=>⟨[],(kZ hu).2,by simp⟩);rw[Rz]at h1 h2
      rcases nU rs 0 _ x hx' hxt with⟨u0,hu0⟩|⟨j',b',g1,g2,g3⟩
      · obtain⟨oj,q1,q2,_⟩:=hopr j b hb;exact(kZ hu0).1 (Cc q1 (q2▸hdt) (by rw[Rz];exact hback j h1))
      · rw[Rz]at g2
        have hne:j≠j':=λe=>by subst e;rw[h2]at g2;exact nomatch g2
        exact hdd j j' b b' t hne hb g1 hdt g3
    have heh:r.see=QQ E masks i opsA.toList x o->r.len=false->Ext (IG E masks i opsA.toList x o) X.2:=λhsee hnl=>by
      cases hb:vF E masks i 0 opsA.toList with
      | true =>
        unfold IG;rw[hb,cond_true,<-hsee];intro k B hB;obtain⟨m1,m2⟩:=nS hB
        cases hidle:fC (zL h0 rs) r with
        | true =>
          have hcm:=(eJ hidle).1;unfold zL at hcm;rw[hnl]at hcm;obtain⟨B0,hB0,hst⟩:=DM hcm m1;have e1:=lW rs 0 _ x hst (by exact hB0) hx';have e2:=lW rs 0 _ X hst (by exact hB0) hX
          rw[e2,<-m2,e1]
        |false=>
        refine ln (S:=λk=>mem k r.see=true) rs 0 _ _ x X hanc hx' hX (λ_ _ _ h=>h) (λj b k hb hk=>rQ b j k hb hk) (λj j' b b' k=>hmine j j' b b' k) (λj b hjb h1 h2=>?_) k B m1 m2;rw[Rz]at h1 h2;have hc:=hpair j b hjb h1 h2 hidle
        exact⟨hc.1,DK hc.2⟩
      | false =>
        unfold IG;rw[hb,cond_false];intro k B hB;refine ln (S:=λ_=>True) rs 0 _ _ x X hanc hx' hX (λ_ _ _ h=>h) (λj b k hb hk=>rQ b j k hb hk) (λj j' b b' k=>hmine j j' b b' k) (λj b hjb h1 h2=>?_) k B trivial hB;rw[Rz]at h1 h2;obtain⟨oj,q1,q2,q3⟩:=hopr j b hjb
        have hq:b.c.kil.2=[]/\b.c.upd=[]:=by
          refine Qd q3 ?_
          cases hwr:lS E oj.op with
          |false=>rfl
          | true =>
            have:=xF hb j oj q1 hwr;rw[Rz]at this;simp only[PZ,Th]at this
            rcases this with h|h|h
            · have:=Rp h;subst this;rw[hpi]at h1;exact nomatch h1
            · rw[h2]at h;exact nomatch h
            · rw[hback j h1]at h;exact nomatch h
        exact⟨hq.1,λ_ _=>by rw[hq.2];rfl⟩
    have hrange:∀k,k<r.c.news.length->look X.2 (r.n0+k)=none:=λk hk=>by
      cases hq:look X.2 (r.n0+k)with
      |none=>rfl
      | some B =>
        have hmk:r.rP (r.n0+k):=⟨by omega,by omega⟩
        rcases na rs 0 _ X hX _ B hq with⟨B',hB'⟩|⟨j,b,g1,g2,g3⟩
        · have:=rQ r i _ hr hmk;rw[this]at hB';exact nomatch hB'
        · rw[Rz]at g2
          have hne:j≠i:=λe=>by subst e;rw[hpi]at g2;exact nomatch g2
          exact(hmine j i b r _ hne g1 hr g3 hmk).elim
    obtain ⟨X', happ⟩ : ∃ X', r.app X = some X' := by
      cases hg:r.c.kil.2 with
      |nil=>exact⟨_,iu hg X⟩
      | cons b0 T =>
        have hidle:fC (zL h0 rs) r=false:=by
          cases hq:fC (zL h0 rs) r with
          |false=>rfl
          |true=>have:=(eJ hq).2.1;rw[hg]at this;exact nomatch this
        have hsp:rs=rs.take i++r::rs.drop (i+1):=by
          have hlen:i<rs.length:=by rw[F.len];exact hil
          conv=>lhs;rw[<-SJ i rs]
          rw[List.drop_eq_getElem_cons hlen,(Of.1 hr).2]
        have hti:(rs.take i).length=i:=by rw[R8,F.len];omega
        have hdiff:∀(j:Nat) (b:DR),rs[j]? =some b->lp listed (0+j)≠(λj=>decide (j<i)) (0+j)->fC (zL h0 rs) b=true:=λj b hb hne=>by
          rw[Rz]at hne
          rcases Tq j i with h|h|h
          · simp only[h,decide_true]at hne
            have hno:(masks.getD i 0).testBit j=false:=by
              cases hq:(masks.getD i 0).testBit j with
              |false=>rfl
              |true=>exact absurd (hanc j hq) hne
            rcases fa (hcomm1 j b h hb hno)with⟨q,_⟩|⟨q,_⟩|⟨_,_,q⟩
            · exact q
            · rw[hidle]at q;exact nomatch q
            · have:=(gY q).2.1;rw[hg]at this;exact nomatch this
          · subst h;rw[hpi]at hne;simp at hne
          · have hl:lp listed j=true:=by
              cases hq:lp listed j with
              |true=>rfl
              |false=>rw[hq]at hne;simp at hne;omega
            rcases fa (hcomm2 j b h hb hl)with⟨q,_⟩|⟨q,_⟩|⟨_,_,q⟩
            · rw[hidle]at q;exact nomatch q
            · exact q
            · have:=(gY q).1;rw[hg]at this;exact nomatch this
        obtain⟨X0,hX0,hh⟩:=lr (p':=λj=>decide (j<i)) rs 0 (s0,h0) (s0,h0) X hdiff rfl hX
        have hXp:replay (λ_=>true) 0 (rs.take i) (s0,h0)=some X0:=by
          rw[hsp,ed,hti,Rz]at hX0;rw[jG (q:=λj=>decide (j<i)) _ _ _ λj hj=>by rw[hti]at hj;rw[Rz];exact(decide_eq_true hj).symm];rw[An]at hX0;obtain⟨y,hy,hX0⟩:=hX0;rw[nR _ _ _ λj _=>decide_eq_false (by omega)]at hX0;cases hX0;exact hy
        rw[hsp,ed,hXp]at hfin;simp only[RE,replay,cond_true,An]at hfin;obtain⟨y,hy,_⟩:=hfin;obtain⟨y',hy',_⟩:=pt hh.symm hy;exact⟨y',hy'⟩
    have hpi':lp (listed.setIfInBounds i true) i=true:=by
      unfold lp;simp[RI,Array.getElem?_setIfInBounds,hs,hil]
    have hpp:∀j,j≠i->lp (listed.setIfInBounds i true) j=lp listed j:=λj hj=>getD_set_ne false (λe=>hj e.symm);obtain⟨X'',hX'',hsame⟩:=Ca hr hpi hpi' hpp (λj b hj hb hl=>⟨hcomm2 j b hj hb hl,λt h1=>hdd i j r b t (by omega) hr hb h1,λk h1=>hmine i j r b k (by omega) hr hb h1⟩) hX happ
    have hcl':N9 opsA (listed.setIfInBounds i true):=λj oj hoj hl e he hb=>by
      by_cases hji:j=i
      · subst hji;rw[ho']at hoj;cases hoj;exact getD_set_true (hedge e (by simpa using he) hb)
      · rw[hpp j hji]at hl;exact getD_set_true (hc j oj hoj hl e he hb)
    have hu':unl (listed.setIfInBounds i true)<=f:=by have:=OR hun;omega
    have next:∀(H':aI) (pl pl':Pl) (u:Value) (w':World),after X.2 r.n0 r.c=some H'->Rel w0 fp0 ⟨X.1,X.2,nidE,n,gh⟩ pl a w->pl.base=bs->cQ X.2 H' r.c.kil pl pl' w w'->au w' H' pl' r.c.v u->
        (∀i B,look r.c.upd i=some B->∃B',look X.2 i=some B')->wpAny E.P .any opsA Q f (listed.setIfInBounds i true) (a.put o.dst u) w':=λH' pl pl' u w' hafter hR hb hst hv hup=>by
      have h1:=Rel.app hR happ hup (λt ht=>AB hlt t (qu ho' (hdst▸ht))) (λk j hj=>Nat.lt_of_lt_of_le (hgh k j hj) (F.lo i r hr).1) (F.lo i r hr).2 hafter hst hv;rw[hdst]at h1;have h2:=h1.congr (s':=X''.1) (H':=X''.2) (λt v hv=>(hsame.1 t).trans hv) (λk=>(hsame.2 k).symm);refine ih _ _ _ X'' (by simp[hs]) hu' hcl' hX'' (λk B0 hB0 hk=>?_) ⟨pl',h2,hst.bs.trans hb,rfl⟩;obtain⟨B,g1,g2⟩:=hLK k B0 hB0 hk;obtain⟨B',g3,g4,_⟩:=hst.kp.k1 k B g1 (hk r (RH hr));exact⟨B',by rw[<-hsame.2 k,KU happ hup hafter];exact g3,Blk.eI g2 g4⟩
    obtain⟨pl,hR,uB,_⟩:=hR
    have hwanted:Region.wanted o (yielded opsA a.tmps)=t:=by
      unfold lV at hw;unfold Region.wanted;split at hw
      · rename_i hg;rw[hg];exact hw.symm
      · rename_i g want hg;obtain⟨q1,rg,tg,q2,q3,q4⟩:=hw;rw[hg];simp only;obtain⟨og,p1,p2,_⟩:=hopr g rg q2;have hlen:g<rs.length:=(Of.1 q2).1
        have hsp:rs=rs.take g++rg::rs.drop (g+1):=by
          conv=>lhs;rw[<-SJ g rs]
          rw[List.drop_eq_getElem_cons hlen,(Of.1 q2).2]
        have hti:(rs.take g).length=g:=by rw[R8];omega
        have hslot:∀v,rg.c.v=v->(∀T,v.aL T=v)->look X.1 tg=some v:=λv q4 hsw=>by
          have hX2:=hX;rw[hsp,ed,hti,Rz,An]at hX2;obtain⟨y,hy,hX2⟩:=hX2;simp only[replay,hanc g q1,cond_true,An]at hX2;obtain⟨y',hy',hX2⟩:=hX2;refine rS hsw _ _ y' X hX2 (λj b' hb'=>?_) (by rw[dx hy',dw,if_pos q3,q4]);rw[RF]at hb';exact hdd g (g+1+j) rg b' tg (by omega) q2 hb' q3
        rcases q4 with⟨b,q4,q5⟩|⟨q4,q5⟩
        rotate_left
        · have hval:=hR.sl tg _ (hslot _ q4 λT=>by simp[SV.aL,gX])
          have hog:opsA[g]? =some og:=by rwa [Si]at p1
          have hval:∃vs,a.tmps.getD tg undef=.tuple vs:=by
            generalize a.tmps.getD tg undef=u at hval
            cases hval with
            |tup _ vs=>exact⟨vs,rfl⟩
          obtain⟨vs,hval⟩:=hval;rw[p2]at q3
          have hy:yielded opsA a.tmps g=none:=by
            rw[RI]at hval
            cases hq:a.tmps[tg]? with
            |none=>simp[yielded,hog,q3,hq]
            |some x=>rw[hq]at hval;simp[yielded,hog,q3,hq,show x=.tuple vs from hval]
          rw[hy,q5];rfl
        have hval:=hR.sl tg _ (hslot _ q4 λT=>by simp[SV.aL,hit])
        have hval:a.tmps.getD tg undef=.bool b:=by
          generalize a.tmps.getD tg undef=u at hval
          cases hval with
          |r _ _ _ hx=>cases hx;rfl
        have hog:opsA[g]? =some og:=by rwa [Si]at p1
        have hgd:a.tmps[tg]? =some (.bool b):=by
          rw[RI]at hval
          cases hq:a.tmps[tg]? with
          |none=>rw[hq]at hval;exact nomatch hval
          |some x=>rw[hq]at hval;exact congrArg some hval
        rw[p2]at q3
        have hy:yielded opsA a.tmps g=some b:=by simp[yielded,hog,q3,hgd]
        rw[hy,q5];cases b<;>cases want<;>rfl
    unfold wpOp;rw[ho];simp only[hwanted]
    rcases hgen with⟨rfl,hmk,hg,hgl⟩|⟨rfl,hcu,_⟩
    · rw [if_pos rfl];have hbl:r.MI=BG x.1 (eH o.op.operands.toList):=congrArg DR.MI hmk;have hlen:r.len=Kj E h0 x o:=congrArg DR.len hmk;have hse:r.see=QE E masks i opsA.toList h0 x o:=congrArg DR.see hmk
      obtain⟨hup,hsem⟩:(∀i B,look r.c.upd i=some B->∃B',look X.2 i=some B')/\_:=by
        have hslots:Ext (mX [] x.1 (eH o.op.operands.toList)) X.1:=by
          cases hidle:fC (zL h0 rs) r with
          |false=>exactλt u hu=>hes hidle t u (kZ hu).2
          |true=>exact hes0 hidle hbl
        cases hL:Kj E h0 x o with
        | false =>
          rw[hL]at hlen;unfold QE at hse;rw[hL,cond_false]at hse
          exact hg hL X.1 X.2 a w pl hslots (heh hse hlen) hR.hr hR.sl hrange
        | true =>
          rw[hL]at hlen;unfold QE at hse;rw[hL,cond_true]at hse;have hidle:=xE hla r (RH hr) hlen;have hcm:=(eJ hidle).1;unfold zL at hcm;rw[hlen,hse]at hcm;refine hgl hL X.1 X.2 a w pl hslots (λk B hB=>?_) hR.hr hR.sl hrange;obtain⟨m1,m2⟩:=nS hB;exact hLK k B m2 (vJ hcm k m1)
      obtain⟨H',hafter⟩:=DN happ hup;exact .inl (hsem H' _ Q hafter λu pl' w' hst hv=>next H' pl pl' u w' hafter hR uB hst hv hup)
    · rw[if_neg (by simp)]
      have hafter:after X.2 r.n0 r.c=some X.2:=by
        rw[hcu];simp only[after,ru,aK,RV,CR.kil,ij,RE]
      refine next X.2 pl pl undef w hafter hR uB ?_ ?_ ?_
      · rw[hcu];exact cQ.refl hR.hr
      · rw[hcu];exact .tup [] #[] rfl λj x v hx _=>by simp at hx
      · rw[hcu];exactλi B hB=>by simp[look]at hB
theorem Rl.drew {n:Nat} {st:St} {a:Act} {w:World} (h:Rl w0 fp0 bs n st a w):Rl w0 fp0 bs n st a {w with drawn:=w.drawn+1}:=by
 obtain⟨pl,h,hb,hn⟩:=h;have hk:lh ([],[]) w st.heap pl {w with drawn:=w.drawn+1} st.heap pl:=⟨λi B hB _=>⟨B,hB,B.dh,rfl⟩,λd p u _ h hp=>⟨h,hp⟩⟩
 exact⟨pl,⟨⟨λi B hB=>(h.hr.blk i B hB).bz hk rfl (λ_=>Uk) (λp u _ hu=>⟨hu,rfl⟩) B.di,h.hr.dis,h.hr.ob,h.hr.nb⟩,
  λt v hv=>(h.sl t v hv).we hk,h.sz,h.df,h.fresh,h.gr.trans (dJ.drew w),λp u hp hno=>h.fr p u hp hno,h.gk⟩,hb,hn⟩
theorem Rl.less {n:Nat} {st:St} {s':List (Nat× SV)} {a:Act} {w:World} (h:Rl w0 fp0 bs n st a w) (hs:∀t v,look s' t=some v->look st.cp t=some v):Rl w0 fp0 bs n ⟨s',st.heap,st.nid,st.n,st.gh⟩ a w:=by
 obtain⟨pl,h,hb,hn⟩:=h;exact⟨pl,h.congr hs λ_=>rfl,hb,hn⟩
theorem Rl.QW {n nid nid' m:Nat} {s:List (Nat× SV)} {H:aI} {a:Act} {w:World} (h:Rl w0 fp0 bs n ⟨s,H,nid,m,gh⟩ a w) (hn:nid<=nid'):Rl w0 fp0 bs n ⟨s,H,nid',m,gh⟩ a w:=by
 obtain⟨pl,h,hb,hn'⟩:=h;exact⟨pl,⟨h.hr,h.sl,h.sz,h.df,λi hi=>h.fresh i (SN hn hi),h.gr,h.fr,λk i hi=>⟨Nat.lt_of_lt_of_le (h.gk k i hi).1 hn,(h.gk k i hi).2⟩⟩,hb,hn'⟩
theorem F6 {ρ:Type} (hE:mJ E) {id n:Nat} {st:St} {a:Act} {w:World} {K:St->Option ρ} {out:ρ} (hR:Rl w0 fp0 bs n st a w) (h:FE E opsA.toList st K=some out)
  (hK:∀st' a' w',K st'=some out->Rl w0 fp0 bs n st' a' w'->Q .normal a' w'):(Code.region id opsA true).wp E.P Q a w:=by
 unfold FE at h;cases hmo:E.P.follows .mixedOrders<;>simp only[hmo,cond_true,cond_false]at h
 ·exact nomatch h
 rw[An]at h;obtain⟨masks,hmasks,h⟩:=h;cases hnd:gu (iV opsA.toList)<;>simp only[hnd,cond_true,cond_false]at h
 ·exact nomatch h
 cases hlt:IE st.n (iV opsA.toList)<;>simp only[hlt,cond_true,cond_false]at h
 ·exact nomatch h
 obtain⟨rs,nidE,h,hnid,F⟩:=px (nid0:=st.nid) hE opsA.toList 0 st.nid [] _ h ⟨rfl,λi o r _ hr=>by simp at hr,λi r hr=>by simp at hr,λi j a b _ ha=>by simp at ha⟩ (RJ _) (by simp);cases hp0:(Ah (zL st.heap rs) masks 0 rs&&Ai (zL st.heap rs) rs)<;>simp only[hp0,cond_true,cond_false]at h
 ·exact nomatch h
 rw[Rq]at hp0;obtain⟨hp,hla⟩:=hp0;rw[An]at h;obtain⟨XF,hXF,h⟩:=h;rw[Rz,show opsA.toList.length=opsA.size from by simp]at F;have hn:=hR;obtain⟨pl,hR0,_,hnn⟩:=hn
 refine wp_region_any hmo (M3 (XF:=XF) (n:=n) (nidE:=nidE) (w0:=w0) (fp0:=fp0) (bs:=bs) (MZ hmasks) F hp hla hnd (by rw[<-hnn];exact hlt) hXF hR0.fresh (λk i hi=>(hR0.gk k i hi).1) (λa' w' hR'=>hK _ a' w' h (by rw[hnn];exact hR')) opsA.size _ a _
  (st.cp,st.heap) (by simp) (by unfold unl;exact SN List.countP_le_length (by simp)) (λj o _ hl=>?_) (nR _ _ _ λj _=>?_) (λk B0 hB0 _=>⟨B0,hB0,B0.dh⟩) ?_)
 ·have:lp (Array.replicate opsA.size false) j=false:=by
   unfold lp;rw[RI,Array.getElem?_replicate];split<;>rfl
  rw[this]at hl;exact nomatch hl
 ·show lp _ _=false;unfold lp;rw[RI,Array.getElem?_replicate];split<;>rfl
 ·have:=(hR.QW hnid).drew;rw[hnn]at this;exact this
end
end
section
variable [Tok]
section
variable {w:World} {H:aI} {pl:Pl} {i:Nat} {t:Ty}
theorem sU {h:aI}:∀(l:aI) (k:Nat),look (FF i t h l) k=if k=i then none else(look l k).map (Blk.frz i t h)
  |[],k=>by simp[FF,look]
  | (k0, b) :: l, k => by
    have ih:=sU (h:=h) l k;simp only[FF];cases hk:Nat.beq k0 i
    · have hk:¬k0=i:=λe=>by subst e;simp at hk
      simp only[cond_false];rw[aA,aA,ih];by_cases c:k0=k
      · subst c;rw[if_pos rfl,if_pos rfl,if_neg hk];rfl
      · rw[if_neg c,if_neg c]
    · have hk:=Rp hk;simp only[cond_true];rw[aA,ih];by_cases c:k=i
      · rw[if_pos c,if_pos c]
      · rw[if_neg c,if_neg c,if_neg (λe=>c (by rw[<-e,hk]))]
theorem AG {h:aI}:∀(l:List (Nat× SV)) (k:Nat),look (II i t h l) k=(look l k).map (SV.frz i t h)
 |[],k=>by simp[II,look]
 |(k0,b)::l,k=>by
  simp only[II];rw[aA,aA,AG l k];by_cases c:k0=k
  ·rw[if_pos c,if_pos c];rfl
  ·rw[if_neg c,if_neg c]
theorem HJ {k:Nat} (hk:k≠i):∀(d:List Nat),mem k (Mu i d)=mem k d
 |[]=>rfl
 |x::l=>by
  have ih:=HJ hk l;simp only[Mu];cases hx:Nat.beq x i
  ·simp only[cond_false,mem,ih]
  ·have hx:=Rp hx;simp only[cond_true,mem,ih]
   have:Nat.beq x k=false:=by
    cases h:Nat.beq x k
    ·rfl
    ·exact(hk (by rw[<-Rp h,hx])).elim
   rw[this];rfl
theorem KV (B:Blk) (h:aI):(B.frz i t h).kn=B.kn:=by
 cases B with
 |box cs=>rfl
 |arr sh t' xs=>cases sh<;>rfl
theorem M4 (B:Blk) (h:aI):B.lQ (B.frz i t h):=by
 have hl:∀cs:List SV,(Dd i t h cs).length=cs.length:=λcs=>by
  induction cs with
  |nil=>rfl
  |cons v l ih=>simp[Dd,ih]
 cases B with
 |box cs=>exact(hl cs).symm
 |arr sh t' xs=>cases sh<;>exact⟨rfl,rfl⟩
theorem nV {h:aI} {k:Nat} {B':Blk} (e:look (FF i t h H) k=some B'):k≠i/\∃B,look H k=some B/\B'=B.frz i t h:=by
 rw[sU]at e;by_cases c:k=i
 ·rw[if_pos c]at e;exact nomatch e
 ·rw[if_neg c]at e;obtain⟨B,h1,h2⟩:=Rv.1 e;exact⟨c,B,h1,h2.symm⟩
theorem uI {h:aI} {k:Nat} {B:Blk} (c:k≠i) (e:look H k=some B):look (FF i t h H) k=some (B.frz i t h):=by
 rw[sU,if_neg c,e];rfl
theorem rU {h:aI} {d:List Nat} {p:Cell} (e:okd H pl d p):okd (FF i t h H) pl (Mu i d) p:=
  ⟨e.1,λk B' hB' hb=>by
    obtain⟨c,B,h1,rfl⟩:=nV hB'
    exact e.2 k B h1 λhm=>by
      have:=hb (by rw[HJ c];exact hm)
      rwa [KV]at this⟩
theorem HK (h:aI):∀(cs:List SV) (j:Nat),(Dd i t h cs)[j]? =(cs[j]?).map (SV.frz i t h)
 |[],j=>by simp[Dd]
 |v::l,0=>by simp[Dd]
 |v::l,j+1=>by simp[Dd,HK h l j]
theorem qv (h:aI):∀cs:List SV,(Dd i t h cs).length=cs.length
 |[]=>rfl
 |v::l=>by simp[Dd,qv h l]
theorem AH {j i:Nat} (h:Nat.beq j i=false):j≠i:=λe=>by subst e;simp at h
mutual
theorem KW (hr:cH H pl w):(v:SV)->{u:Value}->au w H pl v u->au w (FF i t H H) pl (v.frz i t H) u
 |.r d x,u,h=>by
  cases h with
  |r _ _ _ hx=>exact .r _ _ _ (hx.frame λp u hp hu=>⟨rU hp,hu⟩)
 |.own j,u,h=>by
  simp only[SV.frz];cases hj:Nat.beq j i
  ·simp only[cond_false]
   cases h with
   |own _ sh t' xs hl=>
    have:=uI (t:=t) (h:=H) (AH hj) hl
    cases sh with
    |none=>exact .own j none t' xs this
    |some d=>exact .own j _ t' xs this
  ·simp only[cond_true];unfold Hp;split
   ·rename_i p hp;exact .r _ _ _ ((pg hr (d:=p.1) (xs:=p.2) hp h).frame λp u hp hu=>⟨rU hp,hu⟩)
   ·exact .undef _
 |.sub j o n,u,h=>by
  simp only[SV.frz];cases hj:Nat.beq j i
  ·simp only[cond_false]
   cases h with
   |sub _ _ _ sh t' xs a a' cap cap' hl hh hn hc hc' ha=>
    have:=uI (t:=t) (h:=H) (AH hj) hl
    cases sh with
    |none=>exact .sub j o n none t' xs a a' cap cap' this hh hn hc hc' ha
    |some d=>exact .sub j o n _ t' xs a a' cap cap' this hh hn hc hc' ha
  ·simp only[cond_true];unfold Hp;split
   ·rename_i p hp;exact .r _ _ _ ((pg hr (d:=p.1) (xs:=p.2) hp h).frame λp u hp hu=>⟨rU hp,hu⟩)
   ·exact .undef _
 |.bsl j n,u,h=>by
  simp only[SV.frz];cases hj:Nat.beq j i
  ·simp only[cond_false]
   cases h with
   |bsl _ _ cs a hl hh=>exact .bsl j n _ a (uI (t:=t) (h:=H) (AH hj) hl) hh
  ·exact .undef _
 |.ptr j x o,u,h=>by
  simp only[SV.frz];cases hj:Nat.beq j i
  ·simp only[cond_false]
   cases h with
   |uq _ _ cs b k hl hh=>exact .uq j o _ b k (uI (t:=t) (h:=H) (AH hj) hl) hh
   |sD _ _ _ sh t' xs b k n cap hl hx hh=>
    have:=uI (t:=t) (h:=H) (AH hj) hl
    cases sh with
    |none=>exact .sD j x o none t' xs b k n cap this hx hh
    |some d=>exact .sD j x o _ t' xs b k n cap this hx hh
  ·exact .undef _
 |.inn j x c,u,h=>by
  simp only[SV.frz];cases hj:Nat.beq j i
  ·simp only[cond_false]
   cases h with
   |inn _ _ _ sh t' xs b k n cap _ hl hx hc hh hok hv h1=>
    have:=uI (t:=t) (h:=H) (AH hj) hl
    have hok':okd (FF i t H H) pl [j] (b,k+(x*t'.sz+c)):=by
     have:=rU (i:=i) (t:=t) (h:=H) hok;simpa only[Mu,hj,cond_false]using this
    cases sh with
    |none=>exact .inn j x c none t' xs b k n cap u this hx hc hh hok' hv h1
    |some d=>exact .inn j x c _ t' xs b k n cap u this hx hc hh hok' hv h1
  ·exact .undef _
 |.ki d cs,u,h=>by
  cases h with
  |ki _ _ b o vs hc hr'=>exact .ki _ _ b o vs (λj r hj=>⟨rU (hc j r hj).1,(hc j r hj).2⟩) λj r hj=>(hr' j r hj).frame λp u hp hu=>⟨rU hp,hu⟩
 |.agg cs,u,h=>by
  cases h with
  |agg _ vs hl h1 h3=>exact .agg _ _ (by rw[qv,hl]) h1 λj x v hx hv=>xG hr cs vs.toList (λj x v hx hv=>h3 j x v hx (by simpa using hv)) j x v hx (by simpa using hv)
 |.tup cs,u,h=>by
  cases h with
  |tup _ vs hl h3=>exact .tup _ _ (by rw[qv,hl]) λj x v hx hv=>xG hr cs vs.toList (λj x v hx hv=>h3 j x v hx (by simpa using hv)) j x v hx (by simpa using hv)
 |.fn f a b,u,h=>by
  cases h with
  |fn _ _ _ us vs h1 h3 h1' h3'=>
   exact .fn f _ _ _ _ (by rw[qv,h1]) (λj x v hx hv=>xG hr a us.toList (λj x v hx hv=>h3 j x v hx (by simpa using hv)) j x v hx (by simpa using hv))
    (by rw[qv,h1']) (λj x v hx hv=>xG hr b vs.toList (λj x v hx hv=>h3' j x v hx (by simpa using hv)) j x v hx (by simpa using hv))
 |.cj,u,h=>by cases h;exact .cj
 |.o6,u,h=>by cases h;exact .o6
 |.undef,u,h=>.undef _
theorem xG (hr:cH H pl w):(cs:List SV)->(us:List Value)->(∀(j:Nat) (x:SV) (v:Value),cs[j]? =some x->us[j]? =some v->au w H pl x v)->
  ∀(j:Nat) (x:SV) (v:Value),(Dd i t H cs)[j]? =some x->us[j]? =some v->au w (FF i t H H) pl x v
 |[],us,_,j,x,v,hx,_=>by simp[Dd]at hx
 |c::cs,[],_,j,x,v,_,hv=>by simp at hv
 |c::cs,u::us,h,0,x,v,hx,hv=>by
  simp[Dd]at hx hv;subst hx hv
  exact KW hr c (h 0 c u rfl rfl)
 |c::cs,u::us,h,j+1,x,v,hx,hv=>xG hr cs us (λj x v hx hv=>h (j+1) x v (by simpa using hx) (by simpa using hv)) j x v (by simpa[Dd]using hx) (by simpa using hv)
end
theorem OS (hr:cH H pl w) {k:Nat}:(B:Blk)->dS w H pl k B->dS w (FF i t H H) pl k (B.frz i t H)
 |.box cs,⟨b,o,h1,h2,h3⟩=>by
  refine⟨b,o,h1,λp=>by rw[qv];exact h2 p,λj v hv=>?_⟩;rw[HK]at hv;obtain⟨v0,hv0,rfl⟩:=Rv.1 hv;obtain⟨u,g1,g2,g3,g4⟩:=h3 j v0 hv0
  exact⟨u,g1,g2,g3,KW hr v0 g4⟩
 |.arr none t' xs,h=>h
 |.arr (some d) t' xs,⟨R⟩=>⟨{R with hr:=λi j r hc=>⟨(R.hr i j r hc).1.frame λp u hp hu=>⟨rU hp,hu⟩,(R.hr i j r hc).2⟩}⟩
theorem M5 (hr:cH H pl w):cH (FF i t H H) pl w:=
  ⟨λk B' hB'=>by
    obtain⟨_,B,h1,rfl⟩:=nV hB'
    exact OS hr B (hr.blk k B h1),
   λk j B B' p h1 h2 f1 f2=>by
    obtain⟨_,B1,g1,_⟩:=nV h1;obtain⟨_,B2,g2,_⟩:=nV h2
    exact hr.dis k j B1 B2 p g1 g2 f1 f2,
   λk B p h1 hf=>by
    obtain⟨_,B1,g1,_⟩:=nV h1
    exact hr.ob k B1 p g1 hf,hr.nb⟩
end
theorem OT {w0:World} {fp0:G0} {bs:Cell->Prop} {n:Nat} {st:St} {a:Act} {w:World} (i:Nat) (h:Rl w0 fp0 bs n st a w):Rl w0 fp0 bs n (QR i st) a w:=by
 unfold QR;split
 ·rename_i sh t xs hl;obtain⟨pl,hr,hb,hn⟩:=h;refine⟨pl,⟨M5 hr.hr,λk v hv=>?_,hr.sz,hr.df,λk hk=>?_,hr.gr,λp u hp hno=>?_,λk j hk=>?_⟩,hb,hn⟩
  ·have hv:look (II i t st.heap st.cp) k=some v:=hv;rw[AG]at hv;obtain⟨v0,hv0,rfl⟩:=Rv.1 hv;exact KW hr.hr v0 (hr.sl k v0 hv0)
  ·show look (FF i t st.heap st.heap) k=none;rw[sU,hr.fresh k hk];by_cases c:k=i
   ·rw[if_pos c]
   ·rw[if_neg c];rfl
  ·obtain⟨f1,f2,f3⟩:=hr.fr p u hp hno
   exact⟨λk B hB=>by
    obtain⟨_,B1,g1,_⟩:=nV hB
    exact f1 k B1 g1,f2,f3⟩
  ·obtain⟨t1,t2⟩:=hr.gk k j hk;refine⟨t1,λB hB=>?_⟩;obtain⟨_,B1,g1,rfl⟩:=nV hB;obtain⟨t3,t4⟩:=t2 B1 g1;exact⟨t3,Blk.eI t4 (M4 B1 st.heap)⟩
 ·exact h
theorem sV {H:aI} {i:Nat} {t:Ty} {xs:List t.El} (hl:look H i=some (.arr none t xs)) (k:Nat):look (put H i (.arr (some []) t xs)) k=if k=i then some (.arr (some []) t xs)else look H k:=by
 rw[eF];by_cases c:i=k
 ·rw[if_pos c,if_pos c.symm]
 ·rw[if_neg c,if_neg (λe=>c e.symm)]
theorem nW {H:aI} {i:Nat} {t:Ty} {xs:List t.El} (hl:look H i=some (.arr none t xs)) {k:Nat} {B':Blk} (e:look (put H i (.arr (some []) t xs)) k=some B'):
  ∃B,look H k=some B/\B.lQ B'/\B'.kn=B.kn:=by
 rw[sV hl]at e;by_cases c:k=i
 ·rw[if_pos c]at e;cases e;exact⟨.arr none t xs,by rw[c];exact hl,show Blk.lQ (.arr none t xs) (.arr (some []) t xs)from⟨rfl,rfl⟩,rfl⟩
 ·rw[if_neg c]at e;exact⟨B',e,B'.dh,rfl⟩
def Pl.less (pl:Pl) (i:Nat) (f:Cell->Prop):Pl:={pl with fp:=λk p=>(k=i->f p)/\(k≠i->pl.fp k p)}
theorem Pl.sW {pl:Pl} {i:Nat} {f:Cell->Prop} (hf:∀p,f p->pl.fp i p) {k:Nat} {p:Cell} (h:(pl.less i f).fp k p):pl.fp k p:=by
 by_cases c:k=i
 ·subst c;exact hf p (h.1 rfl)
 ·exact h.2 c
theorem KX {w:World} {H:aI} {pl:Pl} {i:Nat} {t:Ty} {xs:List t.El} {f:Cell->Prop} (hl:look H i=some (.arr none t xs)) (hf:∀p,f p->pl.fp i p):lh ([],[]) w H pl w (put H i (.arr (some []) t xs)) (pl.less i f):=
  ⟨λk B hB _=>by
    by_cases c:k=i
    · subst c;rw[hl]at hB;cases hB;exact⟨.arr (some []) t xs,by rw[sV hl,if_pos rfl],show Blk.lQ (.arr none t xs) (.arr (some []) t xs)from⟨rfl,rfl⟩,rfl⟩
    · exact⟨B,by rw[sV hl,if_neg c];exact hB,B.dh,rfl⟩,
   λd p u _ hp hu=>⟨⟨hp.1,λk B' hB' hb hq=>by
    obtain⟨B,h1,_,h3⟩:=nW hl hB'
    exact hp.2 k B h1 (λhm=>by rw[<-h3];exact hb hm) (Pl.sW hf hq)⟩,hu⟩⟩
theorem OU {w0:World} {fp0:G0} {bs:Cell->Prop} {n:Nat} {st:St} {a:Act} {w:World} (i:Nat) (h:Rl w0 fp0 bs n st a w):Rl w0 fp0 bs n (QS i st) a w:=by
 unfold QS;split
 ·rename_i t xs hl;obtain⟨pl,hr,hb,hn⟩:=h;obtain⟨R⟩:=hr.hr.blk i _ hl;have hf:∀p,reg R.b R.o (R.cap*t.sz) p->pl.fp i p:=λp hp=>(R.hfp p).2 (.inl hp);have hk:=KX (w:=w) (pl:=pl) hl hf;refine⟨pl.less i (reg R.b R.o (R.cap*t.sz)),⟨⟨λk B' hB'=>?_,λk j B B' p h1 h2 f1 f2=>?_,λk B p h1 hf'=>?_,hr.hr.nb⟩,λk v hv=>?_,hr.sz,hr.df,λk hk=>?_,hr.gr,λp u hp hno=>?_,λk j hk=>?_⟩,hb,hn⟩
  ·have hB':look (put st.heap i (.arr (some []) t xs)) k=some B':=hB';rw[sV hl]at hB';by_cases c:k=i
   ·rw[if_pos c]at hB';cases hB';subst c;refine⟨⟨R.a,R.cap,R.b,R.o,R.vs,λ_ _ _=>False,R.xj,R.ib,R.ha,R.kj,R.hc,λi' j r hx=>⟨?_,λ_ hf=>hf⟩,λ_ _ _ _ _ h=>h.elim,λ_ _ _ _ _ _ _ _ _ h=>h.elim,λp=>⟨λhp=>.inl (hp.1 rfl),λhp=>⟨λ_=>hp.elim id λ⟨_,_,_,_,h⟩=>h.elim,λh=>(h rfl).elim⟩⟩⟩⟩;refine(R.hr i' j r hx).Mv λp hp=>?_;have hpi:pl.fp k p:=(R.hfp p).2 (.inr ⟨i',j,r,hx,hp⟩);refine⟨hr.hr.ob k _ p hl hpi,λm B hB _ hq=>?_⟩;by_cases e:m=k
    ·subst e;exact R.hd1 i' j r p hx hp (hq.1 rfl)
    ·obtain⟨B1,g1,_⟩:=nW hl hB;exact e (hr.hr.dis m k B1 _ p g1 hl (hq.2 e) hpi)
   ·rw[if_neg c]at hB';exact(hr.hr.blk k _ hB').bz hk rfl (λp=>⟨λh=>h.2 c,λh=>⟨λe=>(c e).elim,λ_=>h⟩⟩) (λp u _ hu=>⟨hu,rfl⟩) B'.di
  ·obtain⟨B1,g1,_⟩:=nW hl h1;obtain⟨B2,g2,_⟩:=nW hl h2;exact hr.hr.dis k j B1 B2 p g1 g2 (Pl.sW hf f1) (Pl.sW hf f2)
  ·obtain⟨B1,g1,_⟩:=nW hl h1;exact hr.hr.ob k B1 p g1 (Pl.sW hf hf')
  ·exact(hr.sl k v hv).we hk
  ·show look (put st.heap i (.arr (some []) t xs)) k=none;rw[sV hl];by_cases c:k=i
   ·have:=hr.fresh k hk;rw[c,hl]at this;exact nomatch this
   ·rw[if_neg c];exact hr.fresh k hk
  ·obtain⟨f1,f2,f3⟩:=hr.fr p u hp hno
   exact⟨λk B hB hq=>by
    obtain⟨B1,g1,_⟩:=nW hl hB
    exact f1 k B1 g1 (Pl.sW hf hq),f2,f3⟩
  ·obtain⟨t1,t2⟩:=hr.gk k j hk;refine⟨t1,λB hB=>?_⟩;obtain⟨B1,g1,g2,_⟩:=nW hl hB;obtain⟨t3,t4⟩:=t2 B1 g1;exact⟨t3,Blk.eI t4 g2⟩
 ·exact h
theorem xH {w0:World} {fp0:G0} {bs:Cell->Prop} {n:Nat} {a:Act} {w:World}:∀(l:List (Bool× Nat× List Nat)) {st:St},Rl w0 fp0 bs n st a w->Rl w0 fp0 bs n (Hq l st) a w
 |[],st,h=>h
 |x::l,st,h=>by
  refine xH l ?_;unfold N7;split
  ·split
   ·cases x.1
    ·exact OT _ h
    ·exact OU _ h
   ·exact h
  ·exact h
end
section
variable [Tok]
theorem KY {j k:Nat} {d:List Nat} (h:mem k d=true):mem k (cond (mem j d) d (d++[j]))=true:=by
 cases mem j d
 ·rw[cond_false,xl,h];rfl
 ·exact h
section
variable {w:World} {H:aI} {pl:Pl}
theorem AJ (hr:cH H pl w) {n:Nat} (hn:look H n=none) (sh:Bool) (t:Ty):
  cQ H (H++[(n,.arr (cond sh (some []) none) t [])]) ([],[]) pl (pl.set n (.slice none 0 0) λ_=>False) w w:=
 HA hr hn (dJ.refl w) (λp u hu=>⟨hu,rfl⟩) (λp h=>h.elim) λ_=>by
  refine dS.mH ?_;simp only[Pl.set,if_true];exact Row.nil _
theorem KZ (hr:cH H pl w) {n:Nat} (hn:look H n=none) (c:Co) {v:SV} {u:Value} (hv:au w H pl v u):
  ∃pl',cQ H (H++aK n (coV n H c v).2) ([],[]) pl pl' w w/\au w (H++aK n (coV n H c v).2) pl' (coV n H c v).1 u:=by
 have still:∀{v':SV},au w H pl v' u->∃pl',cQ H (H++aK n []) ([],[]) pl pl' w w/\au w (H++aK n []) pl' v' u:=λ{v'} h=>by
  simp only[aK,RV];exact⟨pl,cQ.refl hr,h⟩
 cases c with
 |oT sh t=>
  cases v with
  |cj=>
   have hst:=AJ hr hn sh t;refine⟨_,hst,?_⟩;cases hv;have:=au.own (w:=w) (H:=H++[(n,.arr (cond sh (some []) none) t [])]) (pl:=pl.set n (.slice none 0 0) λ_=>False) n (cond sh (some []) none) t [] (by rw[aE,hn,aA];simp)
   simpa[Pl.set,coV,aK]using this
  |_=>exact still hv
 |ro t=>
  simp only[coV]
  cases hl:v.list H t with
  |none=>exact still hv
  |some p=>exact still (.r _ _ _ (pg hr hl hv))
 |drop=>exact still (.undef _)
 |dep j=>
  cases v with
  |r d x=>
   cases hv with
   |r _ _ _ hx=>exact still (.r _ _ _ (hx.frame λp u hp hu=>⟨im (λk hk=>KY hk) hp,hu⟩))
  |_=>exact still hv
 |MF t j=>exact still hv
theorem F7 (hr:cH H pl w) {i j:Nat} {cs:List SV} {x v:SV} (hl:look H i=some (.box cs)) (hj:cs[j]? =some x) (hx:∀u,au w H pl x u->au w H pl v u):
  cQ H (put H i (.box (cs.set j v))) ([],[]) pl pl w w:=by
 have hlk:∀k B,look (put H i (.box (cs.set j v))) k=some B->(k=i/\B=.box (cs.set j v))\/(k≠i/\look H k=some B):=λk B h=>by
  rw[eF]at h;by_cases e:i=k
  ·subst e;simp only[if_true,It]at h;exact .inl ⟨rfl,h.symm⟩
  ·rw[if_neg e]at h;exact .inr ⟨λh=>e h.symm,h⟩
 have hk:lh ([],[]) w H pl w (put H i (.box (cs.set j v))) pl:=by
  refine⟨λk B hB _=>?_,λd p u _ h hp=>⟨⟨h.1,λk B hB hm=>?_⟩,hp⟩⟩
  ·rw[eF];by_cases e:i=k
   ·subst e;rw[hl]at hB;cases hB;exact⟨_,by simp;rfl,by simp[Blk.lQ],rfl⟩
   ·rw[if_neg e];exact⟨B,hB,B.dh,rfl⟩
  ·rcases hlk k B hB with⟨rfl,rfl⟩|⟨_,hB⟩
   ·exact h.2 k _ hl λ_=>rfl
   ·exact h.2 k B hB hm
 refine⟨⟨λk B hB=>?_,λk k' B B' p h1 h2=>?_,λk B p hB=>?_,hr.nb⟩,hk,rfl,dJ.refl w,λp u hp hno=>⟨λk B hB=>?_,hp,rfl⟩⟩
 ·rcases hlk k B hB with⟨rfl,rfl⟩|⟨_,hB⟩
  ·obtain⟨b,o,q1,q2,q3⟩:=hr.blk k _ hl;refine⟨b,o,q1,λp=>by rw[q2,RW],λm y hy=>?_⟩;rw[List.getElem?_set]at hy;by_cases e:j=m
   ·subst e;obtain⟨u,g1,g2,g3,g4⟩:=q3 j x hj;simp only[if_true]at hy;split at hy
    ·cases hy;exact⟨u,g1,g2,g3,(hx u g4).we hk⟩
    ·exact nomatch hy
   ·rw[if_neg e]at hy;obtain⟨u,g1,g2,g3,g4⟩:=q3 m y hy;exact⟨u,g1,g2,g3,g4.we hk⟩
  ·exact(hr.blk k B hB).bz hk rfl (λ_=>Uk) (λp u _ hu=>⟨hu,rfl⟩) B.di
 ·have f1:∃B,look H k=some B:=by
   rcases hlk k B h1 with⟨rfl,rfl⟩|⟨_,h1⟩
   ·exact⟨_,hl⟩
   ·exact⟨_,h1⟩
  have f2:∃B,look H k'=some B:=by
   rcases hlk k' B' h2 with⟨rfl,rfl⟩|⟨_,h2⟩
   ·exact⟨_,hl⟩
   ·exact⟨_,h2⟩
  obtain⟨_,f1⟩:=f1;obtain⟨_,f2⟩:=f2;exact hr.dis k k' _ _ p f1 f2
 ·rcases hlk k B hB with⟨rfl,rfl⟩|⟨_,hB⟩
  ·exact hr.ob k _ p hl
  ·exact hr.ob k B p hB
 ·rcases hlk k B hB with⟨rfl,rfl⟩|⟨_,hB⟩
  ·exact hno k _ hl
  ·exact hno k B hB
end
theorem cQ.Qe {H H' H'':aI} {pl pl' pl'':Pl} {w w' w'':World} (h:cQ H H' ([],[]) pl pl' w w') (g:cQ H' H'' ([],[]) pl' pl'' w' w''):cQ H H'' ([],[]) pl pl'' w w'':=by
 refine⟨g.hr,⟨λi B hB hm=>?_,λd p u hd ho hp=>?_⟩,g.bs.trans h.bs,h.gr.trans g.gr,λp u hp hno=>?_⟩
 ·obtain⟨B',q1,q2,q3⟩:=h.kp.k1 i B hB hm;obtain⟨B'',r1,r2,r3⟩:=g.kp.k1 i B' q1 hm;exact⟨B'',r1,Blk.eI q2 r2,r3.trans q3⟩
 ·obtain⟨q1,q2⟩:=h.kp.k2 d p u hd ho hp;exact g.kp.k2 d p u hd q1 q2
 ·obtain⟨q1,q2,q3⟩:=h.fr p u hp hno;obtain⟨r1,r2,r3⟩:=g.fr p u q2 q1;exact⟨r1,r2,r3.trans q3⟩
theorem Rel.ghost {w0:World} {fp0:G0} {st:St} {pl pl':Pl} {a:Act} {w:World} {H':aI} {nid':Nat} (h:Rel w0 fp0 st pl a w) (hs:cQ st.heap H' ([],[]) pl pl' w w) (hn:st.nid<=nid')
    (hf:∀i,nid'<=i->look H' i=none) (hb:∀i B,i<st.nid->look H' i=some B->∃B',look st.heap i=some B'):Rel w0 fp0 {st with heap:=H',nid:=nid'} pl' a w:=
  ⟨hs.hr,λt v hv=>(h.sl t v hv).we hs.kp,h.sz,h.df,hf,h.gr,λp u hp hno=>by
    obtain⟨g1,g2,g3⟩:=h.fr p u hp hno;obtain⟨f1,f2,f3⟩:=hs.fr p u g2 g1
    exact⟨f1,f2,f3.trans g3⟩,h.gk.step hs.kp hn λk i B hki hB=>⟨rfl,hb i B (h.gk k i hki).1 hB⟩⟩
theorem DP {n i:Nat} {bs:List Blk} (h:i<n):look (aK n bs) i=none:=by rw[bn,if_neg (by omega)]
theorem uJ {n i:Nat} {bs:List Blk} (h:n+bs.length<=i):look (aK n bs) i=none:=by rw[bn,if_pos (by omega),RR (by omega)]
theorem K0 {w0:World} {fp0:G0} {bs:Cell->Prop} {n:Nat} {st:St} {a:Act} {w:World} (h:Rl w0 fp0 bs n st a w) (x:gK× Co):Rl w0 fp0 bs n (Dn st x) a w:=by
  obtain⟨pl,hr,hb,hnn⟩:=h;have hfresh:=hr.fresh st.nid (RJ _)
  have app:∀(bl:List Blk) {pl':Pl},cQ st.heap (st.heap++aK st.nid bl) ([],[]) pl pl' w w->Rel w0 fp0 {st with heap:=st.heap++aK st.nid bl,nid:=st.nid+bl.length} pl' a w:=λbl pl' hs=>
    hr.ghost hs (by simp) (λi hi=>by rw[aE,hr.fresh i (by omega),uJ hi];rfl) λi B hi hB=>by
      rw[aE,DP hi,Sx]at hB;exact⟨B,hB⟩
  have cp:∀{st1:St} {pl':Pl} {t:Nat} {v:SV},Rel w0 fp0 st1 pl' a w->st1.cp=st.cp->au w st1.heap pl' v (a.tmps.getD t undef)->Rel w0 fp0 {st1 with cp:=put st.cp t v} pl' a w:=λ{st1 pl' t v} h1 e hv=>
    ⟨h1.hr,λt' v' h'=>by
      rw[eF]at h';by_cases c:t=t'
      · subst c;simp at h';subst h';exact hv
      · rw[if_neg c]at h';exact h1.sl t' v' (by rw[e];exact h'),h1.sz,h1.df,h1.fresh,h1.gr,h1.fr,h1.gk⟩
  obtain⟨wh,c⟩:=x
  have box:∀i j,Rl w0 fp0 bs n (MH st i j c) a w:=λi j=>by
    unfold MH;split
    · rename_i cs hl;split
      · rename_i v hj
        have hi:i<st.nid:=by
          by_cases c:i<st.nid
          · exact c
          · rw[hr.fresh i (by omega)]at hl;exact nomatch hl
        have hv:∃u,au w st.heap pl v u:=by
          obtain⟨b,o,_,_,q3⟩:=hr.hr.blk i _ hl;obtain⟨u,_,_,_,h⟩:=q3 j v hj;exact⟨u,h⟩
        have key:∃pl',cQ st.heap (st.heap++aK st.nid (coV st.nid st.heap c v).2) ([],[]) pl pl' w w/\
            ∀u,au w (st.heap++aK st.nid (coV st.nid st.heap c v).2) pl' v u->au w (st.heap++aK st.nid (coV st.nid st.heap c v).2) pl' (coV st.nid st.heap c v).1 u:=by
          have still:(coV st.nid st.heap c v).2=[]->(∀u,au w st.heap pl v u->au w st.heap pl (coV st.nid st.heap c v).1 u)->
              ∃pl',cQ st.heap (st.heap++aK st.nid (coV st.nid st.heap c v).2) ([],[]) pl pl' w w/\
              ∀u,au w (st.heap++aK st.nid (coV st.nid st.heap c v).2) pl' v u->au w (st.heap++aK st.nid (coV st.nid st.heap c v).2) pl' (coV st.nid st.heap c v).1 u:=λe h=>by
            rw[e];simp only[aK,RV];exact⟨pl,cQ.refl hr.hr,h⟩
          cases c with
          | oT sh t =>
            cases v with
            | cj =>
              obtain⟨u,hu⟩:=hv;refine⟨_,AJ hr.hr hfresh sh t,λu hu=>?_⟩;cases hu;have:=au.own (w:=w) (H:=st.heap++[(st.nid,.arr (cond sh (some []) none) t [])]) (pl:=pl.set st.nid (.slice none 0 0) λ_=>False) st.nid (cond sh (some []) none) t [] (by rw[aE,hfresh,aA];simp)
              simpa[Pl.set,coV,aK]using this
            |_=>exact still rfl λu h=>h
          | ro t =>
            cases hq:v.list st.heap t with
            |none=>exact still (by simp only[coV,hq]) λu h=>by simp only[coV,hq];exact h
            |some p=>exact still (by simp only[coV,hq]) λu h=>by simp only[coV,hq];exact .r _ _ _ (pg hr.hr hq h)
          |drop=>exact still rfl λu _=>.undef _
          | dep j =>
            cases v with
            |r d x=>exact still rfl λu hv=>by cases hv with|r _ _ _ hx=>exact .r _ _ _ (hx.frame λp u hp hu=>⟨im (λk hk=>KY hk) hp,hu⟩)
            |_=>exact still rfl λu h=>h
          |MF t j=>exact still rfl λu h=>h
        obtain⟨pl',h1,h2⟩:=key
        have hl':look (st.heap++aK st.nid (coV st.nid st.heap c v).2) i=some (.box cs):=by rw[aE,hl];rfl
        have h3:=h1.Qe (F7 h1.hr hl' hj h2);refine⟨pl',hr.ghost h3 (by simp) (λk hk=>?_) (λk B hk hB=>?_),h1.bs.trans hb,hnn⟩
        · rw[eF,if_neg (by omega),aE,hr.fresh k (by omega),uJ hk];rfl
        · rw[eF]at hB;by_cases e:i=k
          · subst e;exact⟨_,hl⟩
          · rw[if_neg e,aE,DP hk,Sx]at hB;exact⟨B,hB⟩
      · exact⟨pl,hr,hb,hnn⟩
    · exact⟨pl,hr,hb,hnn⟩
  cases wh with
  | slot t =>
    simp only[Dn]
    cases hl:look st.cp t with
    |none=>exact⟨pl,hr,hb,hnn⟩
    | some v =>
      obtain⟨pl',h1,h2⟩:=KZ hr.hr hfresh c (hr.sl t v hl)
      exact⟨pl',cp (app _ h1) rfl h2,h1.bs.trans hb,hnn⟩
  | cell t j =>
    simp only[Dn];split
    · rename_i cs hl;split
      · rename_i v hj;have hv:=hr.sl t _ hl;generalize hu:a.tmps.getD t undef=u at hv
        cases hv with
        | agg _ vs hlen hone hall =>
          have hjl:j<vs.size:=by rw[<-hlen];exact(Of.1 hj).1
          obtain⟨pl',h1,h2⟩:=KZ hr.hr hfresh c (hall j v vs[j] hj (by simp));refine⟨pl',cp (app _ h1) rfl ?_,h1.bs.trans hb,hnn⟩;rw[hu];refine .agg _ _ (by simp[hlen]) hone λm y z hy hz=>?_;rw[List.getElem?_set]at hy;by_cases e:j=m
          · subst e;simp only[if_true]at hy;split at hy
            · cases hy
              have:vs[j]=z:=by have:=RB hjl;rw[this]at hz;exact SP hz
              rw[<-this];exact h2
            · exact nomatch hy
          · rw[if_neg e]at hy;exact(hall m y z hy hz).we h1.kp
      · exact⟨pl,hr,hb,hnn⟩
    · exact⟨pl,hr,hb,hnn⟩
  |box i j=>exact box i j
  | J1 t j =>
    simp only[Dn];split
    · exact box _ j
    · exact⟨pl,hr,hb,hnn⟩
  | gh k =>
    refine⟨pl,⟨hr.hr,hr.sl,hr.sz,hr.df,hr.fresh,hr.gr,hr.fr,λj i hj=>?_⟩,hb,hnn⟩;have hj:(st.gh.set k none)[j]? =some (some i):=hj;rw[List.getElem?_set]at hj;by_cases e:k=j
    · rw[if_pos e]at hj;split at hj<;>exact nomatch hj
    · rw[if_neg e]at hj;exact hr.gk j i hj
theorem M6 {w0:World} {fp0:G0} {bs:Cell->Prop} {n:Nat} {st:St} {a:Act} {w:World} (h:Rl w0 fp0 bs n st a w) (x:gK× Co):Rl w0 fp0 bs n (PR st x) a w:=K0 h _
theorem wD {w0:World} {fp0:G0} {bs:Cell->Prop} {n:Nat} {a:Act} {w:World}:∀(l:List (gK× Co)) {st:St},Rl w0 fp0 bs n st a w->Rl w0 fp0 bs n (Kh l st) a w
 |[],_,h=>h
 |x::l,_,h=>wD l (M6 h x)
end
section
variable [Tok]
section
variable {ρ:Type} {E:Env} {w0:World} {fp0:G0} {bs:Cell->Prop}
theorem Rl.put {n:Nat} {st:St} {a:Act} {w:World} {t:Nat} {v:SV} (h:Rl w0 fp0 bs n st a w) (hv:∀pl,au w st.heap pl v (a.tmps.getD t undef)):Rl w0 fp0 bs n {st with cp:=put st.cp t v} a w:=by
 obtain⟨pl,h,hb,hn⟩:=h;refine⟨pl,⟨h.hr,λt' v' h'=>?_,h.sz,h.df,h.fresh,h.gr,h.fr,h.gk⟩,hb,hn⟩;rw[eF]at h';by_cases e:t=t'
 ·subst e;simp at h';subst h';exact hv pl
 ·rw[if_neg e]at h';exact h.sl t' v' h'
theorem F8 (hE:mJ E) {n:Nat} {o:Oper} {st:St} {a:Act} {w:World} {K:St->Option ρ} {out:ρ} {next:Act->World->Prop} {Q:Exit->Act->World->Prop}
  (hr:Rl w0 fp0 bs n st a w) (h:PH E o st K=some out) (hK:∀st' a' w',K st'=some out->Rl w0 fp0 bs n st' a' w'->next a' w'):o.wp E.P a w next Q:=by
 obtain⟨pl,hr,hb,hn⟩:=hr;exact I5 hE hr h λst' pl' a' w' hk hb' hn' hr'=>hK st' a' w' hk ⟨pl',hr',hb'.trans hb,hn'.trans hn⟩
theorem F9 {n:Nat} {o:Oper} {st:St} {a:Act} {w:World} {K:St->Option ρ} {out:ρ} {next:Act->World->Prop}
  (hr:Rl w0 fp0 bs n st a w) (h:Dr o st K=some out) (hK:∀st' a' w',K st'=some out->Rl w0 fp0 bs n st' a' w'->next a' w'):next (a.put o.dst undef) w:=by
 simp only[Dr,An]at h;obtain⟨s,hs,h⟩:=h;obtain⟨pl,hr,hb,hn⟩:=hr
 exact hK _ _ _ h ⟨pl,⟨hr.hr,gn.put hr.sl hr.sz hs (.tup [] #[] rfl λj x v hx _=>by simp at hx),by rw[Act.BT];exact hr.sz,by rw[Act.Kv];exact hr.df,hr.fresh,hr.gr,hr.fr,hr.gk⟩,hb,hn⟩
theorem jf (hE:mJ E) {n:Nat} {ops:Array Oper} {Q:Exit->Act->World->Prop} {out:ρ}:∀(l:List Oper) (st:St) (a:Act) (w:World) (K:St->Option ρ),
  Rl w0 fp0 bs n st a w->BF E ops.toList l st K=some out->(∀st' a' w',K st'=some out->Rl w0 fp0 bs n st' a' w'->Q .normal a' w')->wpList E.P ops Q l a w
 |[],st,a,w,K,hr,h,hK=>hK st a w h hr
 |o::rest,st,a,w,K,hr,h,hK=>by
  simp only[BF]at h
  cases hg:o.guard with
  |none=>
   simp only[hg]at h
   refine wpList_plain hg λK' hK'=>F8 hE hr h λst' a' w' h' hr'=>hK' _ _ (jf hE rest st' a' w' K hr' h' hK)
  |some jw=>
   obtain⟨j,want⟩:=jw;simp only[hg,An]at h;obtain⟨t,ht,v,hv,h⟩:=h;split at h
   ·have hy:yielded ops a.tmps j=none:=by
     simp only[Oy,An]at ht;obtain⟨oj,hoj,hd⟩:=ht
     have hoj':ops[j]? =some oj:=by rwa [Si]at hoj
     have hval:∃vs,a.tmps.getD t undef=.tuple vs:=by
      obtain⟨pl,hr,_,_⟩:=hr;have:=hr.sl t _ hv;generalize a.tmps.getD t undef=u at this
      cases this with
      |tup _ vs=>exact⟨vs,rfl⟩
     obtain⟨vs,hval⟩:=hval;rw[RI]at hval
     cases hq:a.tmps[t]? with
     |none=>simp[yielded,hoj',hd,hq]
     |some x=>rw[hq]at hval;simp[yielded,hoj',hd,hq,show x=.tuple vs from hval]
    refine wpList_step λK' hK'=>?_;simp only[Region.wanted,hg,hy];rw[if_neg (by simp)];exact F9 (next:=K') hr h λst' a' w' h' hr'=>hK' _ _ (jf hE rest st' a' w' K hr' h' hK)
   simp only[An]at h;obtain⟨b,hb,h⟩:=h
   have hval:a.tmps.getD t undef=.bool b:=by
    obtain⟨pl,hr,_,_⟩:=hr;exact FO hb (hr.sl t v hv)
   have hy:yielded ops a.tmps j=some b:=by
    simp only[Oy,An]at ht;obtain⟨oj,hoj,hd⟩:=ht
    have hoj':ops[j]? =some oj:=by rwa [Si]at hoj
    have hg:a.tmps[t]? =some (.bool b):=by
     rw[RI]at hval
     cases hq:a.tmps[t]? with
     |none=>rw[hq]at hval;exact nomatch hval
     |some x=>rw[hq]at hval;exact congrArg some hval
    simp[yielded,hoj',hd,hg]
   refine wpList_step λK' hK'=>?_;simp only[Region.wanted,hg,hy]
   have hput:∀b',b'=b->Rl w0 fp0 bs n {st with cp:=put st.cp t (.b b')} a w:=λb' e=>hr.put λpl=>by rw[hval,e];exact lT
   cases b<;>simp only[cond_true,cond_false]at h
   ·have hr':=hput false rfl;cases want<;>simp only[cond_true,cond_false]at h
    ·rw[if_pos (by rfl)];exact F8 hE hr' h λst' a' w' h' hr'=>hK' _ _ (jf hE rest st' a' w' K hr' h' hK)
    ·rw[if_neg (by simp)];exact F9 (next:=K') hr' h λst' a' w' h' hr'=>hK' _ _ (jf hE rest st' a' w' K hr' h' hK)
   ·have hr':=hput true rfl;cases want<;>simp only[cond_true,cond_false]at h
    ·rw[if_neg (by simp)];exact F9 (next:=K') hr' h λst' a' w' h' hr'=>hK' _ _ (jf hE rest st' a' w' K hr' h' hK)
    ·rw[if_pos (by rfl)];exact F8 hE hr' h λst' a' w' h' hr'=>hK' _ _ (jf hE rest st' a' w' K hr' h' hK)
def Ex.up:Ex->Exit
 |.normal=>.normal
 |.exit id=>.exit id
 |.ret=>.ret
def Sound (P:Program) (c:Code) (f:Ev ρ):Prop:=
 ∀(w0:World) (fp0:G0) (bs:Cell->Prop) (n:Nat) (st:St) (a:Act) (w:World) (K:Ex->St->Option ρ) (out:ρ) (Q:Exit->Act->World->Prop),
  Rl w0 fp0 bs n st a w->f st K=some out->(∀e st' a' w',K e st'=some out->Rl w0 fp0 bs n st' a' w'->Q e.up a' w')->c.wp P Q a w
def iv (E:Env) (LP:Nat->Ev ρ->Ev ρ):Nat->Code->Prop
 |cb,.seq a b=>iv E LP cb a/\iv E LP cb b
 |cb,.cond _ a b=>iv E LP cb a/\iv E LP cb b
 |_,.block id c=>iv E LP id c
 |cb,.scope c=>iv E LP cb c
 |cb,.loop c=>Sound E.P (.loop c) (LP cb λst K=>ev E LP cb c st K)
 |_,_=>True
theorem DQ {n:Nat} {st:St} {a:Act} {w:World} {c:Operand} {b:Bool} (h:Rl w0 fp0 bs n st a w) (hc:a.eval c=.bool b):Rl w0 fp0 bs n (refine c b st) a w:=by
 cases c with
 |tmp t=>exact h.put λpl=>by rw[show a.tmps.getD t undef=.bool b from hc];exact lT
 |_=>exact h
theorem DS {n:Nat} {st:St} {a:Act} {w:World} {K:St->Option ρ} {out:ρ} (h:Hr E K st=some out) (hr:Rl w0 fp0 bs n st a w):∃st',K st'=some out/\Rl w0 fp0 bs n st' a w:=by
 unfold Hr at h;cases ht:E.tak<;>simp only[ht,cond_true,cond_false]at h
 ·exact⟨_,h,hr⟩
 obtain⟨H',h1,h2⟩:=xy h;refine⟨_,h1,?_⟩;obtain⟨pl,hr,hb,hn⟩:=hr;refine⟨pl,⟨h2.Qb hr.hr,λk v hv=>(hr.sl k v hv).we h2.keeps,hr.sz,hr.df,λk hk=>?_,hr.gr,λp u hp hno=>?_,λk j hk=>?_⟩,hb,hn⟩
 ·rcases h2 k with⟨_,g⟩|⟨B,B',g1,_⟩
  ·exact g
  ·rw[hr.fresh k hk]at g1;exact nomatch g1
 ·obtain⟨f1,f2,f3⟩:=hr.fr p u hp hno
  exact⟨λk B hB=>by
   obtain⟨B1,g1,_⟩:=h2.bwd hB
   exact f1 k B1 g1,f2,f3⟩
 ·obtain⟨t1,t2⟩:=hr.gk k j hk;refine⟨t1,λB hB=>?_⟩;obtain⟨B1,g1,g2⟩:=h2.bwd hB;obtain⟨t3,t4⟩:=t2 B1 g1;exact⟨t3,Blk.eI t4 g2.lQ⟩
theorem jt (hE:mJ E) {LP:Nat->Ev ρ->Ev ρ}:∀(c:Code) (cb:Nat),iv E LP cb c->Sound E.P c (ev E LP cb c)
 |.skip,cb,_=>λw0 fp0 bs n st a w K out Q hr h hK=>wp_skip (hK .normal st a w h hr)
 |.label l,cb,_=>λw0 fp0 bs n st a w K out Q hr h hK=>wp_label (hK .normal st a w h hr)
 |.region id ops false,cb,_=>λw0 fp0 bs n st a w K out Q hr h hK=>wp_region_list (jf hE _ _ a w _ (wD _ (xH _ hr)) h λst' a' w' h' hr'=>by
   obtain⟨st2,h2,hr2⟩:=DS h' hr'
   exact hK .normal st2 a' w' h2 hr2)
 |.region id ops true,cb,_=>λw0 fp0 bs n st a w K out Q hr h hK=>F6 hE (wD _ (xH _ hr)) h λst' a' w' h' hr'=>by
   obtain⟨st2,h2,hr2⟩:=DS h' hr'
   exact hK .normal st2 a' w' h2 hr2
 |.seq x y,cb,hg=>λw0 fp0 bs n st a w K out Q hr h hK=>wp_seq<|
  jt hE x cb hg.1 w0 fp0 bs n st a w _ out _ hr h λe st' a' w' h' hr'=>match e,h' with
   |.normal,h'=>jt hE y cb hg.2 w0 fp0 bs n st' a' w' K out Q hr' h' hK
   |.exit _,h'=>hK _ st' a' w' h' hr'
   |.ret,h'=>hK _ st' a' w' h' hr'
 |.cond c x y,cb,hg=>λw0 fp0 bs n st a w K out Q hr h hK=>by
  simp only[ev,An]at h;obtain⟨v,hv,b,hb,h⟩:=h
  have hval:a.eval c=.bool b:=by
   obtain⟨pl,hr,_,_⟩:=hr;exact FO hb (aQ hr.sl hv)
  refine wp_cond hval ?_;cases b
  ·exact jt hE y cb hg.2 w0 fp0 bs n _ a w K out Q (DQ hr hval) h hK
  ·exact jt hE x cb hg.1 w0 fp0 bs n _ a w K out Q (DQ hr hval) h hK
 |.block id c,cb,hg=>λw0 fp0 bs n st a w K out Q hr h hK=>wp_block<|
  jt hE c id hg w0 fp0 bs n st a w _ out _ hr h λe st' a' w' h' hr'=>match e,h' with
   |.normal,h'=>hK .normal st' a' w' h' hr'
   |.exit j,h'=>by
    simp only[inBlock]at h';show Exit.inBlock id Q (.exit j) a' w';cases hj:Nat.beq j id<;>simp only[hj,cond_true,cond_false]at h'
    ·have:¬j=id:=λe=>by subst e;simp at hj
     simp only[Exit.inBlock,if_neg this];exact hK (.exit j) st' a' w' h' hr'
    ·simp only[Exit.inBlock,if_pos (Rp hj)]
     exact hK .normal st' a' w' h' hr'
   |.ret,h'=>hK .ret st' a' w' h' hr'
 |.loop c,cb,hg=>hg
 |.exit id,cb,_=>λw0 fp0 bs n st a w K out Q hr h hK=>wp_exit (hK (.exit id) st a w h hr)
 |.scope c,cb,hg=>λw0 fp0 bs n st a w K out Q hr h hK=>wp_scope_straight<|
  jt hE c cb hg w0 fp0 bs n st a w K out _ hr h λe st' a' w' h' hr'=>match e,h' with
   |.normal,h'=>hK .normal st' a' w' h' hr'
   |.exit j,h'=>hK (.exit j) st' a' w' h' hr'
   |.ret,h'=>hK .ret st' a' w' h' hr'
 |.ret,cb,_=>λw0 fp0 bs n st a w K out Q hr h hK=>wp_ret (hK .ret st a w h hr)
 |.rangeFunc _ _ _ _,cb,_=>λw0 fp0 bs n st a w K out Q hr h hK=>nomatch h
 |.goto _,cb,_=>λw0 fp0 bs n st a w K out Q hr h hK=>nomatch h
 |.refuse _,cb,_=>λw0 fp0 bs n st a w K out Q hr h hK=>nomatch h
theorem Jc {P:Program} {c:Code} {f:Ev ρ} (hf:Sound P c f) (k:Nat):Sound P (.loop c) (OC f k):=by
 intro w0 fp0 bs n st a w K out Q hr h hK;refine wp_loop_rounds k ?_
 induction k generalizing st a w with
 |zero=>exact nomatch h
 |succ k ih=>
  rw[rounds_succ]
  exact hf w0 fp0 bs n st a w _ out _ hr h λe st' a' w' h' hr'=>match e,h' with
   |.normal,h'=>ih st' a' w' hr' h'
   |.exit j,h'=>hK (.exit j) st' a' w' h' hr'
   |.ret,h'=>hK .ret st' a' w' h' hr'
end
end
section
variable [Tok]
inductive Arg where
 |one (r:R)
 |agg (rs:List R)
 |fn (f:Fn) (first cap:List R)
def Arg.sv:Arg->SV
 |.one r=>.r [] r
 |.agg rs=>.agg (rs.map (SV.r []))
 |.fn f a b=>.fn f (a.map (SV.r [])) (b.map (SV.r []))
def M7 (w:World) (ok:Cell->Prop) (rs:List R) (vs:Array Value):Prop:=
 rs.length=vs.size/\∀(j:Nat) (r:R) (u:Value),rs[j]? =some r->vs[j]? =some u->ja w ok r u
def sX (w:World) (ok:Cell->Prop):Arg->Value->Prop
 |.one r,v=>ja w ok r v
 |.agg rs,v=>∃vs,v=.agg vs/\M7 w ok rs vs
 |.fn f a b,v=>∃us vs,v=.func f us vs/\M7 w ok a us/\M7 w ok b vs
def py (P:Program) (g:FuncId) (args:List Arg) (out:Out):Prop:=
 HE P g/\∀(w:World) (us:Array Value) (ok:Cell->Prop),args.length=us.size->(∀(j:Nat) (x:Arg) (u:Value),args[j]? =some x->us[j]? =some u->sX w ok x u)->
  Calls P g us w λe w'=>∃u pl,e=.returned u/\cH (aK 0 out.2) pl w'/\au w' (aK 0 out.2) pl out.1 u/\pl.base=(λp=>ok p\/w.at? p=none)/\
   (∀p x,w.at? p=some x->w'.at? p=some x/\w'.ez p=w.ez p)/\(∀i B p,look (aK 0 out.2) i=some B->pl.fp i p->w.at? p=none)/\dJ w w'
def QX (P:Program) (st:St):ResultVar->Option SV
 |.tmp t=>look st.cp t
 |.cell a T=>(look st.cp a).bind λp=>(lb st.heap p).bind λcs=>ik P T cs
def QG (P:Program) (st:St):List ResultVar->Option (List SV)
 |[]=>some []
 |r::l=>(QX P st r).bind λv=>(QG P st l).bind λvs=>some (v::vs)
def Oa (P:Program) (fn:Func) (st:St):Option SV:=
  (QG P st fn.results.toList).bind λvs=>match vs with
    |[v]=>some v
    |vs=>some (.tup vs)
inductive RT where
 |sc
 |own (t:Ty)
 |shl (t:Ty)
 |ro (t:Ty)
 |agg (l:List RT)
 |tup (l:List RT)
 |fn (as bs:List RT)
 |ptr
def posOf (i:Nat):List (Option Nat)->Nat->Option Nat
 |[],_=>none
 |none::l,n=>posOf i l (n+1)
 |some k::l,n=>cond (Nat.beq k i) (some n) (posOf i l (n+1))
mutual
def RT.Jd:RT->SV->Option (List (Bool× Ty× Option Nat))
 |.sc,_=>some []
 |.ro _,_=>some []
 |.own t,.own i=>some [(false,t,some i)]
 |.own t,.cj=>some [(false,t,none)]
 |.shl t,.own i=>some [(true,t,some i)]
 |.shl t,.cj=>some [(true,t,none)]
 |.agg l,.agg cs=>Ce l cs
 |.tup l,.tup cs=>Ce l cs
 |.fn as bs,.fn _ a b=>(Ce as a).bind λx=>(Ce bs b).bind λy=>some (x++y)
 |.ptr,.ptr _ 0 _=>some []
 |_,_=>none
def Ce:List RT->List SV->Option (List (Bool× Ty× Option Nat))
 |[],[]=>some []
 |r::l,v::cs=>(r.Jd v).bind λa=>(Ce l cs).bind λb=>some (a++b)
 |_,_=>none
end
def jg:List (Bool× Ty× Option Nat)->List Nat
 |[]=>[]
 |(_,_,some i)::l=>i::jg l
 |(_,_,none)::l=>jg l
mutual
def RT.out (h:aI) (L:List Nat) (gh:List (Option Nat)):RT->Nat->SV->Option (SV× Nat)
 |.sc,k,.r _ (.int kk n)=>some (.r [] (.int kk n),k)
 |.sc,k,.r _ (.bool b)=>some (.r [] (.bool b),k)
 |.sc,k,.r _ (.str l)=>some (.r [] (.str l),k)
 |.sc,k,.cj=>some (.cj,k)
 |.own _,k,_=>some (.own k,k+1)
 |.shl _,k,_=>some (.own k,k+1)
 |.ro t,k,v=>(v.list h t).bind λp=>cond (hit L p.1) none (some (.r [] (.sl t p.2),k))
 |.agg l,k,.agg cs=>(Mw h L gh l k cs).bind λp=>some (.agg p.1,p.2)
 |.tup l,k,.tup cs=>(Mw h L gh l k cs).bind λp=>some (.tup p.1,p.2)
 |.fn as bs,k,.fn f a b=>(Mw h L gh as k a).bind λp=>(Mw h L gh bs p.2 b).bind λq=>some (.fn f p.1 q.1,q.2)
 |.ptr,k,.ptr i 0 o=>(posOf i gh 0).bind λj=>some (.ptr j 0 o,k)
 |_,_,_=>none
def Mw (h:aI) (L:List Nat) (gh:List (Option Nat)):List RT->Nat->List SV->Option (List SV× Nat)
 |[],k,[]=>some ([],k)
 |r::l,k,v::cs=>(r.out h L gh k v).bind λp=>(Mw h L gh l p.2 cs).bind λq=>some (p.1::q.1,q.2)
 |_,_,_=>none
end
def placeOf (i:Nat):List Nat->Nat->Option Nat
 |[],_=>none
 |k::l,n=>cond (Nat.beq k i) (some n) (placeOf i l (n+1))
def nodup:List Nat->Bool
 |[]=>true
 |k::l=>cond (mem k l) false (nodup l)
def sY (h:aI) (L:List Nat):Bool× Ty× Option Nat->Option Blk
 |(false,t,none)=>some (.arr none t [])
 |(true,t,none)=>some (.arr (some []) t [])
 |(false,t,some i)=>match look h i with
  |some (.arr none t' xs)=>cond (decide (t'=t)) (some (.arr none t' xs)) none
  |_=>none
 |(true,t,some i)=>match look h i with
  |some (.arr (some d) t' xs)=>cond (hit L d) none (cond (decide (t'=t)) (some (.arr (some []) t' xs)) none)
  |_=>none
def mM (h:aI) (L:List Nat):List (Bool× Ty× Option Nat)->Option (List Blk)
 |[]=>some []
 |i::l=>(sY h L i).bind λb=>(mM h L l).bind λl=>some (b::l)
def canon (rt:RT) (h:aI) (v:SV):Option Out:=
 (rt.Jd v).bind λs=>cond (nodup (jg s)) ((mM h (jg s) s).bind λbs=>(rt.out h (jg s) [] 0 v).bind λp=>some (p.1,bs)) none
def fin {ρ:Type} (P:Program) (fn:Func) (rt:RT) (dec:Out->Option ρ):Ex->St->Option ρ
 |.exit _,_=>none
 |.normal,st=>(Oa P fn st).bind λv=>(canon rt st.heap v).bind dec
 |.ret,st=>(Oa P fn st).bind λv=>(canon rt st.heap v).bind dec
def DT:Nat->List Arg->List (Nat× SV)
 |_,[]=>[]
 |n,a::l=>(n,a.sv)::DT (n+1) l
def st0 (fn:Func) (args:List Arg):St:={cp:=DT 0 args,heap:=[],nid:=0,n:=fn.ntmps}
section
variable {P:Program}
def HL (a:Act):ResultVar->Sem Value
 |.tmp t=>pure (a.tmps.getD t undef)
 |.cell b t=>do loadVar t (<-asAddr (a.tmps.getD b undef))
theorem AK (fn:Func) (a:Act):results fn a.tmps=(fn.results.mapM (HL a)>>= λvs=>pure (if h:vs.size=1 then vs[0]else .tuple vs)):=by
 unfold results
 congr 1
theorem M8 {w:World} {st:St} {pl:Pl} {a:Act} (hr:cH st.heap pl w) (hs:gn w st.heap pl st.cp a) {r:ResultVar} {v:SV} (h:QX P st r=some v):
  ∃u,(HL a r).run P w=.ok u w/\au w st.heap pl v u:=by
 cases r with
 |tmp t=>exact⟨_,rfl,hs t v h⟩
 |cell b T=>
  simp only[QX,An]at h;obtain⟨p,hp,cs,hcs,hv⟩:=h;obtain⟨b',o',hpu,hc⟩:=xo hr (hs b p hp) hcs;obtain⟨u,h1,h2⟩:=BK hv b' o' hc;exact⟨u,by simp[HL,hpu,asAddr,h1],h2⟩
theorem HM {w:World} {st:St} {pl:Pl} {a:Act} (hr:cH st.heap pl w) (hs:gn w st.heap pl st.cp a):∀{l:List ResultVar} {vs:List SV},QG P st l=some vs->
  ∃us,(l.mapM (HL a):Sem (List Value)).run P w=.ok us w/\vs.length=us.length/\
   ∀(j:Nat) (x:SV) (u:Value),vs[j]? =some x->us[j]? =some u->au w st.heap pl x u
 |[],vs,h=>by cases h;exact⟨[],rfl,rfl,λj x u hx _=>by simp at hx⟩
 |r::l,vs,h=>by
  simp only[QG,An,It]at h;obtain⟨v,hv,vs',hvs,rfl⟩:=h;obtain⟨us,h1,h2,h3⟩:=HM hr hs hvs;obtain⟨u,h4,h5⟩:=M8 (P:=P) hr hs hv;refine⟨u::us,?_,by simp[h2],λj x u' hx hu=>?_⟩
  ·rw[List.mapM_cons,Sem.run_bind,h4];simp only[Result.andThen_ok,Sem.run_bind,h1,Sem.run_pure]
  ·cases j with
   |zero=>simp at hx hu;subst hx hu;exact h5
   |succ j=>exact h3 j x u' (by simpa using hx) (by simpa using hu)
theorem HN {w:World} {st:St} {pl:Pl} {a:Act} (hr:cH st.heap pl w) (hs:gn w st.heap pl st.cp a) {fn:Func} {v:SV} (h:Oa P fn st=some v):
  ∃u,(results fn a.tmps).run P w=.ok u w/\au w st.heap pl v u:=by
 simp only[Oa,An]at h;obtain⟨vs,hvs,h⟩:=h;obtain⟨us,h1,h2,h3⟩:=HM (P:=P) hr hs hvs
 have hm:(fn.results.mapM (HL a):Sem (Array Value)).run P w=.ok us.toArray w:=by
  rw[Array.mapM_eq_mapM_toList,Sem.run_map,h1];rfl
 split at h
 ·rename_i v';cases h
  match us,h2,h3,hm with
  |[u],h2,h3,hm=>
   refine⟨u,?_,h3 0 _ _ rfl rfl⟩;rw[AK,Sem.run_bind,hm];simp
 ·rename_i hne;cases h
  have hsz:¬us.toArray.size=1:=λe=>by
   have:us.length=1:=by simpa using e
   match vs,h2,hne with
   |[v'],h2,hne=>exact hne v' rfl
   |[],h2,_=>simp at h2;omega
   |_::_::_,h2,_=>simp at h2;omega
  refine⟨.tuple us.toArray,?_,.tup _ _ (by simpa using h2) λj x u hx hu=>h3 j x u hx (by simpa using hu)⟩;rw[AK,Sem.run_bind,hm];simp only[Result.andThen_ok,dif_neg hsz];rfl
theorem jI {i:Nat}:∀{L:List Nat} {n k:Nat},placeOf i L n=some k->n<=k/\L[k-n]? =some i
 |j::l,n,k,h=>by
  simp only[placeOf]at h;cases hj:Nat.beq j i<;>simp only[hj,cond_true,cond_false,It]at h
  ·obtain⟨h1,h2⟩:=jI h;exact⟨by omega,by rw[show k-n=(k-(n+1))+1 from by omega];exact h2⟩
  ·subst h;exact⟨RJ _,by simp[Rp hj]⟩
theorem eK:∀{L:List Nat},nodup L=true->L.Nodup
 |[],_=>List.nodup_nil
 |k::l,h=>by
  simp only[nodup]at h;cases hk:mem k l<;>simp only[hk,cond_true,cond_false]at h
  ·refine SA.2 ⟨λhm=>?_,eK h⟩;rw[(mem_iff k l).2 hm]at hk;exact nomatch hk
  ·exact nomatch h
theorem jJ {h:aI} {L:List Nat}:∀{l:List (Bool× Ty× Option Nat)} {bs:List Blk},mM h L l=some bs->bs.length=l.length/\
  ∀(k:Nat) (b:Blk),bs[k]? =some b->∃s,l[k]? =some s/\sY h L s=some b
 |[],bs,e=>by cases e;exact⟨rfl,λk b hb=>by simp at hb⟩
 |i::l,bs,e=>by
  simp only[mM,An,It]at e;obtain⟨b,h2,l',h3,rfl⟩:=e;obtain⟨g1,g2⟩:=jJ h3;refine⟨by simp[g1],λk b' hb=>?_⟩
  cases k with
  |zero=>simp at hb;subst hb;exact⟨i,rfl,h2⟩
  |succ k=>simpa using g2 k b' (by simpa using hb)
def Pl.out (pl:Pl) (L:List Nat):Pl:=⟨λk=>pl.hdr (L.getD k 0),λk=>pl.fp (L.getD k 0),pl.base⟩
def Pl.res (pl:Pl) (S:List (Bool× Ty× Option Nat)):Pl:=
  ⟨λk=>match S[k]? with
    |some (_,_,some i)=>pl.hdr i
    |_=>.slice none 0 0,
   λk p=>match S[k]? with
    |some (_,_,some i)=>pl.fp i p
    |_=>False,pl.base⟩
theorem nc {S:List (Bool× Ty× Option Nat)} {k:Nat} {b:Bool} {t:Ty} {i:Nat} (h:S[k]? =some (b,t,some i)):i∈jg S:=by
 induction S generalizing k with
 |nil=>simp at h
 |cons x l ih=>
  obtain⟨b',t',o⟩:=x
  cases k with
  |zero=>simp at h;obtain⟨rfl,rfl,rfl⟩:=h;simp[jg]
  |succ k=>
   have:=ih (k:=k) (by simpa using h);cases o<;>simp[jg,this]
theorem DU {S:List (Bool× Ty× Option Nat)} (hn:(jg S).Nodup) {k k':Nat} {b b':Bool} {t t':Ty} {i:Nat} (h:S[k]? =some (b,t,some i)) (h':S[k']? =some (b',t',some i)):k=k':=by
 induction S generalizing k k' with
 |nil=>simp at h
 |cons x l ih=>
  obtain⟨b0,t0,o⟩:=x
  cases k with
  |zero=>
   cases k' with
   |zero=>rfl
   |succ k'=>
    simp at h;obtain⟨rfl,rfl,rfl⟩:=h;have:=nc (k:=k') (by simpa using h');simp[jg]at hn
    exact(hn.1 this).elim
  |succ k=>
   cases k' with
   |zero=>
    simp at h';obtain⟨rfl,rfl,rfl⟩:=h';have:=nc (k:=k) (by simpa using h);simp[jg]at hn
    exact(hn.1 this).elim
   |succ k'=>
    have hn':(jg l).Nodup:=by
     cases o with
     |none=>exact hn
     |some x=>simp[jg]at hn;exact hn.2
    rw[ih hn' (k:=k) (k':=k') (by simpa using h) (by simpa using h')]
section
variable {w:World} {H:aI} {pl:Pl} {S:List (Bool× Ty× Option Nat)} {bs:List Blk}
theorem qw (hL:mM H (jg S) S=some bs) {k:Nat} {B:Blk} (hB:look (aK 0 bs) k=some B):∃s,S[k]? =some s/\sY H (jg S) s=some B:=by
 rw[bn,if_pos (R9 _),Sc]at hB;exact(jJ hL).2 k B hB
theorem cq {L:List Nat} {b:Bool} {t:Ty} {i:Nat} {B:Blk} (h:sY H L (b,t,some i)=some B):∃sh xs,look H i=some (.arr sh t xs)/\
  ((sh=none/\B=.arr none t xs)\/∃d,sh=some d/\hit L d=false/\B=.arr (some []) t xs):=by
 cases b with
 |false=>
  simp only[sY]at h;split at h
  ·rename_i t' xs hl;cases ht:decide (t'=t)<;>simp only[ht,cond_true,cond_false,It]at h
   ·exact nomatch h
   ·have ht:t'=t:=by simpa using ht
    subst ht;exact⟨none,xs,hl,.inl ⟨rfl,h.symm⟩⟩
  ·exact nomatch h
 |true=>
  simp only[sY]at h;split at h
  ·rename_i d t' xs hl;cases hd:hit L d<;>simp only[hd,cond_true,cond_false]at h
   ·cases ht:decide (t'=t)<;>simp only[ht,cond_true,cond_false,It]at h
    ·exact nomatch h
    ·have ht:t'=t:=by simpa using ht
     subst ht;exact⟨some d,xs,hl,.inr ⟨d,rfl,hd,h.symm⟩⟩
   ·exact nomatch h
  ·exact nomatch h
theorem K2 (hL:mM H (jg S) S=some bs) {d:List Nat} (hd:hit (jg S) d=false) {p:Cell} (h:okd H pl d p):okd (aK 0 bs) (pl.res S) [] p:=by
 refine⟨h.1,λk B hB _ hf=>?_⟩;obtain⟨⟨b,t,o⟩,h1,h2⟩:=qw hL hB
 cases o with
 |none=>simp[Pl.res,h1]at hf
 |some i=>
  simp only[Pl.res,h1]at hf;obtain⟨sh,xs,hl,_⟩:=cq h2;refine h.2 i _ hl (λhm=>?_) hf;have hm2:=fk _ d hd i hm;rw[(mem_iff i _).2 (nc h1)]at hm2;exact nomatch hm2
theorem HO {r:RT} {v:SV} {s:List (Bool× Ty× Option Nat)} {t:Ty} {b:Bool} (hr:r=if b then .shl t else .own t) (h:r.Jd v=some s):(∃i,v=.own i/\s=[(b,t,some i)])\/(v=.cj/\s=[(b,t,none)]):=by
 cases b<;>simp at hr<;>subst hr<;>(cases v<;>simp only[RT.Jd]at h<;>first|(cases h;done)|(cases h;first|exact .inl ⟨_,rfl,rfl⟩|exact .inr ⟨rfl,rfl⟩))
theorem OV (hL:mM H (jg S) S=some bs) {k:Nat} {b:Bool} {t:Ty} {v:SV} {u:Value} (hv:au w H pl v u)
  (h:(∃i,v=.own i/\S[k]? =some (b,t,some i))\/(v=.cj/\S[k]? =some (b,t,none))):au w (aK 0 bs) (pl.res S) (.own k) u:=by
 have hlt:∀{s},S[k]? =some s->k<bs.length:=λ{s} h=>by rw[(jJ hL).1];exact(Of.1 h).1
 have hget:∀{s},S[k]? =some s->∃B,look (aK 0 bs) k=some B/\sY H (jg S) s=some B:=λ{s} h=>by
  have hk:=On (hlt h);obtain⟨s',h1,h2⟩:=(jJ hL).2 k _ hk;rw[h]at h1;cases h1;exact⟨_,by rw[bn,if_pos (R9 _),Sc];exact hk,h2⟩
 rcases h with⟨i,rfl,h⟩|⟨rfl,h⟩
 ·obtain⟨B,h1,h2⟩:=hget h;obtain⟨sh,xs,hl,h3⟩:=cq h2
  have e:(pl.res S).hdr k=pl.hdr i:=by simp only[Pl.res,h]
  cases hv with
  |own _ sh' t' ys hl'=>
   rw[<-e]
   rcases h3 with⟨_,rfl⟩|⟨d,_,_,rfl⟩
   ·exact .own k none t xs h1
   ·exact .own k (some []) t xs h1
 ·obtain⟨B,h1,h2⟩:=hget h
  have e:(pl.res S).hdr k=.slice none 0 0:=by simp only[Pl.res,h]
  cases hv with
  |cj=>
   rw[<-e]
   cases b with
   |false=>cases h2;exact .own k none t [] h1
   |true=>cases h2;exact .own k (some []) t [] h1
section
variable {H2:aI} {plR:Pl} {m:Nat} {LL:List Nat} {gh:List (Option Nat)}
mutual
theorem Cf (hr:cH H pl w) (hown:∀(k:Nat) (b:Bool) (t:Ty) (v:SV) (u:Value),au w H pl v u->((∃i,v=.own i/\S[k]? =some (b,t,some i))\/(v=.cj/\S[k]? =some (b,t,none)))->au w H2 plR (.own (m+k)) u)
  (hro:∀d p,hit LL d=false->okd H pl d p->okd H2 plR [] p) (hptr:∀i j o u,posOf i gh 0=some j->au w H pl (.ptr i 0 o) u->au w H2 plR (.ptr j 0 o) u):(r:RT)->{v v':SV}->{u:Value}->{k k':Nat}->{s:List (Bool× Ty× Option Nat)}->r.Jd v=some s->(∀(j:Nat) (x:Bool× Ty× Option Nat),s[j]? =some x->S[k+j]? =some x)->
  r.out H LL gh (m+k) v=some (v',k')->au w H pl v u->au w H2 plR v' u/\k'=m+(k+s.length)
 |.sc,v,v',u,k,k',s,hs,hS,h,hv=>by
  simp only[RT.Jd,It]at hs;subst hs
  cases hv with
  |r d x _ hx=>cases hx<;>(simp only[RT.out,It,RL]at h)<;>first|(obtain⟨rfl,rfl⟩:=h;exact⟨by first|exact nN|exact lT|exact FM,rfl⟩)|(exact nomatch h)
  |cj=>
   simp only[RT.out,It,RL]at h;obtain⟨rfl,rfl⟩:=h
   exact⟨.cj,rfl⟩
  |_=>simp[RT.out]at h
 |.own t,v,v',u,k,k',s,hs,hS,h,hv=>by
  simp only[RT.out,It,RL]at h;obtain⟨rfl,rfl⟩:=h
  rcases HO (b:=false) rfl hs with⟨i,rfl,rfl⟩|⟨rfl,rfl⟩
  ·exact⟨hown k _ t _ u hv (.inl ⟨i,rfl,hS 0 _ rfl⟩),rfl⟩
  ·exact⟨hown k _ t _ u hv (.inr ⟨rfl,hS 0 _ rfl⟩),rfl⟩
 |.shl t,v,v',u,k,k',s,hs,hS,h,hv=>by
  simp only[RT.out,It,RL]at h;obtain⟨rfl,rfl⟩:=h
  rcases HO (b:=true) rfl hs with⟨i,rfl,rfl⟩|⟨rfl,rfl⟩
  ·exact⟨hown k _ t _ u hv (.inl ⟨i,rfl,hS 0 _ rfl⟩),rfl⟩
  ·exact⟨hown k _ t _ u hv (.inr ⟨rfl,hS 0 _ rfl⟩),rfl⟩
 |.ro t,v,v',u,k,k',s,hs,hS,h,hv=>by
  simp only[RT.Jd,It]at hs;subst hs;simp only[RT.out,An]at h;obtain⟨⟨d,xs⟩,h1,h2⟩:=h;cases hd:hit LL d<;>simp only[hd,cond_true,cond_false,It,RL]at h2
  ·obtain⟨rfl,rfl⟩:=h2;exact⟨.r _ _ _ ((pg hr h1 hv).frame λp u hp hu=>⟨hro d p hd hp,hu⟩),rfl⟩
  ·exact nomatch h2
 |.agg l,v,v',u,k,k',s,hs,hS,h,hv=>by
  cases hv with
  |agg cs vs h1 h2 h3=>
   simp only[RT.out,An,It,RL]at h;obtain⟨⟨l',k2⟩,h4,rfl,rfl⟩:=h;simp only[RT.Jd]at hs;obtain⟨g1,g2,g3⟩:=nd hr hown hro hptr l hs hS h4 vs.toList (by simpa using h1) λj x u hx hu=>h3 j x u hx (by simpa using hu)
   exact⟨.agg _ _ (by simpa using g1) h2 λj x u hx hu=>g2 j x u hx (by simpa using hu),g3⟩
  |_=>simp[RT.out]at h
 |.tup l,v,v',u,k,k',s,hs,hS,h,hv=>by
  cases hv with
  |tup cs vs h1 h3=>
   simp only[RT.out,An,It,RL]at h;obtain⟨⟨l',k2⟩,h4,rfl,rfl⟩:=h;simp only[RT.Jd]at hs;obtain⟨g1,g2,g3⟩:=nd hr hown hro hptr l hs hS h4 vs.toList (by simpa using h1) λj x u hx hu=>h3 j x u hx (by simpa using hu)
   exact⟨.tup _ _ (by simpa using g1) λj x u hx hu=>g2 j x u hx (by simpa using hu),g3⟩
  |_=>simp[RT.out]at h
 |.fn as bs,v,v',u,k,k',s,hs,hS,h,hv=>by
  cases hv with
  |fn f a b us vs h1 h3 h1' h3'=>
   simp only[RT.out,An,It,RL]at h;obtain⟨⟨l',k2⟩,h4,⟨l2',k3⟩,h5,rfl,rfl⟩:=h;simp only[RT.Jd,An,It]at hs;obtain⟨s1,e1,s2,e2,rfl⟩:=hs;obtain⟨g1,g2,g3⟩:=nd hr hown hro hptr as e1 (λj x hx=>hS j x (by rw[Rt (Of.1 hx).1];exact hx)) h4 us.toList (by simpa using h1) λj x u hx hu=>h3 j x u hx (by simpa using hu);simp only at h5;subst g3
   obtain⟨q1,q2,q3⟩:=nd hr hown hro hptr bs e2 (λj x hx=>by
    have:=hS (s1.length+j) x (by rw[Rs (by omega),RY];exact hx)
    rw[Sv];exact this) h5 vs.toList (by simpa using h1') λj x u hx hu=>h3' j x u hx (by simpa using hu)
   exact⟨.fn _ _ _ _ _ (by simpa using g1) (λj x u hx hu=>g2 j x u hx (by simpa using hu)) (by simpa using q1) (λj x u hx hu=>q2 j x u hx (by simpa using hu)),by simp;omega⟩
  |_=>simp[RT.out]at h
 |.ptr,v,v',u,k,k',s,hs,hS,h,hv=>by
  cases v with
  |ptr i x o=>
   cases x with
   |zero=>
    simp only[RT.out,An,It,RL]at h;simp only[RT.Jd,It]at hs;subst hs;obtain⟨j,h1,rfl,rfl⟩:=h
    exact⟨hptr i j o u h1 hv,rfl⟩
   |succ x=>simp[RT.out]at h
  |_=>simp[RT.out]at h
theorem nd (hr:cH H pl w) (hown:∀(k:Nat) (b:Bool) (t:Ty) (v:SV) (u:Value),au w H pl v u->((∃i,v=.own i/\S[k]? =some (b,t,some i))\/(v=.cj/\S[k]? =some (b,t,none)))->au w H2 plR (.own (m+k)) u)
  (hro:∀d p,hit LL d=false->okd H pl d p->okd H2 plR [] p) (hptr:∀i j o u,posOf i gh 0=some j->au w H pl (.ptr i 0 o) u->au w H2 plR (.ptr j 0 o) u):(l:List RT)->{cs cs':List SV}->{k k':Nat}->{s:List (Bool× Ty× Option Nat)}->Ce l cs=some s->(∀(j:Nat) (x:Bool× Ty× Option Nat),s[j]? =some x->S[k+j]? =some x)->
  Mw H LL gh l (m+k) cs=some (cs',k')->(us:List Value)->cs.length=us.length->(∀(j:Nat) (x:SV) (u:Value),cs[j]? =some x->us[j]? =some u->au w H pl x u)->
  cs'.length=us.length/\(∀(j:Nat) (x:SV) (u:Value),cs'[j]? =some x->us[j]? =some u->au w H2 plR x u)/\k'=m+(k+s.length)
 |[],[],cs',k,k',s,hs,hS,h,us,hl,_=>by
  simp only[Ce,It]at hs;simp only[Mw,It,RL]at h;subst hs;obtain⟨rfl,rfl⟩:=h
  exact⟨hl,λj x u hx _=>by simp at hx,rfl⟩
 |r::l,v::cs,cs',k,k',s,hs,hS,h,u::us,hl,hp=>by
  simp only[Ce,An,It]at hs;obtain⟨s1,hs1,s2,hs2,rfl⟩:=hs;simp only[Mw,An,It,RL]at h;obtain⟨⟨v',k2⟩,h1,⟨l',k3⟩,h2,rfl,rfl⟩:=h;obtain⟨g1,g2⟩:=Cf hr hown hro hptr r hs1 (λj x hx=>hS j x (by rw[Rt (Of.1 hx).1];exact hx)) h1 (hp 0 v u rfl rfl);simp only at h2;subst g2
  obtain⟨q1,q2,q3⟩:=nd hr hown hro hptr l hs2 (λj x hx=>by
    have:=hS (s1.length+j) x (by rw[Rs (by omega),RY];exact hx)
    rw[Sv];exact this) h2 us (by simpa using hl) λj x u hx hu=>hp (j+1) x u (by simpa using hx) (by simpa using hu)
  refine⟨by simp[q1],λj x u' hx hu=>?_,by simp;omega⟩
  cases j with
  |zero=>simp at hx hu;subst hx hu;exact g1
  |succ j=>exact q2 j x u' (by simpa using hx) (by simpa using hu)
 |[],_::_,_,_,_,_,hs,_,_,_,_,_=>nomatch hs
 |_::_,[],_,_,_,_,hs,_,_,_,_,_=>nomatch hs
end
end
theorem OW (hr:cH H pl w) (hL:mM H (jg S) S=some bs) (r:RT) {v v':SV} {u:Value} {k k':Nat} {s:List (Bool× Ty× Option Nat)} (hs:r.Jd v=some s) (hS:∀(j:Nat) (x:Bool× Ty× Option Nat),s[j]? =some x->S[k+j]? =some x)
  (h:r.out H (jg S) [] k v=some (v',k')) (hv:au w H pl v u):au w (aK 0 bs) (pl.res S) v' u/\k'=k+s.length:=by
 have:=Cf (H2:=aK 0 bs) (plR:=pl.res S) (m:=0) (LL:=jg S) (gh:=[]) hr (λk b t v u hv hc=>by rw[Rz];exact OV hL hv hc) (λd p hd hp=>K2 hL hd hp) (λi j o u h=>nomatch h) r hs hS (by rw[Rz];exact h) hv;simpa using this
theorem M9 (hr:cH H pl w) (hn:nodup (jg S)=true) (hL:mM H (jg S) S=some bs):cH (aK 0 bs) (pl.res S) w:=by
  refine⟨λk B hB=>?_,λk k' B B' p h1 h2 f1 f2=>?_,λk B p hB hf=>?_,hr.nb⟩
  · obtain ⟨⟨b, t, o⟩, h1, h2⟩ := qw hL hB
    cases o with
    | none =>
      have e:(pl.res S).hdr k=.slice none 0 0:=by simp only[Pl.res,h1]
      have ef:∀p,¬(pl.res S).fp k p:=λp hp=>by simp[Pl.res,h1]at hp
      have row:∀inner,Nonempty (Row w inner t [] ((pl.res S).hdr k) ((pl.res S).fp k)):=λinner=>
        ⟨⟨none,0,0,0,λ_ _=>undef,λ_ _ _=>False,e,RJ _,.inl rfl,λj hj=>by simp at hj,λi j r h=>by have:=(aJ h).1;simp at this,λi j r h=>by have:=(aJ h).1;simp at this,
          λi j r p h=>by have:=(aJ h).1;simp at this,λi j r i' j' r' p h=>by have:=(aJ h).1;simp at this,λp=>⟨λhp=>(ef p hp).elim,λhp=>by
            rcases hp with⟨_,h,h'⟩|⟨i,j,r,h,_⟩
            · omega
            · have:=(aJ h).1;simp at this⟩⟩⟩
      cases b with
      |false=>cases h2;exact row _
      |true=>cases h2;exact row _
    | some i =>
      have e:(pl.res S).hdr k=pl.hdr i:=by simp only[Pl.res,h1]
      have ef:(pl.res S).fp k=pl.fp i:=by funext p;simp only[Pl.res,h1]
      obtain⟨sh,xs,hl,h3⟩:=cq h2;have hb:=hr.blk i _ hl
      rcases h3 with⟨rfl,rfl⟩|⟨d,rfl,hd,rfl⟩
      · show Nonempty (Row w (fj w) t xs ((pl.res S).hdr k) ((pl.res S).fp k));rw[e,ef];exact hb
      · obtain⟨⟨a,cap,b,o,vs,fs,q1,q2,q3,q4,q5,q6,q7,q8,q9⟩⟩:=hb;exact⟨⟨a,cap,b,o,vs,fs,e.trans q1,q2,q3,q4,q5,λi j r hc=>⟨(q6 i j r hc).1.frame λp u hp hu=>⟨K2 hL hd hp,hu⟩,(q6 i j r hc).2⟩,q7,q8,λp=>by rw[ef];exact q9 p⟩⟩
  · obtain⟨⟨b,t,o⟩,g1,g2⟩:=qw hL h1;obtain⟨⟨b',t',o'⟩,g1',g2'⟩:=qw hL h2
    cases o with
    |none=>simp[Pl.res,g1]at f1
    | some i =>
      cases o' with
      |none=>simp[Pl.res,g1']at f2
      | some i' =>
        simp only[Pl.res,g1]at f1;simp only[Pl.res,g1']at f2;obtain⟨_,_,hl,_⟩:=cq g2;obtain⟨_,_,hl',_⟩:=cq g2';have:=hr.dis i i' _ _ p hl hl' f1 f2;subst this;exact DU (eK hn) g1 g1'
  · obtain⟨⟨b,t,o⟩,g1,g2⟩:=qw hL hB
    cases o with
    |none=>simp[Pl.res,g1]at hf
    | some i =>
      simp only[Pl.res,g1]at hf;obtain⟨_,_,hl,_⟩:=cq g2;exact hr.ob i _ p hl hf
end
theorem Ga (args:List Arg) (n t:Nat):look (DT n args) t=if n<=t then(args[t-n]?).map Arg.sv else none:=by
 induction args generalizing n with
 |nil=>simp[DT,look]
 |cons a l ih=>
  rw[DT,aA,ih];by_cases h:n=t
  ·subst h;simp
  ·by_cases h2:n<=t
   ·rw[if_neg h,if_pos (by omega),if_pos h2,show t-n=(t-(n+1))+1 from by omega];rfl
   ·rw[if_neg h,if_neg (by omega),if_neg h2]
theorem Cg {w:World} {ok:Cell->Prop} {pl:Pl} (hb:∀p,ok p->pl.base p) {rs:List R} {vs:Array Value} (h:M7 w ok rs vs):
  (rs.map (SV.r [])).length=vs.size/\∀(j:Nat) (x:SV) (u:Value),(rs.map (SV.r []))[j]? =some x->vs[j]? =some u->au w [] pl x u:=by
 refine⟨by simpa using h.1,λj x u hx hu=>?_⟩;rw[Sa]at hx;obtain⟨r,hr,rfl⟩:=Rv.1 hx;exact .r _ _ _ ((h.2 j r u hr hu).frame λp u hp hu=>⟨⟨hb p hp,λi B hB=>by simp[look]at hB⟩,hu⟩)
theorem OX {w:World} {ok:Cell->Prop} {pl:Pl} (hb:∀p,ok p->pl.base p) {x:Arg} {u:Value} (h:sX w ok x u):au w [] pl x.sv u:=by
 cases x with
 |one r=>exact .r _ _ _ (h.frame λp u hp hu=>⟨⟨hb p hp,λi B hB=>by simp[look]at hB⟩,hu⟩)
 |agg rs=>
  obtain⟨vs,rfl,h⟩:=h;obtain⟨g1,g2⟩:=Cg (pl:=pl) hb h;refine .agg _ _ g1 (λj v hv=>?_) g2
  have hj:j<rs.length:=by rw[h.1];exact(RO.1 hv).1
  exact(h.2 j _ v (On hj) hv).rl
 |fn f a b=>
  obtain⟨us,vs,rfl,h,h'⟩:=h;obtain⟨g1,g2⟩:=Cg (pl:=pl) hb h;obtain⟨g3,g4⟩:=Cg (pl:=pl) hb h';exact .fn _ _ _ _ _ g1 g2 g3 g4
theorem Je {ρ:Type} {E:Env} (hE:mJ E) {LP:Nat->Ev ρ->Ev ρ} {g:FuncId} {fn:Func} {c:Code} {args:List Arg} {r:ρ} {dec:Out->Option ρ} {enc:ρ->Out} (hd:∀o r,dec o=some r->o=enc r) (hf:E.P.funcs[g]? =some fn) (hc:fn.body=some c)
  (hnm:(fn.name== "runtime.NumGoroutine")=false) (hn:Nat.ble args.length fn.ntmps=true) (hLP:iv E LP 0 c) {rt:RT} (h:ev E LP 0 c (st0 fn args) (fin E.P fn rt dec)=some r):py E.P g args (enc r):=by
 generalize ho:enc r=out;refine⟨DF hf (by rw[hc];rfl) hnm,λw us ok hlen hargs=>?_⟩;have hn:=RC hn;refine calls_of_wp hf hc ?_
 let pl0:Pl:=⟨λ_=>undef,λ_ _=>False,λp=>ok p\/w.at? p=none⟩
 have Qb:Rl w ⟨λ_=>False,λ_=>undef,λ_=>.box []⟩ pl0.base fn.ntmps (st0 fn args) {tmps:=us++Array.replicate (fn.ntmps-us.size) undef,defers:=[]} w:=by
  refine⟨pl0,⟨⟨λi B hB=>by simp[st0,look]at hB,λi j B B' p hB=>by simp[st0,look]at hB,λi B p hB=>by simp[st0,look]at hB,λp hp=>.inr hp⟩,λt v hv=>?_,by simp[st0];omega,rfl,λi _=>rfl,dJ.refl w,λp u hp _=>⟨λi B hB=>by simp[st0,look]at hB,hp,rfl⟩,λk i hk=>by simp[st0]at hk⟩,rfl,rfl⟩;simp only[st0]at hv;rw[Ga,if_pos (R9 _),Sc]at hv;obtain⟨x,hx,rfl⟩:=Rv.1 hv
  have ht:t<us.size:=by rw[<-hlen];exact(Of.1 hx).1
  have hg:(us++Array.replicate (fn.ntmps-us.size) undef).getD t undef=us[t]:=by
   rw[RI,Ss ht,RB ht];rfl
  rw[hg];exact OX (λp hp=>Or.inl hp) (hargs t x _ hx (RB ht))
 refine jt hE c 0 hLP w ⟨λ_=>False,λ_=>undef,λ_=>.box []⟩ pl0.base fn.ntmps _ _ w _ r _ Qb h λe st' a' w' hK hr'=>?_;obtain⟨pl,hr,hb,_⟩:=hr'
 have key:∀v,Oa E.P fn st'=some v->canon rt st'.heap v=some out->a'.defers=[]/\∃u,(results fn a'.tmps).run E.P w'=.ok u w'/\∃u' pl',Ending.returned u=.returned u'/\cH (aK 0 out.2) pl' w'/\
   au w' (aK 0 out.2) pl' out.1 u'/\pl'.base=(λp=>ok p\/w.at? p=none)/\
   (∀p x,w.at? p=some x->w'.at? p=some x/\w'.ez p=w.ez p)/\(∀i B p,look (aK 0 out.2) i=some B->pl'.fp i p->w.at? p=none)/\dJ w w':=λv hv hcn=>by
  obtain⟨u,hu,hvr⟩:=HN (P:=E.P) hr.hr hr.sl hv;simp only[canon,An]at hcn;obtain⟨S,hS,hcn⟩:=hcn;cases hnd:nodup (jg S)<;>simp only[hnd,cond_true,cond_false,An,It]at hcn
  ·exact nomatch hcn
  ·obtain⟨bs,hbs,⟨v',k'⟩,hv',rfl⟩:=hcn;refine⟨hr.df,u,hu,u,pl.res S,rfl,M9 hr.hr hnd hbs,(OW hr.hr hbs rt hS (λj x hx=>by rw[Rz];exact hx) hv' hvr).1,hb,λp x hp=>?_,λi B p hB hf=>?_,hr.gr⟩
   ·obtain⟨_,g2,g3⟩:=hr.fr p x hp (λh=>h);exact⟨g2,g3⟩
   ·obtain⟨⟨b,t,o⟩,g1,g2⟩:=qw hbs hB
    cases o with
    |none=>simp[Pl.res,g1]at hf
    |some i'=>
     simp only[Pl.res,g1]at hf;obtain⟨_,_,hl,_⟩:=cq g2
     cases hq:w.at? p with
     |none=>rfl
     |some x=>exact((hr.fr p x hq (λh=>h)).1 i' _ hl hf).elim
 cases e with
 |exit j=>exact nomatch hK
 |normal=>
  simp only[fin,An]at hK;obtain⟨v,hv,o,hcn,hdec⟩:=hK
  exact key v hv (hcn.trans (congrArg some ((hd o r hdec).trans ho)))
 |ret=>
  simp only[fin,An]at hK;obtain⟨v,hv,o,hcn,hdec⟩:=hK;exact key v hv (hcn.trans (congrArg some ((hd o r hdec).trans ho)))
end
end
section
variable [Tok]
section
variable {w:World} {H:aI} {pl:Pl} {P:Program}
end
inductive Sh where
 |one (t:Ty)
 |agg (ts:List Ty)
 |fn
def toArg (h:aI):Sh->SV->Option (List Nat× Arg)
 |.one t,v=>(v.asR h t).bind λp=>some (p.1,.one p.2)
 |.agg ts,.agg cs=>(J0 h ts cs).bind λp=>some (p.1,.agg p.2)
 |.fn,.fn f [] []=>some ([],.fn f [] [])
 |_,_=>none
def AL (h:aI):List Sh->List SV->Option (List Nat× List Arg)
 |[],[]=>some ([],[])
 |s::ss,v::vs=>(toArg h s v).bind λp=>(AL h ss vs).bind λq=>some (p.1++q.1,p.2::q.2)
 |_,_=>none
mutual
def SV.shift (n:Nat) (d:List Nat):SV->SV
 |.own i=>.own (n+i)
 |.r [] x=>mkR d x
 |.cj=>.cj
 |.agg cs=>.agg (sZ n d cs)
 |.tup cs=>.tup (sZ n d cs)
 |_=>.undef
def sZ (n:Nat) (d:List Nat):List SV->List SV
 |[]=>[]
 |v::l=>v.shift n d::sZ n d l
end
def Blk.shift (d:List Nat):Blk->Blk
 |.arr none t xs=>.arr none t xs
 |.arr (some _) t xs=>.arr (some d) t xs
 |.box cs=>.box cs
def lX (d:List Nat):List Blk->List Blk
 |[]=>[]
 |b::l=>b.shift d::lX d l
def Jf:List Blk->Bool
 |[]=>true
 |.arr none _ _::l=>Jf l
 |.arr (some []) _ _::l=>Jf l
 |_::_=>false
abbrev PG:=(ρ:Type)->List Arg->(Out->Option ρ)->Option ρ
def Gb (ss:List Sh) (G:PG):Orc:=λρ nid vs h K=>
 (AL h ss vs).bind λp=>G ρ p.2 λo=>cond (Jf o.2) (K {v:=o.1.shift nid p.1,news:=lX p.1 o.2}) none
def HP (P:Program) (g:FuncId) (G:PG):Prop:=
 ∀(ρ:Type) args (K:Out->Option ρ) (out:ρ),G ρ args K=some out->∃o,K o=some out/\py P g args o
section
variable {w:World} {H:aI} {pl:Pl} {P:Program}
theorem K3 (hr:cH H pl w) {s:Sh} {v:SV} {u:Value} {d:List Nat} {x:Arg} (h:toArg H s v=some (d,x)) (hv:au w H pl v u):sX w (okd H pl d) x u:=by
 unfold toArg at h;split at h
 ·simp only[An,It,RL]at h;obtain⟨⟨d',r⟩,h1,rfl,rfl⟩:=h;exact uu hr h1 hv
 ·simp only[An,It,RL]at h;obtain⟨⟨d',rs⟩,h1,rfl,rfl⟩:=h
  cases hv with
  |agg cs vs hl h2 h3=>
   obtain⟨g1,g2⟩:=Hy hr h1 (us:=vs.toList) (by simpa using hl) λj x u hx hu=>h3 j x u hx (by simpa using hu);exact⟨vs,rfl,by simpa using g1,λj r u hr hu=>g2 j r u hr (by simpa using hu)⟩
 ·cases h
  cases hv with
  |fn f as bs us vs hl h1 hl' h2=>
   exact⟨us,vs,rfl,⟨hl,λj r u hr _=>by simp at hr⟩,⟨hl',λj r u hr _=>by simp at hr⟩⟩
 ·exact nomatch h
theorem sX.mono {ok ok':Cell->Prop} (hk:∀p,ok p->ok' p) {x:Arg} {u:Value} (h:sX w ok x u):sX w ok' x u:=by
 cases x with
 |one r=>exact ja.frame h λp u hp hu=>⟨hk p hp,hu⟩
 |agg rs=>obtain⟨vs,e,h1,h2⟩:=h;exact⟨vs,e,h1,λj r u hr hu=>(h2 j r u hr hu).frame λp u hp hu=>⟨hk p hp,hu⟩⟩
 |fn f a b=>
  obtain⟨us,vs,e,⟨h1,h2⟩,h3,h4⟩:=h;exact⟨us,vs,e,⟨h1,λj r u hr hu=>(h2 j r u hr hu).frame λp u hp hu=>⟨hk p hp,hu⟩⟩,h3,λj r u hr hu=>(h4 j r u hr hu).frame λp u hp hu=>⟨hk p hp,hu⟩⟩
theorem AM (hr:cH H pl w):∀{ss:List Sh} {vs:List SV} {us:List Value} {d:List Nat} {xs:List Arg},AL H ss vs=some (d,xs)->vs.length=us.length->
  (∀(j:Nat) (x:SV) (u:Value),vs[j]? =some x->us[j]? =some u->au w H pl x u)->
  xs.length=us.length/\∀(j:Nat) (x:Arg) (u:Value),xs[j]? =some x->us[j]? =some u->sX w (okd H pl d) x u
 |[],[],us,d,xs,h,hl,_=>by cases h;exact⟨hl,λj r u hr _=>by simp at hr⟩
 |s::ss,v::vs,u::us,d,xs,h,hl,hp=>by
  simp only[AL,An,It,RL]at h;obtain⟨⟨d1,x1⟩,h1,⟨d2,xs2⟩,h2,rfl,rfl⟩:=h;obtain⟨g1,g2⟩:=AM hr h2 (by simpa using hl) λj x u hx hu=>hp (j+1) x u (by simpa using hx) (by simpa using hu);refine⟨by simp[g1],λj r u' hj hu=>?_⟩
  cases j with
  |zero=>simp at hj hu;subst hj hu;exact(K3 hr h1 (hp 0 v u rfl rfl)).mono λp hp=>im (λi hi=>by rw[mem_append,hi];rfl) hp
  |succ j=>exact(g2 j r u' (by simpa using hj) (by simpa using hu)).mono λp hp=>im (λi hi=>by rw[mem_append,hi,S5]) hp
 |[],_::_,_,_,_,h,_,_=>nomatch h
 |_::_,[],_,_,_,h,_,_=>nomatch h
theorem xI (d:List Nat) (bs:List Blk) (n i:Nat):look (aK n (lX d bs)) i=(look (aK n bs) i).map (Blk.shift d):=by
 induction bs generalizing n with
 |nil=>rfl
 |cons b l ih=>
  rw[lX,aK,aK,aA,aA,ih];by_cases h:n=i<;>simp[h]
theorem uK:∀{bs:List Blk},Jf bs=true->∀(k:Nat) (b:Blk),bs[k]? =some b->∃t xs,b=.arr none t xs\/b=.arr (some []) t xs
 |.arr none t xs::l,h,k,b,hb=>by
  cases k with
  |zero=>simp at hb;exact⟨t,xs,.inl hb.symm⟩
  |succ k=>exact uK (bs:=l) h k b (by simpa using hb)
 |.arr (some []) t xs::l,h,k,b,hb=>by
  cases k with
  |zero=>simp at hb;exact⟨t,xs,.inr hb.symm⟩
  |succ k=>exact uK (bs:=l) h k b (by simpa using hb)
def Pl.join (pl po:Pl) (n m:Nat):Pl:=⟨λi=>if i<n\/n+m<=i then pl.hdr i else po.hdr (i-n),λi=>if i<n\/n+m<=i then pl.fp i else po.fp (i-n),pl.base⟩
section
variable {w w':World} {H:aI} {pl po:Pl} {n:Nat} {bs:List Blk} {d:List Nat}
theorem OY {i:Nat} {B:Blk} {bs:List Blk} (h:look (aK 0 bs) i=some B):i<bs.length:=by
 rw[bn,if_pos (R9 _),Sc]at h;exact(Of.1 h).1
theorem nX (d:List Nat):(bs:List Blk)->(lX d bs).length=bs.length
 |[]=>rfl
 |_::l=>by simp[lX,nX d l]
theorem ju {d:List Nat} {bs:List Blk} {n i:Nat} (hi:i<n\/n+bs.length<=i):look (aK n (lX d bs)) i=none:=by
 rw[bn];by_cases h:n<=i
 ·rw[if_pos h,RR];rw[nX];omega
 ·rw[if_neg h]
theorem uL {H:aI} {n m i:Nat} (hn:∀k,k<m->look H (n+k)=none) (hi:¬(i<n\/n+m<=i)):look H i=none:=by
 have:=hn (i-n) (by omega);rwa [show n+(i-n)=i from by omega]at this
theorem Na {h h':aI} (hh:Ext h h') (s:Sh) (v:SV):Le (toArg h s v) (toArg h' s v):=by
 intro p hp;unfold toArg at hp;split at hp<;>simp only[toArg]
 ·exact((Du hh _ _).bind λ_=>Le.refl _) p hp
 ·exact((FI hh _ _).bind λ_=>Le.refl _) p hp
 ·exact hp
 ·exact nomatch hp
theorem DV {h h':aI} (hh:Ext h h'):(ss:List Sh)->(vs:List SV)->Le (AL h ss vs) (AL h' ss vs)
 |[],[]=>Le.refl _
 |s::ss,v::vs=>(Na hh s v).bind λ_=>(DV hh ss vs).bind λ_=>Le.refl _
 |[],_::_=>Le.refl _
 |_::_,[]=>Le.refl _
theorem HQ (hr:cH H pl w) (hn:∀k,k<bs.length->look H (n+k)=none) (hown:∀i B p,look H i=some B->pl.fp i p->∃u,w.at? p=some u)
  (hb:po.base=λp=>okd H pl d p\/w.at? p=none) {p:Cell} (h:okd (aK 0 bs) po [] p):okd (H++aK n (lX d bs)) (pl.join po n bs.length) d p:=by
 have uB:okd H pl d p\/w.at? p=none:=by have:=h.1;rw[hb]at this;exact this
 refine⟨uB.elim (λh=>h.1) (hr.nb p),λi B hB hm hf=>?_⟩;by_cases hi:i<n\/n+bs.length<=i
 ·simp only[Pl.join,if_pos hi]at hf
  have hB':look H i=some B:=by
   rw[aE,ju hi]at hB;simpa using hB
  rcases uB with h'|h'
  ·exact h'.2 i B hB' hm hf
  ·obtain⟨u,hu⟩:=hown i B p hB' hf;rw[h']at hu;exact nomatch hu
 ·simp only[Pl.join,if_neg hi]at hf;rw[aE,uL hn hi,xI,bn,if_pos (by omega)]at hB;simp only[Option.none_or,Rv]at hB;obtain⟨b0,hb0,rfl⟩:=hB;exact h.2 (i-n) b0 (by rw[bn,if_pos (R9 _),Sc];exact hb0) (λhm=>by simp[mem]at hm) hf
theorem DW (hn:∀k,k<bs.length->look H (n+k)=none) (k:Nat) (hk:k<bs.length):look (H++aK n (lX d bs)) (n+k)=(look (aK 0 bs) k).map (Blk.shift d):=by
 rw[aE,hn _ hk,xI,bn,bn,if_pos (by omega),if_pos (R9 _),RY,Sc];rfl
mutual
theorem DX (hr:cH H pl w) (hn:∀k,k<bs.length->look H (n+k)=none) (hown:∀i B p,look H i=some B->pl.fp i p->∃u,w.at? p=some u)
  (hb:po.base=λp=>okd H pl d p\/w.at? p=none):(v:SV)->{u:Value}->au w' (aK 0 bs) po v u->au w' (H++aK n (lX d bs)) (pl.join po n bs.length) (v.shift n d) u
 |.own i,u,h=>by
  cases h with
  |own _ sh t xs hl=>
   have hib:i<bs.length:=OY hl;have hk:=DW (d:=d) (bs:=bs) hn i hib;rw[hl]at hk
   have hh:(pl.join po n bs.length).hdr (n+i)=po.hdr i:=by
    show(if n+i<n\/n+bs.length<=n+i then _ else po.hdr (n+i-n))=po.hdr i;rw[if_neg (by omega),RY]
   rw[<-hh]
   cases sh with
   |none=>exact .own (n+i) none t xs hk
   |some d0=>exact .own (n+i) (some d) t xs hk
 |.r [] x,u,h=>by
  cases h with
  |r _ _ _ hx=>exact xm (hx.frame λp u hp hu=>⟨HQ hr hn hown hb hp,hu⟩)
 |.r (_::_) x,u,h=>.undef _
 |.cj,u,h=>by cases h;exact .cj
 |.agg cs,u,h=>by
  cases h with
  |agg _ vs h1 h2 h3=>
   obtain⟨g1,g2⟩:=uM hr hn hown hb cs vs.toList (by simpa using h1) λj x u hx hu=>h3 j x u hx (by simpa using hu)
   exact .agg _ _ (by simpa using g1) h2 λj x u hx hu=>g2 j x u hx (by simpa using hu)
 |.tup cs,u,h=>by
  cases h with
  |tup _ vs h1 h3=>
   obtain⟨g1,g2⟩:=uM hr hn hown hb cs vs.toList (by simpa using h1) λj x u hx hu=>h3 j x u hx (by simpa using hu)
   exact .tup _ _ (by simpa using g1) λj x u hx hu=>g2 j x u hx (by simpa using hu)
 |.o6,_,_=>.undef _
 |.sub _ _ _,_,_=>.undef _
 |.bsl _ _,_,_=>.undef _
 |.ptr _ _ _,_,_=>.undef _
 |.inn _ _ _,_,_=>.undef _
 |.ki _ _,_,_=>.undef _
 |.fn _ _ _,_,_=>.undef _
 |.undef,_,_=>.undef _
theorem uM (hr:cH H pl w) (hn:∀k,k<bs.length->look H (n+k)=none) (hown:∀i B p,look H i=some B->pl.fp i p->∃u,w.at? p=some u)
  (hb:po.base=λp=>okd H pl d p\/w.at? p=none):(cs:List SV)->(us:List Value)->cs.length=us.length->
  (∀(j:Nat) (x:SV) (u:Value),cs[j]? =some x->us[j]? =some u->au w' (aK 0 bs) po x u)->
  (sZ n d cs).length=us.length/\∀(j:Nat) (x:SV) (u:Value),(sZ n d cs)[j]? =some x->us[j]? =some u->au w' (H++aK n (lX d bs)) (pl.join po n bs.length) x u
 |[],us,hl,_=>⟨hl,λj x u hx _=>by simp[sZ]at hx⟩
 |v::cs,u::us,hl,hp=>by
  obtain⟨g1,g2⟩:=uM hr hn hown hb cs us (by simpa using hl) λj x u hx hu=>hp (j+1) x u (by simpa using hx) (by simpa using hu);refine⟨by simp[sZ,g1],λj x u' hx hu=>?_⟩
  cases j with
  |zero=>simp[sZ]at hx hu;subst hx hu;exact DX hr hn hown hb v (hp 0 v u rfl rfl)
  |succ j=>exact g2 j x u' (by simpa[sZ]using hx) (by simpa using hu)
end
theorem K4 (hgr:dJ w w') (hr:cH H pl w) (hn:∀k,k<bs.length->look H (n+k)=none) (hg:Jf bs=true) (hro:cH (aK 0 bs) po w') (hb:po.base=λp=>okd H pl d p\/w.at? p=none)
  (hold:∀p x,w.at? p=some x->w'.at? p=some x/\w'.ez p=w.ez p) (Fm:∀i B p,look (aK 0 bs) i=some B->po.fp i p->w.at? p=none):
  cQ H (H++aK n (lX d bs)) ([],[]) pl (pl.join po n bs.length) w w':=by
 have hown:=hr.gv
 have hcase:∀i B,look (H++aK n (lX d bs)) i=some B->((i<n\/n+bs.length<=i)/\look H i=some B)\/(¬(i<n\/n+bs.length<=i)/\∃b0,look (aK 0 bs) (i-n)=some b0/\B=b0.shift d):=λi B hB=>by
  by_cases hi:i<n\/n+bs.length<=i
  ·rw[aE,ju hi]at hB;exact .inl ⟨hi,by simpa using hB⟩
  ·rw[show i=n+(i-n)from by omega,DW hn _ (by omega)]at hB;obtain⟨b0,h1,h2⟩:=Rv.1 hB;exact .inr ⟨hi,b0,h1,h2.symm⟩
 have hlt:∀i B,look H i=some B->(i<n\/n+bs.length<=i):=λi B hB=>by
  by_cases hi:i<n\/n+bs.length<=i
  ·exact hi
  ·rw[uL hn hi]at hB;exact nomatch hB
 have hkeep:lh ([],[]) w H pl w' (H++aK n (lX d bs)) (pl.join po n bs.length):=by
  refine⟨λi B hB _=>⟨B,by rw[aE,hB];rfl,B.dh,by simp only[Pl.join,if_pos (hlt i B hB)]⟩,λd' p u _ hok hu=>⟨⟨hok.1,λi B hB hm hf=>?_⟩,(hold p u hu).1⟩⟩
  rcases hcase i B hB with⟨hi,hB'⟩|⟨hi,b0,h1,_⟩
  ·simp only[Pl.join,if_pos hi]at hf;exact hok.2 i B hB' hm hf
  ·simp only[Pl.join,if_neg hi]at hf;rw[Fm _ b0 p h1 hf]at hu;exact nomatch hu
 refine⟨⟨λi B hB=>?_,λi j B B' p h1 h2 f1 f2=>?_,λi B p hB hf=>?_,λp hp=>hr.nb p ?_⟩,hkeep,rfl,hgr,λp u hp hno=>⟨λi B hB hf=>?_,hold p u hp⟩⟩
 ·rcases hcase i B hB with⟨hi,hB'⟩|⟨hi,b0,h1,rfl⟩
  ·exact(hr.blk i B hB').bz hkeep (by simp only[Pl.join,if_pos hi]) (λp=>by simp only[Pl.join,if_pos hi]) (λp u _ hu=>hold p u hu) B.di
  ·have hbl:=hro.blk _ b0 h1
   have hget:bs[i-n]? =some b0:=by rw[bn,if_pos (R9 _),Sc]at h1;exact h1
   have e1:(pl.join po n bs.length).hdr i=po.hdr (i-n):=by simp only[Pl.join,if_neg hi]
   have e2:(pl.join po n bs.length).fp i=po.fp (i-n):=by simp only[Pl.join,if_neg hi]
   obtain⟨t,xs,rfl|rfl⟩:=uK hg _ _ hget
   ·show Nonempty (Row w' (fj w') t xs ((pl.join po n bs.length).hdr i) ((pl.join po n bs.length).fp i));rw[e1,e2];exact hbl
   ·obtain⟨⟨a,cap,b,o,vs,fs,q1,q2,q3,q4,q5,q6,q7,q8,q9⟩⟩:=hbl;refine⟨⟨a,cap,b,o,vs,fs,by rw[e1];exact q1,q2,q3,q4,q5,λi j r hc=>⟨(q6 i j r hc).1.frame λp u hp hu=>⟨HQ hr hn hown hb hp,hu⟩,(q6 i j r hc).2⟩,q7,q8,λp=>by rw[e2];exact q9 p⟩⟩
 ·rcases hcase i B h1 with⟨hi,q1⟩|⟨hi,b0,q1,_⟩<;>rcases hcase j B' h2 with⟨hj,q2⟩|⟨hj,b1,q2,_⟩
  ·simp only[Pl.join,if_pos hi]at f1;simp only[Pl.join,if_pos hj]at f2;exact hr.dis i j _ _ p q1 q2 f1 f2
  ·simp only[Pl.join,if_pos hi]at f1;simp only[Pl.join,if_neg hj]at f2;obtain⟨u,hu⟩:=hown i _ p q1 f1;rw[Fm _ _ p q2 f2]at hu;exact nomatch hu
  ·simp only[Pl.join,if_neg hi]at f1;simp only[Pl.join,if_pos hj]at f2;obtain⟨u,hu⟩:=hown j _ p q2 f2;rw[Fm _ _ p q1 f1]at hu;exact nomatch hu
  ·simp only[Pl.join,if_neg hi]at f1;simp only[Pl.join,if_neg hj]at f2;have:=hro.dis _ _ _ _ p q1 q2 f1 f2;omega
 ·rcases hcase i B hB with⟨hi,q1⟩|⟨hi,b0,q1,_⟩
  ·simp only[Pl.join,if_pos hi]at hf;exact hr.ob i B p q1 hf
  ·simp only[Pl.join,if_neg hi]at hf;exact hr.nb p (Fm _ _ p q1 hf)
 ·cases hq:w.at? p with
  |none=>rfl
  |some u=>rw[(hold p u hq).1]at hp;exact nomatch hp
 ·rcases hcase i B hB with⟨hi,q1⟩|⟨hi,b0,q1,_⟩
  ·simp only[Pl.join,if_pos hi]at hf;exact hno i B q1 hf
  ·simp only[Pl.join,if_neg hi]at hf;rw[Fm _ _ p q1 hf]at hp;exact nomatch hp
end
theorem Jg {g:FuncId} {ss:List Sh} {G:PG} (h:HP P g G):rm P g (Gb ss G):=by
 intro ρ nid vs H K out hK;simp only[Gb,An]at hK;obtain⟨⟨d,args⟩,hargs,hG⟩:=hK;obtain⟨o,ho,hen,hcalls⟩:=h ρ args _ out hG;cases hg:Jf o.2<;>simp only[hg,cond_true,cond_false]at ho
 ·exact nomatch ho
 ·refine⟨_,ho,hen,λi B hB=>by simp[look]at hB,λH1 pl w us he hr hn hl hp H' ha=>?_⟩;have hn:∀k,k<o.2.length->look H1 (nid+k)=none:=λk hk=>hn k (by rw[nX];exact hk);obtain⟨g1,g2⟩:=AM (us:=us.toList) hr (DV he _ _ _ hargs) (by simpa using hl) λj x u hx hu=>hp j x u hx (by simpa using hu);refine(hcalls w us (okd H1 pl d) (by simpa using g1) λj x u hx hu=>g2 j x u hx (by simpa using hu)).mono λe w' ⟨u,po,he,h1,h2,h3,h4,h5,h6⟩=>?_;cases ha;have hst:=K4 (d:=d) h6 hr hn hg h1 h3 h4 h5;exact⟨u,_,he,hst,DX hr hn hr.gv h3 o.1 h2⟩
end
end
end Go.Proofs.Ev
