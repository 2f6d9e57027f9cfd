/- The evaluator over the model's code, and that it is sound: part 5. -/
import Derived.Test.YtjcmkefhdkccbaaEvK4
import Derived.Tactics
import Derived.LoopN
import Derived.Scope
set_option linter.unusedVariables false
set_option linter.unusedSimpArgs false
set_option linter.unusedVariables false
namespace Go.Proofs.Ev
variable [Tok]
set_option linter.unusedSectionVars false
theorem Rs {r:DR} {X X':SH} (h:r.app X=some X') (hup:∀i B,look r.c.upd i=some B→∃B',look X.2 i=some B'):∃H',after X.2 r.n0 r.c=some H':=by
  unfold DR.app at h
  unfold after
  rw[Nb hup]
  simp only[Option.bind_eq_some_iff,Option.some.injEq]at h
  obtain⟨h1,e1,_⟩:=h
  exact⟨_,by rw[e1];rfl⟩
theorem V7 {r:DR} {X X':SH} {H':GV} (hx:r.app X=some X') (hup:∀i B,look r.c.upd i=some B→∃B',look X.2 i=some B') (ha:after X.2 r.n0 r.c=some H'):X'.2=H':=by
  unfold DR.app at hx
  unfold after at ha
  rw[Nb hup]at ha
  simp only[Option.bind_eq_some_iff,Option.some.injEq]at hx ha
  obtain⟨h1,e1,rfl⟩:=hx
  obtain⟨h2,e2,rfl⟩:=ha
  rw[e1]at e2;cases e2
  rfl
theorem Zq {E:Env} {op:Op} {c:CR} (h:okW E op c=true):JQ E op=false→c.kil.2=[]∧c.upd=[]:=by
  intro hw
  unfold okW at h
  rw[hw]at h
  simp only[cond_false,Bool.and_eq_true]at h
  exact⟨HQ h.1,HQ h.2⟩
def unl (l:Array Bool):Nat:=l.toList.countP (fun b=>!b)
theorem countP_set {l:List Bool}:∀{i:Nat},l[i]? =some false→(l.set i true).countP (fun b=>!b)+1=l.countP (fun b=>!b):=by
  induction l with
  |nil=>intro i h;simp at h
  | cons b l ih =>
    intro i h
    cases i with
    |zero=>simp at h;subst h;simp
    |succ i=>have:=ih (i:=i) (by simpa using h);simp only[List.set_cons_succ,List.countP_cons];omega
theorem Yw {l:Array Bool} {i:Nat} (h:l.getD i true=false):unl (l.setIfInBounds i true)+1=unl l:=by
  unfold unl
  rw[Array.toList_setIfInBounds]
  refine countP_set ?_
  rw[Array.getD_eq_getD_getElem?]at h
  cases hq:l[i]? with
  |none=>rw[hq]at h;exact nomatch h
  |some b=>rw[hq]at h;simp at h;subst h;rw[Array.getElem?_toList,hq]
theorem Xr {l:Array Bool} (h:unl l=0) (i:Nat):l.getD i true=true:=by
  unfold unl at h
  rw[Array.getD_eq_getD_getElem?]
  cases hq:l[i]? with
  |none=>rfl
  | some b =>
    cases b
    · have hm:false∈l.toList:=by
        rw[←Array.getElem?_toList]at hq
        exact List.mem_of_getElem? hq
      have:=List.countP_eq_zero.1 h false hm
      simp at this
    · rfl
theorem Py {l:Array Bool} {i:Nat} (hi:i<l.size):l.getD i true=l.getD i false:=by
  simp[Array.getD_eq_getD_getElem?,hi]
section
variable {E:Env} {opsA:Array Oper} {masks:List Nat} {s0:List (Nat× SV)} {h0:GV} {nid0 nidE n:Nat} {gh:List (Option Nat)} {rs:List DR} {XF:SH} {w0:World} {fp0:G0} {bs:Cell→Prop} {Q:Exit→Act→World→Prop}
def lp (l:Array Bool):Nat→Bool:=fun j=>l.getD j false
def X2 (ops:Array Oper) (listed:Array Bool):Prop:=∀(j:Nat) (o:Oper),ops.toList[j]? =some o→lp listed j=true→∀e∈o.after.toList,Region.binds .any e=true→lp listed e.on=true
theorem UN (hm:SM opsA.toList masks) {listed:Array Bool} (hs:listed.size=opsA.size) (hr:Region.ready .any opsA listed=[]):∀j,j<opsA.size→lp listed j=true:=by
  intro j
  induction j using Nat.strongRecOn with
  | _ j ih =>
    intro hj
    cases hl:lp listed j with
    |true=>rfl
    | false =>
      have:j∈Region.ready .any opsA listed:=mem_ready.2 ⟨by rw[Py (by omega)];exact hl,opsA[j],by simp[hj],fun e he hb=>by
        have hlt:=hm.back j opsA[j] (by rw[Array.getElem?_toList];simp[hj]) e (by simpa using he) hb
        exact ih e.on hlt (by omega)⟩
      rw[hr]at this;exact nomatch this
theorem Xt (hm:SM opsA.toList masks) (F:Rq E opsA.toList masks (I0 opsA.toList) s0 h0 nid0 rs opsA.size nidE) (hp:O7 (OP h0 rs) masks 0 rs=true) (hla:O8 (OP h0 rs) rs=true)
    (hnd:KU (I0 opsA.toList)=true) (hlt:Um n (I0 opsA.toList)=true) (hfin:replay (fun _=>true) 0 rs (s0,h0)=some XF) (hfr:∀i,nid0≤i→look h0 i=none) (hgh:∀(k i:Nat),gh[k]? =some (some i)→i<nid0)
    (hQ:∀a w,Rl w0 fp0 bs n ⟨XF.1,XF.2,nidE,n,gh⟩ a w→Q .normal a w):
    ∀ (f : Nat) (listed : Array Bool) (a : Act) (w : World) (X : SH), listed.size = opsA.size → unl listed ≤ f → X2 opsA listed → replay (lp listed) 0 rs (s0, h0) = some X →
      (∀k B0,look h0 k=some B0→(∀r∈rs,mem k r.c.kil.1=false)→∃B,look X.2 k=some B∧B0.JP B)→
      Rl w0 fp0 bs n ⟨X.1,X.2,nidE,n,gh⟩ a w→wpAny E.P .any opsA Q f listed a w:=by
  have done:∀(listed:Array Bool) (a:Act) (w:World) (X:SH),listed.size=opsA.size→replay (lp listed) 0 rs (s0,h0)=some X→Rl w0 fp0 bs n ⟨X.1,X.2,nidE,n,gh⟩ a w→
      Region.ready .any opsA listed=[]→Q .normal a w:=fun listed a w X hs hX hR hr=>by
    have hall:=UN hm hs hr
    rw[Jk (q:=fun _=>true) rs 0 _ fun j hj=>by rw[F.len]at hj;rw[Nat.zero_add];exact hall j hj,hfin]at hX
    cases hX
    exact hQ a w hR
  intro f
  induction f with
  | zero =>
    intro listed a w X hs hu hc hX hLK hR
    have hr:Region.ready .any opsA listed=[]:=by
      cases hq:Region.ready .any opsA listed with
      |nil=>rfl
      | cons i l =>
        have hi:i∈Region.ready .any opsA listed:=by rw[hq];simp
        have:=(mem_ready.1 hi).1
        rw[Xr (by omega) i]at this;exact nomatch this
    exact⟨hr,done listed a w X hs hX hR hr⟩
  | succ f ih =>
    intro listed a w X hs hu hc hX hLK hR
    refine⟨done listed a w X hs hX hR,fun i hi=>?_⟩
    obtain⟨hun,o,ho,hedge⟩:=mem_ready.1 hi
    have hil:i<opsA.size:=(Array.getElem?_eq_some_iff.1 ho).1
    have ho':opsA.toList[i]? =some o:=by rwa [Array.getElem?_toList]
    have hpi:lp listed i=false:=by unfold lp;rw[←Py (by omega)];exact hun
    obtain⟨r,hr⟩:∃r,rs[i]? =some r:=⟨_,List.getElem?_eq_getElem (by rw[F.len];exact hil)⟩
    obtain⟨hdst,hok,x,t,hx,hw,hgen⟩:=F.ZV i o r ho' hr
    have hanc:∀j,(masks.getD i 0).testBit j=true→lp listed j=true:=hm.closed hc i i o (Nat.le_refl _) ho' fun e he hb=>hedge e (by simpa using he) hb
    have hopr:∀(j:Nat) (b:DR),rs[j]? =some b→∃oj,opsA.toList[j]? =some oj∧b.dst=oj.dst∧okW E oj.op b.c=true:=fun j b hb=>by
      have hj:j<opsA.toList.length:=by have:=(List.getElem?_eq_some_iff.1 hb).1;rw[F.len]at this;simpa using this
      obtain⟨g1,g2,_⟩:=F.ZV j _ b (List.getElem?_eq_getElem hj) hb
      exact⟨_,List.getElem?_eq_getElem hj,g1,g2⟩
    have hback:∀(j:Nat),lp listed j=true→(masks.getD j 0).testBit i=false:=fun j hj=>by
      cases hq:(masks.getD j 0).testBit i with
      |false=>rfl
      | true =>
        cases hoj:opsA.toList[j]? with
        | none =>
          have:lp listed j=false:=by
            unfold lp
            rw[Array.getD_eq_getD_getElem?,Array.getElem?_eq_none];rfl
            rw[hs];have:=List.getElem?_eq_none_iff.1 hoj;simpa using this
          rw[this]at hj;exact nomatch hj
        | some oj =>
          have:=hm.closed hc j j oj (Nat.le_refl _) hoj (fun e he hb=>hc j oj hoj hj e he hb) i hq
          rw[hpi]at this;exact nomatch this
    have hcomm1:∀(j:Nat) (b:DR),j<i→rs[j]? =some b→(masks.getD i 0).testBit j=false→LR (OP h0 rs) b r=true:=fun j b hj hb hnot=>by
      have:=Me hp j i b r hj hb hr
      simp only[Nat.zero_add]at this
      exact this.resolve_left (by rw[hnot];simp)
    have hcomm2:∀(j:Nat) (b:DR),i<j→rs[j]? =some b→lp listed j=true→LR (OP h0 rs) r b=true:=fun j b hj hb hl=>by
      have:=Me hp i j r b hj hr hb
      simp only[Nat.zero_add]at this
      exact this.resolve_left (by rw[hback j hl];simp)
    have hmine:∀(j j':Nat) (b b':DR) k,j≠j'→rs[j]? =some b→rs[j']? =some b'→b.Ma k→¬b'.Ma k:=fun j j' b b' k hne h1 h2 m1 m2=>by
      rcases Nat.lt_or_gt_of_ne hne with h|h
      · have:=F.ord j j' b b' h h1 h2;have:=m1.2;have:=m2.1;omega
      · have:=F.ord j' j b' b h h2 h1;have:=m2.2;have:=m1.1;omega
    have hdd:∀(j j':Nat) (b b':DR) t,j≠j'→rs[j]? =some b→rs[j']? =some b'→b.dst=some t→b'.dst≠some t:=fun j j' b b' t hne h1 h2 hb hb'=>by
      obtain⟨oj,q1,q2,_⟩:=hopr j b h1
      obtain⟨oj',q1',q2',_⟩:=hopr j' b' h2
      exact Pw (KB hnd) hne q1 q1' (q2▸hb) (q2'▸hb')
    have Mb:∀(b:DR) (j k:Nat),rs[j]? =some b→b.Ma k→look h0 k=none:=fun b j k hb hk=>hfr k (by have:=(F.lo j b hb).1;have:=hk.1;omega)
    have hx':replay (Nat.testBit (masks.getD i 0)) 0 rs (Kh (W8 masks i 0 opsA.toList) s0 (HY o.op.operands.toList),h0)=some x:=by
      have hsp:=List.take_append_drop i rs
      rw[←hsp,HS,hx,Option.bind_some]
      refine KC _ _ _ fun j hj=>?_
      have hti:(rs.take i).length=i:=by rw[List.length_take,F.len];omega
      rw[hti,Nat.zero_add]
      cases hq:(masks.getD i 0).testBit (i+j)with
      |false=>rfl
      |true=>have:=hm.lt ho' hq;omega
    have hpair:∀(j:Nat) (b:DR),rs[j]? =some b→lp listed j=true→(masks.getD i 0).testBit j=false→Ig (OP h0 rs) r=false→b.c.kil.2=[]∧W9 r.see b.c.upd=false:=fun j b hb h1 h2 hi=>by
      have idle:Ig (OP h0 rs) b=true→b.c.kil.2=[]∧W9 r.see b.c.upd=false:=fun h=>by
        obtain⟨_,g1,g2,_⟩:=H3 h
        exact⟨g1,by rw[g2];rfl⟩
      rcases Nat.lt_trichotomy j i with h|h|h
      · rcases H6 (hcomm1 j b h hb h2)with⟨q,_⟩|⟨q,_⟩|⟨_,_,q⟩
        · exact idle q
        · rw[hi]at q;exact nomatch q
        · exact⟨(IA q).1,(Ro q).1⟩
      · subst h;rw[hpi]at h1;exact nomatch h1
      · rcases H6 (hcomm2 j b h hb h1)with⟨q,_⟩|⟨q,_⟩|⟨_,_,q⟩
        · rw[hi]at q;exact nomatch q
        · exact idle q
        · exact⟨(IA q).2.1,(Ro q).2⟩
    have hfirm:∀(j:Nat) (b:DR),rs[j]? =some b→lp listed j=true→(masks.getD i 0).testBit j=false→Ig (OP h0 rs) r=true→r.c.v.GW b.c.kil=r.c.v:=fun j b hb h1 h2 hi=>by
      rcases Nat.lt_trichotomy j i with h|h|h
      · rcases H6 (hcomm1 j b h hb h2)with⟨q,_⟩|⟨_,q⟩|⟨_,q,_⟩
        · exact Mx (H3 q).2.1
        · exact q
        · rw[hi]at q;exact nomatch q
      · subst h;rw[hpi]at h1;exact nomatch h1
      · rcases H6 (hcomm2 j b h hb h1)with⟨_,q⟩|⟨q,_⟩|⟨q,_,_⟩
        · exact q
        · exact Mx (H3 q).2.1
        · rw[hi]at q;exact nomatch q
    have hfirm2:∀(j:Nat) (b:DR),rs[j]? =some b→lp listed j=true→(masks.getD i 0).testBit j=false→Ig (OP h0 rs) r=true→∀u∈r.W7,u.GW b.c.kil=u:=fun j b hb h1 h2 hi=>by
      rcases Nat.lt_trichotomy j i with h|h|h
      · exact(TN (hcomm1 j b h hb h2)).2 hi
      · subst h;rw[hpi]at h1;exact nomatch h1
      · exact(TN (hcomm2 j b h hb h1)).1 hi
    have hg0:Ig (OP h0 rs) r=false→∀(j:Nat) (b:DR),rs[j]? =some b→lp listed (0+j)=true→(masks.getD i 0).testBit (0+j)=false→b.c.kil.2=[]:=fun hi j b hb h1 h2=>by
      rw[Nat.zero_add]at h1 h2
      exact(hpair j b hb h1 h2 hi).1
    have hes:Ig (OP h0 rs) r=false→Ext x.1 X.1:=fun hi=>LD rs 0 _ _ x X hanc hx' hX (fun t v hv=>by
        exact(JA hv).2)
      (fun t v hv j b hb hj _ hdt=>by
        obtain⟨oj,q1,q2,_⟩:=hopr j b hb
        rw[Nat.zero_add]at hj
        exact(JA hv).1 (Qu q1 (q2▸hdt) (by rw[Nat.zero_add];exact hback j hj))) hdd (hg0 hi)
    have hes0:Ig (OP h0 rs) r=true→r.W7=P2 x.1 (HY o.op.operands.toList)→Ext (Kh [] x.1 (HY o.op.operands.toList)) X.1:=fun hi hbl t u hu=>by
      have hxt:=(JA hu).2
      have hmv:u∈r.W7:=by rw[hbl];exact UM hu
      refine KF rs 0 _ _ x X hanc hx' hX hxt (fun j b hb h1 h2=>⟨fun hdt=>?_,hfirm2 j b hb (by rwa [Nat.zero_add]at h1) (by rwa [Nat.zero_add]at h2) hi u hmv⟩) (fun u hu=>⟨[],(JA hu).2,by simp⟩)
      rw[Nat.zero_add]at h1 h2
      rcases KG rs 0 _ x hx' hxt with⟨u0,hu0⟩|⟨j',b',g1,g2,g3⟩
      · obtain⟨oj,q1,q2,_⟩:=hopr j b hb
        exact(JA hu0).1 (Qu q1 (q2▸hdt) (by rw[Nat.zero_add];exact hback j h1))
      · rw[Nat.zero_add]at g2
        have hne:j≠j':=fun e=>by subst e;rw[h2]at g2;exact nomatch g2
        exact hdd j j' b b' t hne hb g1 hdt g3
    have heh:r.see=ZQ E masks i opsA.toList x o→r.len=false→Ext (Un E masks i opsA.toList x o) X.2:=fun hsee hnl=>by
      cases hb:Nu E masks i 0 opsA.toList with
      | true =>
        unfold Un
        rw[hb,cond_true,←hsee]
        intro k B hB
        obtain⟨m1,m2⟩:=KE hB
        cases hidle:Ig (OP h0 rs) r with
        | true =>
          have hcm:=(H3 hidle).1
          unfold OP at hcm
          rw[hnl]at hcm
          obtain⟨B0,hB0,hst⟩:=Rr hcm m1
          have e1:=JV rs 0 _ x hst (by exact hB0) hx'
          have e2:=JV rs 0 _ X hst (by exact hB0) hX
          rw[e2,←m2,e1]
        |false=>
        refine JH (S:=fun k=>mem k r.see=true) rs 0 _ _ x X hanc hx' hX (fun _ _ _ h=>h) (fun j b k hb hk=>Mb b j k hb hk) (fun j j' b b' k=>hmine j j' b b' k) (fun j b hjb h1 h2=>?_) k B m1 m2
        rw[Nat.zero_add]at h1 h2
        have hc:=hpair j b hjb h1 h2 hidle
        exact⟨hc.1,Rp hc.2⟩
      | false =>
        unfold Un
        rw[hb,cond_false]
        intro k B hB
        refine JH (S:=fun _=>True) rs 0 _ _ x X hanc hx' hX (fun _ _ _ h=>h) (fun j b k hb hk=>Mb b j k hb hk) (fun j j' b b' k=>hmine j j' b b' k) (fun j b hjb h1 h2=>?_) k B trivial hB
        rw[Nat.zero_add]at h1 h2
        obtain⟨oj,q1,q2,q3⟩:=hopr j b hjb
        have hq:b.c.kil.2=[]∧b.c.upd=[]:=by
          refine Zq q3 ?_
          cases hwr:JQ E oj.op with
          |false=>rfl
          | true =>
            have:=Ow hb j oj q1 hwr
            rw[Nat.zero_add]at this
            simp only[Ze,Bool.or_eq_true]at this
            rcases this with h|h|h
            · have:=Nat.eq_of_beq_eq_true h;subst this;rw[hpi]at h1;exact nomatch h1
            · rw[h2]at h;exact nomatch h
            · rw[hback j h1]at h;exact nomatch h
        exact⟨hq.1,fun _ _=>by rw[hq.2];rfl⟩
    have hrange:∀k,k<r.c.news.length→look X.2 (r.n0+k)=none:=fun k hk=>by
      cases hq:look X.2 (r.n0+k)with
      |none=>rfl
      | some B =>
        have hmk:r.Ma (r.n0+k):=⟨by omega,by omega⟩
        rcases Ko rs 0 _ X hX _ B hq with⟨B',hB'⟩|⟨j,b,g1,g2,g3⟩
        · have:=Mb r i _ hr hmk;rw[this]at hB';exact nomatch hB'
        · rw[Nat.zero_add]at g2
          have hne:j≠i:=fun e=>by subst e;rw[hpi]at g2;exact nomatch g2
          exact(hmine j i b r _ hne g1 hr g3 hmk).elim
    obtain ⟨X', happ⟩ : ∃ X', r.app X = some X' := by
      cases hg:r.c.kil.2 with
      |nil=>exact⟨_,IP hg X⟩
      | cons b0 T =>
        have hidle:Ig (OP h0 rs) r=false:=by
          cases hq:Ig (OP h0 rs) r with
          |false=>rfl
          |true=>have:=(H3 hq).2.1;rw[hg]at this;exact nomatch this
        have hsp:rs=rs.take i++r::rs.drop (i+1):=by
          have hlen:i<rs.length:=by rw[F.len];exact hil
          conv=>lhs;rw[←List.take_append_drop i rs]
          rw[List.drop_eq_getElem_cons hlen,(List.getElem?_eq_some_iff.1 hr).2]
        have hti:(rs.take i).length=i:=by rw[List.length_take,F.len];omega
        have hdiff:∀(j:Nat) (b:DR),rs[j]? =some b→lp listed (0+j)≠(fun j=>decide (j<i)) (0+j)→Ig (OP h0 rs) b=true:=fun j b hb hne=>by
          rw[Nat.zero_add]at hne
          rcases Nat.lt_trichotomy j i with h|h|h
          · simp only[h,decide_true]at hne
            have hno:(masks.getD i 0).testBit j=false:=by
              cases hq:(masks.getD i 0).testBit j with
              |false=>rfl
              |true=>exact absurd (hanc j hq) hne
            rcases H6 (hcomm1 j b h hb hno)with⟨q,_⟩|⟨q,_⟩|⟨_,_,q⟩
            · exact q
            · rw[hidle]at q;exact nomatch q
            · have:=(IA q).2.1;rw[hg]at this;exact nomatch this
          · subst h;rw[hpi]at hne;simp at hne
          · have hl:lp listed j=true:=by
              cases hq:lp listed j with
              |true=>rfl
              |false=>rw[hq]at hne;simp at hne;omega
            rcases H6 (hcomm2 j b h hb hl)with⟨q,_⟩|⟨q,_⟩|⟨_,_,q⟩
            · rw[hidle]at q;exact nomatch q
            · exact q
            · have:=(IA q).1;rw[hg]at this;exact nomatch this
        obtain⟨X0,hX0,hh⟩:=JJ (p':=fun j=>decide (j<i)) rs 0 (s0,h0) (s0,h0) X hdiff rfl hX
        have hXp:replay (fun _=>true) 0 (rs.take i) (s0,h0)=some X0:=by
          rw[hsp,HS,hti,Nat.zero_add]at hX0
          rw[Jk (q:=fun j=>decide (j<i)) _ _ _ fun j hj=>by rw[hti]at hj;rw[Nat.zero_add];exact(decide_eq_true hj).symm]
          rw[Option.bind_eq_some_iff]at hX0
          obtain⟨y,hy,hX0⟩:=hX0
          rw[KC _ _ _ fun j _=>decide_eq_false (by omega)]at hX0
          cases hX0;exact hy
        rw[hsp,HS,hXp]at hfin
        simp only[Option.bind_some,replay,cond_true,Option.bind_eq_some_iff]at hfin
        obtain⟨y,hy,_⟩:=hfin
        obtain⟨y',hy',_⟩:=Lh hh.symm hy
        exact⟨y',hy'⟩
    have hpi':lp (listed.setIfInBounds i true) i=true:=by
      unfold lp;simp[Array.getD_eq_getD_getElem?,Array.getElem?_setIfInBounds,hs,hil]
    have hpp:∀j,j≠i→lp (listed.setIfInBounds i true) j=lp listed j:=fun j hj=>getD_set_ne false (fun e=>hj e.symm)
    obtain⟨X'',hX'',hsame⟩:=Qs hr hpi hpi' hpp (fun j b hj hb hl=>⟨hcomm2 j b hj hb hl,fun t h1=>hdd i j r b t (by omega) hr hb h1,fun k h1=>hmine i j r b k (by omega) hr hb h1⟩) hX happ
    have hcl':X2 opsA (listed.setIfInBounds i true):=fun j oj hoj hl e he hb=>by
      by_cases hji:j=i
      · subst hji
        rw[ho']at hoj;cases hoj
        exact getD_set_true (hedge e (by simpa using he) hb)
      · rw[hpp j hji]at hl
        exact getD_set_true (hc j oj hoj hl e he hb)
    have hu':unl (listed.setIfInBounds i true)≤f:=by have:=Yw hun;omega
    have next:∀(H':GV) (pl pl':Pl) (u:Value) (w':World),after X.2 r.n0 r.c=some H'→Rel w0 fp0 ⟨X.1,X.2,nidE,n,gh⟩ pl a w→pl.base=bs→Hp X.2 H' r.c.kil pl pl' w w'→GG w' H' pl' r.c.v u→
        (∀i B,look r.c.upd i=some B→∃B',look X.2 i=some B')→wpAny E.P .any opsA Q f (listed.setIfInBounds i true) (a.put o.dst u) w':=fun H' pl pl' u w' hafter hR hb hst hv hup=>by
      have h1:=Rel.app hR happ hup (fun t ht=>Pv hlt t (LG ho' (hdst▸ht))) (fun k j hj=>Nat.lt_of_lt_of_le (hgh k j hj) (F.lo i r hr).1) (F.lo i r hr).2 hafter hst hv
      rw[hdst]at h1
      have h2:=h1.congr (s':=X''.1) (H':=X''.2) (fun t v hv=>(hsame.1 t).trans hv) (fun k=>(hsame.2 k).symm)
      refine ih _ _ _ X'' (by simp[hs]) hu' hcl' hX'' (fun k B0 hB0 hk=>?_) ⟨pl',h2,hst.bs.trans hb,rfl⟩
      obtain⟨B,g1,g2⟩:=hLK k B0 hB0 hk
      obtain⟨B',g3,g4,_⟩:=hst.kp.k1 k B g1 (hk r (List.mem_of_getElem? hr))
      exact⟨B',by rw[←hsame.2 k,V7 happ hup hafter];exact g3,Blk.HZ g2 g4⟩
    obtain⟨pl,hR,Oi,_⟩:=hR
    have hwanted:Region.wanted o (yielded opsA a.tmps)=t:=by
      unfold JU at hw
      unfold Region.wanted
      split at hw
      · rename_i hg;rw[hg];exact hw.symm
      · rename_i g want hg
        obtain⟨q1,rg,tg,q2,q3,q4⟩:=hw
        rw[hg]
        simp only
        obtain⟨og,p1,p2,_⟩:=hopr g rg q2
        have hlen:g<rs.length:=(List.getElem?_eq_some_iff.1 q2).1
        have hsp:rs=rs.take g++rg::rs.drop (g+1):=by
          conv=>lhs;rw[←List.take_append_drop g rs]
          rw[List.drop_eq_getElem_cons hlen,(List.getElem?_eq_some_iff.1 q2).2]
        have hti:(rs.take g).length=g:=by rw[List.length_take];omega
        have hslot:∀v,rg.c.v=v→(∀T,v.GW T=v)→look X.1 tg=some v:=fun v q4 hsw=>by
          have hX2:=hX
          rw[hsp,HS,hti,Nat.zero_add,Option.bind_eq_some_iff]at hX2
          obtain⟨y,hy,hX2⟩:=hX2
          simp only[replay,hanc g q1,cond_true,Option.bind_eq_some_iff]at hX2
          obtain⟨y',hy',hX2⟩:=hX2
          refine Md hsw _ _ y' X hX2 (fun j b' hb'=>?_) (by rw[HE hy',HD,if_pos q3,q4])
          rw[List.getElem?_drop]at hb'
          exact hdd g (g+1+j) rg b' tg (by omega) q2 hb' q3
        rcases q4 with⟨b,q4,q5⟩|⟨q4,q5⟩
        rotate_left
        · have hval:=hR.sl tg _ (hslot _ q4 fun T=>by simp[SV.GW,Iz])
          have hog:opsA[g]? =some og:=by rwa [Array.getElem?_toList]at p1
          have hval:∃vs,a.tmps.getD tg undef=.tuple vs:=by
            generalize a.tmps.getD tg undef=u at hval
            cases hval with
            |tup _ vs=>exact⟨vs,rfl⟩
          obtain⟨vs,hval⟩:=hval
          rw[p2]at q3
          have hy:yielded opsA a.tmps g=none:=by
            rw[Array.getD_eq_getD_getElem?]at hval
            cases hq:a.tmps[tg]? with
            |none=>simp[yielded,hog,q3,hq]
            |some x=>rw[hq]at hval;simp[yielded,hog,q3,hq,show x=.tuple vs from hval]
          rw[hy,q5]
          rfl
        have hval:=hR.sl tg _ (hslot _ q4 fun T=>by simp[SV.GW,hit])
        have hval:a.tmps.getD tg undef=.bool b:=by
          generalize a.tmps.getD tg undef=u at hval
          cases hval with
          |r _ _ _ hx=>cases hx;rfl
        have hog:opsA[g]? =some og:=by rwa [Array.getElem?_toList]at p1
        have hgd:a.tmps[tg]? =some (.bool b):=by
          rw[Array.getD_eq_getD_getElem?]at hval
          cases hq:a.tmps[tg]? with
          |none=>rw[hq]at hval;exact nomatch hval
          |some x=>rw[hq]at hval;exact congrArg some hval
        rw[p2]at q3
        have hy:yielded opsA a.tmps g=some b:=by simp[yielded,hog,q3,hgd]
        rw[hy,q5]
        cases b<;>cases want<;>rfl
    unfold wpOp
    rw[ho]
    simp only[hwanted]
    rcases hgen with⟨rfl,hmk,hg,hgl⟩|⟨rfl,hcu,_⟩
    · rw [if_pos rfl]
      have hbl:r.W7=P2 x.1 (HY o.op.operands.toList):=congrArg DR.W7 hmk
      have hlen:r.len=Vu E h0 x o:=congrArg DR.len hmk
      have hse:r.see=ZG E masks i opsA.toList h0 x o:=congrArg DR.see hmk
      obtain⟨hup,hsem⟩:(∀i B,look r.c.upd i=some B→∃B',look X.2 i=some B')∧_:=by
        have hslots:Ext (Kh [] x.1 (HY o.op.operands.toList)) X.1:=by
          cases hidle:Ig (OP h0 rs) r with
          |false=>exact fun t u hu=>hes hidle t u (JA hu).2
          |true=>exact hes0 hidle hbl
        cases hL:Vu E h0 x o with
        | false =>
          rw[hL]at hlen
          unfold ZG at hse
          rw[hL,cond_false]at hse
          exact hg hL X.1 X.2 a w pl hslots (heh hse hlen) hR.hr hR.sl hrange
        | true =>
          rw[hL]at hlen
          unfold ZG at hse
          rw[hL,cond_true]at hse
          have hidle:=Ov hla r (List.mem_of_getElem? hr) hlen
          have hcm:=(H3 hidle).1
          unfold OP at hcm
          rw[hlen,hse]at hcm
          refine hgl hL X.1 X.2 a w pl hslots (fun k B hB=>?_) hR.hr hR.sl hrange
          obtain⟨m1,m2⟩:=KE hB
          exact hLK k B m2 (Ny hcm k m1)
      obtain⟨H',hafter⟩:=Rs happ hup
      exact .inl (hsem H' _ Q hafter fun u pl' w' hst hv=>next H' pl pl' u w' hafter hR Oi hst hv hup)
    · rw[if_neg (by simp)]
      have hafter:after X.2 r.n0 r.c=some X.2:=by
        rw[hcu]
        simp only[after,LV,GY,List.append_nil,CR.kil,IG,Option.bind_some]
      refine next X.2 pl pl undef w hafter hR Oi ?_ ?_ ?_
      · rw[hcu];exact Hp.refl hR.hr
      · rw[hcu];exact .tup [] #[] rfl fun j x v hx _=>by simp at hx
      · rw[hcu];exact fun i B hB=>by simp[look]at hB
theorem Rl.drew {n:Nat} {st:St} {a:Act} {w:World} (h:Rl w0 fp0 bs n st a w):Rl w0 fp0 bs n st a {w with drawn:=w.drawn+1}:=by
  obtain⟨pl,h,hb,hn⟩:=h
  have hk:JF ([],[]) w st.heap pl {w with drawn:=w.drawn+1} st.heap pl:=⟨fun i B hB _=>⟨B,hB,B.Hz,rfl⟩,fun d p u _ h hp=>⟨h,hp⟩⟩
  exact⟨pl,⟨⟨fun i B hB=>(h.hr.blk i B hB).HL hk rfl (fun _=>Iff.rfl) (fun p u _ hu=>⟨hu,rfl⟩) B.HA,h.hr.dis,h.hr.ob,h.hr.nb⟩,
    fun t v hv=>(h.sl t v hv).NC hk,h.sz,h.df,h.fresh,h.gr.trans (HG.drew w),fun p u hp hno=>h.fr p u hp hno,h.gk⟩,hb,hn⟩
theorem Rl.less {n:Nat} {st:St} {s':List (Nat× SV)} {a:Act} {w:World} (h:Rl w0 fp0 bs n st a w) (hs:∀t v,look s' t=some v→look st.G2 t=some v):Rl w0 fp0 bs n ⟨s',st.heap,st.nid,st.n,st.gh⟩ a w:=by
  obtain⟨pl,h,hb,hn⟩:=h
  exact⟨pl,h.congr hs fun _=>rfl,hb,hn⟩
theorem Rl.ZW {n nid nid' m:Nat} {s:List (Nat× SV)} {H:GV} {a:Act} {w:World} (h:Rl w0 fp0 bs n ⟨s,H,nid,m,gh⟩ a w) (hn:nid≤nid'):Rl w0 fp0 bs n ⟨s,H,nid',m,gh⟩ a w:=by
  obtain⟨pl,h,hb,hn'⟩:=h
  exact⟨pl,⟨h.hr,h.sl,h.sz,h.df,fun i hi=>h.fresh i (Nat.le_trans hn hi),h.gr,h.fr,fun k i hi=>⟨Nat.lt_of_lt_of_le (h.gk k i hi).1 hn,(h.gk k i hi).2⟩⟩,hb,hn'⟩
theorem SP {ρ:Type} (hE:I8 E) {id n:Nat} {st:St} {a:Act} {w:World} {K:St→Option ρ} {out:ρ} (hR:Rl w0 fp0 bs n st a w) (h:Sm E opsA.toList st K=some out)
    (hK:∀st' a' w',K st'=some out→Rl w0 fp0 bs n st' a' w'→Q .normal a' w'):(Code.region id opsA true).wp E.P Q a w:=by
  unfold Sm at h
  cases hmo:E.P.follows .mixedOrders<;>simp only[hmo,cond_true,cond_false]at h
  · exact nomatch h
  rw[Option.bind_eq_some_iff]at h
  obtain⟨masks,hmasks,h⟩:=h
  cases hnd:KU (I0 opsA.toList)<;>simp only[hnd,cond_true,cond_false]at h
  · exact nomatch h
  cases hlt:Um st.n (I0 opsA.toList)<;>simp only[hlt,cond_true,cond_false]at h
  · exact nomatch h
  obtain⟨rs,nidE,h,hnid,F⟩:=Lj (nid0:=st.nid) hE opsA.toList 0 st.nid [] _ h ⟨rfl,fun i o r _ hr=>by simp at hr,fun i r hr=>by simp at hr,fun i j a b _ ha=>by simp at ha⟩ (Nat.le_refl _) (by simp)
  cases hp0:(O7 (OP st.heap rs) masks 0 rs&&O8 (OP st.heap rs) rs)<;>simp only[hp0,cond_true,cond_false]at h
  · exact nomatch h
  rw[Bool.and_eq_true]at hp0
  obtain⟨hp,hla⟩:=hp0
  rw[Option.bind_eq_some_iff]at h
  obtain⟨XF,hXF,h⟩:=h
  rw[Nat.zero_add,show opsA.toList.length=opsA.size from by simp]at F
  have hn:=hR
  obtain⟨pl,hR0,_,hnn⟩:=hn
  refine wp_region_any hmo (Xt (XF:=XF) (n:=n) (nidE:=nidE) (w0:=w0) (fp0:=fp0) (bs:=bs) (Xp hmasks) F hp hla hnd (by rw[←hnn];exact hlt) hXF hR0.fresh (fun k i hi=>(hR0.gk k i hi).1) (fun a' w' hR'=>hK _ a' w' h (by rw[hnn];exact hR')) opsA.size _ a _
    (st.G2,st.heap) (by simp) (by unfold unl;exact Nat.le_trans List.countP_le_length (by simp)) (fun j o _ hl=>?_) (KC _ _ _ fun j _=>?_) (fun k B0 hB0 _=>⟨B0,hB0,B0.Hz⟩) ?_)
  · have:lp (Array.replicate opsA.size false) j=false:=by
      unfold lp;rw[Array.getD_eq_getD_getElem?,Array.getElem?_replicate];split<;>rfl
    rw[this]at hl;exact nomatch hl
  · show lp _ _=false
    unfold lp;rw[Array.getD_eq_getD_getElem?,Array.getElem?_replicate];split<;>rfl
  · have:=(hR.ZW hnid).drew
    rw[hnn]at this
    exact this
end
end Go.Proofs.Ev
set_option linter.unusedVariables false
set_option linter.unusedSimpArgs false
namespace Go.Proofs.Ev
variable [Tok]
set_option linter.unusedSectionVars false
section
variable {w:World} {H:GV} {pl:Pl} {i:Nat} {t:Ty}
theorem My {h:GV}:∀(l:GV) (k:Nat),look (Sn i t h l) k=if k=i then none else(look l k).map (Blk.frz i t h)
  |[],k=>by simp[Sn,look]
  | (k0, b) :: l, k => by
    have ih:=My (h:=h) l k
    simp only[Sn]
    cases hk:Nat.beq k0 i
    · have hk:¬k0=i:=fun e=>by subst e;simp at hk
      simp only[cond_false]
      rw[GK,GK,ih]
      by_cases c:k0=k
      · subst c;rw[if_pos rfl,if_pos rfl,if_neg hk];rfl
      · rw[if_neg c,if_neg c]
    · have hk:=Nat.eq_of_beq_eq_true hk
      simp only[cond_true]
      rw[GK,ih]
      by_cases c:k=i
      · rw[if_pos c,if_pos c]
      · rw[if_neg c,if_neg c,if_neg (fun e=>c (by rw[←e,hk]))]
theorem Pz {h:GV}:∀(l:List (Nat× SV)) (k:Nat),look (Up i t h l) k=(look l k).map (SV.frz i t h)
  |[],k=>by simp[Up,look]
  | (k0, b) :: l, k => by
    simp only[Up]
    rw[GK,GK,Pz l k]
    by_cases c:k0=k
    · rw[if_pos c,if_pos c];rfl
    · rw[if_neg c,if_neg c]
theorem TP {k:Nat} (hk:k≠i):∀(d:List Nat),mem k (WW i d)=mem k d
  |[]=>rfl
  | x :: l => by
    have ih:=TP hk l
    simp only[WW]
    cases hx:Nat.beq x i
    · simp only[cond_false,mem,ih]
    · have hx:=Nat.eq_of_beq_eq_true hx
      simp only[cond_true,mem,ih]
      have:Nat.beq x k=false:=by
        cases h:Nat.beq x k
        · rfl
        · exact(hk (by rw[←Nat.eq_of_beq_eq_true h,hx])).elim
      rw[this];rfl
theorem V8 (B:Blk) (h:GV):(B.frz i t h).JE=B.JE:=by
  cases B with
  |box cs=>rfl
  |arr sh t' xs=>cases sh<;>rfl
theorem Xu (B:Blk) (h:GV):B.JP (B.frz i t h):=by
  have hl:∀cs:List SV,(QQ i t h cs).length=cs.length:=fun cs=>by
    induction cs with
    |nil=>rfl
    |cons v l ih=>simp[QQ,ih]
  cases B with
  |box cs=>exact(hl cs).symm
  |arr sh t' xs=>cases sh<;>exact⟨rfl,rfl⟩
theorem KH {h:GV} {k:Nat} {B':Blk} (e:look (Sn i t h H) k=some B'):k≠i∧∃B,look H k=some B∧B'=B.frz i t h:=by
  rw[My]at e
  by_cases c:k=i
  · rw[if_pos c]at e;exact nomatch e
  · rw[if_neg c]at e
    obtain⟨B,h1,h2⟩:=Option.map_eq_some_iff.1 e
    exact⟨c,B,h1,h2.symm⟩
theorem Nf {h:GV} {k:Nat} {B:Blk} (c:k≠i) (e:look H k=some B):look (Sn i t h H) k=some (B.frz i t h):=by
  rw[My,if_neg c,e];rfl
theorem Mf {h:GV} {d:List Nat} {p:Cell} (e:okd H pl d p):okd (Sn i t h H) pl (WW i d) p:=
  ⟨e.1,fun k B' hB' hb=>by
    obtain⟨c,B,h1,rfl⟩:=KH hB'
    exact e.2 k B h1 fun hm=>by
      have:=hb (by rw[TP c];exact hm)
      rwa [V8]at this⟩
theorem TQ (h:GV):∀(cs:List SV) (j:Nat),(QQ i t h cs)[j]? =(cs[j]?).map (SV.frz i t h)
  |[],j=>by simp[QQ]
  |v::l,0=>by simp[QQ]
  |v::l,j+1=>by simp[QQ,TQ h l j]
theorem LH (h:GV):∀cs:List SV,(QQ i t h cs).length=cs.length
  |[]=>rfl
  |v::l=>by simp[QQ,LH h l]
theorem PA {j i:Nat} (h:Nat.beq j i=false):j≠i:=fun e=>by subst e;simp at h
mutual
theorem V9 (hr:Hq H pl w):(v:SV)→{u:Value}→GG w H pl v u→GG w (Sn i t H H) pl (v.frz i t H) u
  | .r d x, u, h => by
    cases h with
    |r _ _ _ hx=>exact .r _ _ _ (hx.frame fun p u hp hu=>⟨Mf hp,hu⟩)
  | .own j, u, h => by
    simp only[SV.frz]
    cases hj:Nat.beq j i
    · simp only[cond_false]
      cases h with
      | own _ sh t' xs hl =>
        have:=Nf (t:=t) (h:=H) (PA hj) hl
        cases sh with
        |none=>exact .own j none t' xs this
        |some d=>exact .own j _ t' xs this
    · simp only[cond_true]
      unfold Tu
      split
      · rename_i p hp
        exact .r _ _ _ ((La hr (d:=p.1) (xs:=p.2) hp h).frame fun p u hp hu=>⟨Mf hp,hu⟩)
      · exact .undef _
  | .sub j o n, u, h => by
    simp only[SV.frz]
    cases hj:Nat.beq j i
    · simp only[cond_false]
      cases h with
      | sub _ _ _ sh t' xs a a' cap cap' hl hh hn hc hc' ha =>
        have:=Nf (t:=t) (h:=H) (PA hj) hl
        cases sh with
        |none=>exact .sub j o n none t' xs a a' cap cap' this hh hn hc hc' ha
        |some d=>exact .sub j o n _ t' xs a a' cap cap' this hh hn hc hc' ha
    · simp only[cond_true]
      unfold Tu
      split
      · rename_i p hp
        exact .r _ _ _ ((La hr (d:=p.1) (xs:=p.2) hp h).frame fun p u hp hu=>⟨Mf hp,hu⟩)
      · exact .undef _
  | .bsl j n, u, h => by
    simp only[SV.frz]
    cases hj:Nat.beq j i
    · simp only[cond_false]
      cases h with
      |bsl _ _ cs a hl hh=>exact .bsl j n _ a (Nf (t:=t) (h:=H) (PA hj) hl) hh
    · exact .undef _
  | .ptr j x o, u, h => by
    simp only[SV.frz]
    cases hj:Nat.beq j i
    · simp only[cond_false]
      cases h with
      |MZ _ _ cs b k hl hh=>exact .MZ j o _ b k (Nf (t:=t) (h:=H) (PA hj) hl) hh
      | Mj _ _ _ sh t' xs b k n cap hl hx hh =>
        have:=Nf (t:=t) (h:=H) (PA hj) hl
        cases sh with
        |none=>exact .Mj j x o none t' xs b k n cap this hx hh
        |some d=>exact .Mj j x o _ t' xs b k n cap this hx hh
    · exact .undef _
  | .inn j x c, u, h => by
    simp only[SV.frz]
    cases hj:Nat.beq j i
    · simp only[cond_false]
      cases h with
      | inn _ _ _ sh t' xs b k n cap _ hl hx hc hh hok hv h1 =>
        have:=Nf (t:=t) (h:=H) (PA hj) hl
        have hok':okd (Sn i t H H) pl [j] (b,k+(x*t'.sz+c)):=by
          have:=Mf (i:=i) (t:=t) (h:=H) hok
          simpa only[WW,hj,cond_false]using this
        cases sh with
        |none=>exact .inn j x c none t' xs b k n cap u this hx hc hh hok' hv h1
        |some d=>exact .inn j x c _ t' xs b k n cap u this hx hc hh hok' hv h1
    · exact .undef _
  | .Jp d cs, u, h => by
    cases h with
    |Jp _ _ b o vs hc hr'=>exact .Jp _ _ b o vs (fun j r hj=>⟨Mf (hc j r hj).1,(hc j r hj).2⟩) fun j r hj=>(hr' j r hj).frame fun p u hp hu=>⟨Mf hp,hu⟩
  | .agg cs, u, h => by
    cases h with
    |agg _ vs hl h1 h3=>exact .agg _ _ (by rw[LH,hl]) h1 fun j x v hx hv=>Ox hr cs vs.toList (fun j x v hx hv=>h3 j x v hx (by simpa using hv)) j x v hx (by simpa using hv)
  | .tup cs, u, h => by
    cases h with
    |tup _ vs hl h3=>exact .tup _ _ (by rw[LH,hl]) fun j x v hx hv=>Ox hr cs vs.toList (fun j x v hx hv=>h3 j x v hx (by simpa using hv)) j x v hx (by simpa using hv)
  | .fn f a b, u, h => by
    cases h with
    | fn _ _ _ us vs h1 h3 h1' h3' =>
      exact .fn f _ _ _ _ (by rw[LH,h1]) (fun j x v hx hv=>Ox hr a us.toList (fun j x v hx hv=>h3 j x v hx (by simpa using hv)) j x v hx (by simpa using hv))
        (by rw[LH,h1']) (fun j x v hx hv=>Ox hr b vs.toList (fun j x v hx hv=>h3' j x v hx (by simpa using hv)) j x v hx (by simpa using hv))
  |.H5,u,h=>by cases h;exact .H5
  |.K0,u,h=>by cases h;exact .K0
  |.undef,u,h=>.undef _
theorem Ox (hr:Hq H pl w):(cs:List SV)→(us:List Value)→(∀(j:Nat) (x:SV) (v:Value),cs[j]? =some x→us[j]? =some v→GG w H pl x v)→
    ∀(j:Nat) (x:SV) (v:Value),(QQ i t H cs)[j]? =some x→us[j]? =some v→GG w (Sn i t H H) pl x v
  |[],us,_,j,x,v,hx,_=>by simp[QQ]at hx
  |c::cs,[],_,j,x,v,_,hv=>by simp at hv
  | c :: cs, u :: us, h, 0, x, v, hx, hv => by
    simp[QQ]at hx hv
    subst hx hv
    exact V9 hr c (h 0 c u rfl rfl)
  |c::cs,u::us,h,j+1,x,v,hx,hv=>Ox hr cs us (fun j x v hx hv=>h (j+1) x v (by simpa using hx) (by simpa using hv)) j x v (by simpa[QQ]using hx) (by simpa using hv)
end
theorem Yx (hr:Hq H pl w) {k:Nat}:(B:Blk)→HV w H pl k B→HV w (Sn i t H H) pl k (B.frz i t H)
  | .box cs, ⟨b, o, h1, h2, h3⟩ => by
    refine⟨b,o,h1,fun p=>by rw[LH];exact h2 p,fun j v hv=>?_⟩
    rw[TQ]at hv
    obtain⟨v0,hv0,rfl⟩:=Option.map_eq_some_iff.1 hv
    obtain⟨u,g1,g2,g3,g4⟩:=h3 j v0 hv0
    exact⟨u,g1,g2,g3,V9 hr v0 g4⟩
  |.arr none t' xs,h=>h
  |.arr (some d) t' xs,⟨R⟩=>⟨{R with hr:=fun i j r hc=>⟨(R.hr i j r hc).1.frame fun p u hp hu=>⟨Mf hp,hu⟩,(R.hr i j r hc).2⟩}⟩
theorem Xv (hr:Hq H pl w):Hq (Sn i t H H) pl w:=
  ⟨fun k B' hB'=>by
    obtain⟨_,B,h1,rfl⟩:=KH hB'
    exact Yx hr B (hr.blk k B h1),
   fun k j B B' p h1 h2 f1 f2=>by
    obtain⟨_,B1,g1,_⟩:=KH h1
    obtain⟨_,B2,g2,_⟩:=KH h2
    exact hr.dis k j B1 B2 p g1 g2 f1 f2,
   fun k B p h1 hf=>by
    obtain⟨_,B1,g1,_⟩:=KH h1
    exact hr.ob k B1 p g1 hf,hr.nb⟩
end
theorem Yy {w0:World} {fp0:G0} {bs:Cell→Prop} {n:Nat} {st:St} {a:Act} {w:World} (i:Nat) (h:Rl w0 fp0 bs n st a w):Rl w0 fp0 bs n (ZR i st) a w:=by
  unfold ZR
  split
  · rename_i sh t xs hl
    obtain⟨pl,hr,hb,hn⟩:=h
    refine⟨pl,⟨Xv hr.hr,fun k v hv=>?_,hr.sz,hr.df,fun k hk=>?_,hr.gr,fun p u hp hno=>?_,fun k j hk=>?_⟩,hb,hn⟩
    · have hv:look (Up i t st.heap st.G2) k=some v:=hv
      rw[Pz]at hv
      obtain⟨v0,hv0,rfl⟩:=Option.map_eq_some_iff.1 hv
      exact V9 hr.hr v0 (hr.sl k v0 hv0)
    · show look (Sn i t st.heap st.heap) k=none
      rw[My,hr.fresh k hk]
      by_cases c:k=i
      · rw[if_pos c]
      · rw[if_neg c];rfl
    · obtain⟨f1,f2,f3⟩:=hr.fr p u hp hno
      exact⟨fun k B hB=>by
        obtain⟨_,B1,g1,_⟩:=KH hB
        exact f1 k B1 g1,f2,f3⟩
    · obtain⟨t1,t2⟩:=hr.gk k j hk
      refine⟨t1,fun B hB=>?_⟩
      obtain⟨_,B1,g1,rfl⟩:=KH hB
      obtain⟨t3,t4⟩:=t2 B1 g1
      exact⟨t3,Blk.HZ t4 (Xu B1 st.heap)⟩
  · exact h
theorem Mz {H:GV} {i:Nat} {t:Ty} {xs:List t.El} (hl:look H i=some (.arr none t xs)) (k:Nat):look (put H i (.arr (some []) t xs)) k=if k=i then some (.arr (some []) t xs)else look H k:=by
  rw[HX]
  by_cases c:i=k
  · rw[if_pos c,if_pos c.symm]
  · rw[if_neg c,if_neg (fun e=>c e.symm)]
theorem KI {H:GV} {i:Nat} {t:Ty} {xs:List t.El} (hl:look H i=some (.arr none t xs)) {k:Nat} {B':Blk} (e:look (put H i (.arr (some []) t xs)) k=some B'):
    ∃B,look H k=some B∧B.JP B'∧B'.JE=B.JE:=by
  rw[Mz hl]at e
  by_cases c:k=i
  · rw[if_pos c]at e;cases e
    exact⟨.arr none t xs,by rw[c];exact hl,show Blk.JP (.arr none t xs) (.arr (some []) t xs)from⟨rfl,rfl⟩,rfl⟩
  · rw[if_neg c]at e
    exact⟨B',e,B'.Hz,rfl⟩
def Pl.less (pl:Pl) (i:Nat) (f:Cell→Prop):Pl:={pl with fp:=fun k p=>(k=i→f p)∧(k≠i→pl.fp k p)}
theorem Pl.MA {pl:Pl} {i:Nat} {f:Cell→Prop} (hf:∀p,f p→pl.fp i p) {k:Nat} {p:Cell} (h:(pl.less i f).fp k p):pl.fp k p:=by
  by_cases c:k=i
  · subst c;exact hf p (h.1 rfl)
  · exact h.2 c
theorem Wa {w:World} {H:GV} {pl:Pl} {i:Nat} {t:Ty} {xs:List t.El} {f:Cell→Prop} (hl:look H i=some (.arr none t xs)) (hf:∀p,f p→pl.fp i p):JF ([],[]) w H pl w (put H i (.arr (some []) t xs)) (pl.less i f):=
  ⟨fun k B hB _=>by
    by_cases c:k=i
    · subst c
      rw[hl]at hB;cases hB
      exact⟨.arr (some []) t xs,by rw[Mz hl,if_pos rfl],show Blk.JP (.arr none t xs) (.arr (some []) t xs)from⟨rfl,rfl⟩,rfl⟩
    · exact⟨B,by rw[Mz hl,if_neg c];exact hB,B.Hz,rfl⟩,
   fun d p u _ hp hu=>⟨⟨hp.1,fun k B' hB' hb hq=>by
    obtain⟨B,h1,_,h3⟩:=KI hl hB'
    exact hp.2 k B h1 (fun hm=>by rw[←h3];exact hb hm) (Pl.MA hf hq)⟩,hu⟩⟩
theorem Yz {w0:World} {fp0:G0} {bs:Cell→Prop} {n:Nat} {st:St} {a:Act} {w:World} (i:Nat) (h:Rl w0 fp0 bs n st a w):Rl w0 fp0 bs n (ZS i st) a w:=by
  unfold ZS
  split
  · rename_i t xs hl
    obtain⟨pl,hr,hb,hn⟩:=h
    obtain⟨R⟩:=hr.hr.blk i _ hl
    have hf:∀p,reg R.b R.o (R.cap*t.sz) p→pl.fp i p:=fun p hp=>(R.hfp p).2 (.inl hp)
    have hk:=Wa (w:=w) (pl:=pl) hl hf
    refine⟨pl.less i (reg R.b R.o (R.cap*t.sz)),⟨⟨fun k B' hB'=>?_,fun k j B B' p h1 h2 f1 f2=>?_,fun k B p h1 hf'=>?_,hr.hr.nb⟩,fun k v hv=>?_,hr.sz,hr.df,fun k hk=>?_,hr.gr,fun p u hp hno=>?_,fun k j hk=>?_⟩,hb,hn⟩
    · have hB':look (put st.heap i (.arr (some []) t xs)) k=some B':=hB'
      rw[Mz hl]at hB'
      by_cases c:k=i
      · rw[if_pos c]at hB';cases hB'
        subst c
        refine⟨⟨R.a,R.cap,R.b,R.o,R.vs,fun _ _ _=>False,R.Ra,R.IH,R.ha,R.JR,R.hc,fun i' j r hx=>⟨?_,fun _ hf=>hf⟩,fun _ _ _ _ _ h=>h.elim,fun _ _ _ _ _ _ _ _ _ h=>h.elim,fun p=>⟨fun hp=>.inl (hp.1 rfl),fun hp=>⟨fun _=>hp.elim id fun⟨_,_,_,_,h⟩=>h.elim,fun h=>(h rfl).elim⟩⟩⟩⟩
        refine(R.hr i' j r hx).WX fun p hp=>?_
        have hpi:pl.fp k p:=(R.hfp p).2 (.inr ⟨i',j,r,hx,hp⟩)
        refine⟨hr.hr.ob k _ p hl hpi,fun m B hB _ hq=>?_⟩
        by_cases e:m=k
        · subst e;exact R.hd1 i' j r p hx hp (hq.1 rfl)
        · obtain⟨B1,g1,_⟩:=KI hl hB
          exact e (hr.hr.dis m k B1 _ p g1 hl (hq.2 e) hpi)
      · rw[if_neg c]at hB'
        exact(hr.hr.blk k _ hB').HL hk rfl (fun p=>⟨fun h=>h.2 c,fun h=>⟨fun e=>(c e).elim,fun _=>h⟩⟩) (fun p u _ hu=>⟨hu,rfl⟩) B'.HA
    · obtain⟨B1,g1,_⟩:=KI hl h1
      obtain⟨B2,g2,_⟩:=KI hl h2
      exact hr.hr.dis k j B1 B2 p g1 g2 (Pl.MA hf f1) (Pl.MA hf f2)
    · obtain⟨B1,g1,_⟩:=KI hl h1
      exact hr.hr.ob k B1 p g1 (Pl.MA hf hf')
    · exact(hr.sl k v hv).NC hk
    · show look (put st.heap i (.arr (some []) t xs)) k=none
      rw[Mz hl]
      by_cases c:k=i
      · have:=hr.fresh k hk
        rw[c,hl]at this;exact nomatch this
      · rw[if_neg c];exact hr.fresh k hk
    · obtain⟨f1,f2,f3⟩:=hr.fr p u hp hno
      exact⟨fun k B hB hq=>by
        obtain⟨B1,g1,_⟩:=KI hl hB
        exact f1 k B1 g1 (Pl.MA hf hq),f2,f3⟩
    · obtain⟨t1,t2⟩:=hr.gk k j hk
      refine⟨t1,fun B hB=>?_⟩
      obtain⟨B1,g1,g2,_⟩:=KI hl hB
      obtain⟨t3,t4⟩:=t2 B1 g1
      exact⟨t3,Blk.HZ t4 g2⟩
  · exact h
theorem Oy {w0:World} {fp0:G0} {bs:Cell→Prop} {n:Nat} {a:Act} {w:World}:∀(l:List (Bool× Nat× List Nat)) {st:St},Rl w0 fp0 bs n st a w→Rl w0 fp0 bs n (Tv l st) a w
  |[],st,h=>h
  | x :: l, st, h => by
    refine Oy l ?_
    unfold XZ
    split
    · split
      · cases x.1
        · exact Yy _ h
        · exact Yz _ h
      · exact h
    · exact h
end Go.Proofs.Ev
set_option linter.unusedVariables false
namespace Go.Proofs.Ev
variable [Tok]
set_option linter.unusedSectionVars false
theorem Wb {j k:Nat} {d:List Nat} (h:mem k d=true):mem k (cond (mem j d) d (d++[j]))=true:=by
  cases mem j d
  · rw[cond_false,N5,h];rfl
  · exact h
section
variable {w:World} {H:GV} {pl:Pl}
theorem PB (hr:Hq H pl w) {n:Nat} (hn:look H n=none) (sh:Bool) (t:Ty):
    Hp H (H++[(n,.arr (cond sh (some []) none) t [])]) ([],[]) pl (pl.set n (.slice none 0 0) fun _=>False) w w:=
  TG hr hn (HG.refl w) (fun p u hu=>⟨hu,rfl⟩) (fun p h=>h.elim) fun _=>by
    refine HV.J7 ?_
    simp only[Pl.set,if_true]
    exact Row.nil _
theorem Wc (hr:Hq H pl w) {n:Nat} (hn:look H n=none) (c:Co) {v:SV} {u:Value} (hv:GG w H pl v u):
    ∃pl',Hp H (H++GY n (coV n H c v).2) ([],[]) pl pl' w w∧GG w (H++GY n (coV n H c v).2) pl' (coV n H c v).1 u:=by
  have still:∀{v':SV},GG w H pl v' u→∃pl',Hp H (H++GY n []) ([],[]) pl pl' w w∧GG w (H++GY n []) pl' v' u:=fun{v'} h=>by
    simp only[GY,List.append_nil]
    exact⟨pl,Hp.refl hr,h⟩
  cases c with
  | Vr sh t =>
    cases v with
    | H5 =>
      have hst:=PB hr hn sh t
      refine⟨_,hst,?_⟩
      cases hv
      have:=GG.own (w:=w) (H:=H++[(n,.arr (cond sh (some []) none) t [])]) (pl:=pl.set n (.slice none 0 0) fun _=>False) n (cond sh (some []) none) t [] (by rw[GR,hn,GK];simp)
      simpa[Pl.set,coV,GY]using this
    |_=>exact still hv
  | ro t =>
    simp only[coV]
    cases hl:v.list H t with
    |none=>exact still hv
    |some p=>exact still (.r _ _ _ (La hr hl hv))
  |drop=>exact still (.undef _)
  | dep j =>
    cases v with
    | r d x =>
      cases hv with
      |r _ _ _ hx=>exact still (.r _ _ _ (hx.frame fun p u hp hu=>⟨IJ (fun k hk=>Wb hk) hp,hu⟩))
    |_=>exact still hv
  |Yf t j=>exact still hv
theorem SQ (hr:Hq H pl w) {i j:Nat} {cs:List SV} {x v:SV} (hl:look H i=some (.box cs)) (hj:cs[j]? =some x) (hx:∀u,GG w H pl x u→GG w H pl v u):
    Hp H (put H i (.box (cs.set j v))) ([],[]) pl pl w w:=by
  have hlk:∀k B,look (put H i (.box (cs.set j v))) k=some B→(k=i∧B=.box (cs.set j v))∨(k≠i∧look H k=some B):=fun k B h=>by
    rw[HX]at h
    by_cases e:i=k
    · subst e;simp only[if_true,Option.some.injEq]at h;exact .inl ⟨rfl,h.symm⟩
    · rw[if_neg e]at h;exact .inr ⟨fun h=>e h.symm,h⟩
  have hk:JF ([],[]) w H pl w (put H i (.box (cs.set j v))) pl:=by
    refine⟨fun k B hB _=>?_,fun d p u _ h hp=>⟨⟨h.1,fun k B hB hm=>?_⟩,hp⟩⟩
    · rw[HX]
      by_cases e:i=k
      · subst e
        rw[hl]at hB;cases hB
        exact⟨_,by simp;rfl,by simp[Blk.JP],rfl⟩
      · rw[if_neg e];exact⟨B,hB,B.Hz,rfl⟩
    · rcases hlk k B hB with⟨rfl,rfl⟩|⟨_,hB⟩
      · exact h.2 k _ hl fun _=>rfl
      · exact h.2 k B hB hm
  refine⟨⟨fun k B hB=>?_,fun k k' B B' p h1 h2=>?_,fun k B p hB=>?_,hr.nb⟩,hk,rfl,HG.refl w,fun p u hp hno=>⟨fun k B hB=>?_,hp,rfl⟩⟩
  · rcases hlk k B hB with⟨rfl,rfl⟩|⟨_,hB⟩
    · obtain⟨b,o,q1,q2,q3⟩:=hr.blk k _ hl
      refine⟨b,o,q1,fun p=>by rw[q2,List.length_set],fun m y hy=>?_⟩
      rw[List.getElem?_set]at hy
      by_cases e:j=m
      · subst e
        obtain⟨u,g1,g2,g3,g4⟩:=q3 j x hj
        simp only[if_true]at hy
        split at hy
        · cases hy;exact⟨u,g1,g2,g3,(hx u g4).NC hk⟩
        · exact nomatch hy
      · rw[if_neg e]at hy
        obtain⟨u,g1,g2,g3,g4⟩:=q3 m y hy
        exact⟨u,g1,g2,g3,g4.NC hk⟩
    · exact(hr.blk k B hB).HL hk rfl (fun _=>Iff.rfl) (fun p u _ hu=>⟨hu,rfl⟩) B.HA
  · have f1:∃B,look H k=some B:=by
      rcases hlk k B h1 with⟨rfl,rfl⟩|⟨_,h1⟩
      · exact⟨_,hl⟩
      · exact⟨_,h1⟩
    have f2:∃B,look H k'=some B:=by
      rcases hlk k' B' h2 with⟨rfl,rfl⟩|⟨_,h2⟩
      · exact⟨_,hl⟩
      · exact⟨_,h2⟩
    obtain⟨_,f1⟩:=f1
    obtain⟨_,f2⟩:=f2
    exact hr.dis k k' _ _ p f1 f2
  · rcases hlk k B hB with⟨rfl,rfl⟩|⟨_,hB⟩
    · exact hr.ob k _ p hl
    · exact hr.ob k B p hB
  · rcases hlk k B hB with⟨rfl,rfl⟩|⟨_,hB⟩
    · exact hno k _ hl
    · exact hno k B hB
end
theorem Hp.Zr {H H' H'':GV} {pl pl' pl'':Pl} {w w' w'':World} (h:Hp H H' ([],[]) pl pl' w w') (g:Hp H' H'' ([],[]) pl' pl'' w' w''):Hp H H'' ([],[]) pl pl'' w w'':=by
  refine⟨g.hr,⟨fun i B hB hm=>?_,fun d p u hd ho hp=>?_⟩,g.bs.trans h.bs,h.gr.trans g.gr,fun p u hp hno=>?_⟩
  · obtain⟨B',q1,q2,q3⟩:=h.kp.k1 i B hB hm
    obtain⟨B'',r1,r2,r3⟩:=g.kp.k1 i B' q1 hm
    exact⟨B'',r1,Blk.HZ q2 r2,r3.trans q3⟩
  · obtain⟨q1,q2⟩:=h.kp.k2 d p u hd ho hp
    exact g.kp.k2 d p u hd q1 q2
  · obtain⟨q1,q2,q3⟩:=h.fr p u hp hno
    obtain⟨r1,r2,r3⟩:=g.fr p u q2 q1
    exact⟨r1,r2,r3.trans q3⟩
theorem Rel.ghost {w0:World} {fp0:G0} {st:St} {pl pl':Pl} {a:Act} {w:World} {H':GV} {nid':Nat} (h:Rel w0 fp0 st pl a w) (hs:Hp st.heap H' ([],[]) pl pl' w w) (hn:st.nid≤nid')
    (hf:∀i,nid'≤i→look H' i=none) (hb:∀i B,i<st.nid→look H' i=some B→∃B',look st.heap i=some B'):Rel w0 fp0 {st with heap:=H',nid:=nid'} pl' a w:=
  ⟨hs.hr,fun t v hv=>(h.sl t v hv).NC hs.kp,h.sz,h.df,hf,h.gr,fun p u hp hno=>by
    obtain⟨g1,g2,g3⟩:=h.fr p u hp hno
    obtain⟨f1,f2,f3⟩:=hs.fr p u g2 g1
    exact⟨f1,f2,f3.trans g3⟩,h.gk.step hs.kp hn fun k i B hki hB=>⟨rfl,hb i B (h.gk k i hki).1 hB⟩⟩
theorem Rt {n i:Nat} {bs:List Blk} (h:i<n):look (GY n bs) i=none:=by rw[Ha,if_neg (by omega)]
theorem Ng {n i:Nat} {bs:List Blk} (h:n+bs.length≤i):look (GY n bs) i=none:=by rw[Ha,if_pos (by omega),List.getElem?_eq_none (by omega)]
theorem Wd {w0:World} {fp0:G0} {bs:Cell→Prop} {n:Nat} {st:St} {a:Act} {w:World} (h:Rl w0 fp0 bs n st a w) (x:Ht× Co):Rl w0 fp0 bs n (Q0 st x) a w:=by
  obtain⟨pl,hr,hb,hnn⟩:=h
  have hfresh:=hr.fresh st.nid (Nat.le_refl _)
  have app:∀(bl:List Blk) {pl':Pl},Hp st.heap (st.heap++GY st.nid bl) ([],[]) pl pl' w w→Rel w0 fp0 {st with heap:=st.heap++GY st.nid bl,nid:=st.nid+bl.length} pl' a w:=fun bl pl' hs=>
    hr.ghost hs (by simp) (fun i hi=>by rw[GR,hr.fresh i (by omega),Ng hi];rfl) fun i B hi hB=>by
      rw[GR,Rt hi,Option.or_none]at hB;exact⟨B,hB⟩
  have G2:∀{st1:St} {pl':Pl} {t:Nat} {v:SV},Rel w0 fp0 st1 pl' a w→st1.G2=st.G2→GG w st1.heap pl' v (a.tmps.getD t undef)→Rel w0 fp0 {st1 with G2:=put st.G2 t v} pl' a w:=fun{st1 pl' t v} h1 e hv=>
    ⟨h1.hr,fun t' v' h'=>by
      rw[HX]at h'
      by_cases c:t=t'
      · subst c;simp at h';subst h';exact hv
      · rw[if_neg c]at h';exact h1.sl t' v' (by rw[e];exact h'),h1.sz,h1.df,h1.fresh,h1.gr,h1.fr,h1.gk⟩
  obtain⟨wh,c⟩:=x
  have box:∀i j,Rl w0 fp0 bs n (W6 st i j c) a w:=fun i j=>by
    unfold W6
    split
    · rename_i cs hl
      split
      · rename_i v hj
        have hi:i<st.nid:=by
          by_cases c:i<st.nid
          · exact c
          · rw[hr.fresh i (by omega)]at hl;exact nomatch hl
        have hv:∃u,GG w st.heap pl v u:=by
          obtain⟨b,o,_,_,q3⟩:=hr.hr.blk i _ hl
          obtain⟨u,_,_,_,h⟩:=q3 j v hj
          exact⟨u,h⟩
        have key:∃pl',Hp st.heap (st.heap++GY st.nid (coV st.nid st.heap c v).2) ([],[]) pl pl' w w∧
            ∀u,GG w (st.heap++GY st.nid (coV st.nid st.heap c v).2) pl' v u→GG w (st.heap++GY st.nid (coV st.nid st.heap c v).2) pl' (coV st.nid st.heap c v).1 u:=by
          have still:(coV st.nid st.heap c v).2=[]→(∀u,GG w st.heap pl v u→GG w st.heap pl (coV st.nid st.heap c v).1 u)→
              ∃pl',Hp st.heap (st.heap++GY st.nid (coV st.nid st.heap c v).2) ([],[]) pl pl' w w∧
              ∀u,GG w (st.heap++GY st.nid (coV st.nid st.heap c v).2) pl' v u→GG w (st.heap++GY st.nid (coV st.nid st.heap c v).2) pl' (coV st.nid st.heap c v).1 u:=fun e h=>by
            rw[e];simp only[GY,List.append_nil]
            exact⟨pl,Hp.refl hr.hr,h⟩
          cases c with
          | Vr sh t =>
            cases v with
            | H5 =>
              obtain⟨u,hu⟩:=hv
              refine⟨_,PB hr.hr hfresh sh t,fun u hu=>?_⟩
              cases hu
              have:=GG.own (w:=w) (H:=st.heap++[(st.nid,.arr (cond sh (some []) none) t [])]) (pl:=pl.set st.nid (.slice none 0 0) fun _=>False) st.nid (cond sh (some []) none) t [] (by rw[GR,hfresh,GK];simp)
              simpa[Pl.set,coV,GY]using this
            |_=>exact still rfl fun u h=>h
          | ro t =>
            cases hq:v.list st.heap t with
            |none=>exact still (by simp only[coV,hq]) fun u h=>by simp only[coV,hq];exact h
            |some p=>exact still (by simp only[coV,hq]) fun u h=>by simp only[coV,hq];exact .r _ _ _ (La hr.hr hq h)
          |drop=>exact still rfl fun u _=>.undef _
          | dep j =>
            cases v with
            |r d x=>exact still rfl fun u hv=>by cases hv with|r _ _ _ hx=>exact .r _ _ _ (hx.frame fun p u hp hu=>⟨IJ (fun k hk=>Wb hk) hp,hu⟩)
            |_=>exact still rfl fun u h=>h
          |Yf t j=>exact still rfl fun u h=>h
        obtain⟨pl',h1,h2⟩:=key
        have hl':look (st.heap++GY st.nid (coV st.nid st.heap c v).2) i=some (.box cs):=by rw[GR,hl];rfl
        have h3:=h1.Zr (SQ h1.hr hl' hj h2)
        refine⟨pl',hr.ghost h3 (by simp) (fun k hk=>?_) (fun k B hk hB=>?_),h1.bs.trans hb,hnn⟩
        · rw[HX,if_neg (by omega),GR,hr.fresh k (by omega),Ng hk];rfl
        · rw[HX]at hB
          by_cases e:i=k
          · subst e;exact⟨_,hl⟩
          · rw[if_neg e,GR,Rt hk,Option.or_none]at hB;exact⟨B,hB⟩
      · exact⟨pl,hr,hb,hnn⟩
    · exact⟨pl,hr,hb,hnn⟩
  cases wh with
  | slot t =>
    simp only[Q0]
    cases hl:look st.G2 t with
    |none=>exact⟨pl,hr,hb,hnn⟩
    | some v =>
      obtain⟨pl',h1,h2⟩:=Wc hr.hr hfresh c (hr.sl t v hl)
      exact⟨pl',G2 (app _ h1) rfl h2,h1.bs.trans hb,hnn⟩
  | cell t j =>
    simp only[Q0]
    split
    · rename_i cs hl
      split
      · rename_i v hj
        have hv:=hr.sl t _ hl
        generalize hu:a.tmps.getD t undef=u at hv
        cases hv with
        | agg _ vs hlen hone hall =>
          have hjl:j<vs.size:=by rw[←hlen];exact(List.getElem?_eq_some_iff.1 hj).1
          obtain⟨pl',h1,h2⟩:=Wc hr.hr hfresh c (hall j v vs[j] hj (by simp))
          refine⟨pl',G2 (app _ h1) rfl ?_,h1.bs.trans hb,hnn⟩
          rw[hu]
          refine .agg _ _ (by simp[hlen]) hone fun m y z hy hz=>?_
          rw[List.getElem?_set]at hy
          by_cases e:j=m
          · subst e
            simp only[if_true]at hy
            split at hy
            · cases hy
              have:vs[j]=z:=by have:=Array.getElem?_eq_getElem hjl;rw[this]at hz;exact Option.some.inj hz
              rw[←this];exact h2
            · exact nomatch hy
          · rw[if_neg e]at hy
            exact(hall m y z hy hz).NC h1.kp
      · exact⟨pl,hr,hb,hnn⟩
    · exact⟨pl,hr,hb,hnn⟩
  |box i j=>exact box i j
  | Z3 t j =>
    simp only[Q0]
    split
    · exact box _ j
    · exact⟨pl,hr,hb,hnn⟩
  | gh k =>
    refine⟨pl,⟨hr.hr,hr.sl,hr.sz,hr.df,hr.fresh,hr.gr,hr.fr,fun j i hj=>?_⟩,hb,hnn⟩
    have hj:(st.gh.set k none)[j]? =some (some i):=hj
    rw[List.getElem?_set]at hj
    by_cases e:k=j
    · rw[if_pos e]at hj
      split at hj<;>exact nomatch hj
    · rw[if_neg e]at hj;exact hr.gk j i hj
theorem Xw {w0:World} {fp0:G0} {bs:Cell→Prop} {n:Nat} {st:St} {a:Act} {w:World} (h:Rl w0 fp0 bs n st a w) (x:Ht× Co):Rl w0 fp0 bs n (Y8 st x) a w:=Wd h _
theorem NN {w0:World} {fp0:G0} {bs:Cell→Prop} {n:Nat} {a:Act} {w:World}:∀(l:List (Ht× Co)) {st:St},Rl w0 fp0 bs n st a w→Rl w0 fp0 bs n (Vs l st) a w
  |[],_,h=>h
  |x::l,_,h=>NN l (Xw h x)
end Go.Proofs.Ev
namespace Go.Proofs.Ev
variable [Tok]
set_option linter.unusedSectionVars false
section
variable {ρ:Type} {E:Env} {w0:World} {fp0:G0} {bs:Cell→Prop}
theorem Rl.put {n:Nat} {st:St} {a:Act} {w:World} {t:Nat} {v:SV} (h:Rl w0 fp0 bs n st a w) (hv:∀pl,GG w st.heap pl v (a.tmps.getD t undef)):Rl w0 fp0 bs n {st with G2:=put st.G2 t v} a w:=by
  obtain⟨pl,h,hb,hn⟩:=h
  refine⟨pl,⟨h.hr,fun t' v' h'=>?_,h.sz,h.df,h.fresh,h.gr,h.fr,h.gk⟩,hb,hn⟩
  rw[HX]at h'
  by_cases e:t=t'
  · subst e;simp at h';subst h';exact hv pl
  · rw[if_neg e]at h';exact h.sl t' v' h'
theorem SR (hE:I8 E) {n:Nat} {o:Oper} {st:St} {a:Act} {w:World} {K:St→Option ρ} {out:ρ} {next:Act→World→Prop} {Q:Exit→Act→World→Prop}
    (hr:Rl w0 fp0 bs n st a w) (h:YX E o st K=some out) (hK:∀st' a' w',K st'=some out→Rl w0 fp0 bs n st' a' w'→next a' w'):o.wp E.P a w next Q:=by
  obtain⟨pl,hr,hb,hn⟩:=hr
  exact UH hE hr h fun st' pl' a' w' hk hb' hn' hr'=>hK st' a' w' hk ⟨pl',hr',hb'.trans hb,hn'.trans hn⟩
theorem SS {n:Nat} {o:Oper} {st:St} {a:Act} {w:World} {K:St→Option ρ} {out:ρ} {next:Act→World→Prop}
    (hr:Rl w0 fp0 bs n st a w) (h:Q4 o st K=some out) (hK:∀st' a' w',K st'=some out→Rl w0 fp0 bs n st' a' w'→next a' w'):next (a.put o.dst undef) w:=by
  simp only[Q4,Option.bind_eq_some_iff]at h
  obtain⟨s,hs,h⟩:=h
  obtain⟨pl,hr,hb,hn⟩:=hr
  exact hK _ _ _ h ⟨pl,⟨hr.hr,Iv.put hr.sl hr.sz hs (.tup [] #[] rfl fun j x v hx _=>by simp at hx),by rw[Act.Qf];exact hr.sz,by rw[Act.VG];exact hr.df,hr.fresh,hr.gr,hr.fr,hr.gk⟩,hb,hn⟩
theorem Ja (hE:I8 E) {n:Nat} {ops:Array Oper} {Q:Exit→Act→World→Prop} {out:ρ}:∀(l:List Oper) (st:St) (a:Act) (w:World) (K:St→Option ρ),
    Rl w0 fp0 bs n st a w→P1 E ops.toList l st K=some out→(∀st' a' w',K st'=some out→Rl w0 fp0 bs n st' a' w'→Q .normal a' w')→wpList E.P ops Q l a w
  |[],st,a,w,K,hr,h,hK=>hK st a w h hr
  | o :: rest, st, a, w, K, hr, h, hK => by
    simp only[P1]at h
    cases hg:o.guard with
    | none =>
      simp only[hg]at h
      refine wpList_plain hg fun K' hK'=>SR hE hr h fun st' a' w' h' hr'=>hK' _ _ (Ja hE rest st' a' w' K hr' h' hK)
    | some jw =>
      obtain⟨j,want⟩:=jw
      simp only[hg,Option.bind_eq_some_iff]at h
      obtain⟨t,ht,v,hv,h⟩:=h
      split at h
      · have hy:yielded ops a.tmps j=none:=by
          simp only[Yg,Option.bind_eq_some_iff]at ht
          obtain⟨oj,hoj,hd⟩:=ht
          have hoj':ops[j]? =some oj:=by rwa [Array.getElem?_toList]at hoj
          have hval:∃vs,a.tmps.getD t undef=.tuple vs:=by
            obtain⟨pl,hr,_,_⟩:=hr
            have:=hr.sl t _ hv
            generalize a.tmps.getD t undef=u at this
            cases this with
            |tup _ vs=>exact⟨vs,rfl⟩
          obtain⟨vs,hval⟩:=hval
          rw[Array.getD_eq_getD_getElem?]at hval
          cases hq:a.tmps[t]? with
          |none=>simp[yielded,hoj',hd,hq]
          |some x=>rw[hq]at hval;simp[yielded,hoj',hd,hq,show x=.tuple vs from hval]
        refine wpList_step fun K' hK'=>?_
        simp only[Region.wanted,hg,hy]
        rw[if_neg (by simp)]
        exact SS (next:=K') hr h fun st' a' w' h' hr'=>hK' _ _ (Ja hE rest st' a' w' K hr' h' hK)
      simp only[Option.bind_eq_some_iff]at h
      obtain⟨b,hb,h⟩:=h
      have hval:a.tmps.getD t undef=.bool b:=by
        obtain⟨pl,hr,_,_⟩:=hr
        exact Sy hb (hr.sl t v hv)
      have hy:yielded ops a.tmps j=some b:=by
        simp only[Yg,Option.bind_eq_some_iff]at ht
        obtain⟨oj,hoj,hd⟩:=ht
        have hoj':ops[j]? =some oj:=by rwa [Array.getElem?_toList]at hoj
        have hg:a.tmps[t]? =some (.bool b):=by
          rw[Array.getD_eq_getD_getElem?]at hval
          cases hq:a.tmps[t]? with
          |none=>rw[hq]at hval;exact nomatch hval
          |some x=>rw[hq]at hval;exact congrArg some hval
        simp[yielded,hoj',hd,hg]
      refine wpList_step fun K' hK'=>?_
      simp only[Region.wanted,hg,hy]
      have hput:∀b',b'=b→Rl w0 fp0 bs n {st with G2:=put st.G2 t (.b b')} a w:=fun b' e=>hr.put fun pl=>by rw[hval,e];exact JS
      cases b<;>simp only[cond_true,cond_false]at h
      · have hr':=hput false rfl
        cases want<;>simp only[cond_true,cond_false]at h
        · rw[if_pos (by rfl)]
          exact SR hE hr' h fun st' a' w' h' hr'=>hK' _ _ (Ja hE rest st' a' w' K hr' h' hK)
        · rw[if_neg (by simp)]
          exact SS (next:=K') hr' h fun st' a' w' h' hr'=>hK' _ _ (Ja hE rest st' a' w' K hr' h' hK)
      · have hr':=hput true rfl
        cases want<;>simp only[cond_true,cond_false]at h
        · rw[if_neg (by simp)]
          exact SS (next:=K') hr' h fun st' a' w' h' hr'=>hK' _ _ (Ja hE rest st' a' w' K hr' h' hK)
        · rw[if_pos (by rfl)]
          exact SR hE hr' h fun st' a' w' h' hr'=>hK' _ _ (Ja hE rest st' a' w' K hr' h' hK)
def Ex.up:Ex→Exit
  |.normal=>.normal
  |.exit id=>.exit id
  |.ret=>.ret
def Sound (P:Program) (c:Code) (f:Ev ρ):Prop:=
  ∀ (w0 : World) (fp0 : G0) (bs : Cell → Prop) (n : Nat) (st : St) (a : Act) (w : World) (K : Ex → St → Option ρ) (out : ρ) (Q : Exit → Act → World → Prop),
    Rl w0 fp0 bs n st a w→f st K=some out→(∀e st' a' w',K e st'=some out→Rl w0 fp0 bs n st' a' w'→Q e.up a' w')→c.wp P Q a w
def Js (E:Env) (LP:Nat→Ev ρ→Ev ρ):Nat→Code→Prop
  |cb,.seq a b=>Js E LP cb a∧Js E LP cb b
  |cb,.cond _ a b=>Js E LP cb a∧Js E LP cb b
  |_,.block id c=>Js E LP id c
  |cb,.scope c=>Js E LP cb c
  |cb,.loop c=>Sound E.P (.loop c) (LP cb fun st K=>ev E LP cb c st K)
  |_,_=>True
theorem Ru {n:Nat} {st:St} {a:Act} {w:World} {c:Operand} {b:Bool} (h:Rl w0 fp0 bs n st a w) (hc:a.eval c=.bool b):Rl w0 fp0 bs n (refine c b st) a w:=by
  cases c with
  |tmp t=>exact h.put fun pl=>by rw[show a.tmps.getD t undef=.bool b from hc];exact JS
  |_=>exact h
theorem Rv {n:Nat} {st:St} {a:Act} {w:World} {K:St→Option ρ} {out:ρ} (h:Tw E K st=some out) (hr:Rl w0 fp0 bs n st a w):∃st',K st'=some out∧Rl w0 fp0 bs n st' a w:=by
  unfold Tw at h
  cases ht:E.tak<;>simp only[ht,cond_true,cond_false]at h
  · exact⟨_,h,hr⟩
  obtain⟨H',h1,h2⟩:=Ol h
  refine⟨_,h1,?_⟩
  obtain⟨pl,hr,hb,hn⟩:=hr
  refine⟨pl,⟨h2.Zo hr.hr,fun k v hv=>(hr.sl k v hv).NC h2.keeps,hr.sz,hr.df,fun k hk=>?_,hr.gr,fun p u hp hno=>?_,fun k j hk=>?_⟩,hb,hn⟩
  · rcases h2 k with⟨_,g⟩|⟨B,B',g1,_⟩
    · exact g
    · rw[hr.fresh k hk]at g1;exact nomatch g1
  · obtain⟨f1,f2,f3⟩:=hr.fr p u hp hno
    exact⟨fun k B hB=>by
      obtain⟨B1,g1,_⟩:=h2.bwd hB
      exact f1 k B1 g1,f2,f3⟩
  · obtain⟨t1,t2⟩:=hr.gk k j hk
    refine⟨t1,fun B hB=>?_⟩
    obtain⟨B1,g1,g2⟩:=h2.bwd hB
    obtain⟨t3,t4⟩:=t2 B1 g1
    exact⟨t3,Blk.HZ t4 g2.JP⟩
theorem Hk (hE:I8 E) {LP:Nat→Ev ρ→Ev ρ}:∀(c:Code) (cb:Nat),Js E LP cb c→Sound E.P c (ev E LP cb c)
  |.skip,cb,_=>fun w0 fp0 bs n st a w K out Q hr h hK=>wp_skip (hK .normal st a w h hr)
  |.label l,cb,_=>fun w0 fp0 bs n st a w K out Q hr h hK=>wp_label (hK .normal st a w h hr)
  |.region id ops false,cb,_=>fun w0 fp0 bs n st a w K out Q hr h hK=>wp_region_list (Ja hE _ _ a w _ (NN _ (Oy _ hr)) h fun st' a' w' h' hr'=>by
      obtain⟨st2,h2,hr2⟩:=Rv h' hr'
      exact hK .normal st2 a' w' h2 hr2)
  |.region id ops true,cb,_=>fun w0 fp0 bs n st a w K out Q hr h hK=>SP hE (NN _ (Oy _ hr)) h fun st' a' w' h' hr'=>by
      obtain⟨st2,h2,hr2⟩:=Rv h' hr'
      exact hK .normal st2 a' w' h2 hr2
  | .seq x y, cb, hg => fun w0 fp0 bs n st a w K out Q hr h hK => wp_seq <|
    Hk hE x cb hg.1 w0 fp0 bs n st a w _ out _ hr h fun e st' a' w' h' hr'=>match e,h' with
      |.normal,h'=>Hk hE y cb hg.2 w0 fp0 bs n st' a' w' K out Q hr' h' hK
      |.exit _,h'=>hK _ st' a' w' h' hr'
      |.ret,h'=>hK _ st' a' w' h' hr'
  | .cond c x y, cb, hg => fun w0 fp0 bs n st a w K out Q hr h hK => by
    simp only[ev,Option.bind_eq_some_iff]at h
    obtain⟨v,hv,b,hb,h⟩:=h
    have hval:a.eval c=.bool b:=by
      obtain⟨pl,hr,_,_⟩:=hr
      exact Sy hb (G1 hr.sl hv)
    refine wp_cond hval ?_
    cases b
    · exact Hk hE y cb hg.2 w0 fp0 bs n _ a w K out Q (Ru hr hval) h hK
    · exact Hk hE x cb hg.1 w0 fp0 bs n _ a w K out Q (Ru hr hval) h hK
  | .block id c, cb, hg => fun w0 fp0 bs n st a w K out Q hr h hK => wp_block <|
    Hk hE c id hg w0 fp0 bs n st a w _ out _ hr h fun e st' a' w' h' hr'=>match e,h' with
      |.normal,h'=>hK .normal st' a' w' h' hr'
      | .exit j, h' => by
        simp only[inBlock]at h'
        show Exit.inBlock id Q (.exit j) a' w'
        cases hj:Nat.beq j id<;>simp only[hj,cond_true,cond_false]at h'
        · have:¬j=id:=fun e=>by subst e;simp at hj
          simp only[Exit.inBlock,if_neg this]
          exact hK (.exit j) st' a' w' h' hr'
        · simp only[Exit.inBlock,if_pos (Nat.eq_of_beq_eq_true hj)]
          exact hK .normal st' a' w' h' hr'
      |.ret,h'=>hK .ret st' a' w' h' hr'
  |.loop c,cb,hg=>hg
  |.exit id,cb,_=>fun w0 fp0 bs n st a w K out Q hr h hK=>wp_exit (hK (.exit id) st a w h hr)
  | .scope c, cb, hg => fun w0 fp0 bs n st a w K out Q hr h hK => wp_scope_straight <|
    Hk hE c cb hg w0 fp0 bs n st a w K out _ hr h fun e st' a' w' h' hr'=>match e,h' with
      |.normal,h'=>hK .normal st' a' w' h' hr'
      |.exit j,h'=>hK (.exit j) st' a' w' h' hr'
      |.ret,h'=>hK .ret st' a' w' h' hr'
  |.ret,cb,_=>fun w0 fp0 bs n st a w K out Q hr h hK=>wp_ret (hK .ret st a w h hr)
  |.rangeFunc _ _ _ _,cb,_=>fun w0 fp0 bs n st a w K out Q hr h hK=>nomatch h
  |.goto _,cb,_=>fun w0 fp0 bs n st a w K out Q hr h hK=>nomatch h
  |.refuse _,cb,_=>fun w0 fp0 bs n st a w K out Q hr h hK=>nomatch h
end
end Go.Proofs.Ev
namespace Go.Proofs.Ev
variable [Tok]
set_option linter.unusedSectionVars false
inductive Arg where
  |one (r:R)
  |agg (rs:List R)
  |fn (f:Fn) (first cap:List R)
def Arg.sv:Arg→SV
  |.one r=>.r [] r
  |.agg rs=>.agg (rs.map (SV.r []))
  |.fn f a b=>.fn f (a.map (SV.r [])) (b.map (SV.r []))
def Xx (w:World) (ok:Cell→Prop) (rs:List R) (vs:Array Value):Prop:=
  rs.length=vs.size∧∀(j:Nat) (r:R) (u:Value),rs[j]? =some r→vs[j]? =some u→I4 w ok r u
def MB (w:World) (ok:Cell→Prop):Arg→Value→Prop
  |.one r,v=>I4 w ok r v
  |.agg rs,v=>∃vs,v=.agg vs∧Xx w ok rs vs
  |.fn f a b,v=>∃us vs,v=.func f us vs∧Xx w ok a us∧Xx w ok b vs
def Lk (P:Program) (g:FuncId) (args:List Arg) (out:Out):Prop:=
  TJ P g∧∀(w:World) (us:Array Value) (ok:Cell→Prop),args.length=us.size→(∀(j:Nat) (x:Arg) (u:Value),args[j]? =some x→us[j]? =some u→MB w ok x u)→
    Calls P g us w fun e w'=>∃u pl,e=.returned u∧Hq (GY 0 out.2) pl w'∧GG w' (GY 0 out.2) pl out.1 u∧pl.base=(fun p=>ok p∨w.at? p=none)∧
      (∀p x,w.at? p=some x→w'.at? p=some x∧w'.HW p=w.HW p)∧(∀i B p,look (GY 0 out.2) i=some B→pl.fp i p→w.at? p=none)∧HG w w'
def ZX (P:Program) (st:St):ResultVar→Option SV
  |.tmp t=>look st.G2 t
  |.cell a T=>(look st.G2 a).bind fun p=>(JB st.heap p).bind fun cs=>Jd P T cs
def ZI (P:Program) (st:St):List ResultVar→Option (List SV)
  |[]=>some []
  |r::l=>(ZX P st r).bind fun v=>(ZI P st l).bind fun vs=>some (v::vs)
def X3 (P:Program) (fn:Func) (st:St):Option SV:=
  (ZI P st fn.results.toList).bind fun vs=>match vs with
    |[v]=>some v
    |vs=>some (.tup vs)
inductive RT where
  |sc
  |own (t:Ty)
  |shl (t:Ty)
  |ro (t:Ty)
  |agg (l:List RT)
  |tup (l:List RT)
  |fn (as bs:List RT)
  |ptr
def posOf (i:Nat):List (Option Nat)→Nat→Option Nat
  |[],_=>none
  |none::l,n=>posOf i l (n+1)
  |some k::l,n=>cond (Nat.beq k i) (some n) (posOf i l (n+1))
mutual
def RT.UO:RT→SV→Option (List (Bool× Ty× Option Nat))
  |.sc,_=>some []
  |.ro _,_=>some []
  |.own t,.own i=>some [(false,t,some i)]
  |.own t,.H5=>some [(false,t,none)]
  |.shl t,.own i=>some [(true,t,some i)]
  |.shl t,.H5=>some [(true,t,none)]
  |.agg l,.agg cs=>Qv l cs
  |.tup l,.tup cs=>Qv l cs
  |.fn as bs,.fn _ a b=>(Qv as a).bind fun x=>(Qv bs b).bind fun y=>some (x++y)
  |.ptr,.ptr _ 0 _=>some []
  |_,_=>none
def Qv:List RT→List SV→Option (List (Bool× Ty× Option Nat))
  |[],[]=>some []
  |r::l,v::cs=>(r.UO v).bind fun a=>(Qv l cs).bind fun b=>some (a++b)
  |_,_=>none
end
def Jb:List (Bool× Ty× Option Nat)→List Nat
  |[]=>[]
  |(_,_,some i)::l=>i::Jb l
  |(_,_,none)::l=>Jb l
mutual
def RT.out (h:GV) (L:List Nat) (gh:List (Option Nat)):RT→Nat→SV→Option (SV× Nat)
  |.sc,k,.r _ (.int kk n)=>some (.r [] (.int kk n),k)
  |.sc,k,.r _ (.bool b)=>some (.r [] (.bool b),k)
  |.sc,k,.r _ (.str l)=>some (.r [] (.str l),k)
  |.sc,k,.H5=>some (.H5,k)
  |.own _,k,_=>some (.own k,k+1)
  |.shl _,k,_=>some (.own k,k+1)
  |.ro t,k,v=>(v.list h t).bind fun p=>cond (hit L p.1) none (some (.r [] (.sl t p.2),k))
  |.agg l,k,.agg cs=>(WY h L gh l k cs).bind fun p=>some (.agg p.1,p.2)
  |.tup l,k,.tup cs=>(WY h L gh l k cs).bind fun p=>some (.tup p.1,p.2)
  |.fn as bs,k,.fn f a b=>(WY h L gh as k a).bind fun p=>(WY h L gh bs p.2 b).bind fun q=>some (.fn f p.1 q.1,q.2)
  |.ptr,k,.ptr i 0 o=>(posOf i gh 0).bind fun j=>some (.ptr j 0 o,k)
  |_,_,_=>none
def WY (h:GV) (L:List Nat) (gh:List (Option Nat)):List RT→Nat→List SV→Option (List SV× Nat)
  |[],k,[]=>some ([],k)
  |r::l,k,v::cs=>(r.out h L gh k v).bind fun p=>(WY h L gh l p.2 cs).bind fun q=>some (p.1::q.1,q.2)
  |_,_,_=>none
end
def placeOf (i:Nat):List Nat→Nat→Option Nat
  |[],_=>none
  |k::l,n=>cond (Nat.beq k i) (some n) (placeOf i l (n+1))
def nodup:List Nat→Bool
  |[]=>true
  |k::l=>cond (mem k l) false (nodup l)
def MC (h:GV) (L:List Nat):Bool× Ty× Option Nat→Option Blk
  |(false,t,none)=>some (.arr none t [])
  |(true,t,none)=>some (.arr (some []) t [])
  | (false, t, some i) => match look h i with
    |some (.arr none t' xs)=>cond (decide (t'=t)) (some (.arr none t' xs)) none
    |_=>none
  | (true, t, some i) => match look h i with
    |some (.arr (some d) t' xs)=>cond (hit L d) none (cond (decide (t'=t)) (some (.arr (some []) t' xs)) none)
    |_=>none
def Kb (h:GV) (L:List Nat):List (Bool× Ty× Option Nat)→Option (List Blk)
  |[]=>some []
  |i::l=>(MC h L i).bind fun b=>(Kb h L l).bind fun l=>some (b::l)
def canon (rt:RT) (h:GV) (v:SV):Option Out:=
  (rt.UO v).bind fun s=>cond (nodup (Jb s)) ((Kb h (Jb s) s).bind fun bs=>(rt.out h (Jb s) [] 0 v).bind fun p=>some (p.1,bs)) none
def fin {ρ:Type} (P:Program) (fn:Func) (rt:RT) (dec:Out→Option ρ):Ex→St→Option ρ
  |.exit _,_=>none
  |.normal,st=>(X3 P fn st).bind fun v=>(canon rt st.heap v).bind dec
  |.ret,st=>(X3 P fn st).bind fun v=>(canon rt st.heap v).bind dec
def Rw:Nat→List Arg→List (Nat× SV)
  |_,[]=>[]
  |n,a::l=>(n,a.sv)::Rw (n+1) l
def st0 (fn:Func) (args:List Arg):St:={G2:=Rw 0 args,heap:=[],nid:=0,n:=fn.ntmps}
section
variable {P:Program}
def TR (a:Act):ResultVar→Sem Value
  |.tmp t=>pure (a.tmps.getD t undef)
  |.cell b t=>do loadVar t (←asAddr (a.tmps.getD b undef))
theorem PC (fn:Func) (a:Act):results fn a.tmps=(fn.results.mapM (TR a)>>= fun vs=>pure (if h:vs.size=1 then vs[0]else .tuple vs)):=by
  unfold results
  congr 1
theorem Xy {w:World} {st:St} {pl:Pl} {a:Act} (hr:Hq st.heap pl w) (hs:Iv w st.heap pl st.G2 a) {r:ResultVar} {v:SV} (h:ZX P st r=some v):
    ∃u,(TR a r).run P w=.ok u w∧GG w st.heap pl v u:=by
  cases r with
  |tmp t=>exact⟨_,rfl,hs t v h⟩
  | cell b T =>
    simp only[ZX,Option.bind_eq_some_iff]at h
    obtain⟨p,hp,cs,hcs,hv⟩:=h
    obtain⟨b',o',hpu,hc⟩:=N8 hr (hs b p hp) hcs
    obtain⟨u,h1,h2⟩:=P6 hv b' o' hc
    exact⟨u,by simp[TR,hpu,asAddr,h1],h2⟩
theorem TS {w:World} {st:St} {pl:Pl} {a:Act} (hr:Hq st.heap pl w) (hs:Iv w st.heap pl st.G2 a):∀{l:List ResultVar} {vs:List SV},ZI P st l=some vs→
    ∃us,(l.mapM (TR a):Sem (List Value)).run P w=.ok us w∧vs.length=us.length∧
      ∀(j:Nat) (x:SV) (u:Value),vs[j]? =some x→us[j]? =some u→GG w st.heap pl x u
  |[],vs,h=>by cases h;exact⟨[],rfl,rfl,fun j x u hx _=>by simp at hx⟩
  | r :: l, vs, h => by
    simp only[ZI,Option.bind_eq_some_iff,Option.some.injEq]at h
    obtain⟨v,hv,vs',hvs,rfl⟩:=h
    obtain⟨us,h1,h2,h3⟩:=TS hr hs hvs
    obtain⟨u,h4,h5⟩:=Xy (P:=P) hr hs hv
    refine⟨u::us,?_,by simp[h2],fun j x u' hx hu=>?_⟩
    · rw[List.mapM_cons,Sem.run_bind,h4]
      simp only[Result.andThen_ok,Sem.run_bind,h1,Sem.run_pure]
    · cases j with
      |zero=>simp at hx hu;subst hx hu;exact h5
      |succ j=>exact h3 j x u' (by simpa using hx) (by simpa using hu)
theorem TU {w:World} {st:St} {pl:Pl} {a:Act} (hr:Hq st.heap pl w) (hs:Iv w st.heap pl st.G2 a) {fn:Func} {v:SV} (h:X3 P fn st=some v):
    ∃u,(results fn a.tmps).run P w=.ok u w∧GG w st.heap pl v u:=by
  simp only[X3,Option.bind_eq_some_iff]at h
  obtain⟨vs,hvs,h⟩:=h
  obtain⟨us,h1,h2,h3⟩:=TS (P:=P) hr hs hvs
  have hm:(fn.results.mapM (TR a):Sem (Array Value)).run P w=.ok us.toArray w:=by
    rw[Array.mapM_eq_mapM_toList,Sem.run_map,h1];rfl
  split at h
  · rename_i v'
    cases h
    match us,h2,h3,hm with
    | [u], h2, h3, hm =>
      refine⟨u,?_,h3 0 _ _ rfl rfl⟩
      rw[PC,Sem.run_bind,hm]
      simp
  · rename_i hne
    cases h
    have hsz:¬us.toArray.size=1:=fun e=>by
      have:us.length=1:=by simpa using e
      match vs,h2,hne with
      |[v'],h2,hne=>exact hne v' rfl
      |[],h2,_=>simp at h2;omega
      |_::_::_,h2,_=>simp at h2;omega
    refine⟨.tuple us.toArray,?_,.tup _ _ (by simpa using h2) fun j x u hx hu=>h3 j x u hx (by simpa using hu)⟩
    rw[PC,Sem.run_bind,hm]
    simp only[Result.andThen_ok,dif_neg hsz];rfl
theorem Jm {i:Nat}:∀{L:List Nat} {n k:Nat},placeOf i L n=some k→n≤k∧L[k-n]? =some i
  | j :: l, n, k, h => by
    simp only[placeOf]at h
    cases hj:Nat.beq j i<;>simp only[hj,cond_true,cond_false,Option.some.injEq]at h
    · obtain⟨h1,h2⟩:=Jm h
      exact⟨by omega,by rw[show k-n=(k-(n+1))+1 from by omega];exact h2⟩
    · subst h;exact⟨Nat.le_refl _,by simp[Nat.eq_of_beq_eq_true hj]⟩
theorem Ia:∀{L:List Nat},nodup L=true→L.Nodup
  |[],_=>List.nodup_nil
  | k :: l, h => by
    simp only[nodup]at h
    cases hk:mem k l<;>simp only[hk,cond_true,cond_false]at h
    · refine List.nodup_cons.2 ⟨fun hm=>?_,Ia h⟩
      rw[(mem_iff k l).2 hm]at hk;exact nomatch hk
    · exact nomatch h
theorem Jn {h:GV} {L:List Nat}:∀{l:List (Bool× Ty× Option Nat)} {bs:List Blk},Kb h L l=some bs→bs.length=l.length∧
    ∀(k:Nat) (b:Blk),bs[k]? =some b→∃s,l[k]? =some s∧MC h L s=some b
  |[],bs,e=>by cases e;exact⟨rfl,fun k b hb=>by simp at hb⟩
  | i :: l, bs, e => by
    simp only[Kb,Option.bind_eq_some_iff,Option.some.injEq]at e
    obtain⟨b,h2,l',h3,rfl⟩:=e
    obtain⟨g1,g2⟩:=Jn h3
    refine⟨by simp[g1],fun k b' hb=>?_⟩
    cases k with
    |zero=>simp at hb;subst hb;exact⟨i,rfl,h2⟩
    |succ k=>simpa using g2 k b' (by simpa using hb)
def Pl.out (pl:Pl) (L:List Nat):Pl:=⟨fun k=>pl.hdr (L.getD k 0),fun k=>pl.fp (L.getD k 0),pl.base⟩
def Pl.res (pl:Pl) (S:List (Bool× Ty× Option Nat)):Pl:=
  ⟨fun k=>match S[k]? with
    |some (_,_,some i)=>pl.hdr i
    |_=>.slice none 0 0,
   fun k p=>match S[k]? with
    |some (_,_,some i)=>pl.fp i p
    |_=>False,pl.base⟩
theorem Kp {S:List (Bool× Ty× Option Nat)} {k:Nat} {b:Bool} {t:Ty} {i:Nat} (h:S[k]? =some (b,t,some i)):i∈Jb S:=by
  induction S generalizing k with
  |nil=>simp at h
  | cons x l ih =>
    obtain⟨b',t',o⟩:=x
    cases k with
    |zero=>simp at h;obtain⟨rfl,rfl,rfl⟩:=h;simp[Jb]
    | succ k =>
      have:=ih (k:=k) (by simpa using h)
      cases o<;>simp[Jb,this]
theorem Rx {S:List (Bool× Ty× Option Nat)} (hn:(Jb S).Nodup) {k k':Nat} {b b':Bool} {t t':Ty} {i:Nat} (h:S[k]? =some (b,t,some i)) (h':S[k']? =some (b',t',some i)):k=k':=by
  induction S generalizing k k' with
  |nil=>simp at h
  | cons x l ih =>
    obtain⟨b0,t0,o⟩:=x
    cases k with
    | zero =>
      cases k' with
      |zero=>rfl
      | succ k' =>
        simp at h;obtain⟨rfl,rfl,rfl⟩:=h
        have:=Kp (k:=k') (by simpa using h')
        simp[Jb]at hn
        exact(hn.1 this).elim
    | succ k =>
      cases k' with
      | zero =>
        simp at h';obtain⟨rfl,rfl,rfl⟩:=h'
        have:=Kp (k:=k) (by simpa using h)
        simp[Jb]at hn
        exact(hn.1 this).elim
      | succ k' =>
        have hn':(Jb l).Nodup:=by
          cases o with
          |none=>exact hn
          |some x=>simp[Jb]at hn;exact hn.2
        rw[ih hn' (k:=k) (k':=k') (by simpa using h) (by simpa using h')]
section
variable {w:World} {H:GV} {pl:Pl} {S:List (Bool× Ty× Option Nat)} {bs:List Blk}
theorem LI (hL:Kb H (Jb S) S=some bs) {k:Nat} {B:Blk} (hB:look (GY 0 bs) k=some B):∃s,S[k]? =some s∧MC H (Jb S) s=some B:=by
  rw[Ha,if_pos (Nat.zero_le _),Nat.sub_zero]at hB
  exact(Jn hL).2 k B hB
theorem Hl {L:List Nat} {b:Bool} {t:Ty} {i:Nat} {B:Blk} (h:MC H L (b,t,some i)=some B):∃sh xs,look H i=some (.arr sh t xs)∧
    ((sh=none∧B=.arr none t xs)∨∃d,sh=some d∧hit L d=false∧B=.arr (some []) t xs):=by
  cases b with
  | false =>
    simp only[MC]at h
    split at h
    · rename_i t' xs hl
      cases ht:decide (t'=t)<;>simp only[ht,cond_true,cond_false,Option.some.injEq]at h
      · exact nomatch h
      · have ht:t'=t:=by simpa using ht
        subst ht
        exact⟨none,xs,hl,.inl ⟨rfl,h.symm⟩⟩
    · exact nomatch h
  | true =>
    simp only[MC]at h
    split at h
    · rename_i d t' xs hl
      cases hd:hit L d<;>simp only[hd,cond_true,cond_false]at h
      · cases ht:decide (t'=t)<;>simp only[ht,cond_true,cond_false,Option.some.injEq]at h
        · exact nomatch h
        · have ht:t'=t:=by simpa using ht
          subst ht
          exact⟨some d,xs,hl,.inr ⟨d,rfl,hd,h.symm⟩⟩
      · exact nomatch h
    · exact nomatch h
theorem We (hL:Kb H (Jb S) S=some bs) {d:List Nat} (hd:hit (Jb S) d=false) {p:Cell} (h:okd H pl d p):okd (GY 0 bs) (pl.res S) [] p:=by
  refine⟨h.1,fun k B hB _ hf=>?_⟩
  obtain⟨⟨b,t,o⟩,h1,h2⟩:=LI hL hB
  cases o with
  |none=>simp[Pl.res,h1]at hf
  | some i =>
    simp only[Pl.res,h1]at hf
    obtain⟨sh,xs,hl,_⟩:=Hl h2
    refine h.2 i _ hl (fun hm=>?_) hf
    have hm2:=H9 _ d hd i hm
    rw[(mem_iff i _).2 (Kp h1)]at hm2
    exact nomatch hm2
theorem TV {r:RT} {v:SV} {s:List (Bool× Ty× Option Nat)} {t:Ty} {b:Bool} (hr:r=if b then .shl t else .own t) (h:r.UO v=some s):(∃i,v=.own i∧s=[(b,t,some i)])∨(v=.H5∧s=[(b,t,none)]):=by
  cases b<;>simp at hr<;>subst hr<;>(cases v<;>simp only[RT.UO]at h<;>first|(cases h;done)|(cases h;first|exact .inl ⟨_,rfl,rfl⟩|exact .inr ⟨rfl,rfl⟩))
theorem YA (hL:Kb H (Jb S) S=some bs) {k:Nat} {b:Bool} {t:Ty} {v:SV} {u:Value} (hv:GG w H pl v u)
    (h:(∃i,v=.own i∧S[k]? =some (b,t,some i))∨(v=.H5∧S[k]? =some (b,t,none))):GG w (GY 0 bs) (pl.res S) (.own k) u:=by
  have hlt:∀{s},S[k]? =some s→k<bs.length:=fun{s} h=>by rw[(Jn hL).1];exact(List.getElem?_eq_some_iff.1 h).1
  have hget:∀{s},S[k]? =some s→∃B,look (GY 0 bs) k=some B∧MC H (Jb S) s=some B:=fun{s} h=>by
    have hk:=List.getElem?_eq_getElem (hlt h)
    obtain⟨s',h1,h2⟩:=(Jn hL).2 k _ hk
    rw[h]at h1;cases h1
    exact⟨_,by rw[Ha,if_pos (Nat.zero_le _),Nat.sub_zero];exact hk,h2⟩
  rcases h with⟨i,rfl,h⟩|⟨rfl,h⟩
  · obtain⟨B,h1,h2⟩:=hget h
    obtain⟨sh,xs,hl,h3⟩:=Hl h2
    have e:(pl.res S).hdr k=pl.hdr i:=by simp only[Pl.res,h]
    cases hv with
    | own _ sh' t' ys hl' =>
      rw[←e]
      rcases h3 with⟨_,rfl⟩|⟨d,_,_,rfl⟩
      · exact .own k none t xs h1
      · exact .own k (some []) t xs h1
  · obtain⟨B,h1,h2⟩:=hget h
    have e:(pl.res S).hdr k=.slice none 0 0:=by simp only[Pl.res,h]
    cases hv with
    | H5 =>
      rw[←e]
      cases b with
      |false=>cases h2;exact .own k none t [] h1
      |true=>cases h2;exact .own k (some []) t [] h1
section
variable {H2:GV} {plR:Pl} {m:Nat} {LL:List Nat} {gh:List (Option Nat)}
mutual
theorem Qw (hr:Hq H pl w) (hown:∀(k:Nat) (b:Bool) (t:Ty) (v:SV) (u:Value),GG w H pl v u→((∃i,v=.own i∧S[k]? =some (b,t,some i))∨(v=.H5∧S[k]? =some (b,t,none)))→GG w H2 plR (.own (m+k)) u)
    (hro:∀d p,hit LL d=false→okd H pl d p→okd H2 plR [] p) (hptr:∀i j o u,posOf i gh 0=some j→GG w H pl (.ptr i 0 o) u→GG w H2 plR (.ptr j 0 o) u):(r:RT)→{v v':SV}→{u:Value}→{k k':Nat}→{s:List (Bool× Ty× Option Nat)}→r.UO v=some s→(∀(j:Nat) (x:Bool× Ty× Option Nat),s[j]? =some x→S[k+j]? =some x)→
    r.out H LL gh (m+k) v=some (v',k')→GG w H pl v u→GG w H2 plR v' u∧k'=m+(k+s.length)
  | .sc, v, v', u, k, k', s, hs, hS, h, hv => by
    simp only[RT.UO,Option.some.injEq]at hs
    subst hs
    cases hv with
    |r d x _ hx=>cases hx<;>(simp only[RT.out,Option.some.injEq,Prod.mk.injEq]at h)<;>first|(obtain⟨rfl,rfl⟩:=h;exact⟨by first|exact Kx|exact JS|exact Sw,rfl⟩)|(exact nomatch h)
    | H5 =>
      simp only[RT.out,Option.some.injEq,Prod.mk.injEq]at h
      obtain⟨rfl,rfl⟩:=h
      exact⟨.H5,rfl⟩
    |_=>simp[RT.out]at h
  | .own t, v, v', u, k, k', s, hs, hS, h, hv => by
    simp only[RT.out,Option.some.injEq,Prod.mk.injEq]at h
    obtain⟨rfl,rfl⟩:=h
    rcases TV (b:=false) rfl hs with⟨i,rfl,rfl⟩|⟨rfl,rfl⟩
    · exact⟨hown k _ t _ u hv (.inl ⟨i,rfl,hS 0 _ rfl⟩),rfl⟩
    · exact⟨hown k _ t _ u hv (.inr ⟨rfl,hS 0 _ rfl⟩),rfl⟩
  | .shl t, v, v', u, k, k', s, hs, hS, h, hv => by
    simp only[RT.out,Option.some.injEq,Prod.mk.injEq]at h
    obtain⟨rfl,rfl⟩:=h
    rcases TV (b:=true) rfl hs with⟨i,rfl,rfl⟩|⟨rfl,rfl⟩
    · exact⟨hown k _ t _ u hv (.inl ⟨i,rfl,hS 0 _ rfl⟩),rfl⟩
    · exact⟨hown k _ t _ u hv (.inr ⟨rfl,hS 0 _ rfl⟩),rfl⟩
  | .ro t, v, v', u, k, k', s, hs, hS, h, hv => by
    simp only[RT.UO,Option.some.injEq]at hs
    subst hs
    simp only[RT.out,Option.bind_eq_some_iff]at h
    obtain⟨⟨d,xs⟩,h1,h2⟩:=h
    cases hd:hit LL d<;>simp only[hd,cond_true,cond_false,Option.some.injEq,Prod.mk.injEq]at h2
    · obtain⟨rfl,rfl⟩:=h2
      exact⟨.r _ _ _ ((La hr h1 hv).frame fun p u hp hu=>⟨hro d p hd hp,hu⟩),rfl⟩
    · exact nomatch h2
  | .agg l, v, v', u, k, k', s, hs, hS, h, hv => by
    cases hv with
    | agg cs vs h1 h2 h3 =>
      simp only[RT.out,Option.bind_eq_some_iff,Option.some.injEq,Prod.mk.injEq]at h
      obtain⟨⟨l',k2⟩,h4,rfl,rfl⟩:=h
      simp only[RT.UO]at hs
      obtain⟨g1,g2,g3⟩:=Kq hr hown hro hptr l hs hS h4 vs.toList (by simpa using h1) fun j x u hx hu=>h3 j x u hx (by simpa using hu)
      exact⟨.agg _ _ (by simpa using g1) h2 fun j x u hx hu=>g2 j x u hx (by simpa using hu),g3⟩
    |_=>simp[RT.out]at h
  | .tup l, v, v', u, k, k', s, hs, hS, h, hv => by
    cases hv with
    | tup cs vs h1 h3 =>
      simp only[RT.out,Option.bind_eq_some_iff,Option.some.injEq,Prod.mk.injEq]at h
      obtain⟨⟨l',k2⟩,h4,rfl,rfl⟩:=h
      simp only[RT.UO]at hs
      obtain⟨g1,g2,g3⟩:=Kq hr hown hro hptr l hs hS h4 vs.toList (by simpa using h1) fun j x u hx hu=>h3 j x u hx (by simpa using hu)
      exact⟨.tup _ _ (by simpa using g1) fun j x u hx hu=>g2 j x u hx (by simpa using hu),g3⟩
    |_=>simp[RT.out]at h
  | .fn as bs, v, v', u, k, k', s, hs, hS, h, hv => by
    cases hv with
    | fn f a b us vs h1 h3 h1' h3' =>
      simp only[RT.out,Option.bind_eq_some_iff,Option.some.injEq,Prod.mk.injEq]at h
      obtain⟨⟨l',k2⟩,h4,⟨l2',k3⟩,h5,rfl,rfl⟩:=h
      simp only[RT.UO,Option.bind_eq_some_iff,Option.some.injEq]at hs
      obtain⟨s1,e1,s2,e2,rfl⟩:=hs
      obtain⟨g1,g2,g3⟩:=Kq hr hown hro hptr as e1 (fun j x hx=>hS j x (by rw[List.getElem?_append_left (List.getElem?_eq_some_iff.1 hx).1];exact hx)) h4 us.toList (by simpa using h1) fun j x u hx hu=>h3 j x u hx (by simpa using hu)
      simp only at h5
      subst g3
      obtain⟨q1,q2,q3⟩:=Kq hr hown hro hptr bs e2 (fun j x hx=>by
        have:=hS (s1.length+j) x (by rw[List.getElem?_append_right (by omega),Nat.add_sub_cancel_left];exact hx)
        rw[Nat.add_assoc];exact this) h5 vs.toList (by simpa using h1') fun j x u hx hu=>h3' j x u hx (by simpa using hu)
      exact⟨.fn _ _ _ _ _ (by simpa using g1) (fun j x u hx hu=>g2 j x u hx (by simpa using hu)) (by simpa using q1) (fun j x u hx hu=>q2 j x u hx (by simpa using hu)),by simp;omega⟩
    |_=>simp[RT.out]at h
  | .ptr, v, v', u, k, k', s, hs, hS, h, hv => by
    cases v with
    | ptr i x o =>
      cases x with
      | zero =>
        simp only[RT.out,Option.bind_eq_some_iff,Option.some.injEq,Prod.mk.injEq]at h
        simp only[RT.UO,Option.some.injEq]at hs
        subst hs
        obtain⟨j,h1,rfl,rfl⟩:=h
        exact⟨hptr i j o u h1 hv,rfl⟩
      |succ x=>simp[RT.out]at h
    |_=>simp[RT.out]at h
theorem Kq (hr:Hq H pl w) (hown:∀(k:Nat) (b:Bool) (t:Ty) (v:SV) (u:Value),GG w H pl v u→((∃i,v=.own i∧S[k]? =some (b,t,some i))∨(v=.H5∧S[k]? =some (b,t,none)))→GG w H2 plR (.own (m+k)) u)
    (hro:∀d p,hit LL d=false→okd H pl d p→okd H2 plR [] p) (hptr:∀i j o u,posOf i gh 0=some j→GG w H pl (.ptr i 0 o) u→GG w H2 plR (.ptr j 0 o) u):(l:List RT)→{cs cs':List SV}→{k k':Nat}→{s:List (Bool× Ty× Option Nat)}→Qv l cs=some s→(∀(j:Nat) (x:Bool× Ty× Option Nat),s[j]? =some x→S[k+j]? =some x)→
    WY H LL gh l (m+k) cs=some (cs',k')→(us:List Value)→cs.length=us.length→(∀(j:Nat) (x:SV) (u:Value),cs[j]? =some x→us[j]? =some u→GG w H pl x u)→
    cs'.length=us.length∧(∀(j:Nat) (x:SV) (u:Value),cs'[j]? =some x→us[j]? =some u→GG w H2 plR x u)∧k'=m+(k+s.length)
  | [], [], cs', k, k', s, hs, hS, h, us, hl, _ => by
    simp only[Qv,Option.some.injEq]at hs
    simp only[WY,Option.some.injEq,Prod.mk.injEq]at h
    subst hs
    obtain⟨rfl,rfl⟩:=h
    exact⟨hl,fun j x u hx _=>by simp at hx,rfl⟩
  | r :: l, v :: cs, cs', k, k', s, hs, hS, h, u :: us, hl, hp => by
    simp only[Qv,Option.bind_eq_some_iff,Option.some.injEq]at hs
    obtain⟨s1,hs1,s2,hs2,rfl⟩:=hs
    simp only[WY,Option.bind_eq_some_iff,Option.some.injEq,Prod.mk.injEq]at h
    obtain⟨⟨v',k2⟩,h1,⟨l',k3⟩,h2,rfl,rfl⟩:=h
    obtain⟨g1,g2⟩:=Qw hr hown hro hptr r hs1 (fun j x hx=>hS j x (by rw[List.getElem?_append_left (List.getElem?_eq_some_iff.1 hx).1];exact hx)) h1 (hp 0 v u rfl rfl)
    simp only at h2
    subst g2
    obtain⟨q1,q2,q3⟩:=Kq hr hown hro hptr l hs2 (fun j x hx=>by
        have:=hS (s1.length+j) x (by rw[List.getElem?_append_right (by omega),Nat.add_sub_cancel_left];exact hx)
        rw[Nat.add_assoc];exact this) h2 us (by simpa using hl) fun j x u hx hu=>hp (j+1) x u (by simpa using hx) (by simpa using hu)
    refine⟨by simp[q1],fun j x u' hx hu=>?_,by simp;omega⟩
    cases j with
    |zero=>simp at hx hu;subst hx hu;exact g1
    |succ j=>exact q2 j x u' (by simpa using hx) (by simpa using hu)
  |[],_::_,_,_,_,_,hs,_,_,_,_,_=>nomatch hs
  |_::_,[],_,_,_,_,hs,_,_,_,_,_=>nomatch hs
end
end
theorem YB (hr:Hq H pl w) (hL:Kb H (Jb S) S=some bs) (r:RT) {v v':SV} {u:Value} {k k':Nat} {s:List (Bool× Ty× Option Nat)} (hs:r.UO v=some s) (hS:∀(j:Nat) (x:Bool× Ty× Option Nat),s[j]? =some x→S[k+j]? =some x)
    (h:r.out H (Jb S) [] k v=some (v',k')) (hv:GG w H pl v u):GG w (GY 0 bs) (pl.res S) v' u∧k'=k+s.length:=by
  have:=Qw (H2:=GY 0 bs) (plR:=pl.res S) (m:=0) (LL:=Jb S) (gh:=[]) hr (fun k b t v u hv hc=>by rw[Nat.zero_add];exact YA hL hv hc) (fun d p hd hp=>We hL hd hp) (fun i j o u h=>nomatch h) r hs hS (by rw[Nat.zero_add];exact h) hv
  simpa using this
theorem Xz (hr:Hq H pl w) (hn:nodup (Jb S)=true) (hL:Kb H (Jb S) S=some bs):Hq (GY 0 bs) (pl.res S) w:=by
  refine⟨fun k B hB=>?_,fun k k' B B' p h1 h2 f1 f2=>?_,fun k B p hB hf=>?_,hr.nb⟩
  · obtain ⟨⟨b, t, o⟩, h1, h2⟩ := LI hL hB
    cases o with
    | none =>
      have e:(pl.res S).hdr k=.slice none 0 0:=by simp only[Pl.res,h1]
      have ef:∀p,¬(pl.res S).fp k p:=fun p hp=>by simp[Pl.res,h1]at hp
      have row:∀inner,Nonempty (Row w inner t [] ((pl.res S).hdr k) ((pl.res S).fp k)):=fun inner=>
        ⟨⟨none,0,0,0,fun _ _=>undef,fun _ _ _=>False,e,Nat.le_refl _,.inl rfl,fun j hj=>by simp at hj,fun i j r h=>by have:=(GZ h).1;simp at this,fun i j r h=>by have:=(GZ h).1;simp at this,
          fun i j r p h=>by have:=(GZ h).1;simp at this,fun i j r i' j' r' p h=>by have:=(GZ h).1;simp at this,fun p=>⟨fun hp=>(ef p hp).elim,fun hp=>by
            rcases hp with⟨_,h,h'⟩|⟨i,j,r,h,_⟩
            · omega
            · have:=(GZ h).1;simp at this⟩⟩⟩
      cases b with
      |false=>cases h2;exact row _
      |true=>cases h2;exact row _
    | some i =>
      have e:(pl.res S).hdr k=pl.hdr i:=by simp only[Pl.res,h1]
      have ef:(pl.res S).fp k=pl.fp i:=by funext p;simp only[Pl.res,h1]
      obtain⟨sh,xs,hl,h3⟩:=Hl h2
      have hb:=hr.blk i _ hl
      rcases h3 with⟨rfl,rfl⟩|⟨d,rfl,hd,rfl⟩
      · show Nonempty (Row w (Ie w) t xs ((pl.res S).hdr k) ((pl.res S).fp k))
        rw[e,ef];exact hb
      · obtain⟨⟨a,cap,b,o,vs,fs,q1,q2,q3,q4,q5,q6,q7,q8,q9⟩⟩:=hb
        exact⟨⟨a,cap,b,o,vs,fs,e.trans q1,q2,q3,q4,q5,fun i j r hc=>⟨(q6 i j r hc).1.frame fun p u hp hu=>⟨We hL hd hp,hu⟩,(q6 i j r hc).2⟩,q7,q8,fun p=>by rw[ef];exact q9 p⟩⟩
  · obtain⟨⟨b,t,o⟩,g1,g2⟩:=LI hL h1
    obtain⟨⟨b',t',o'⟩,g1',g2'⟩:=LI hL h2
    cases o with
    |none=>simp[Pl.res,g1]at f1
    | some i =>
      cases o' with
      |none=>simp[Pl.res,g1']at f2
      | some i' =>
        simp only[Pl.res,g1]at f1
        simp only[Pl.res,g1']at f2
        obtain⟨_,_,hl,_⟩:=Hl g2
        obtain⟨_,_,hl',_⟩:=Hl g2'
        have:=hr.dis i i' _ _ p hl hl' f1 f2
        subst this
        exact Rx (Ia hn) g1 g1'
  · obtain⟨⟨b,t,o⟩,g1,g2⟩:=LI hL hB
    cases o with
    |none=>simp[Pl.res,g1]at hf
    | some i =>
      simp only[Pl.res,g1]at hf
      obtain⟨_,_,hl,_⟩:=Hl g2
      exact hr.ob i _ p hl hf
end
theorem SU (args:List Arg) (n t:Nat):look (Rw n args) t=if n≤t then(args[t-n]?).map Arg.sv else none:=by
  induction args generalizing n with
  |nil=>simp[Rw,look]
  | cons a l ih =>
    rw[Rw,GK,ih]
    by_cases h:n=t
    · subst h;simp
    · by_cases h2:n≤t
      · rw[if_neg h,if_pos (by omega),if_pos h2,show t-n=(t-(n+1))+1 from by omega];rfl
      · rw[if_neg h,if_neg (by omega),if_neg h2]
theorem Qx {w:World} {ok:Cell→Prop} {pl:Pl} (hb:∀p,ok p→pl.base p) {rs:List R} {vs:Array Value} (h:Xx w ok rs vs):
    (rs.map (SV.r [])).length=vs.size∧∀(j:Nat) (x:SV) (u:Value),(rs.map (SV.r []))[j]? =some x→vs[j]? =some u→GG w [] pl x u:=by
  refine⟨by simpa using h.1,fun j x u hx hu=>?_⟩
  rw[List.getElem?_map]at hx
  obtain⟨r,hr,rfl⟩:=Option.map_eq_some_iff.1 hx
  exact .r _ _ _ ((h.2 j r u hr hu).frame fun p u hp hu=>⟨⟨hb p hp,fun i B hB=>by simp[look]at hB⟩,hu⟩)
theorem YC {w:World} {ok:Cell→Prop} {pl:Pl} (hb:∀p,ok p→pl.base p) {x:Arg} {u:Value} (h:MB w ok x u):GG w [] pl x.sv u:=by
  cases x with
  |one r=>exact .r _ _ _ (h.frame fun p u hp hu=>⟨⟨hb p hp,fun i B hB=>by simp[look]at hB⟩,hu⟩)
  | agg rs =>
    obtain⟨vs,rfl,h⟩:=h
    obtain⟨g1,g2⟩:=Qx (pl:=pl) hb h
    refine .agg _ _ g1 (fun j v hv=>?_) g2
    have hj:j<rs.length:=by rw[h.1];exact(Array.getElem?_eq_some_iff.1 hv).1
    exact(h.2 j _ v (List.getElem?_eq_getElem hj) hv).L3
  | fn f a b =>
    obtain⟨us,vs,rfl,h,h'⟩:=h
    obtain⟨g1,g2⟩:=Qx (pl:=pl) hb h
    obtain⟨g3,g4⟩:=Qx (pl:=pl) hb h'
    exact .fn _ _ _ _ _ g1 g2 g3 g4
theorem UP {ρ:Type} {E:Env} (hE:I8 E) {LP:Nat→Ev ρ→Ev ρ} {g:FuncId} {fn:Func} {c:Code} {args:List Arg} {r:ρ} {dec:Out→Option ρ} {enc:ρ→Out} (hd:∀o r,dec o=some r→o=enc r) (hf:E.P.funcs[g]? =some fn) (hc:fn.body=some c)
    (hnm:(fn.name== "runtime.NumGoroutine")=false) (hn:Nat.ble args.length fn.ntmps=true) (hLP:Js E LP 0 c) {rt:RT} (h:ev E LP 0 c (st0 fn args) (fin E.P fn rt dec)=some r):Lk E.P g args (enc r):=by
  generalize ho:enc r=out
  refine⟨Rj hf (by rw[hc];rfl) hnm,fun w us ok hlen hargs=>?_⟩
  have hn:=Nat.le_of_ble_eq_true hn
  refine calls_of_wp hf hc ?_
  let pl0:Pl:=⟨fun _=>undef,fun _ _=>False,fun p=>ok p∨w.at? p=none⟩
  have Zo:Rl w ⟨fun _=>False,fun _=>undef,fun _=>.box []⟩ pl0.base fn.ntmps (st0 fn args) {tmps:=us++Array.replicate (fn.ntmps-us.size) undef,defers:=[]} w:=by
    refine⟨pl0,⟨⟨fun i B hB=>by simp[st0,look]at hB,fun i j B B' p hB=>by simp[st0,look]at hB,fun i B p hB=>by simp[st0,look]at hB,fun p hp=>.inr hp⟩,fun t v hv=>?_,by simp[st0];omega,rfl,fun i _=>rfl,HG.refl w,fun p u hp _=>⟨fun i B hB=>by simp[st0,look]at hB,hp,rfl⟩,fun k i hk=>by simp[st0]at hk⟩,rfl,rfl⟩
    simp only[st0]at hv
    rw[SU,if_pos (Nat.zero_le _),Nat.sub_zero]at hv
    obtain⟨x,hx,rfl⟩:=Option.map_eq_some_iff.1 hv
    have ht:t<us.size:=by rw[←hlen];exact(List.getElem?_eq_some_iff.1 hx).1
    have hg:(us++Array.replicate (fn.ntmps-us.size) undef).getD t undef=us[t]:=by
      rw[Array.getD_eq_getD_getElem?,Array.getElem?_append_left ht,Array.getElem?_eq_getElem ht];rfl
    rw[hg]
    exact YC (fun p hp=>Or.inl hp) (hargs t x _ hx (Array.getElem?_eq_getElem ht))
  refine Hk hE c 0 hLP w ⟨fun _=>False,fun _=>undef,fun _=>.box []⟩ pl0.base fn.ntmps _ _ w _ r _ Zo h fun e st' a' w' hK hr'=>?_
  obtain⟨pl,hr,hb,_⟩:=hr'
  have key:∀v,X3 E.P fn st'=some v→canon rt st'.heap v=some out→a'.defers=[]∧∃u,(results fn a'.tmps).run E.P w'=.ok u w'∧∃u' pl',Ending.returned u=.returned u'∧Hq (GY 0 out.2) pl' w'∧
      GG w' (GY 0 out.2) pl' out.1 u'∧pl'.base=(fun p=>ok p∨w.at? p=none)∧
      (∀p x,w.at? p=some x→w'.at? p=some x∧w'.HW p=w.HW p)∧(∀i B p,look (GY 0 out.2) i=some B→pl'.fp i p→w.at? p=none)∧HG w w':=fun v hv hcn=>by
    obtain⟨u,hu,hvr⟩:=TU (P:=E.P) hr.hr hr.sl hv
    simp only[canon,Option.bind_eq_some_iff]at hcn
    obtain⟨S,hS,hcn⟩:=hcn
    cases hnd:nodup (Jb S)<;>simp only[hnd,cond_true,cond_false,Option.bind_eq_some_iff,Option.some.injEq]at hcn
    · exact nomatch hcn
    · obtain⟨bs,hbs,⟨v',k'⟩,hv',rfl⟩:=hcn
      refine⟨hr.df,u,hu,u,pl.res S,rfl,Xz hr.hr hnd hbs,(YB hr.hr hbs rt hS (fun j x hx=>by rw[Nat.zero_add];exact hx) hv' hvr).1,hb,fun p x hp=>?_,fun i B p hB hf=>?_,hr.gr⟩
      · obtain⟨_,g2,g3⟩:=hr.fr p x hp (fun h=>h)
        exact⟨g2,g3⟩
      · obtain⟨⟨b,t,o⟩,g1,g2⟩:=LI hbs hB
        cases o with
        |none=>simp[Pl.res,g1]at hf
        | some i' =>
          simp only[Pl.res,g1]at hf
          obtain⟨_,_,hl,_⟩:=Hl g2
          cases hq:w.at? p with
          |none=>rfl
          |some x=>exact((hr.fr p x hq (fun h=>h)).1 i' _ hl hf).elim
  cases e with
  |exit j=>exact nomatch hK
  | normal =>
    simp only[fin,Option.bind_eq_some_iff]at hK
    obtain⟨v,hv,o,hcn,hdec⟩:=hK
    exact key v hv (hcn.trans (congrArg some ((hd o r hdec).trans ho)))
  | ret =>
    simp only[fin,Option.bind_eq_some_iff]at hK
    obtain⟨v,hv,o,hcn,hdec⟩:=hK
    exact key v hv (hcn.trans (congrArg some ((hd o r hdec).trans ho)))
end
end Go.Proofs.Ev
namespace Go.Proofs.Ev
variable [Tok]
set_option linter.unusedSectionVars false
section
variable {w:World} {H:GV} {pl:Pl} {P:Program}
end
inductive Sh where
  |one (t:Ty)
  |agg (ts:List Ty)
  |fn
def toArg (h:GV):Sh→SV→Option (List Nat× Arg)
  |.one t,v=>(v.asR h t).bind fun p=>some (p.1,.one p.2)
  |.agg ts,.agg cs=>(Vb h ts cs).bind fun p=>some (p.1,.agg p.2)
  |.fn,.fn f [] []=>some ([],.fn f [] [])
  |_,_=>none
def PD (h:GV):List Sh→List SV→Option (List Nat× List Arg)
  |[],[]=>some ([],[])
  |s::ss,v::vs=>(toArg h s v).bind fun p=>(PD h ss vs).bind fun q=>some (p.1++q.1,p.2::q.2)
  |_,_=>none
mutual
def SV.shift (n:Nat) (d:List Nat):SV→SV
  |.own i=>.own (n+i)
  |.r [] x=>mkR d x
  |.H5=>.H5
  |.agg cs=>.agg (MD n d cs)
  |.tup cs=>.tup (MD n d cs)
  |_=>.undef
def MD (n:Nat) (d:List Nat):List SV→List SV
  |[]=>[]
  |v::l=>v.shift n d::MD n d l
end
def Blk.shift (d:List Nat):Blk→Blk
  |.arr none t xs=>.arr none t xs
  |.arr (some _) t xs=>.arr (some d) t xs
  |.box cs=>.box cs
def JW (d:List Nat):List Blk→List Blk
  |[]=>[]
  |b::l=>b.shift d::JW d l
def UQ:List Blk→Bool
  |[]=>true
  |.arr none _ _::l=>UQ l
  |.arr (some []) _ _::l=>UQ l
  |_::_=>false
abbrev PG:=(ρ:Type)→List Arg→(Out→Option ρ)→Option ρ
def Qy (ss:List Sh) (G:PG):Orc:=fun ρ nid vs h K=>
  (PD h ss vs).bind fun p=>G ρ p.2 fun o=>cond (UQ o.2) (K {v:=o.1.shift nid p.1,news:=JW p.1 o.2}) none
def Ry (P:Program) (g:FuncId) (G:PG):Prop:=
  ∀(ρ:Type) args (K:Out→Option ρ) (out:ρ),G ρ args K=some out→∃o,K o=some out∧Lk P g args o
section
variable {w:World} {H:GV} {pl:Pl} {P:Program}
theorem Wg (hr:Hq H pl w) {s:Sh} {v:SV} {u:Value} {d:List Nat} {x:Arg} (h:toArg H s v=some (d,x)) (hv:GG w H pl v u):MB w (okd H pl d) x u:=by
  unfold toArg at h
  split at h
  · simp only[Option.bind_eq_some_iff,Option.some.injEq,Prod.mk.injEq]at h
    obtain⟨⟨d',r⟩,h1,rfl,rfl⟩:=h
    exact M1 hr h1 hv
  · simp only[Option.bind_eq_some_iff,Option.some.injEq,Prod.mk.injEq]at h
    obtain⟨⟨d',rs⟩,h1,rfl,rfl⟩:=h
    cases hv with
    | agg cs vs hl h2 h3 =>
      obtain⟨g1,g2⟩:=TE hr h1 (us:=vs.toList) (by simpa using hl) fun j x u hx hu=>h3 j x u hx (by simpa using hu)
      exact⟨vs,rfl,by simpa using g1,fun j r u hr hu=>g2 j r u hr (by simpa using hu)⟩
  · cases h
    cases hv with
    | fn f as bs us vs hl h1 hl' h2 =>
      exact⟨us,vs,rfl,⟨hl,fun j r u hr _=>by simp at hr⟩,⟨hl',fun j r u hr _=>by simp at hr⟩⟩
  · exact nomatch h
theorem MB.mono {ok ok':Cell→Prop} (hk:∀p,ok p→ok' p) {x:Arg} {u:Value} (h:MB w ok x u):MB w ok' x u:=by
  cases x with
  |one r=>exact I4.frame h fun p u hp hu=>⟨hk p hp,hu⟩
  |agg rs=>obtain⟨vs,e,h1,h2⟩:=h;exact⟨vs,e,h1,fun j r u hr hu=>(h2 j r u hr hu).frame fun p u hp hu=>⟨hk p hp,hu⟩⟩
  | fn f a b =>
    obtain⟨us,vs,e,⟨h1,h2⟩,h3,h4⟩:=h
    exact⟨us,vs,e,⟨h1,fun j r u hr hu=>(h2 j r u hr hu).frame fun p u hp hu=>⟨hk p hp,hu⟩⟩,h3,fun j r u hr hu=>(h4 j r u hr hu).frame fun p u hp hu=>⟨hk p hp,hu⟩⟩
theorem PE (hr:Hq H pl w):∀{ss:List Sh} {vs:List SV} {us:List Value} {d:List Nat} {xs:List Arg},PD H ss vs=some (d,xs)→vs.length=us.length→
    (∀(j:Nat) (x:SV) (u:Value),vs[j]? =some x→us[j]? =some u→GG w H pl x u)→
    xs.length=us.length∧∀(j:Nat) (x:Arg) (u:Value),xs[j]? =some x→us[j]? =some u→MB w (okd H pl d) x u
  |[],[],us,d,xs,h,hl,_=>by cases h;exact⟨hl,fun j r u hr _=>by simp at hr⟩
  | s :: ss, v :: vs, u :: us, d, xs, h, hl, hp => by
    simp only[PD,Option.bind_eq_some_iff,Option.some.injEq,Prod.mk.injEq]at h
    obtain⟨⟨d1,x1⟩,h1,⟨d2,xs2⟩,h2,rfl,rfl⟩:=h
    obtain⟨g1,g2⟩:=PE hr h2 (by simpa using hl) fun j x u hx hu=>hp (j+1) x u (by simpa using hx) (by simpa using hu)
    refine⟨by simp[g1],fun j r u' hj hu=>?_⟩
    cases j with
    |zero=>simp at hj hu;subst hj hu;exact(Wg hr h1 (hp 0 v u rfl rfl)).mono fun p hp=>IJ (fun i hi=>by rw[mem_append,hi];rfl) hp
    |succ j=>exact(g2 j r u' (by simpa using hj) (by simpa using hu)).mono fun p hp=>IJ (fun i hi=>by rw[mem_append,hi,Bool.or_true]) hp
  |[],_::_,_,_,_,h,_,_=>nomatch h
  |_::_,[],_,_,_,h,_,_=>nomatch h
theorem Oz (d:List Nat) (bs:List Blk) (n i:Nat):look (GY n (JW d bs)) i=(look (GY n bs) i).map (Blk.shift d):=by
  induction bs generalizing n with
  |nil=>rfl
  | cons b l ih =>
    rw[JW,GY,GY,GK,GK,ih]
    by_cases h:n=i<;>simp[h]
theorem Nh:∀{bs:List Blk},UQ bs=true→∀(k:Nat) (b:Blk),bs[k]? =some b→∃t xs,b=.arr none t xs∨b=.arr (some []) t xs
  | .arr none t xs :: l, h, k, b, hb => by
    cases k with
    |zero=>simp at hb;exact⟨t,xs,.inl hb.symm⟩
    |succ k=>exact Nh (bs:=l) h k b (by simpa using hb)
  | .arr (some []) t xs :: l, h, k, b, hb => by
    cases k with
    |zero=>simp at hb;exact⟨t,xs,.inr hb.symm⟩
    |succ k=>exact Nh (bs:=l) h k b (by simpa using hb)
def Pl.join (pl po:Pl) (n m:Nat):Pl:=⟨fun i=>if i<n∨n+m≤i then pl.hdr i else po.hdr (i-n),fun i=>if i<n∨n+m≤i then pl.fp i else po.fp (i-n),pl.base⟩
section
variable {w w':World} {H:GV} {pl po:Pl} {n:Nat} {bs:List Blk} {d:List Nat}
theorem YD {i:Nat} {B:Blk} {bs:List Blk} (h:look (GY 0 bs) i=some B):i<bs.length:=by
  rw[Ha,if_pos (Nat.zero_le _),Nat.sub_zero]at h
  exact(List.getElem?_eq_some_iff.1 h).1
theorem KJ (d:List Nat):(bs:List Blk)→(JW d bs).length=bs.length
  |[]=>rfl
  |_::l=>by simp[JW,KJ d l]
theorem Jf {d:List Nat} {bs:List Blk} {n i:Nat} (hi:i<n∨n+bs.length≤i):look (GY n (JW d bs)) i=none:=by
  rw[Ha]
  by_cases h:n≤i
  · rw[if_pos h,List.getElem?_eq_none];rw[KJ];omega
  · rw[if_neg h]
theorem Ni {H:GV} {n m i:Nat} (hn:∀k,k<m→look H (n+k)=none) (hi:¬(i<n∨n+m≤i)):look H i=none:=by
  have:=hn (i-n) (by omega)
  rwa [show n+(i-n)=i from by omega]at this
theorem XA {h h':GV} (hh:Ext h h') (s:Sh) (v:SV):Le (toArg h s v) (toArg h' s v):=by
  intro p hp
  unfold toArg at hp
  split at hp<;>simp only[toArg]
  · exact((Q7 hh _ _).bind fun _=>Le.refl _) p hp
  · exact((Sr hh _ _).bind fun _=>Le.refl _) p hp
  · exact hp
  · exact nomatch hp
theorem Rz {h h':GV} (hh:Ext h h'):(ss:List Sh)→(vs:List SV)→Le (PD h ss vs) (PD h' ss vs)
  |[],[]=>Le.refl _
  |s::ss,v::vs=>(XA hh s v).bind fun _=>(Rz hh ss vs).bind fun _=>Le.refl _
  |[],_::_=>Le.refl _
  |_::_,[]=>Le.refl _
theorem TW (hr:Hq H pl w) (hn:∀k,k<bs.length→look H (n+k)=none) (hown:∀i B p,look H i=some B→pl.fp i p→∃u,w.at? p=some u)
    (hb:po.base=fun p=>okd H pl d p∨w.at? p=none) {p:Cell} (h:okd (GY 0 bs) po [] p):okd (H++GY n (JW d bs)) (pl.join po n bs.length) d p:=by
  have Oi:okd H pl d p∨w.at? p=none:=by have:=h.1;rw[hb]at this;exact this
  refine⟨Oi.elim (fun h=>h.1) (hr.nb p),fun i B hB hm hf=>?_⟩
  by_cases hi:i<n∨n+bs.length≤i
  · simp only[Pl.join,if_pos hi]at hf
    have hB':look H i=some B:=by
      rw[GR,Jf hi]at hB
      simpa using hB
    rcases Oi with h'|h'
    · exact h'.2 i B hB' hm hf
    · obtain⟨u,hu⟩:=hown i B p hB' hf
      rw[h']at hu;exact nomatch hu
  · simp only[Pl.join,if_neg hi]at hf
    rw[GR,Ni hn hi,Oz,Ha,if_pos (by omega)]at hB
    simp only[Option.none_or,Option.map_eq_some_iff]at hB
    obtain⟨b0,hb0,rfl⟩:=hB
    exact h.2 (i-n) b0 (by rw[Ha,if_pos (Nat.zero_le _),Nat.sub_zero];exact hb0) (fun hm=>by simp[mem]at hm) hf
theorem RA (hn:∀k,k<bs.length→look H (n+k)=none) (k:Nat) (hk:k<bs.length):look (H++GY n (JW d bs)) (n+k)=(look (GY 0 bs) k).map (Blk.shift d):=by
  rw[GR,hn _ hk,Oz,Ha,Ha,if_pos (by omega),if_pos (Nat.zero_le _),Nat.add_sub_cancel_left,Nat.sub_zero];rfl
mutual
theorem RB (hr:Hq H pl w) (hn:∀k,k<bs.length→look H (n+k)=none) (hown:∀i B p,look H i=some B→pl.fp i p→∃u,w.at? p=some u)
    (hb:po.base=fun p=>okd H pl d p∨w.at? p=none):(v:SV)→{u:Value}→GG w' (GY 0 bs) po v u→GG w' (H++GY n (JW d bs)) (pl.join po n bs.length) (v.shift n d) u
  | .own i, u, h => by
    cases h with
    | own _ sh t xs hl =>
      have hib:i<bs.length:=YD hl
      have hk:=RA (d:=d) (bs:=bs) hn i hib
      rw[hl]at hk
      have hh:(pl.join po n bs.length).hdr (n+i)=po.hdr i:=by
        show(if n+i<n∨n+bs.length≤n+i then _ else po.hdr (n+i-n))=po.hdr i
        rw[if_neg (by omega),Nat.add_sub_cancel_left]
      rw[←hh]
      cases sh with
      |none=>exact .own (n+i) none t xs hk
      |some d0=>exact .own (n+i) (some d) t xs hk
  | .r [] x, u, h => by
    cases h with
    |r _ _ _ hx=>exact N6 (hx.frame fun p u hp hu=>⟨TW hr hn hown hb hp,hu⟩)
  |.r (_::_) x,u,h=>.undef _
  |.H5,u,h=>by cases h;exact .H5
  | .agg cs, u, h => by
    cases h with
    | agg _ vs h1 h2 h3 =>
      obtain⟨g1,g2⟩:=Nj hr hn hown hb cs vs.toList (by simpa using h1) fun j x u hx hu=>h3 j x u hx (by simpa using hu)
      exact .agg _ _ (by simpa using g1) h2 fun j x u hx hu=>g2 j x u hx (by simpa using hu)
  | .tup cs, u, h => by
    cases h with
    | tup _ vs h1 h3 =>
      obtain⟨g1,g2⟩:=Nj hr hn hown hb cs vs.toList (by simpa using h1) fun j x u hx hu=>h3 j x u hx (by simpa using hu)
      exact .tup _ _ (by simpa using g1) fun j x u hx hu=>g2 j x u hx (by simpa using hu)
  |.K0,_,_=>.undef _
  |.sub _ _ _,_,_=>.undef _
  |.bsl _ _,_,_=>.undef _
  |.ptr _ _ _,_,_=>.undef _
  |.inn _ _ _,_,_=>.undef _
  |.Jp _ _,_,_=>.undef _
  |.fn _ _ _,_,_=>.undef _
  |.undef,_,_=>.undef _
theorem Nj (hr:Hq H pl w) (hn:∀k,k<bs.length→look H (n+k)=none) (hown:∀i B p,look H i=some B→pl.fp i p→∃u,w.at? p=some u)
    (hb:po.base=fun p=>okd H pl d p∨w.at? p=none):(cs:List SV)→(us:List Value)→cs.length=us.length→
    (∀(j:Nat) (x:SV) (u:Value),cs[j]? =some x→us[j]? =some u→GG w' (GY 0 bs) po x u)→
    (MD n d cs).length=us.length∧∀(j:Nat) (x:SV) (u:Value),(MD n d cs)[j]? =some x→us[j]? =some u→GG w' (H++GY n (JW d bs)) (pl.join po n bs.length) x u
  |[],us,hl,_=>⟨hl,fun j x u hx _=>by simp[MD]at hx⟩
  | v :: cs, u :: us, hl, hp => by
    obtain⟨g1,g2⟩:=Nj hr hn hown hb cs us (by simpa using hl) fun j x u hx hu=>hp (j+1) x u (by simpa using hx) (by simpa using hu)
    refine⟨by simp[MD,g1],fun j x u' hx hu=>?_⟩
    cases j with
    |zero=>simp[MD]at hx hu;subst hx hu;exact RB hr hn hown hb v (hp 0 v u rfl rfl)
    |succ j=>exact g2 j x u' (by simpa[MD]using hx) (by simpa using hu)
end
theorem Wh (hgr:HG w w') (hr:Hq H pl w) (hn:∀k,k<bs.length→look H (n+k)=none) (hg:UQ bs=true) (hro:Hq (GY 0 bs) po w') (hb:po.base=fun p=>okd H pl d p∨w.at? p=none)
    (hold:∀p x,w.at? p=some x→w'.at? p=some x∧w'.HW p=w.HW p) (R3:∀i B p,look (GY 0 bs) i=some B→po.fp i p→w.at? p=none):
    Hp H (H++GY n (JW d bs)) ([],[]) pl (pl.join po n bs.length) w w':=by
  have hown:=hr.IK
  have hcase:∀i B,look (H++GY n (JW d bs)) i=some B→((i<n∨n+bs.length≤i)∧look H i=some B)∨(¬(i<n∨n+bs.length≤i)∧∃b0,look (GY 0 bs) (i-n)=some b0∧B=b0.shift d):=fun i B hB=>by
    by_cases hi:i<n∨n+bs.length≤i
    · rw[GR,Jf hi]at hB
      exact .inl ⟨hi,by simpa using hB⟩
    · rw[show i=n+(i-n)from by omega,RA hn _ (by omega)]at hB
      obtain⟨b0,h1,h2⟩:=Option.map_eq_some_iff.1 hB
      exact .inr ⟨hi,b0,h1,h2.symm⟩
  have hlt:∀i B,look H i=some B→(i<n∨n+bs.length≤i):=fun i B hB=>by
    by_cases hi:i<n∨n+bs.length≤i
    · exact hi
    · rw[Ni hn hi]at hB;exact nomatch hB
  have hkeep:JF ([],[]) w H pl w' (H++GY n (JW d bs)) (pl.join po n bs.length):=by
    refine⟨fun i B hB _=>⟨B,by rw[GR,hB];rfl,B.Hz,by simp only[Pl.join,if_pos (hlt i B hB)]⟩,fun d' p u _ hok hu=>⟨⟨hok.1,fun i B hB hm hf=>?_⟩,(hold p u hu).1⟩⟩
    rcases hcase i B hB with⟨hi,hB'⟩|⟨hi,b0,h1,_⟩
    · simp only[Pl.join,if_pos hi]at hf;exact hok.2 i B hB' hm hf
    · simp only[Pl.join,if_neg hi]at hf
      rw[R3 _ b0 p h1 hf]at hu;exact nomatch hu
  refine⟨⟨fun i B hB=>?_,fun i j B B' p h1 h2 f1 f2=>?_,fun i B p hB hf=>?_,fun p hp=>hr.nb p ?_⟩,hkeep,rfl,hgr,fun p u hp hno=>⟨fun i B hB hf=>?_,hold p u hp⟩⟩
  · rcases hcase i B hB with⟨hi,hB'⟩|⟨hi,b0,h1,rfl⟩
    · exact(hr.blk i B hB').HL hkeep (by simp only[Pl.join,if_pos hi]) (fun p=>by simp only[Pl.join,if_pos hi]) (fun p u _ hu=>hold p u hu) B.HA
    · have hbl:=hro.blk _ b0 h1
      have hget:bs[i-n]? =some b0:=by rw[Ha,if_pos (Nat.zero_le _),Nat.sub_zero]at h1;exact h1
      have e1:(pl.join po n bs.length).hdr i=po.hdr (i-n):=by simp only[Pl.join,if_neg hi]
      have e2:(pl.join po n bs.length).fp i=po.fp (i-n):=by simp only[Pl.join,if_neg hi]
      obtain⟨t,xs,rfl|rfl⟩:=Nh hg _ _ hget
      · show Nonempty (Row w' (Ie w') t xs ((pl.join po n bs.length).hdr i) ((pl.join po n bs.length).fp i))
        rw[e1,e2];exact hbl
      · obtain⟨⟨a,cap,b,o,vs,fs,q1,q2,q3,q4,q5,q6,q7,q8,q9⟩⟩:=hbl
        refine⟨⟨a,cap,b,o,vs,fs,by rw[e1];exact q1,q2,q3,q4,q5,fun i j r hc=>⟨(q6 i j r hc).1.frame fun p u hp hu=>⟨TW hr hn hown hb hp,hu⟩,(q6 i j r hc).2⟩,q7,q8,fun p=>by rw[e2];exact q9 p⟩⟩
  · rcases hcase i B h1 with⟨hi,q1⟩|⟨hi,b0,q1,_⟩<;>rcases hcase j B' h2 with⟨hj,q2⟩|⟨hj,b1,q2,_⟩
    · simp only[Pl.join,if_pos hi]at f1
      simp only[Pl.join,if_pos hj]at f2
      exact hr.dis i j _ _ p q1 q2 f1 f2
    · simp only[Pl.join,if_pos hi]at f1
      simp only[Pl.join,if_neg hj]at f2
      obtain⟨u,hu⟩:=hown i _ p q1 f1
      rw[R3 _ _ p q2 f2]at hu;exact nomatch hu
    · simp only[Pl.join,if_neg hi]at f1
      simp only[Pl.join,if_pos hj]at f2
      obtain⟨u,hu⟩:=hown j _ p q2 f2
      rw[R3 _ _ p q1 f1]at hu;exact nomatch hu
    · simp only[Pl.join,if_neg hi]at f1
      simp only[Pl.join,if_neg hj]at f2
      have:=hro.dis _ _ _ _ p q1 q2 f1 f2
      omega
  · rcases hcase i B hB with⟨hi,q1⟩|⟨hi,b0,q1,_⟩
    · simp only[Pl.join,if_pos hi]at hf;exact hr.ob i B p q1 hf
    · simp only[Pl.join,if_neg hi]at hf
      exact hr.nb p (R3 _ _ p q1 hf)
  · cases hq:w.at? p with
    |none=>rfl
    |some u=>rw[(hold p u hq).1]at hp;exact nomatch hp
  · rcases hcase i B hB with⟨hi,q1⟩|⟨hi,b0,q1,_⟩
    · simp only[Pl.join,if_pos hi]at hf;exact hno i B q1 hf
    · simp only[Pl.join,if_neg hi]at hf
      rw[R3 _ _ p q1 hf]at hp;exact nomatch hp
end
theorem PF {g:FuncId} {ss:List Sh} {G:PG} (h:Ry P g G):L9 P g (Qy ss G):=by
  intro ρ nid vs H K out hK
  simp only[Qy,Option.bind_eq_some_iff]at hK
  obtain⟨⟨d,args⟩,hargs,hG⟩:=hK
  obtain⟨o,ho,hen,hcalls⟩:=h ρ args _ out hG
  cases hg:UQ o.2<;>simp only[hg,cond_true,cond_false]at ho
  · exact nomatch ho
  · refine⟨_,ho,hen,fun i B hB=>by simp[look]at hB,fun H1 pl w us he hr hn hl hp H' ha=>?_⟩
    have hn:∀k,k<o.2.length→look H1 (nid+k)=none:=fun k hk=>hn k (by rw[KJ];exact hk)
    obtain⟨g1,g2⟩:=PE (us:=us.toList) hr (Rz he _ _ _ hargs) (by simpa using hl) fun j x u hx hu=>hp j x u hx (by simpa using hu)
    refine(hcalls w us (okd H1 pl d) (by simpa using g1) fun j x u hx hu=>g2 j x u hx (by simpa using hu)).mono fun e w' ⟨u,po,he,h1,h2,h3,h4,h5,h6⟩=>?_
    cases ha
    have hst:=Wh (d:=d) h6 hr hn hg h1 h3 h4 h5
    exact⟨u,_,he,hst,RB hr hn hr.IK h3 o.1 h2⟩
end
end Go.Proofs.Ev
