/- A region whose order is drawn: the theorem. -/
import Derived.Test.YtcgeekjfbjcofaaEvDraw3
set_option linter.unusedSimpArgs false
set_option linter.unusedVariables false
namespace Go.Proofs.Ev
theorem after_of_app {r : DR} {X X' : SH} (h : r.app X = some X') (hup : ∀ i B, look r.c.upd i = some B → ∃ B', look X.2 i = some B') : ∃ H', after X.2 r.n0 r.c = some H' := by
  unfold DR.app at h
  unfold after
  rw [upds_updsX hup]
  simp only [Option.bind_eq_some_iff, Option.some.injEq] at h
  obtain ⟨h1, e1, _⟩ := h
  exact ⟨_, by rw [e1]; rfl⟩
theorem okW_or {op : Op} {c : CR} (h : okW op c = true) : isWriter op = false → c.kil.2 = [] ∧ c.upd = [] := by
  intro hw
  unfold okW at h
  rw [hw] at h
  simp only [cond_false, Bool.and_eq_true] at h
  exact ⟨isNil_eq h.1, isNil_eq h.2⟩
def unl (l : Array Bool) : Nat := l.toList.countP (fun b => !b)
theorem countP_set {l : List Bool} : ∀ {i : Nat}, l[i]? = some false → (l.set i true).countP (fun b => !b) + 1 = l.countP (fun b => !b) := by
  induction l with
  | nil => intro i h; simp at h
  | cons b l ih =>
    intro i h
    cases i with
    | zero => simp at h; subst h; simp
    | succ i => have := ih (i := i) (by simpa using h); simp only [List.set_cons_succ, List.countP_cons]; omega
theorem unl_set {l : Array Bool} {i : Nat} (h : l.getD i true = false) : unl (l.setIfInBounds i true) + 1 = unl l := by
  unfold unl
  rw [Array.toList_setIfInBounds]
  refine countP_set ?_
  rw [Array.getD_eq_getD_getElem?] at h
  cases hq : l[i]? with
  | none => rw [hq] at h; exact nomatch h
  | some b => rw [hq] at h; simp at h; subst h; rw [Array.getElem?_toList, hq]
theorem unl_zero {l : Array Bool} (h : unl l = 0) (i : Nat) : l.getD i true = true := by
  unfold unl at h
  rw [Array.getD_eq_getD_getElem?]
  cases hq : l[i]? with
  | none => rfl
  | some b =>
    cases b
    · have hm : false ∈ l.toList := by
        rw [← Array.getElem?_toList] at hq
        exact List.mem_of_getElem? hq
      have := List.countP_eq_zero.1 h false hm
      simp at this
    · rfl
theorem getD_both' {l : Array Bool} {i : Nat} (hi : i < l.size) : l.getD i true = l.getD i false := by
  simp [Array.getD_eq_getD_getElem?, hi]
section
variable {E : Env} {opsA : Array Oper} {masks : List Nat} {s0 : List (Nat × SV)} {h0 : Heap} {nid0 nidE n : Nat} {rs : List DR} {XF : SH} {w0 : World} {fp0 bs : Cell → Prop} {Q : Exit → Act → World → Prop}
def lp (l : Array Bool) : Nat → Bool := fun j => l.getD j false
def Closed (ops : Array Oper) (listed : Array Bool) : Prop := ∀ (j : Nat) (o : Oper), ops.toList[j]? = some o → lp listed j = true → ∀ e ∈ o.after.toList, Region.binds .any e = true → lp listed e.on = true
theorem all_listed (hm : Masks opsA.toList masks) {listed : Array Bool} (hs : listed.size = opsA.size) (hr : Region.ready .any opsA listed = []) : ∀ j, j < opsA.size → lp listed j = true := by
  intro j
  induction j using Nat.strongRecOn with
  | _ j ih =>
    intro hj
    cases hl : lp listed j with
    | true => rfl
    | false =>
      have : j ∈ Region.ready .any opsA listed := mem_ready.2 ⟨by rw [getD_both' (by omega)]; exact hl, opsA[j], by simp [hj], fun e he hb => by
        have hlt := hm.back j opsA[j] (by rw [Array.getElem?_toList]; simp [hj]) e (by simpa using he) hb
        exact ih e.on hlt (by omega)⟩
      rw [hr] at this; exact nomatch this
theorem draw_any (hm : Masks opsA.toList masks) (F : Facts E opsA.toList masks (dstsOf opsA.toList) s0 h0 nid0 rs opsA.size nidE) (hp : pairsB masks 0 rs = true)
    (hnd : nodupB (dstsOf opsA.toList) = true) (hlt : ltAll n (dstsOf opsA.toList) = true) (hfin : replay (fun _ => true) 0 rs (delAll (dstsOf opsA.toList) s0, h0) = some XF) (hfr : ∀ i, nid0 ≤ i → look h0 i = none)
    (hQ : ∀ a w, Rl w0 fp0 bs n ⟨XF.1, XF.2, nidE, n⟩ a w → Q .normal a w) :
    ∀ (f : Nat) (listed : Array Bool) (a : Act) (w : World) (X : SH), listed.size = opsA.size → unl listed ≤ f → Closed opsA listed → replay (lp listed) 0 rs (delAll (dstsOf opsA.toList) s0, h0) = some X →
      Rl w0 fp0 bs n ⟨X.1, X.2, nidE, n⟩ a w → wpAny E.P .any opsA Q f listed a w := by
  have done : ∀ (listed : Array Bool) (a : Act) (w : World) (X : SH), listed.size = opsA.size → replay (lp listed) 0 rs (delAll (dstsOf opsA.toList) s0, h0) = some X → Rl w0 fp0 bs n ⟨X.1, X.2, nidE, n⟩ a w →
      Region.ready .any opsA listed = [] → Q .normal a w := fun listed a w X hs hX hR hr => by
    have hall := all_listed hm hs hr
    rw [replay_congr (q := fun _ => true) rs 0 _ fun j hj => by rw [F.len] at hj; rw [Nat.zero_add]; exact hall j hj, hfin] at hX
    cases hX
    exact hQ a w hR
  intro f
  induction f with
  | zero =>
    intro listed a w X hs hu hc hX hR
    have hr : Region.ready .any opsA listed = [] := by
      cases hq : Region.ready .any opsA listed with
      | nil => rfl
      | cons i l =>
        have hi : i ∈ Region.ready .any opsA listed := by rw [hq]; simp
        have := (mem_ready.1 hi).1
        rw [unl_zero (by omega) i] at this; exact nomatch this
    exact ⟨hr, done listed a w X hs hX hR hr⟩
  | succ f ih =>
    intro listed a w X hs hu hc hX hR
    refine ⟨done listed a w X hs hX hR, fun i hi => ?_⟩
    obtain ⟨hun, o, ho, hedge⟩ := mem_ready.1 hi
    have hil : i < opsA.size := (Array.getElem?_eq_some_iff.1 ho).1
    have ho' : opsA.toList[i]? = some o := by rwa [Array.getElem?_toList]
    have hpi : lp listed i = false := by unfold lp; rw [← getD_both' (by omega)]; exact hun
    obtain ⟨r, hr⟩ : ∃ r, rs[i]? = some r := ⟨_, List.getElem?_eq_getElem (by rw [F.len]; exact hil)⟩
    obtain ⟨hdst, hok, x, t, hx, hw, hgen⟩ := F.good i o r ho' hr
    have hanc : ∀ j, (masks.getD i 0).testBit j = true → lp listed j = true := hm.closed hc i i o (Nat.le_refl _) ho' fun e he hb => hedge e (by simpa using he) hb
    have hopr : ∀ (j : Nat) (b : DR), rs[j]? = some b → ∃ oj, opsA.toList[j]? = some oj ∧ b.dst = oj.dst ∧ okW oj.op b.c = true := fun j b hb => by
      have hj : j < opsA.toList.length := by have := (List.getElem?_eq_some_iff.1 hb).1; rw [F.len] at this; simpa using this
      obtain ⟨g1, g2, _⟩ := F.good j _ b (List.getElem?_eq_getElem hj) hb
      exact ⟨_, List.getElem?_eq_getElem hj, g1, g2⟩
    have hback : ∀ (j : Nat), lp listed j = true → (masks.getD j 0).testBit i = false := fun j hj => by
      cases hq : (masks.getD j 0).testBit i with
      | false => rfl
      | true =>
        cases hoj : opsA.toList[j]? with
        | none =>
          have : lp listed j = false := by
            unfold lp
            rw [Array.getD_eq_getD_getElem?, Array.getElem?_eq_none]; rfl
            rw [hs]; have := List.getElem?_eq_none_iff.1 hoj; simpa using this
          rw [this] at hj; exact nomatch hj
        | some oj =>
          have := hm.closed hc j j oj (Nat.le_refl _) hoj (fun e he hb => hc j oj hoj hj e he hb) i hq
          rw [hpi] at this; exact nomatch this
    have hcomm1 : ∀ (j : Nat) (b : DR), j < i → rs[j]? = some b → (masks.getD i 0).testBit j = false → commB b r = true := fun j b hj hb hnot => by
      have := pairsB_spec hp j i b r hj hb hr
      simp only [Nat.zero_add] at this
      exact this.resolve_left (by rw [hnot]; simp)
    have hcomm2 : ∀ (j : Nat) (b : DR), i < j → rs[j]? = some b → lp listed j = true → commB r b = true := fun j b hj hb hl => by
      have := pairsB_spec hp i j r b hj hr hb
      simp only [Nat.zero_add] at this
      exact this.resolve_left (by rw [hback j hl]; simp)
    have hmine : ∀ (j j' : Nat) (b b' : DR) k, j ≠ j' → rs[j]? = some b → rs[j']? = some b' → b.mine k → ¬ b'.mine k := fun j j' b b' k hne h1 h2 m1 m2 => by
      rcases Nat.lt_or_gt_of_ne hne with h | h
      · have := F.ord j j' b b' h h1 h2; have := m1.2; have := m2.1; omega
      · have := F.ord j' j b' b h h2 h1; have := m2.2; have := m1.1; omega
    have hdd : ∀ (j j' : Nat) (b b' : DR) t, j ≠ j' → rs[j]? = some b → rs[j']? = some b' → b.dst = some t → b'.dst ≠ some t := fun j j' b b' t hne h1 h2 hb hb' => by
      obtain ⟨oj, q1, q2, _⟩ := hopr j b h1
      obtain ⟨oj', q1', q2', _⟩ := hopr j' b' h2
      exact dstsOf_inj (nodupB_spec hnd) hne q1 q1' (q2 ▸ hb) (q2' ▸ hb')
    have hfree : ∀ (b : DR) (j k : Nat), rs[j]? = some b → b.mine k → look h0 k = none := fun b j k hb hk => hfr k (by have := (F.lo j b hb).1; have := hk.1; omega)
    have hx' : replay (Nat.testBit (masks.getD i 0)) 0 rs (restr (dstsOf opsA.toList) s0 (tempsOf o.op.operands.toList), h0) = some x := by
      have hsp := List.take_append_drop i rs
      rw [← hsp, replay_append, hx, Option.bind_some]
      refine replay_none _ _ _ fun j hj => ?_
      have hti : (rs.take i).length = i := by rw [List.length_take, F.len]; omega
      rw [hti, Nat.zero_add]
      cases hq : (masks.getD i 0).testBit (i + j) with
      | false => rfl
      | true => have := hm.lt ho' hq; omega
    have hg0 : ∀ (j : Nat) (b : DR), rs[j]? = some b → lp listed (0 + j) = true → (masks.getD i 0).testBit (0 + j) = false → b.c.kil.2 = [] := fun j b hb h1 h2 => by
      rw [Nat.zero_add] at h1 h2
      rcases Nat.lt_trichotomy j i with h | h | h
      · exact (commB_spec (hcomm1 j b h hb h2)).1
      · subst h; rw [hpi] at h1; exact nomatch h1
      · exact (commB_spec (hcomm2 j b h hb h1)).2.1
    have hes : Ext x.1 X.1 := replay_ext rs 0 _ _ x X hanc hx' hX (fun t v hv => by
        obtain ⟨g1, g2⟩ := look_restr hv
        show look (delAll _ _) t = some v
        rw [look_delAll, if_neg g1]; exact g2)
      (fun t v hv j b hb _ hdt => by
        obtain ⟨oj, q1, q2, _⟩ := hopr j b hb
        exact (look_restr hv).1 (dstsOf_mem q1 (q2 ▸ hdt))) hdd hg0
    have heh : Ext (cond (blindB masks i 0 opsA.toList) [] x.2) X.2 := by
      cases hb : blindB masks i 0 opsA.toList with
      | true => exact fun _ _ h => nomatch h
      | false =>
        refine replay_extH rs 0 _ _ x X hanc hx' hX .rfl' (fun j b k hb hk => hfree b j k hb hk) (fun j j' b b' k => hmine j j' b b' k) fun j b hjb h1 h2 => ?_
        rw [Nat.zero_add] at h1 h2
        obtain ⟨oj, q1, q2, q3⟩ := hopr j b hjb
        refine okW_or q3 ?_
        cases hwr : isWriter oj.op with
        | false => rfl
        | true =>
          have := blindB_spec hb j oj q1 hwr
          rw [Nat.zero_add] at this
          simp only [ordB, Bool.or_eq_true] at this
          rcases this with h | h | h
          · have := Nat.eq_of_beq_eq_true h; subst this; rw [hpi] at h1; exact nomatch h1
          · rw [h2] at h; exact nomatch h
          · rw [hback j h1] at h; exact nomatch h
    have hrange : ∀ k, k < r.c.news.length → look X.2 (r.n0 + k) = none := fun k hk => by
      cases hq : look X.2 (r.n0 + k) with
      | none => rfl
      | some B =>
        have hmk : r.mine (r.n0 + k) := ⟨by omega, by omega⟩
        rcases replay_dom rs 0 _ X hX _ B hq with ⟨B', hB'⟩ | ⟨j, b, g1, g2, g3⟩
        · have := hfree r i _ hr hmk; rw [this] at hB'; exact nomatch hB'
        · rw [Nat.zero_add] at g2
          have hne : j ≠ i := fun e => by subst e; rw [hpi] at g2; exact nomatch g2
          exact (hmine j i b r _ hne g1 hr g3 hmk).elim
    obtain ⟨X', happ⟩ : ∃ X', r.app X = some X' := by
      cases hg : r.c.kil.2 with
      | nil => exact ⟨_, app_plain hg X⟩
      | cons b0 T =>
        have hlow : ∀ j, j < i → lp listed j = true := fun j hj => by
          obtain ⟨b, hb⟩ : ∃ b, rs[j]? = some b := ⟨_, List.getElem?_eq_getElem (by rw [F.len]; omega)⟩
          cases hq : (masks.getD i 0).testBit j with
          | true => exact hanc j hq
          | false => have := (commB_spec (hcomm1 j b hj hb hq)).2.1; rw [hg] at this; exact nomatch this
        have hhigh : ∀ j, i < j → j < opsA.size → lp listed j = false := fun j hj hjl => by
          obtain ⟨b, hb⟩ : ∃ b, rs[j]? = some b := ⟨_, List.getElem?_eq_getElem (by rw [F.len]; omega)⟩
          cases hq : lp listed j with
          | false => rfl
          | true => have := (commB_spec (hcomm2 j b hj hb hq)).1; rw [hg] at this; exact nomatch this
        have hsp : rs = rs.take i ++ r :: rs.drop (i + 1) := by
          have hlen : i < rs.length := by rw [F.len]; exact hil
          conv => lhs; rw [← List.take_append_drop i rs]
          rw [List.drop_eq_getElem_cons hlen, (List.getElem?_eq_some_iff.1 hr).2]
        have hti : (rs.take i).length = i := by rw [List.length_take, F.len]; omega
        have hXp : replay (fun _ => true) 0 (rs.take i) (delAll (dstsOf opsA.toList) s0, h0) = some X := by
          rw [hsp, replay_append, hti, Nat.zero_add] at hX
          rw [replay_congr (q := lp listed) _ _ _ fun j hj => by rw [hti] at hj; rw [Nat.zero_add]; exact (hlow j hj).symm]
          rw [Option.bind_eq_some_iff] at hX
          obtain ⟨y, hy, hX⟩ := hX
          rw [replay_none] at hX
          · cases hX; exact hy
          · intro j hj
            cases j with
            | zero => exact hpi
            | succ j => refine hhigh _ (by omega) ?_; simp only [List.length_cons, List.length_drop, F.len] at hj; omega
        rw [hsp, replay_append, hXp] at hfin
        simp only [Option.bind_some, replay, cond_true, Option.bind_eq_some_iff] at hfin
        obtain ⟨y, hy, _⟩ := hfin
        exact ⟨y, hy⟩
    have hpi' : lp (listed.setIfInBounds i true) i = true := by
      unfold lp; simp [Array.getD_eq_getD_getElem?, Array.getElem?_setIfInBounds, hs, hil]
    have hpp : ∀ j, j ≠ i → lp (listed.setIfInBounds i true) j = lp listed j := fun j hj => getD_set_ne false (fun e => hj e.symm)
    obtain ⟨X'', hX'', hsame⟩ := replay_insert hr hpi hpi' hpp (fun j b hj hb hl => ⟨hcomm2 j b hj hb hl, fun t h1 => hdd i j r b t (by omega) hr hb h1, fun k h1 => hmine i j r b k (by omega) hr hb h1⟩) hX happ
    have hcl' : Closed opsA (listed.setIfInBounds i true) := fun j oj hoj hl e he hb => by
      by_cases hji : j = i
      · subst hji
        rw [ho'] at hoj; cases hoj
        exact getD_set_true (hedge e (by simpa using he) hb)
      · rw [hpp j hji] at hl
        exact getD_set_true (hc j oj hoj hl e he hb)
    have hu' : unl (listed.setIfInBounds i true) ≤ f := by have := unl_set hun; omega
    have next : ∀ (H' : Heap) (pl pl' : Pl) (u : Value) (w' : World), after X.2 r.n0 r.c = some H' → Rel w0 fp0 ⟨X.1, X.2, nidE, n⟩ pl a w → pl.base = bs → StepTo X.2 H' r.c.kil pl pl' w w' → SVRep w' H' pl' r.c.v u →
        (∀ i B, look r.c.upd i = some B → ∃ B', look X.2 i = some B') → wpAny E.P .any opsA Q f (listed.setIfInBounds i true) (a.put o.dst u) w' := fun H' pl pl' u w' hafter hR hb hst hv hup => by
      have h1 := Rel.app hR happ hup (fun t ht => ltAll_spec hlt t (dstsOf_mem ho' (hdst ▸ ht))) (F.lo i r hr).2 hafter hst hv
      rw [hdst] at h1
      have h2 := h1.congr (s' := X''.1) (H' := X''.2) (fun t v hv => (hsame.1 t).trans hv) (fun k => (hsame.2 k).symm)
      exact ih _ _ _ X'' (by simp [hs]) hu' hcl' hX'' ⟨pl', h2, hst.bs.trans hb, rfl⟩
    obtain ⟨pl, hR, hbase, _⟩ := hR
    have hwanted : Region.wanted o (yielded opsA a.tmps) = t := by
      unfold Wanted at hw
      unfold Region.wanted
      split at hw
      · rename_i hg; rw [hg]; exact hw.symm
      · rename_i g want hg
        obtain ⟨q1, rg, b, tg, q2, q3, q4, q5⟩ := hw
        rw [hg]
        simp only
        obtain ⟨og, p1, p2, _⟩ := hopr g rg q2
        have hlen : g < rs.length := (List.getElem?_eq_some_iff.1 q2).1
        have hsp : rs = rs.take g ++ rg :: rs.drop (g + 1) := by
          conv => lhs; rw [← List.take_append_drop g rs]
          rw [List.drop_eq_getElem_cons hlen, (List.getElem?_eq_some_iff.1 q2).2]
        have hti : (rs.take g).length = g := by rw [List.length_take]; omega
        have hslot : look X.1 tg = some (.r [] (.bool b)) := by
          have hX2 := hX
          rw [hsp, replay_append, hti, Nat.zero_add, Option.bind_eq_some_iff] at hX2
          obtain ⟨y, hy, hX2⟩ := hX2
          simp only [replay, hanc g q1, cond_true, Option.bind_eq_some_iff] at hX2
          obtain ⟨y', hy', hX2⟩ := hX2
          refine replay_slot (fun T => by simp [SV.sweep, hit]) _ _ y' X hX2 (fun j b' hb' => ?_) (by rw [app_slots hy', look_putD, if_pos q3, q4])
          rw [List.getElem?_drop] at hb'
          exact hdd g (g + 1 + j) rg b' tg (by omega) q2 hb' q3
        have hval := hR.sl tg _ hslot
        have hval : a.tmps.getD tg undef = .bool b := by
          generalize a.tmps.getD tg undef = u at hval
          cases hval with
          | r _ _ _ hx => cases hx; rfl
        have hog : opsA[g]? = some og := by rwa [Array.getElem?_toList] at p1
        have hgd : a.tmps[tg]? = some (.bool b) := by
          rw [Array.getD_eq_getD_getElem?] at hval
          cases hq : a.tmps[tg]? with
          | none => rw [hq] at hval; exact nomatch hval
          | some x => rw [hq] at hval; exact congrArg some hval
        rw [p2] at q3
        have hy : yielded opsA a.tmps g = some b := by simp [yielded, hog, q3, hgd]
        rw [hy, q5]
        cases b <;> cases want <;> rfl
    unfold wpOp
    rw [ho]
    simp only [hwanted]
    rcases hgen with ⟨rfl, hg⟩ | ⟨rfl, hcu⟩
    · rw [if_pos rfl]
      obtain ⟨hup, hsem⟩ := hg X.1 X.2 a w pl hes heh hR.hr hR.sl hrange
      obtain ⟨H', hafter⟩ := after_of_app happ hup
      exact .inl (hsem H' _ Q hafter fun u pl' w' hst hv => next H' pl pl' u w' hafter hR hbase hst hv hup)
    · rw [if_neg (by simp)]
      have hafter : after X.2 r.n0 r.c = some X.2 := by
        rw [hcu]
        simp only [after, upds, newsH, List.append_nil, CR.kil, sweepH', Option.bind_some]
      refine next X.2 pl pl undef w hafter hR hbase ?_ ?_ ?_
      · rw [hcu]; exact StepTo.refl hR.hr
      · rw [hcu]; exact .undef _
      · rw [hcu]; exact fun i B hB => by simp [look] at hB
theorem Rl.drew {n : Nat} {st : St} {a : Act} {w : World} (h : Rl w0 fp0 bs n st a w) : Rl w0 fp0 bs n st a { w with drawn := w.drawn + 1 } := by
  obtain ⟨pl, h, hb, hn⟩ := h
  have hk : Keeps ([], []) w st.heap pl { w with drawn := w.drawn + 1 } st.heap pl := ⟨fun i B hB _ => ⟨B, hB, B.like_refl, rfl⟩, fun d p u _ h hp => ⟨h, hp⟩⟩
  exact ⟨pl, ⟨⟨fun i B hB => (h.hr.blk i B hB).keep hk rfl (fun _ => Iff.rfl) (fun p u _ hu => ⟨hu, rfl⟩) B.sweep_nil, h.hr.dis, h.hr.ob, h.hr.nb⟩,
    fun t v hv => (h.sl t v hv).keep0 hk, h.sz, h.df, h.fresh, h.gr.trans (Grown.drew w), fun p u hp hno => h.fr p u hp hno⟩, hb, hn⟩
theorem Rl.less {n : Nat} {st : St} {s' : List (Nat × SV)} {a : Act} {w : World} (h : Rl w0 fp0 bs n st a w) (hs : ∀ t v, look s' t = some v → look st.slots t = some v) : Rl w0 fp0 bs n ⟨s', st.heap, st.nid, st.n⟩ a w := by
  obtain ⟨pl, h, hb, hn⟩ := h
  exact ⟨pl, h.congr hs fun _ => rfl, hb, hn⟩
theorem Rl.nidle {n nid nid' m : Nat} {s : List (Nat × SV)} {H : Heap} {a : Act} {w : World} (h : Rl w0 fp0 bs n ⟨s, H, nid, m⟩ a w) (hn : nid ≤ nid') : Rl w0 fp0 bs n ⟨s, H, nid', m⟩ a w := by
  obtain ⟨pl, h, hb, hn'⟩ := h
  exact ⟨pl, ⟨h.hr, h.sl, h.sz, h.df, fun i hi => h.fresh i (Nat.le_trans hn hi), h.gr, h.fr⟩, hb, hn'⟩
/-- The theorem. -/
theorem drawn_sound {ρ : Type} (hE : EnvOk E) {id n : Nat} {st : St} {a : Act} {w : World} {K : St → Option ρ} {out : ρ} (hR : Rl w0 fp0 bs n st a w) (h : evDrawn E opsA.toList st K = some out)
    (hK : ∀ st' a' w', K st' = some out → Rl w0 fp0 bs n st' a' w' → Q .normal a' w') : (Code.region id opsA true).wp E.P Q a w := by
  unfold evDrawn at h
  cases hmo : E.P.follows .mixedOrders <;> simp only [hmo, cond_true, cond_false] at h
  · exact nomatch h
  rw [Option.bind_eq_some_iff] at h
  obtain ⟨masks, hmasks, h⟩ := h
  cases hnd : nodupB (dstsOf opsA.toList) <;> simp only [hnd, cond_true, cond_false] at h
  · exact nomatch h
  cases hlt : ltAll st.n (dstsOf opsA.toList) <;> simp only [hlt, cond_true, cond_false] at h
  · exact nomatch h
  obtain ⟨rs, nidE, h, hnid, F⟩ := evDraw_facts (nid0 := st.nid) hE opsA.toList 0 st.nid [] _ h ⟨rfl, fun i o r _ hr => by simp at hr, fun i r hr => by simp at hr, fun i j a b _ ha => by simp at ha⟩ (Nat.le_refl _) (by simp)
  cases hp : pairsB masks 0 rs <;> simp only [hp, cond_true, cond_false] at h
  · exact nomatch h
  rw [Option.bind_eq_some_iff] at h
  obtain ⟨XF, hXF, h⟩ := h
  rw [Nat.zero_add, show opsA.toList.length = opsA.size from by simp] at F
  have hn := hR
  obtain ⟨pl, hR0, _, hnn⟩ := hn
  refine wp_region_any hmo (draw_any (XF := XF) (n := n) (nidE := nidE) (w0 := w0) (fp0 := fp0) (bs := bs) (masks_of hmasks) F hp hnd (by rw [← hnn]; exact hlt) hXF hR0.fresh (fun a' w' hR' => hK _ a' w' h (by rw [hnn]; exact hR')) opsA.size _ a _
    (delAll (dstsOf opsA.toList) st.slots, st.heap) (by simp) (by unfold unl; exact Nat.le_trans List.countP_le_length (by simp)) (fun j o _ hl => ?_) (replay_none _ _ _ fun j _ => ?_) ?_)
  · have : lp (Array.replicate opsA.size false) j = false := by
      unfold lp; rw [Array.getD_eq_getD_getElem?, Array.getElem?_replicate]; split <;> rfl
    rw [this] at hl; exact nomatch hl
  · show lp _ _ = false
    unfold lp; rw [Array.getD_eq_getD_getElem?, Array.getElem?_replicate]; split <;> rfl
  · have := ((hR.less (s' := delAll (dstsOf opsA.toList) st.slots) fun t v hv => by
      rw [look_delAll] at hv
      split at hv
      · exact nomatch hv
      · exact hv).nidle hnid).drew
    rw [hnn] at this
    exact this
end
end Go.Proofs.Ev
