/- A region whose order is drawn: the state behind a set of its operations. -/
import Derived.Test.YtcgeekjfbjcofaaEvCall
import Derived.Orders
set_option linter.unusedVariables false
set_option linter.unusedSimpArgs false
namespace Go.Proofs.Ev
/-! ### lists -/
theorem look_setH (h : Heap) (n : Nat) (b : Blk) (i : Nat) : look (setH h n b) i = if n = i then (look h i).map fun _ => b else look h i := by
  induction h with
  | nil => simp [setH, look]
  | cons x l ih =>
    obtain ⟨k, u⟩ := x
    simp only [setH]
    cases hb : Nat.beq k n
    · simp only [cond_false, look_cons, ih]
      have hne : k ≠ n := fun e => by subst e; simp at hb
      by_cases e : k = i
      · subst e; simp only [if_true]; rw [if_neg (fun e => hne e.symm)]
      · simp only [if_neg e]
    · simp only [cond_true, look_cons]
      have := Nat.eq_of_beq_eq_true hb
      subst this
      by_cases e : k = i <;> simp [e]
theorem look_putD (s : List (Nat × SV)) (dst : Option Tmp) (v : SV) (t : Nat) : look (putD s dst v) t = if dst = some t then some v else look s t := by
  cases dst with
  | none => simp [putD]
  | some d => simp [putD, look_put]
/-- The same, by its look. -/
def SameL {α : Type} (x y : List (Nat × α)) : Prop := ∀ t, look x t = look y t
theorem setH_same {h h' : Heap} (e : SameL h h') (n : Nat) (b : Blk) : SameL (setH h n b) (setH h' n b) := fun t => by rw [look_setH, look_setH, e t]
theorem updsX_same {h h' : Heap} (e : SameL h h') (u : Heap) : SameL (updsX u h) (updsX u h') := by
  induction u generalizing h h' with
  | nil => exact e
  | cons x l ih => obtain ⟨k, b⟩ := x; exact ih (setH_same e k b)
theorem updsX_dom (u h : Heap) (i : Nat) : (look (updsX u h) i).isSome = (look h i).isSome := by
  induction u generalizing h with
  | nil => rfl
  | cons x l ih =>
    obtain ⟨k, b⟩ := x
    rw [updsX, ih, look_setH]
    by_cases e : k = i <;> simp [e]
theorem updsX_none {u h : Heap} {i : Nat} : look (updsX u h) i = none ↔ look h i = none := by
  have := updsX_dom u h i
  rw [← Option.not_isSome_iff_eq_none, ← Option.not_isSome_iff_eq_none, this]
theorem updsX_ext {h h' : Heap} (e : Ext h h') (u : Heap) : Ext (updsX u h) (updsX u h') := by
  induction u generalizing h h' with
  | nil => exact e
  | cons x l ih =>
    obtain ⟨k, b⟩ := x
    refine ih fun t v hv => ?_
    rw [look_setH] at hv ⊢
    by_cases c : k = t
    · rw [if_pos c] at hv ⊢
      obtain ⟨y, hy, rfl⟩ := Option.map_eq_some_iff.1 hv
      rw [e t y hy]; rfl
    · rw [if_neg c] at hv ⊢; exact e t v hv
theorem upds_same {h h' : Heap} (e : SameL h h') (u : Heap) : SameL (upds u h) (upds u h') := fun t => by rw [look_upds, look_upds, e t]
theorem put_setH {h : Heap} {k : Nat} (b : Blk) (hk : ∃ B, look h k = some B) : put h k b = setH h k b := by
  induction h with
  | nil => obtain ⟨B, hB⟩ := hk; exact nomatch hB
  | cons x l ih =>
    obtain ⟨k', u⟩ := x
    simp only [put, setH]
    obtain ⟨B, hB⟩ := hk
    rw [look_cons] at hB
    cases hb : Nat.beq k' k
    · have hne : k' ≠ k := fun e => by subst e; simp at hb
      rw [if_neg hne] at hB
      simp only [cond_false, ih ⟨B, hB⟩]
    · rfl
theorem upds_updsX {u h : Heap} (hd : ∀ i B, look u i = some B → ∃ B', look h i = some B') : upds u h = updsX u h := by
  induction u generalizing h with
  | nil => rfl
  | cons x l ih =>
    obtain ⟨k, b⟩ := x
    have hk := hd k b (by rw [look_cons]; simp)
    simp only [upds, updsX]
    rw [put_setH b hk]
    refine ih fun i B hB => ?_
    rw [look_setH]
    by_cases e : k = i
    · subst e; obtain ⟨B', hB'⟩ := hk; exact ⟨b, by simp [hB']⟩
    · rw [if_neg e]; exact hd i B (by rw [look_cons, if_neg e]; exact hB)
def Same (x y : SH) : Prop := SameL x.1 y.1 ∧ SameL x.2 y.2
theorem Same.refl (x : SH) : Same x x := ⟨fun _ => rfl, fun _ => rfl⟩
theorem Same.trans {x y z : SH} (h : Same x y) (g : Same y z) : Same x z := ⟨fun t => (h.1 t).trans (g.1 t), fun t => (h.2 t).trans (g.2 t)⟩
/-- What an operation makes. -/
def DR.mine (r : DR) (i : Nat) : Prop := r.n0 ≤ i ∧ i < r.n0 + r.c.news.length
theorem DR.news_look (r : DR) (i : Nat) : look (newsH r.n0 r.c.news) i = if r.n0 ≤ i then r.c.news[i - r.n0]? else none := look_newsH _ _ _
theorem DR.news_none {r : DR} {i : Nat} (h : ¬ r.mine i) : look (newsH r.n0 r.c.news) i = none := by
  rw [look_newsH]
  by_cases c : r.n0 ≤ i
  · rw [if_pos c]; exact List.getElem?_eq_none (Nat.le_of_not_lt fun h' => h ⟨c, by omega⟩)
  · rw [if_neg c]
theorem sweepS'_nil {T : Kil} (h : T.2 = []) (x : List (Nat × SV)) : sweepS' T x = x := by unfold sweepS'; rw [h]
theorem sweepH'_nil {T : Kil} (h : T.2 = []) (x : Heap) : sweepH' T x = some x := by unfold sweepH'; rw [h]
theorem app_plain {r : DR} (hg : r.c.kil.2 = []) (x : SH) : r.app x = some (putD x.1 r.dst r.c.v, updsX r.c.upd x.2 ++ newsH r.n0 r.c.news) := by
  unfold DR.app; rw [sweepH'_nil hg, sweepS'_nil hg]; rfl
theorem app_slots {r : DR} {x y : SH} (h : r.app x = some y) : y.1 = putD (sweepS' r.c.kil x.1) r.dst r.c.v := by
  unfold DR.app at h
  simp only [Option.bind_eq_some_iff, Option.some.injEq] at h
  obtain ⟨hh, h1, rfl⟩ := h
  rfl
theorem app_heap {r : DR} {x y : SH} (h : r.app x = some y) (i : Nat) : look y.2 i = (cond (mem i r.c.kil.1) none ((look (updsX r.c.upd x.2) i).bind (Blk.sweep r.c.kil))).or (look (newsH r.n0 r.c.news) i) := by
  unfold DR.app at h
  simp only [Option.bind_eq_some_iff, Option.some.injEq] at h
  obtain ⟨hh, h1, rfl⟩ := h
  show look (hh ++ _) i = _
  rw [look_append, sweepH'_spec r.c.kil_le h1 i]
theorem app_same {r : DR} (hg : r.c.kil.2 = []) {x y : SH} (e : Same x y) {x' : SH} (h : r.app x = some x') : ∃ y', r.app y = some y' ∧ Same x' y' := by
  rw [app_plain hg] at h; cases h
  refine ⟨_, app_plain hg y, fun t => ?_, fun i => ?_⟩
  · show look (putD _ _ _) t = look (putD _ _ _) t
    rw [look_putD, look_putD, e.1 t]
  · show look (_ ++ _) i = look (_ ++ _) i
    rw [look_append, look_append, updsX_same e.2 _ i]
theorem replay_append (p : Nat → Bool) : ∀ (l1 l2 : List DR) (k : Nat) (x : SH), replay p k (l1 ++ l2) x = (replay p k l1 x).bind (replay p (k + l1.length) l2)
  | [], l2, k, x => by simp [replay]
  | r :: l, l2, k, x => by
    simp only [List.cons_append, replay, List.length_cons]
    cases p k
    · simp only [cond_false]; rw [replay_append p l l2 (k + 1) x, show k + 1 + l.length = k + (l.length + 1) from by omega]
    · simp only [cond_true, Option.bind_assoc]
      congr 1; funext y; rw [replay_append p l l2 (k + 1) y, show k + 1 + l.length = k + (l.length + 1) from by omega]
theorem replay_congr {p q : Nat → Bool} : ∀ (l : List DR) (k : Nat) (x : SH), (∀ j, j < l.length → p (k + j) = q (k + j)) → replay p k l x = replay q k l x
  | [], _, _, _ => rfl
  | r :: l, k, x, h => by
    simp only [replay]
    have h0 := h 0 (by simp)
    rw [Nat.add_zero] at h0
    have ih := fun x => replay_congr (p := p) (q := q) l (k + 1) x fun j hj => by have := h (j + 1) (by simpa using hj); rwa [show k + (j + 1) = k + 1 + j from by omega] at this
    rw [h0, ih x]; congr 1; congr 1; exact funext ih
theorem replay_none {p : Nat → Bool} : ∀ (l : List DR) (k : Nat) (x : SH), (∀ j, j < l.length → p (k + j) = false) → replay p k l x = some x
  | [], _, _, _ => rfl
  | r :: l, k, x, h => by
    simp only [replay]
    have h0 := h 0 (by simp)
    rw [Nat.add_zero] at h0
    rw [h0, cond_false]
    exact replay_none l (k + 1) x fun j hj => by have := h (j + 1) (by simpa using hj); rwa [show k + (j + 1) = k + 1 + j from by omega] at this
/-- The blocks are old ones or the operations' own. -/
theorem replay_dom {p : Nat → Bool} : ∀ (l : List DR) (k : Nat) (x X : SH), replay p k l x = some X → ∀ i B, look X.2 i = some B → (∃ B', look x.2 i = some B') ∨ ∃ (j : Nat) (r : DR), l[j]? = some r ∧ p (k + j) = true ∧ r.mine i
  | [], _, x, X, h, i, B, hB => by cases h; exact .inl ⟨B, hB⟩
  | r :: l, k, x, X, h, i, B, hB => by
    simp only [replay] at h
    cases hp : p k <;> simp only [hp, cond_false, cond_true] at h
    · rcases replay_dom l (k + 1) x X h i B hB with h' | ⟨j, r', h1, h2, h3⟩
      · exact .inl h'
      · exact .inr ⟨j + 1, r', by simpa using h1, by rwa [show k + (j + 1) = k + 1 + j from by omega], h3⟩
    · rw [Option.bind_eq_some_iff] at h
      obtain ⟨y, hy, h⟩ := h
      rcases replay_dom l (k + 1) y X h i B hB with ⟨B', h'⟩ | ⟨j, r', h1, h2, h3⟩
      · by_cases hm : r.mine i
        · exact .inr ⟨0, r, rfl, hp, hm⟩
        · left
          rw [app_heap hy, DR.news_none hm, Option.or_none] at h'
          cases hx : look x.2 i with
          | none => rw [updsX_none.2 hx] at h'; cases hm' : mem i r.c.kil.1 <;> simp [hm'] at h'
          | some b => exact ⟨b, rfl⟩
      · exact .inr ⟨j + 1, r', by simpa using h1, by rwa [show k + (j + 1) = k + 1 + j from by omega], h3⟩
/-- More operations: more slots. -/
theorem replay_ext {q p : Nat → Bool} : ∀ (l : List DR) (k : Nat) (y z Y Z : SH), (∀ j, q j = true → p j = true) → replay q k l y = some Y → replay p k l z = some Z → Ext y.1 z.1 →
    (∀ t v, look y.1 t = some v → ∀ (j : Nat) (r : DR), l[j]? = some r → q (k + j) = false → r.dst ≠ some t) →
    (∀ (j j' : Nat) (r r' : DR) t, j ≠ j' → l[j]? = some r → l[j']? = some r' → r.dst = some t → r'.dst ≠ some t) →
    (∀ (j : Nat) (r : DR), l[j]? = some r → p (k + j) = true → q (k + j) = false → r.c.kil.2 = []) → Ext Y.1 Z.1
  | [], _, y, z, Y, Z, _, hy, hz, he, _, _, _ => by cases hy; cases hz; exact he
  | r :: l, k, y, z, Y, Z, hqp, hy, hz, he, hd, hn, hg => by
    simp only [replay] at hy hz
    have hn' : ∀ (j j' : Nat) (r r' : DR) t, j ≠ j' → l[j]? = some r → l[j']? = some r' → r.dst = some t → r'.dst ≠ some t := fun j j' r r' t hne h1 h2 => hn (j + 1) (j' + 1) r r' t (by omega) (by simpa using h1) (by simpa using h2)
    have hg' : ∀ (j : Nat) (r : DR), l[j]? = some r → p (k + 1 + j) = true → q (k + 1 + j) = false → r.c.kil.2 = [] := fun j r h1 h2 h3 => hg (j + 1) r (by simpa using h1) (by rwa [show k + (j + 1) = k + 1 + j from by omega]) (by rwa [show k + (j + 1) = k + 1 + j from by omega])
    have hd' : ∀ t v, look y.1 t = some v → ∀ (j : Nat) (r : DR), l[j]? = some r → q (k + 1 + j) = false → r.dst ≠ some t := fun t v ht j r h1 h2 => hd t v ht (j + 1) r (by simpa using h1) (by rwa [show k + (j + 1) = k + 1 + j from by omega])
    cases hq : q k <;> simp only [hq, cond_false, cond_true] at hy
    · cases hp : p k <;> simp only [hp, cond_false, cond_true] at hz
      · exact replay_ext l (k + 1) y z Y Z hqp hy hz he hd' hn' hg'
      · rw [Option.bind_eq_some_iff] at hz
        obtain ⟨z', hz', hz⟩ := hz
        have hgr := hg 0 r rfl (by simpa using hp) (by simpa using hq)
        refine replay_ext l (k + 1) y z' Y Z hqp hy hz (fun t v ht => ?_) hd' hn' hg'
        rw [app_slots hz', sweepS'_nil hgr, look_putD, if_neg (hd t v ht 0 r rfl (by simpa using hq))]
        exact he t v ht
    · rw [hqp k hq] at hz
      simp only [cond_true] at hz
      rw [Option.bind_eq_some_iff] at hy hz
      obtain ⟨y', hy', hy⟩ := hy
      obtain ⟨z', hz', hz⟩ := hz
      have hsl : ∀ t, look y'.1 t = if r.dst = some t then some r.c.v else (look y.1 t).map (SV.sweep r.c.kil) := fun t => by rw [app_slots hy', look_putD, look_sweepS' r.c.kil_le]
      have hslz : ∀ t, look z'.1 t = if r.dst = some t then some r.c.v else (look z.1 t).map (SV.sweep r.c.kil) := fun t => by rw [app_slots hz', look_putD, look_sweepS' r.c.kil_le]
      refine replay_ext l (k + 1) y' z' Y Z hqp hy hz (fun t v ht => ?_) (fun t v ht j r' h1 h2 => ?_) hn' hg'
      · rw [hsl] at ht; rw [hslz]
        by_cases c : r.dst = some t
        · rw [if_pos c] at ht ⊢; exact ht
        · rw [if_neg c] at ht ⊢
          obtain ⟨u, hu, rfl⟩ := Option.map_eq_some_iff.1 ht
          rw [he t u hu]; rfl
      · rw [hsl] at ht
        by_cases c : r.dst = some t
        · exact hn 0 (j + 1) r r' t (by omega) rfl (by simpa using h1) c
        · rw [if_neg c] at ht
          obtain ⟨u, hu, _⟩ := Option.map_eq_some_iff.1 ht
          exact hd' t u hu j r' h1 h2
/-- More operations, none of which writes: more blocks. -/
theorem replay_extH {q p : Nat → Bool} : ∀ (l : List DR) (k : Nat) (y z Y Z : SH), (∀ j, q j = true → p j = true) → replay q k l y = some Y → replay p k l z = some Z → Ext y.2 z.2 →
    (∀ (j : Nat) (r : DR) i, l[j]? = some r → r.mine i → look z.2 i = none) →
    (∀ (j j' : Nat) (r r' : DR) i, j ≠ j' → l[j]? = some r → l[j']? = some r' → r.mine i → ¬ r'.mine i) →
    (∀ (j : Nat) (r : DR), l[j]? = some r → p (k + j) = true → q (k + j) = false → r.c.kil.2 = [] ∧ r.c.upd = []) → Ext Y.2 Z.2
  | [], _, y, z, Y, Z, _, hy, hz, he, _, _, _ => by cases hy; cases hz; exact he
  | r :: l, k, y, z, Y, Z, hqp, hy, hz, he, hf, hn, hg => by
    simp only [replay] at hy hz
    have hn' : ∀ (j j' : Nat) (r r' : DR) i, j ≠ j' → l[j]? = some r → l[j']? = some r' → r.mine i → ¬ r'.mine i := fun j j' r r' t hne h1 h2 => hn (j + 1) (j' + 1) r r' t (by omega) (by simpa using h1) (by simpa using h2)
    have hg' : ∀ (j : Nat) (r : DR), l[j]? = some r → p (k + 1 + j) = true → q (k + 1 + j) = false → r.c.kil.2 = [] ∧ r.c.upd = [] := fun j r h1 h2 h3 => hg (j + 1) r (by simpa using h1) (by rwa [show k + (j + 1) = k + 1 + j from by omega]) (by rwa [show k + (j + 1) = k + 1 + j from by omega])
    have hf' : ∀ (j : Nat) (r : DR) i, l[j]? = some r → r.mine i → look z.2 i = none := fun j r i h1 h2 => hf (j + 1) r i (by simpa using h1) h2
    have hfree : ∀ z', r.app z = some z' → ∀ (j : Nat) (r' : DR) i, l[j]? = some r' → r'.mine i → look z'.2 i = none := fun z' hz' j r' i h1 h2 => by
      cases hx : look z'.2 i with
      | none => rfl
      | some B =>
        rcases replay_dom (p := fun _ => true) [r] 0 z z' (by simp [replay, hz']) i B hx with ⟨B', hB'⟩ | ⟨j', r2, g1, _, g3⟩
        · rw [hf' j r' i h1 h2] at hB'; exact nomatch hB'
        · cases j' with
          | zero => simp at g1; subst g1; exact (hn 0 (j + 1) r r' i (by omega) rfl (by simpa using h1) g3 h2).elim
          | succ j' => simp at g1
    cases hq : q k <;> simp only [hq, cond_false, cond_true] at hy
    · cases hp : p k <;> simp only [hp, cond_false, cond_true] at hz
      · exact replay_extH l (k + 1) y z Y Z hqp hy hz he hf' hn' hg'
      · rw [Option.bind_eq_some_iff] at hz
        obtain ⟨z', hz', hz⟩ := hz
        obtain ⟨hgr, hur⟩ := hg 0 r rfl (by simpa using hp) (by simpa using hq)
        refine replay_extH l (k + 1) y z' Y Z hqp hy hz (fun i B hB => ?_) (hfree z' hz') hn' hg'
        rw [app_plain hgr, hur] at hz'
        cases hz'
        show look (z.2 ++ _) i = some B
        rw [look_append, he i B hB]; rfl
    · rw [hqp k hq] at hz
      simp only [cond_true] at hz
      rw [Option.bind_eq_some_iff] at hy hz
      obtain ⟨y', hy', hy⟩ := hy
      obtain ⟨z', hz', hz⟩ := hz
      refine replay_extH l (k + 1) y' z' Y Z hqp hy hz (fun i B hB => ?_) (hfree z' hz') hn' hg'
      rw [app_heap hy'] at hB
      rw [app_heap hz']
      cases hx : cond (mem i r.c.kil.1) none ((look (updsX r.c.upd y.2) i).bind (Blk.sweep r.c.kil)) with
      | some b =>
        rw [hx] at hB
        cases hm : mem i r.c.kil.1 <;> simp only [hm, cond_true, cond_false] at hx ⊢
        · obtain ⟨b0, hb0, hb1⟩ := Option.bind_eq_some_iff.1 hx
          rw [updsX_ext he _ i b0 hb0]; simp only [Option.bind_some, hb1]; exact hB
        · exact nomatch hx
      | none =>
        rw [hx, Option.none_or] at hB
        have hm : r.mine i := Classical.byContradiction fun h => by rw [DR.news_none h] at hB; exact nomatch hB
        rw [updsX_none.2 (hf 0 r i rfl hm)]
        cases mem i r.c.kil.1 <;> exact hB
theorem commB_spec {a b : DR} (h : commB a b = true) : a.c.kil.2 = [] ∧ b.c.kil.2 = [] ∧ ((a.c.upd = [] ∧ b.c.upd = []) ∨ (a.c.upd = [] ∧ a.c.news = []) ∨ (b.c.upd = [] ∧ b.c.news = [])) := by
  simp only [commB, Bool.and_eq_true, Bool.or_eq_true] at h
  refine ⟨isNil_eq h.1.1, isNil_eq h.1.2, ?_⟩
  rcases h.2 with h | h | h
  · exact .inl ⟨isNil_eq h.1, isNil_eq h.2⟩
  · exact .inr (.inl ⟨isNil_eq h.1, isNil_eq h.2⟩)
  · exact .inr (.inr ⟨isNil_eq h.1, isNil_eq h.2⟩)
theorem comm {a b : DR} (h : commB a b = true) (hd : ∀ t, a.dst = some t → b.dst ≠ some t) (hm : ∀ i, a.mine i → ¬ b.mine i) {x y z : SH} (hy : b.app x = some y) (hz : a.app y = some z) :
    ∃ y' z', a.app x = some y' ∧ b.app y' = some z' ∧ Same z z' := by
  obtain ⟨ga, gb, hu⟩ := commB_spec h
  rw [app_plain gb] at hy; cases hy
  rw [app_plain ga] at hz; cases hz
  refine ⟨_, _, app_plain ga x, app_plain gb _, fun t => ?_, fun i => ?_⟩
  · simp only [look_putD]
    by_cases c : a.dst = some t
    · rw [if_pos c, if_neg (hd t c), if_pos c]
    · rw [if_neg c]
      by_cases c' : b.dst = some t
      · rw [if_pos c', if_pos c']
      · rw [if_neg c', if_neg c', if_neg c]
  · have swap : (look (newsH b.n0 b.c.news) i).or (look (newsH a.n0 a.c.news) i) = (look (newsH a.n0 a.c.news) i).or (look (newsH b.n0 b.c.news) i) := by
      by_cases c : a.mine i
      · rw [DR.news_none (hm i c)]; simp
      · rw [DR.news_none c]; simp
    rcases hu with ⟨u1, u2⟩ | ⟨u1, u2⟩ | ⟨u1, u2⟩
    · simp only [u1, u2, updsX, look_append, Option.or_assoc, swap]
    · simp only [u1, u2, updsX, newsH, List.append_nil]
    · simp only [u1, u2, updsX, newsH, List.append_nil]
theorem replay_same {p : Nat → Bool} : ∀ (l : List DR) (k : Nat) (x y X : SH), (∀ (j : Nat) (r : DR), l[j]? = some r → p (k + j) = true → r.c.kil.2 = []) → Same x y → replay p k l x = some X → ∃ Y, replay p k l y = some Y ∧ Same X Y
  | [], _, x, y, X, _, e, h => by cases h; exact ⟨y, rfl, e⟩
  | r :: l, k, x, y, X, hg, e, h => by
    have hg' : ∀ (j : Nat) (r : DR), l[j]? = some r → p (k + 1 + j) = true → r.c.kil.2 = [] := fun j r h1 h2 => hg (j + 1) r (by simpa using h1) (by rwa [show k + (j + 1) = k + 1 + j from by omega])
    simp only [replay] at h ⊢
    cases hp : p k <;> simp only [hp, cond_false, cond_true] at h ⊢
    · exact replay_same l (k + 1) x y X hg' e h
    · rw [Option.bind_eq_some_iff] at h
      obtain ⟨x', hx', h⟩ := h
      obtain ⟨y', hy', e'⟩ := app_same (hg 0 r rfl (by simpa using hp)) e hx'
      rw [hy']
      exact replay_same l (k + 1) x' y' X hg' e' h
/-- An operation that comes behind others may as well come ahead of them. -/
theorem replay_behind {p : Nat → Bool} {a : DR} : ∀ (l : List DR) (k : Nat) (x X X' : SH),
    (∀ (j : Nat) (r : DR), l[j]? = some r → p (k + j) = true → commB a r = true ∧ (∀ t, a.dst = some t → r.dst ≠ some t) ∧ ∀ i, a.mine i → ¬ r.mine i) →
    replay p k l x = some X → a.app X = some X' → ∃ x' X'', a.app x = some x' ∧ replay p k l x' = some X'' ∧ Same X' X''
  | [], _, x, X, X', _, h, ha => by cases h; exact ⟨X', X', ha, rfl, Same.refl _⟩
  | r :: l, k, x, X, X', hc, h, ha => by
    have hc' : ∀ (j : Nat) (r : DR), l[j]? = some r → p (k + 1 + j) = true → commB a r = true ∧ (∀ t, a.dst = some t → r.dst ≠ some t) ∧ ∀ i, a.mine i → ¬ r.mine i := fun j r h1 h2 => hc (j + 1) r (by simpa using h1) (by rwa [show k + (j + 1) = k + 1 + j from by omega])
    simp only [replay] at h ⊢
    cases hp : p k <;> simp only [hp, cond_false, cond_true] at h ⊢
    · exact replay_behind l (k + 1) x X X' hc' h ha
    · rw [Option.bind_eq_some_iff] at h
      obtain ⟨y, hy, h⟩ := h
      obtain ⟨y', Y'', h1, h2, h3⟩ := replay_behind l (k + 1) y X X' hc' h ha
      obtain ⟨c1, c2, c3⟩ := hc 0 r rfl (by simpa using hp)
      obtain ⟨x', z', g1, g2, g3⟩ := comm c1 c2 c3 hy h1
      obtain ⟨W, w1, w2⟩ := replay_same l (k + 1) y' z' Y'' (fun j r h1 h2 => (commB_spec (hc' j r h1 h2).1).2.1) g3 h2
      exact ⟨x', W, g1, by rw [g2]; exact w1, h3.trans w2⟩
/-- One more operation. -/
theorem replay_insert {p p' : Nat → Bool} {l : List DR} {i : Nat} {a : DR} {x X X' : SH} (hi : l[i]? = some a) (hpi : p i = false) (hpi' : p' i = true) (hpp : ∀ j, j ≠ i → p' j = p j)
    (hc : ∀ (j : Nat) (r : DR), i < j → l[j]? = some r → p j = true → commB a r = true ∧ (∀ t, a.dst = some t → r.dst ≠ some t) ∧ ∀ i, a.mine i → ¬ r.mine i)
    (h : replay p 0 l x = some X) (ha : a.app X = some X') : ∃ X'', replay p' 0 l x = some X'' ∧ Same X' X'' := by
  have hlt := (List.getElem?_eq_some_iff.1 hi).1
  have hsplit : l = l.take i ++ a :: l.drop (i + 1) := by
    conv => lhs; rw [← List.take_append_drop i l]
    rw [List.drop_eq_getElem_cons hlt, (List.getElem?_eq_some_iff.1 hi).2]
  have hl : (l.take i).length = i := by simp; omega
  rw [hsplit, replay_append, Option.bind_eq_some_iff] at h
  obtain ⟨y, hy, h⟩ := h
  rw [hl, Nat.zero_add] at h
  simp only [replay, hpi, cond_false] at h
  obtain ⟨y', X'', g1, g2, g3⟩ := replay_behind (l.drop (i + 1)) (i + 1) y X X' (fun j r h1 h2 => hc (i + 1 + j) r (by omega) (by rwa [List.getElem?_drop] at h1) h2) h ha
  refine ⟨X'', ?_, g3⟩
  rw [hsplit, replay_append, hl, Nat.zero_add]
  rw [replay_congr (q := p) (l.take i) 0 x fun j hj => by rw [hl] at hj; rw [Nat.zero_add]; exact hpp j (by omega), hy]
  simp only [Option.bind_some, replay, hpi', cond_true, g1]
  rw [replay_congr (q := p) (l.drop (i + 1)) (i + 1) y' fun j hj => hpp _ (by omega)]
  exact g2
/-- A slot that no later operation sets, and that no one may lose. -/
theorem replay_slot {p : Nat → Bool} {t : Nat} {x0 : R} (hx0 : ∀ T, (SV.r [] x0).sweep T = SV.r [] x0) : ∀ (l : List DR) (k : Nat) (x X : SH), replay p k l x = some X → (∀ (j : Nat) (r : DR), l[j]? = some r → r.dst ≠ some t) → look x.1 t = some (.r [] x0) → look X.1 t = some (.r [] x0)
  | [], _, x, X, h, _, hx => by cases h; exact hx
  | r :: l, k, x, X, h, hd, hx => by
    have hd' : ∀ (j : Nat) (r : DR), l[j]? = some r → r.dst ≠ some t := fun j r h1 => hd (j + 1) r (by simpa using h1)
    simp only [replay] at h
    cases hp : p k <;> simp only [hp, cond_false, cond_true] at h
    · exact replay_slot hx0 l (k + 1) x X h hd' hx
    · rw [Option.bind_eq_some_iff] at h
      obtain ⟨y, hy, h⟩ := h
      refine replay_slot hx0 l (k + 1) y X h hd' ?_
      rw [app_slots hy, look_putD, if_neg (hd 0 r rfl)]
      rw [look_sweepS' r.c.kil_le, hx, Option.map_some, hx0]
end Go.Proofs.Ev
