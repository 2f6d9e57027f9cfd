/- A region whose order is drawn: soundness. -/
import Derived.Test.YtcgeekjfbjcofaaEvDraw
set_option linter.unusedSimpArgs false
set_option linter.unusedVariables false
namespace Go.Proofs.Ev
/-- The state's relation to the frame, its placing hidden. -/
def Rl (w0 : World) (fp0 : Cell → Prop) (bs : Cell → Prop) (n : Nat) (st : St) (a : Act) (w : World) : Prop := ∃ pl, Rel w0 fp0 st pl a w ∧ pl.base = bs ∧ st.n = n
section
variable {w : World} {H H' : Heap} {pl : Pl}
theorem keeps_same (e : SameL H' H) : Keeps ([], []) w H pl w H' pl :=
  ⟨fun i B hB _ => ⟨B, (e i).trans hB, B.like_refl, rfl⟩, fun d p u _ h hp => ⟨⟨h.1, fun i B hB => h.2 i B ((e i).symm.trans hB)⟩, hp⟩⟩
theorem HRel.same (e : SameL H' H) (h : HRel H pl w) : HRel H' pl w :=
  ⟨fun i B hB => (h.blk i B ((e i).symm.trans hB)).keep (keeps_same e) rfl (fun _ => Iff.rfl) (fun p u _ hu => ⟨hu, rfl⟩) B.sweep_nil,
   fun i j B B' p h1 h2 => h.dis i j B B' p ((e i).symm.trans h1) ((e j).symm.trans h2), fun i B p hB => h.ob i B p ((e i).symm.trans hB), h.nb⟩
theorem Rel.congr {w0 : World} {fp0 : Cell → Prop} {s s' : List (Nat × SV)} {nid n : Nat} {a : Act} (h : Rel w0 fp0 ⟨s, H, nid, n⟩ pl a w) (hs : ∀ t v, look s' t = some v → look s t = some v) (e : SameL H' H) :
    Rel w0 fp0 ⟨s', H', nid, n⟩ pl a w :=
  ⟨h.hr.same e, fun t v hv => (h.sl t v (hs t v hv)).keep0 (keeps_same e), h.sz, h.df, fun i hi => (e i).trans (h.fresh i hi), h.gr, fun p u hp hn => by
    obtain ⟨g1, g2, g3⟩ := h.fr p u hp hn
    exact ⟨fun i B hB => g1 i B ((e i).symm.trans hB), g2, g3⟩⟩
end
/-- One operation's step, in a state as a set of operations leaves it. -/
theorem Rel.app {w0 : World} {fp0 : Cell → Prop} {X X' : SH} {nid n : Nat} {pl pl' : Pl} {a : Act} {w w' : World} {r : DR} {H' : Heap} {u : Value}
    (h : Rel w0 fp0 ⟨X.1, X.2, nid, n⟩ pl a w) (hx : r.app X = some X') (hup : ∀ i B, look r.c.upd i = some B → ∃ B', look X.2 i = some B')
    (hd : ∀ t, r.dst = some t → t + 1 ≤ n) (hn : r.n0 + r.c.news.length ≤ nid) (ha : after X.2 r.n0 r.c = some H') (hs : StepTo X.2 H' r.c.kil pl pl' w w') (hv : SVRep w' H' pl' r.c.v u) :
    Rel w0 fp0 ⟨X'.1, X'.2, nid, n⟩ pl' (a.put r.dst u) w' := by
  have hsame : SameL X'.2 H' := by
    unfold DR.app at hx
    unfold after at ha
    rw [upds_updsX hup] at ha
    simp only [Option.bind_eq_some_iff, Option.some.injEq] at hx ha
    obtain ⟨h1, e1, rfl⟩ := hx
    obtain ⟨h2, e2, rfl⟩ := ha
    rw [e1] at e2; cases e2
    exact fun _ => rfl
  have hfr : ∀ i, nid ≤ i → look H' i = none := fun i hi => by
    rw [← hsame i]
    cases hq : look X'.2 i with
    | none => rfl
    | some B =>
      rcases replay_dom (p := fun _ => true) [r] 0 X X' (by simp [replay, hx]) i B hq with ⟨B', hB'⟩ | ⟨j', r2, g1, _, g3⟩
      · have := h.fresh i hi; rw [hB'] at this; exact nomatch this
      · cases j' with
        | zero => simp at g1; subst g1; have := g3.2; omega
        | succ j' => simp at g1
  have hsl : Slots w' H' pl' (sweepS' r.c.kil X.1) a := h.sl.keep r.c.kil_le hs.kp
  have hsl2 : Slots w' H' pl' X'.1 (a.put r.dst u) := by
    rw [app_slots hx]
    cases hdst : r.dst with
    | none => exact hsl
    | some t =>
      have ht := hd t hdst
      exact Slots.put (n := n) (dst := some t) hsl h.sz (by simp only [putO, putD]; rw [show Nat.ble (t + 1) n = true from Nat.ble_eq_true_of_le ht]; rfl) hv
  exact Rel.congr (s := X'.1) (H := H') ⟨hs.hr, hsl2, by rw [Act.put_size]; exact h.sz, by rw [Act.put_df]; exact h.df, hfr, h.gr.trans hs.gr, fun p q hp hno => by
    obtain ⟨g1, g2, g3⟩ := h.fr p q hp hno
    obtain ⟨f1, f2, f3⟩ := hs.fr p q g2 g1
    exact ⟨f1, f2, f3.trans g3⟩⟩ (fun _ _ h => h) hsame
/-! ### what waits for what -/
theorem ancOf_spec (acc : List Nat) (j : Nat) : ∀ l : List Edge, (ancOf acc l).testBit j = true ↔ ∃ e ∈ l, Region.binds .any e = true ∧ (j = e.on ∨ (acc.getD e.on 0).testBit j = true)
  | [] => by simp [ancOf]
  | e :: l => by
    simp only [ancOf]
    cases hb : Region.binds .any e
    · simp only [cond_false, ancOf_spec acc j l, List.mem_cons, exists_eq_or_imp, hb, Bool.false_eq_true, false_and, false_or]
    · simp only [cond_true, Nat.testBit_or, Nat.testBit_two_pow, Bool.or_eq_true, decide_eq_true_eq, ancOf_spec acc j l, List.mem_cons, exists_eq_or_imp, hb, true_and]
      constructor
      · rintro ((h | h) | h)
        · exact .inl (.inr h)
        · exact .inl (.inl h.symm)
        · exact .inr h
      · rintro ((h | h) | h)
        · exact .inl (.inr h.symm)
        · exact .inl (.inl h)
        · exact .inr h
theorem edgesOk_spec {n : Nat} : ∀ {l : List Edge}, edgesOk n l = true → ∀ e ∈ l, Region.binds .any e = true → e.on < n
  | [], _, e, he, _ => by simp at he
  | x :: l, h, e, he, hb => by
    simp only [edgesOk] at h
    cases hx : Region.binds .any x <;> simp only [hx, cond_true, cond_false] at h
    · rcases List.mem_cons.1 he with rfl | he
      · rw [hx] at hb; exact nomatch hb
      · exact edgesOk_spec h e he hb
    · cases hn : Nat.ble (x.on + 1) n <;> simp only [hn, cond_true, cond_false] at h
      · exact nomatch h
      · rcases List.mem_cons.1 he with rfl | he
        · exact Nat.le_of_ble_eq_true hn
        · exact edgesOk_spec h e he hb
structure Masks (ops : List Oper) (masks : List Nat) : Prop where
  back : ∀ (i : Nat) (o : Oper), ops[i]? = some o → ∀ e ∈ o.after.toList, Region.binds .any e = true → e.on < i
  spec : ∀ (i : Nat) (o : Oper), ops[i]? = some o → ∀ j, (masks.getD i 0).testBit j = true ↔ ∃ e ∈ o.after.toList, Region.binds .any e = true ∧ (j = e.on ∨ (masks.getD e.on 0).testBit j = true)
theorem masksOf_spec : ∀ (l : List Oper) (acc masks : List Nat), masksOf acc l = some masks → (∃ t, masks = acc ++ t) ∧
    ∀ (k : Nat) (o : Oper), l[k]? = some o → (∀ e ∈ o.after.toList, Region.binds .any e = true → e.on < acc.length + k) ∧
      ∀ j, (masks.getD (acc.length + k) 0).testBit j = true ↔ ∃ e ∈ o.after.toList, Region.binds .any e = true ∧ (j = e.on ∨ (masks.getD e.on 0).testBit j = true)
  | [], acc, masks, h => by cases h; exact ⟨⟨[], by simp⟩, fun k o ho => by simp at ho⟩
  | x :: l, acc, masks, h => by
    simp only [masksOf] at h
    cases he : edgesOk acc.length x.after.toList <;> simp only [he, cond_true, cond_false] at h
    · exact nomatch h
    · obtain ⟨⟨t, ht⟩, hl⟩ := masksOf_spec l _ masks h
      refine ⟨⟨ancOf acc x.after.toList :: t, by rw [ht]; simp⟩, fun k o ho => ?_⟩
      cases k with
      | zero =>
        simp at ho; subst ho
        refine ⟨edgesOk_spec he, fun j => ?_⟩
        have hm : masks.getD (acc.length + 0) 0 = ancOf acc x.after.toList := by rw [ht]; simp [List.getD]
        rw [hm, ancOf_spec]
        constructor
        · rintro ⟨e, h1, h2, h3⟩
          have hlt := edgesOk_spec he e h1 h2
          refine ⟨e, h1, h2, h3.imp id fun h3 => ?_⟩
          rw [ht]; simpa [List.getD, List.getElem?_append_left hlt, List.append_assoc] using h3
        · rintro ⟨e, h1, h2, h3⟩
          have hlt := edgesOk_spec he e h1 h2
          refine ⟨e, h1, h2, h3.imp id fun h3 => ?_⟩
          rw [ht] at h3; simpa [List.getD, List.getElem?_append_left hlt, List.append_assoc] using h3
      | succ k =>
        have := hl k o (by simpa using ho)
        simp only [List.length_append, List.length_cons, List.length_nil] at this
        rwa [show acc.length + (0 + 1) + k = acc.length + (k + 1) from by omega] at this
theorem masks_of {ops : List Oper} {masks : List Nat} (h : masksOf [] ops = some masks) : Masks ops masks := by
  obtain ⟨_, h2⟩ := masksOf_spec ops [] masks h
  exact ⟨fun i o ho => by have := (h2 i o ho).1; simpa using this, fun i o ho => by have := (h2 i o ho).2; simpa using this⟩
/-- What is closed under 'after' holds all that its members wait for. -/
theorem Masks.closed {ops : List Oper} {masks : List Nat} (hm : Masks ops masks) {p : Nat → Bool} (hp : ∀ (j : Nat) (o : Oper), ops[j]? = some o → p j = true → ∀ e ∈ o.after.toList, Region.binds .any e = true → p e.on = true) :
    ∀ (n i : Nat) (o : Oper), i ≤ n → ops[i]? = some o → (∀ e ∈ o.after.toList, Region.binds .any e = true → p e.on = true) → ∀ j, (masks.getD i 0).testBit j = true → p j = true
  | n, i, o, hn, ho, he, j, hj => by
    obtain ⟨e, h1, h2, h3⟩ := (hm.spec i o ho j).1 hj
    rcases h3 with rfl | h3
    · exact he e h1 h2
    · have hlt := hm.back i o ho e h1 h2
      have hol : e.on < ops.length := by have := (List.getElem?_eq_some_iff.1 ho).1; omega
      cases n with
      | zero => omega
      | succ n => exact hm.closed hp n e.on _ (by omega) (List.getElem?_eq_getElem hol) (fun e' h1' h2' => hp e.on _ (List.getElem?_eq_getElem hol) (he e h1 h2) e' h1' h2') j h3
theorem Masks.lt {ops : List Oper} {masks : List Nat} (hm : Masks ops masks) {i j : Nat} {o : Oper} (ho : ops[i]? = some o) (hj : (masks.getD i 0).testBit j = true) : j < i :=
  of_decide_eq_true (hm.closed (p := fun j => decide (j < i)) (fun k o' ho' hk e h1 h2 => decide_eq_true (by have := hm.back k o' ho' e h1 h2; have := of_decide_eq_true hk; omega)) i i o (Nat.le_refl _) ho
    (fun e h1 h2 => decide_eq_true (hm.back i o ho e h1 h2)) j hj)
end Go.Proofs.Ev
