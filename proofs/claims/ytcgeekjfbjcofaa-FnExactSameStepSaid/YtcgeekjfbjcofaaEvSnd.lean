/- Soundness: the state's relation to the world, and how it is kept. -/
import Derived.Test.YtcgeekjfbjcofaaEvRep
set_option linter.unusedVariables false
set_option linter.unusedSimpArgs false
namespace Go.Proofs.Ev
section lists
variable {α : Type}
theorem look_cons (k : Nat) (v : α) (l : List (Nat × α)) (n : Nat) : look ((k, v) :: l) n = if k = n then some v else look l n := by
  simp only [look]
  cases h : Nat.beq k n
  · have : ¬ k = n := fun e => by subst e; simp at h
    simp [this]
  · have : k = n := Nat.eq_of_beq_eq_true h
    simp [this]
theorem look_put (l : List (Nat × α)) (n m : Nat) (v : α) : look (put l n v) m = if n = m then some v else look l m := by
  induction l with
  | nil => rw [put, look_cons]
  | cons x l ih =>
    obtain ⟨k, u⟩ := x
    simp only [put]
    cases hk : Nat.beq k n
    · simp only [cond_false, look, ih]
      cases hm : Nat.beq k m
      · simp
      · have h1 : k = m := Nat.eq_of_beq_eq_true hm
        subst h1
        have : ¬ n = k := fun e => by subst e; simp at hk
        simp [this]
    · have h1 : k = n := Nat.eq_of_beq_eq_true hk
      subst h1
      simp only [cond_true, look]
      cases hm : Nat.beq k m
      · have : ¬ k = m := fun e => by subst e; simp at hm
        simp [this]
      · have : k = m := Nat.eq_of_beq_eq_true hm
        simp [this]
theorem look_append (l l' : List (Nat × α)) (n : Nat) : look (l ++ l') n = (look l n).or (look l' n) := by
  induction l with
  | nil => simp [look]
  | cons x l ih =>
    obtain ⟨k, u⟩ := x
    simp only [List.cons_append, look]
    cases Nat.beq k n <;> simp [ih]
theorem mem_iff (i : Nat) (l : List Nat) : mem i l = true ↔ i ∈ l := by
  induction l with
  | nil => simp [mem]
  | cons k l ih =>
    simp only [mem]
    cases h : Nat.beq k i
    · have : ¬ i = k := fun e => by subst e; simp at h
      simp [ih, this]
    · have : k = i := Nat.eq_of_beq_eq_true h
      simp [this]
theorem hit_false (T d : List Nat) (h : hit T d = false) : ∀ i, mem i d = true → mem i T = false := by
  induction d with
  | nil => intro i hi; simp [mem] at hi
  | cons k l ih =>
    simp only [hit] at h
    cases hk : mem k T
    · rw [hk] at h
      intro i hi
      rw [mem_iff] at hi
      rcases List.mem_cons.1 hi with rfl | hi
      · exact hk
      · exact ih h i ((mem_iff i l).2 hi)
    · rw [hk] at h; simp at h
theorem look_newsH (n : Nat) (l : List Blk) (i : Nat) : look (newsH n l) i = if n ≤ i then l[i - n]? else none := by
  induction l generalizing n with
  | nil => simp [newsH, look]
  | cons b l ih =>
    rw [newsH, look_cons, ih]
    by_cases h : n = i
    · subst h; simp
    · by_cases h2 : n ≤ i
      · rw [if_neg h, if_pos (by omega), if_pos h2]
        rw [show i - n = (i - (n + 1)) + 1 from by omega]; rfl
      · rw [if_neg h, if_neg (by omega), if_neg h2]
theorem look_upds (u h : Heap) (i : Nat) : look (upds u h) i = match look u.reverse i with | some b => some b | none => look h i := by
  induction u generalizing h with
  | nil => simp [upds, look]
  | cons x l ih =>
    obtain ⟨k, b⟩ := x
    rw [upds, ih, List.reverse_cons, look_append, look_put, look_cons]
    cases look l.reverse i with
    | some c => simp
    | none => by_cases hk : k = i <;> simp [hk, look]
theorem look_sweepS (T : Kil) (s : List (Nat × SV)) (t : Nat) : look (sweepS T s) t = (look s t).map (SV.sweep T) := by
  induction s with
  | nil => rfl
  | cons x l ih =>
    obtain ⟨k, v⟩ := x
    rw [sweepS, look_cons, look_cons, ih]
    by_cases h : k = t <;> simp [h]
theorem look_sweepH (T : Kil) (h h' : Heap) (e : sweepH T h = some h') (i : Nat) :
    look h' i = cond (mem i T.1) none ((look h i).bind (Blk.sweep T)) ∧ (∀ b, look h i = some b → mem i T.1 = false → ∃ b', b.sweep T = some b') := by
  induction h generalizing h' with
  | nil => simp only [sweepH, Option.some.injEq] at e; subst e; simp [look]
  | cons x l ih =>
    obtain ⟨k, b⟩ := x
    simp only [sweepH] at e
    cases hk : mem k T.1
    · simp only [hk, cond_false, Option.bind_eq_some_iff, Option.some.injEq] at e
      obtain ⟨b', hb, l', hl, rfl⟩ := e
      rw [look_cons, look_cons]
      by_cases hi : k = i
      · subst hi; simp [hk, hb]
      · simpa [hi] using ih l' hl
    · simp only [hk, cond_true] at e
      have := ih h' e
      rw [look_cons]
      by_cases hi : k = i
      · subst hi; simp [hk] at this ⊢; exact this
      · simpa [hi] using this
theorem isNil_eq {α : Type} {l : List α} (h : isNil l = true) : l = [] := by cases l with | nil => rfl | cons _ _ => exact nomatch h
theorem kil_nil {T : Kil} (h : T.2 = []) (h1 : ∀ i, mem i T.1 = true → mem i T.2 = true) : T = ([], []) := by
  obtain ⟨a, b⟩ := T
  simp only at h h1
  subst h
  cases a with
  | nil => rfl
  | cons x l => have := h1 x (by simp [mem]); exact nomatch this
theorem mem_append' (i : Nat) (a b : List Nat) : mem i (a ++ b) = (mem i a || mem i b) := by
  induction a with
  | nil => simp [mem]
  | cons x l ih => simp only [List.cons_append, mem, ih]; cases Nat.beq x i <;> simp
theorem CR.kil_le (c : CR) : ∀ i, mem i c.kil.1 = true → mem i c.kil.2 = true := fun i h => by
  show mem i (c.gone ++ c.dirty) = true
  rw [mem_append', show mem i c.gone = true from h]; rfl
theorem sweepL_get (T : Kil) (l : List SV) (j : Nat) : (sweepL T l)[j]? = (l[j]?).map (SV.sweep T) := by
  induction l generalizing j with
  | nil => rfl
  | cons v l ih => cases j with
    | zero => rfl
    | succ j => simpa [sweepL] using ih j
theorem sweepL_length (T : Kil) (l : List SV) : (sweepL T l).length = l.length := by
  induction l with
  | nil => rfl
  | cons v l ih => simp [sweepL, ih]
end lists

def Blk.like : Blk → Blk → Prop
  | .box a, .box b => a.length = b.length
  | .arr _ t xs, .arr _ t' ys => t = t' ∧ xs.length = ys.length
  | _, _ => False
theorem Blk.like_refl (b : Blk) : b.like b := by cases b <;> simp [Blk.like]
/-- What is not in 'T' is as it was, and what is read besides. -/
structure Keeps (T : Kil) (w : World) (H : Heap) (pl : Pl) (w' : World) (H' : Heap) (pl' : Pl) : Prop where
  k1 : ∀ i B, look H i = some B → mem i T.1 = false → ∃ B', look H' i = some B' ∧ B.like B' ∧ pl'.hdr i = pl.hdr i
  k2 : ∀ d p u, (∀ i, mem i d = true → mem i T.2 = false) → okd H pl d p → w.at? p = some u → okd H' pl' d p ∧ w'.at? p = some u
theorem SVRep.keep {T : Kil} {w w' : World} {H H' : Heap} {pl pl' : Pl} (hk : Keeps T w H pl w' H' pl') {v : SV} {u : Value} (h : SVRep w H pl v u) :
    SVRep w' H' pl' (v.sweep T) u := by
  induction h with
  | r d x v h =>
    simp only [SV.sweep]
    cases hd : hit T.2 d
    · exact .r d x v (h.frame fun p u hp hu => hk.k2 d p u (hit_false T.2 d hd) hp hu)
    · exact .undef _
  | nilS => exact .nilS
  | nilP => exact .nilP
  | own i sh t xs h =>
    simp only [SV.sweep]
    cases hi : mem i T.1
    · obtain ⟨B', h1, h2, h3⟩ := hk.k1 i _ h hi
      cases B' with
      | box cs => exact h2.elim
      | arr sh' t' ys => rw [← h3]; exact .own i sh' t' ys h1
    · exact .undef _
  | sub i o n sh t xs a a' cap cap' h hh hn hc hc' ha =>
    simp only [SV.sweep]
    cases hi : mem i T.1
    · obtain ⟨B', h1, h2, h3⟩ := hk.k1 i _ h hi
      cases B' with
      | box cs => exact h2.elim
      | arr sh' t' ys =>
        obtain ⟨rfl, hl⟩ := h2
        exact .sub i o n sh' t ys a a' cap cap' h1 (by rw [h3, hh, hl]) (hl ▸ hn) hc hc' ha
    · exact .undef _
  | bsl i n cs a h hh =>
    simp only [SV.sweep]
    cases hi : mem i T.1
    · obtain ⟨B', h1, h2, h3⟩ := hk.k1 i _ h hi
      cases B' with
      | arr _ _ _ => exact h2.elim
      | box ds =>
        exact .bsl i n ds a h1 (h3.trans hh)
    · exact .undef _
  | ptrB i o cs b k h hh =>
    simp only [SV.sweep]
    cases hi : mem i T.1
    · obtain ⟨B', h1, h2, h3⟩ := hk.k1 i _ h hi
      cases B' with
      | arr _ _ _ => exact h2.elim
      | box ds => exact .ptrB i o ds b k h1 (h3.trans hh)
    · exact .undef _
  | ptrA i x o sh t xs b k n cap h hx hh =>
    simp only [SV.sweep]
    cases hi : mem i T.1
    · obtain ⟨B', h1, h2, h3⟩ := hk.k1 i _ h hi
      cases B' with
      | box cs => exact h2.elim
      | arr sh' t' ys =>
        obtain ⟨rfl, hl⟩ := h2
        exact .ptrA i x o sh' t ys b k n cap h1 (hl ▸ hx) (h3.trans hh)
    · exact .undef _
  | rptr d cs b o vs hc hr =>
    simp only [SV.sweep]
    cases hd : hit T.2 d
    · exact .rptr d cs b o vs (fun j r hj => hk.k2 d _ _ (hit_false T.2 d hd) (hc j r hj).1 (hc j r hj).2)
        fun j r hj => (hr j r hj).frame fun p u hp hu => hk.k2 d p u (hit_false T.2 d hd) hp hu
    · exact .undef _
  | agg cs vs hl h1 h ih =>
    refine .agg _ vs (by rw [sweepL_length, hl]) h1 fun j x v hx hv => ?_
    rw [sweepL_get] at hx
    obtain ⟨y, hy, rfl⟩ := Option.map_eq_some_iff.1 hx
    exact ih j y v hy hv
  | tup cs vs hl h ih =>
    refine .tup _ vs (by rw [sweepL_length, hl]) fun j x v hx hv => ?_
    rw [sweepL_get] at hx
    obtain ⟨y, hy, rfl⟩ := Option.map_eq_some_iff.1 hx
    exact ih j y v hy hv
  | fn f as bs us vs hl h hl' h' ih ih' =>
    refine .fn f _ _ us vs (by rw [sweepL_length, hl]) (fun j x v hx hv => ?_) (by rw [sweepL_length, hl']) fun j x v hx hv => ?_
    · rw [sweepL_get] at hx
      obtain ⟨y, hy, rfl⟩ := Option.map_eq_some_iff.1 hx
      exact ih j y v hy hv
    · rw [sweepL_get] at hx
      obtain ⟨y, hy, rfl⟩ := Option.map_eq_some_iff.1 hx
      exact ih' j y v hy hv
  | undef v => exact .undef _
theorem hit_nil (d : List Nat) : hit [] d = false := by
  induction d with
  | nil => rfl
  | cons k l ih => simpa [hit, mem] using ih
mutual
theorem sweep_nil : (v : SV) → v.sweep ([], []) = v
  | .r d x => by simp [SV.sweep, hit_nil]
  | .own j => by simp [SV.sweep, mem]
  | .sub j o n => by simp [SV.sweep, mem]
  | .bsl j n => by simp [SV.sweep, mem]
  | .ptr j x o => by simp [SV.sweep, mem]
  | .rptr d cs => by simp [SV.sweep, hit_nil]
  | .agg cs => by simp [SV.sweep, sweepL_nil cs]
  | .tup cs => by simp [SV.sweep, sweepL_nil cs]
  | .fn f a b => by simp [SV.sweep, sweepL_nil a, sweepL_nil b]
  | .nilS => by simp [SV.sweep]
  | .nilP => by simp [SV.sweep]
  | .undef => by simp [SV.sweep]
theorem sweepL_nil : (l : List SV) → sweepL ([], []) l = l
  | [] => rfl
  | v :: l => by simp [sweepL, sweep_nil v, sweepL_nil l]
end
/-- The same where nothing is swept. -/
theorem SVRep.keep0 {w w' : World} {H H' : Heap} {pl pl' : Pl} (hk : Keeps ([], []) w H pl w' H' pl') {v : SV} {u : Value} (h : SVRep w H pl v u) :
    SVRep w' H' pl' v u := by have := h.keep hk; rwa [sweep_nil] at this
end Go.Proofs.Ev
