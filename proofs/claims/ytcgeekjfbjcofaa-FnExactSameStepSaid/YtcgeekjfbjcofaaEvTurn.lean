/- One block made, or made other; others given up for it. -/
import Derived.Test.YtcgeekjfbjcofaaEvMem
set_option linter.unusedSimpArgs false
set_option linter.unusedVariables false
namespace Go.Proofs.Ev
/-- 'H'' is 'H' without the blocks of T.1, with 'B' at 'n'. -/
structure Turned (H H' : Heap) (T : Kil) (n : Nat) (B : Blk) : Prop where
  at_n : look H' n = some B
  fwd : ∀ k B0, look H k = some B0 → mem k T.1 = false → k ≠ n → ∃ B', B0.sweep T = some B' ∧ look H' k = some B'
  bwd : ∀ k B', look H' k = some B' → k ≠ n → mem k T.1 = false ∧ ∃ B0, look H k = some B0 ∧ B0.sweep T = some B'
section
variable {H H' : Heap} {T : Kil} {n : Nat} {B : Blk} {pl : Pl} {w w' : World} {hdr : Value} {fp : Cell → Prop}
theorem Blk.sweep_like {B B' : Blk} {T : Kil} (h : B.sweep T = some B') : B.like B' := by
  cases B with
  | box cs => cases h; simp [Blk.like, sweepL_length]
  | arr sh t xs =>
    cases sh with
    | none => cases h; simp [Blk.like]
    | some d =>
      simp only [Blk.sweep] at h
      cases hd : hit T.2 d <;> simp only [hd, cond_true, cond_false, Option.some.injEq] at h
      · subst h; simp [Blk.like]
      · exact nomatch h
theorem Blk.like_box {B B' : Blk} (h : B.like B') : B.isBox = B'.isBox := by
  cases B <;> cases B' <;> first | rfl | exact h.elim
theorem turn_keeps (hr : HRel H pl w) (ht : Turned H H' T n B) (h1 : ∀ i, mem i T.1 = true → mem i T.2 = true)
    (hn : look H n = none ∨ ∃ B0, look H n = some B0 ∧ mem n T.2 = true ∧ B0.like B ∧ hdr = pl.hdr n)
    (hold : ∀ p u, w.at? p = some u → (∀ i B, mem i T.2 = true → look H i = some B → ¬ pl.fp i p) → w'.at? p = some u ∧ w'.ice? p = w.ice? p)
    (hfp : ∀ p, fp p → w.at? p = none ∨ ∃ i B, mem i T.2 = true ∧ look H i = some B ∧ pl.fp i p) : Keeps T w H pl w' H' (pl.set n hdr fp) := by
  refine ⟨fun i B0 hB hm => ?_, fun d p u hd hok hu => ?_⟩
  · by_cases e : i = n
    · subst e
      rcases hn with hn | ⟨B1, g1, g2, g3, g4⟩
      · rw [hn] at hB; exact nomatch hB
      · rw [g1] at hB; cases hB
        exact ⟨B, ht.at_n, g3, by simp [Pl.set, g4]⟩
    · obtain ⟨B', g1, g2⟩ := ht.fwd i B0 hB hm e
      exact ⟨B', g2, Blk.sweep_like g1, by simp [Pl.set, e]⟩
  · have hout : ∀ i B, mem i T.2 = true → look H i = some B → ¬ pl.fp i p := fun i B1 hi hB => hok.2 i B1 hB fun hm => by rw [hd i hm] at hi; exact nomatch hi
    refine ⟨⟨hok.1, fun i B1 hB hm hf => ?_⟩, (hold p u hu hout).1⟩
    by_cases e : i = n
    · subst e
      simp only [Pl.set, if_true] at hf
      rcases hfp p hf with h | ⟨j, B2, g1, g2, g3⟩
      · rw [h] at hu; exact nomatch hu
      · exact hout j B2 g1 g2 g3
    · simp only [Pl.set, if_neg e] at hf
      obtain ⟨_, B0, g1, g2⟩ := ht.bwd i B1 hB e
      exact hok.2 i B0 g1 (fun h => (Blk.like_box (Blk.sweep_like g2)).trans (hm h)) hf
theorem turn_step (hg : Grown w w') (hr : HRel H pl w) (ht : Turned H H' T n B) (h1 : ∀ i, mem i T.1 = true → mem i T.2 = true) (h2 : ∀ i, mem i T.2 = true → mem i T.1 = true ∨ i = n)
    (hn : look H n = none ∨ ∃ B0, look H n = some B0 ∧ mem n T.2 = true ∧ B0.like B ∧ hdr = pl.hdr n)
    (hold : ∀ p u, w.at? p = some u → (∀ i B, mem i T.2 = true → look H i = some B → ¬ pl.fp i p) → w'.at? p = some u ∧ w'.ice? p = w.ice? p)
    (hdom : ∀ p, w'.at? p = none → w.at? p = none)
    (hfp : ∀ p, fp p → w.at? p = none ∨ ∃ i B, mem i T.2 = true ∧ look H i = some B ∧ pl.fp i p)
    (hB : Keeps T w H pl w' H' (pl.set n hdr fp) → BlkRep w' H' (pl.set n hdr fp) n B) : StepTo H H' T pl (pl.set n hdr fp) w w' := by
  have hk := turn_keeps hr ht h1 hn hold hfp
  have hown := hr.own_there
  have hother : ∀ k B', look H' k = some B' → k ≠ n → ∃ B0, look H k = some B0 ∧ B0.sweep T = some B' ∧ ∀ i B, mem i T.2 = true → look H i = some B → ∀ p, pl.fp k p → ¬ pl.fp i p := fun k B' hk' hne => by
    obtain ⟨g1, B0, g2, g3⟩ := ht.bwd k B' hk' hne
    refine ⟨B0, g2, g3, fun i B1 hi hB1 p hp hf => ?_⟩
    have := hr.dis k i B0 B1 p g2 hB1 hp hf
    subst this
    rcases h2 k hi with h | h
    · rw [g1] at h; exact nomatch h
    · exact hne h
  refine ⟨⟨fun k B' hB' => ?_, fun i j B1 B2 p e1 e2 f1 f2 => ?_, fun i B1 p hB1 hf => ?_, fun p hp => hr.nb p (hdom p hp)⟩, hk, rfl, hg, fun p u hp hno => ⟨fun i B1 hB1 hf => ?_, hold p u hp fun i B _ hB => hno i B hB⟩⟩
  · by_cases e : k = n
    · subst e
      rw [ht.at_n] at hB'; cases hB'
      exact hB hk
    · obtain ⟨B0, g1, g2, g3⟩ := hother k B' hB' e
      exact (hr.blk k B0 g1).keep hk (by simp [Pl.set, e]) (fun p => by simp [Pl.set, e]) (fun p u hf hu => hold p u hu fun i B hi hB => g3 i B hi hB p hf) g2
  · have key : ∀ k B', look H' k = some B' → k ≠ n → (pl.set n hdr fp).fp k p → fp p → False := fun k B' hk' hne hf hfn => by
      simp only [Pl.set, if_neg hne] at hf
      obtain ⟨B0, g1, g2, g3⟩ := hother k B' hk' hne
      rcases hfp p hfn with h | ⟨i, B3, q1, q2, q3⟩
      · obtain ⟨u, hu⟩ := hown k B0 p g1 hf
        rw [h] at hu; exact nomatch hu
      · exact g3 i B3 q1 q2 p hf q3
    by_cases ei : i = n <;> by_cases ej : j = n
    · rw [ei, ej]
    · subst ei; simp only [Pl.set, if_true] at f1; exact (key j B2 e2 ej f2 f1).elim
    · subst ej; simp only [Pl.set, if_true] at f2; exact (key i B1 e1 ei f1 f2).elim
    · simp only [Pl.set, if_neg ei] at f1
      simp only [Pl.set, if_neg ej] at f2
      obtain ⟨_, C1, g1, _⟩ := ht.bwd i B1 e1 ei
      obtain ⟨_, C2, g2, _⟩ := ht.bwd j B2 e2 ej
      exact hr.dis i j C1 C2 p g1 g2 f1 f2
  · by_cases e : i = n
    · subst e
      simp only [Pl.set, if_true] at hf
      rcases hfp p hf with h | ⟨j, B2, q1, q2, q3⟩
      · exact hr.nb p h
      · exact hr.ob j B2 p q2 q3
    · simp only [Pl.set, if_neg e] at hf
      obtain ⟨_, C1, g1, _⟩ := ht.bwd i B1 hB1 e
      exact hr.ob i C1 p g1 hf
  · by_cases e : i = n
    · subst e
      simp only [Pl.set, if_true] at hf
      rcases hfp p hf with h | ⟨j, B2, q1, q2, q3⟩
      · rw [h] at hp; exact nomatch hp
      · exact hno j B2 q2 q3
    · simp only [Pl.set, if_neg e] at hf
      obtain ⟨_, C1, g1, _⟩ := ht.bwd i B1 hB1 e
      exact hno i C1 g1 hf
/-- A new block. -/
theorem turned_new {H1 : Heap} (hT : ∀ i, mem i T.1 = true → mem i T.2 = true) (hs : sweepH' T H = some H1) (hn : look H n = none) (hh : ∀ k B0, look H k = some B0 → mem k T.1 = false → ∃ B', B0.sweep T = some B') :
    Turned H (H1 ++ newsH n [B]) T n B := by
  have hl : ∀ k, look (H1 ++ newsH n [B]) k = (cond (mem k T.1) none ((look H k).bind (Blk.sweep T))).or (if n = k then some B else none) := fun k => by
    rw [look_append, sweepH'_spec hT hs k]
    simp only [newsH, look_cons, look]
  refine ⟨by rw [hl, hn]; cases mem n T.1 <;> simp, fun k B0 hB hm hne => ?_, fun k B' hB hne => ?_⟩
  · obtain ⟨B', hB'⟩ := hh k B0 hB hm
    exact ⟨B', hB', by rw [hl, hm, hB]; simp [hB']⟩
  · rw [hl, if_neg (fun e => hne e.symm)] at hB
    cases hm : mem k T.1 <;> simp only [hm, cond_true, cond_false, Option.or_none] at hB
    · obtain ⟨B0, g1, g2⟩ := Option.bind_eq_some_iff.1 hB
      exact ⟨rfl, B0, g1, g2⟩
    · exact nomatch hB
theorem sweepH'_all (hT : ∀ i, mem i T.1 = true → mem i T.2 = true) {H1 : Heap} (hs : sweepH' T H = some H1) : ∀ k B0, look H k = some B0 → mem k T.1 = false → ∃ B', B0.sweep T = some B' := fun k B0 hB hm => by
  unfold sweepH' at hs
  split at hs
  · rename_i h0
    have := kil_nil h0 hT
    subst this
    exact ⟨B0, B0.sweep_nil⟩
  · exact (look_sweepH _ _ _ hs k).2 B0 hB hm
end
end Go.Proofs.Ev
