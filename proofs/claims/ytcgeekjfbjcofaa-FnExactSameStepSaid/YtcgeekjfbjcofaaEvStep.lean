/- One step of the state and of the world. -/
import Derived.Test.YtcgeekjfbjcofaaEvStill5
import Derived.ChangeFn
import Derived.Laws.IdiomCopy
import Derived.Laws.Rows
set_option linter.unusedVariables false
set_option linter.unusedSimpArgs false
namespace Go.Proofs.Ev
def mayC : MemPlace → Prop
  | .cell _ _ => True
  | .map _ => False
/-- What the world keeps besides the cells. -/
def Grown (w w' : World) : Prop := w.keptBut w' mayC ∧ ∀ a, w'.frozen? a = w.frozen? a
theorem Grown.refl (w : World) : Grown w w := ⟨World.keptBut_refl _ _, fun _ => rfl⟩
theorem Grown.trans {a b c : World} (h : Grown a b) (g : Grown b c) : Grown a c := ⟨World.keptBut_trans h.1 g.1, fun x => (g.2 x).trans (h.2 x)⟩
theorem Grown.alloc (w : World) (cs : Array Value) (e : TypeId) : Grown w (w.alloc (.cells cs e)) := by
  refine ⟨World.keptBut_alloc _ _ _, fun a => ?_⟩
  rcases Nat.lt_trichotomy a.block w.heap.size with h | h | h
  · unfold World.frozen?; rw [heap_alloc_old w _ _ h]
  · unfold World.frozen?; rw [h, heap_alloc_new]; simp
  · have h1 : (w.alloc (.cells cs e)).heap[a.block]? = none := Array.getElem?_eq_none (by simp; omega)
    have h2 : w.heap[a.block]? = none := Array.getElem?_eq_none (by omega)
    unfold World.frozen?; rw [h1, h2]
theorem Grown.setCells (w : World) (b o : Nat) (l : List Value) : Grown w (w.setCells b o l) := ⟨World.keptBut_setCells b l o w fun _ _ => trivial, fun a => World.frozen?_setCells b l o w a⟩
theorem Grown.drew (w : World) : Grown w w.drew := ⟨World.keptBut_refl w _, fun _ => rfl⟩
structure StepTo (H H' : Heap) (T : Kil) (pl pl' : Pl) (w w' : World) : Prop where
  hr : HRel H' pl' w'
  kp : Keeps T w H pl w' H' pl'
  bs : pl'.base = pl.base
  gr : Grown w w'
  fr : ∀ p u, w.at? p = some u → (∀ i B, look H i = some B → ¬ pl.fp i p) → (∀ i B, look H' i = some B → ¬ pl'.fp i p) ∧ w'.at? p = some u ∧ w'.ice? p = w.ice? p
structure Rel (w0 : World) (fp0 : Cell → Prop) (st : St) (pl : Pl) (a : Act) (w : World) : Prop where
  hr : HRel st.heap pl w
  sl : Slots w st.heap pl st.slots a
  sz : a.tmps.size = st.n
  df : a.defers = []
  fresh : ∀ i, st.nid ≤ i → look st.heap i = none
  gr : Grown w0 w
  fr : ∀ p u, w0.at? p = some u → ¬ fp0 p → (∀ i B, look st.heap i = some B → ¬ pl.fp i p) ∧ w.at? p = some u ∧ w.ice? p = w0.ice? p
theorem Slots.put {w : World} {H : Heap} {pl : Pl} {s s' : List (Nat × SV)} {a : Act} {n : Nat} {dst : Option Tmp} {v : SV} {u : Value}
    (hs : Slots w H pl s a) (hn : a.tmps.size = n) (hp : putO s n dst v = some s') (hv : SVRep w H pl v u) : Slots w H pl s' (a.put dst u) := by
  cases dst with
  | none => cases hp; exact hs
  | some d =>
    simp only [putO] at hp
    cases hd : Nat.ble (d + 1) n <;> simp only [hd, cond_true, cond_false, Option.some.injEq] at hp
    · exact nomatch hp
    · subst hp
      have hd : d + 1 ≤ n := Nat.le_of_ble_eq_true hd
      intro t x hx
      rw [look_put] at hx
      by_cases e : d = t
      · subst e
        simp only [if_true, Option.some.injEq] at hx
        subst hx
        simp only [Act.put, Array.getD_eq_getD_getElem?, Array.getElem?_setIfInBounds_self_of_lt (show d < a.tmps.size by rw [hn]; exact hd), Option.getD_some]
        exact hv
      · rw [if_neg e] at hx
        simp only [Act.put, Array.getD_eq_getD_getElem?, Array.getElem?_setIfInBounds_ne e]
        have := hs t x hx
        simpa only [Array.getD_eq_getD_getElem?] using this
theorem Act.put_size (a : Act) (dst : Option Tmp) (v : Value) : (a.put dst v).tmps.size = a.tmps.size := by
  cases dst <;> simp [Act.put]
theorem Act.put_df (a : Act) (dst : Option Tmp) (v : Value) : (a.put dst v).defers = a.defers := by
  cases dst <;> rfl
theorem sweepH'_spec {T : Kil} (hT : ∀ i, mem i T.1 = true → mem i T.2 = true) {h h' : Heap} (e : sweepH' T h = some h') (i : Nat) :
    look h' i = cond (mem i T.1) none ((look h i).bind (Blk.sweep T)) := by
  unfold sweepH' at e
  split at e
  · rename_i hn
    cases e
    have := kil_nil hn hT
    subst this
    simp only [mem, cond_false]
    cases look h i with
    | none => rfl
    | some B => cases B with
      | box cs => simp [Blk.sweep, sweepL_nil]
      | arr sh t xs => cases sh <;> simp [Blk.sweep, hit_nil]
  · exact (look_sweepH _ _ _ e i).1
theorem look_sweepS' {T : Kil} (hT : ∀ i, mem i T.1 = true → mem i T.2 = true) (s : List (Nat × SV)) (t : Nat) : look (sweepS' T s) t = (look s t).map (SV.sweep T) := by
  unfold sweepS'
  split
  · rename_i hn
    have := kil_nil hn hT
    subst this
    cases look s t with
    | none => rfl
    | some v => simp [sweep_nil]
  · exact look_sweepS _ _ _
theorem Slots.keep {T : Kil} (hT : ∀ i, mem i T.1 = true → mem i T.2 = true) {w w' : World} {H H' : Heap} {pl pl' : Pl} {s : List (Nat × SV)} {a : Act} (hs : Slots w H pl s a) (hk : Keeps T w H pl w' H' pl') :
    Slots w' H' pl' (sweepS' T s) a := by
  intro t v hv
  rw [look_sweepS' hT] at hv
  obtain ⟨x, hx, rfl⟩ := Option.map_eq_some_iff.1 hv
  exact (hs t x hx).keep hk
theorem Rel.take {w0 : World} {fp0 : Cell → Prop} {st st' : St} {pl pl' : Pl} {a : Act} {w w' : World} {c : CR} {dst : Option Tmp} {u : Value}
    (h : Rel w0 fp0 st pl a w) (ht : st.take dst c = some st') (hup : ∀ i B, look c.upd i = some B → ∃ B', look st.heap i = some B')
    (hs : StepTo st.heap st'.heap c.kil pl pl' w w') (hv : SVRep w' st'.heap pl' c.v u) : Rel w0 fp0 st' pl' (a.put dst u) w' := by
  simp only [St.take, Option.bind_eq_some_iff, Option.some.injEq] at ht
  obtain ⟨h1, e1, s, h2, rfl⟩ := ht
  have hupd : ∀ i, st.nid ≤ i → look (upds c.upd st.heap) i = none := fun i hi => by
    rw [look_upds]
    have h0 := h.fresh i hi
    cases hq : look c.upd.reverse i with
    | none => exact h0
    | some B =>
      exfalso
      have : ∃ B, look c.upd i = some B := by
        clear hs hv h2 e1 hup h0
        generalize c.upd = l at hq
        induction l with
        | nil => simp [look] at hq
        | cons x l ih =>
          obtain ⟨k, b⟩ := x
          rw [look_cons]
          by_cases e : k = i
          · exact ⟨b, by simp [e]⟩
          · rw [if_neg e]
            rw [List.reverse_cons, look_append, look_cons, if_neg e] at hq
            simp only [look, Option.or_none] at hq
            exact ih hq
      obtain ⟨B, hB⟩ := this
      obtain ⟨B', hB'⟩ := hup i B hB
      rw [h0] at hB'; exact nomatch hB'
  refine ⟨hs.hr, ?_, by rw [Act.put_size]; exact h.sz, by rw [Act.put_df, h.df], fun i hi => ?_, h.gr.trans hs.gr, fun p u hp hn => ?_⟩
  · exact Slots.put (n := st.n) (h.sl.keep c.kil_le hs.kp) h.sz h2 hv
  · have hi : st.nid + c.news.length ≤ i := hi
    show look (h1 ++ newsH st.nid c.news) i = none
    rw [look_append, sweepH'_spec c.kil_le e1 i, hupd i (by omega), look_newsH, if_pos (by omega), List.getElem?_eq_none (by omega)]
    cases mem i c.kil.1 <;> rfl
  · obtain ⟨g1, g2, g3⟩ := h.fr p u hp hn
    obtain ⟨f1, f2, f3⟩ := hs.fr p u g2 g1
    exact ⟨f1, f2, f3.trans g3⟩
/-- Nothing has happened. -/
theorem StepTo.refl {H : Heap} {pl : Pl} {w : World} (h : HRel H pl w) : StepTo H H ([], []) pl pl w w :=
  ⟨h, ⟨fun i B hB _ => ⟨B, hB, B.like_refl, rfl⟩, fun d p u _ h hp => ⟨h, hp⟩⟩, rfl, Grown.refl w, fun p u hp h => ⟨h, hp, rfl⟩⟩
/-- A block that no one touches. -/
theorem BlkRep.keep {T : Kil} {w w' : World} {H H' : Heap} {pl pl' : Pl} {i : Nat} {B B' : Blk} (hk : Keeps T w H pl w' H' pl')
    (hh : pl'.hdr i = pl.hdr i) (hf : ∀ p, pl'.fp i p ↔ pl.fp i p) (hc : ∀ p u, pl.fp i p → w.at? p = some u → w'.at? p = some u ∧ w'.ice? p = w.ice? p)
    (h : BlkRep w H pl i B) (hs : B.sweep T = some B') : BlkRep w' H' pl' i B' := by
  cases B with
  | box cs =>
    cases hs
    obtain ⟨b, o, h1, h2, h3⟩ := h
    refine ⟨b, o, hh.trans h1, fun p => by rw [hf, h2, sweepL_length], fun j v hv => ?_⟩
    rw [sweepL_get] at hv
    obtain ⟨x, hx, rfl⟩ := Option.map_eq_some_iff.1 hv
    obtain ⟨u, g1, g2, g3, g4⟩ := h3 j x hx
    have hp : pl.fp i (b, o + j) := (h2 _).2 ⟨rfl, by simp, by have := (List.getElem?_eq_some_iff.1 hx).1; simp; omega⟩
    obtain ⟨e1, e2⟩ := hc _ _ hp g1
    exact ⟨u, e1, e2.trans g2, g3, g4.keep hk⟩
  | arr sh t xs =>
    cases sh with
    | none =>
      cases hs
      obtain ⟨R⟩ := h
      have := R.repD.frame hc
      obtain ⟨R'⟩ := this.row
      rw [← hh] at R'
      obtain ⟨a, cap, b, o, vs, fs, q1, q2, q3, q4, q5, q6, q7, q8, q9⟩ := R'
      exact ⟨⟨a, cap, b, o, vs, fs, q1, q2, q3, q4, q5, q6, q7, q8, fun p => (hf p).trans (q9 p)⟩⟩
    | some d =>
      simp only [Blk.sweep] at hs
      cases hd : hit T.2 d <;> simp only [hd, cond_true, cond_false, Option.some.injEq] at hs
      · subst hs
        obtain ⟨⟨a, cap, b, o, vs, fs, q1, q2, q3, q4, q5, q6, q7, q8, q9⟩⟩ := h
        have hin : ∀ p, reg b o (cap * t.sz) p → pl.fp i p := fun p hp => (q9 p).2 (.inl hp)
        refine ⟨⟨a, cap, b, o, vs, fs, hh.trans q1, q2, q3, fun j hj => ?_, fun x j r hr => ?_, fun x j r hr => ⟨?_, (q6 x j r hr).2⟩, q7, q8, fun p => (hf p).trans (q9 p)⟩⟩
        · obtain ⟨⟨v, hv⟩, hi⟩ := q4 j hj
          obtain ⟨e1, e2⟩ := hc _ _ (hin _ ⟨rfl, by simp, by simp; omega⟩) hv
          exact ⟨⟨v, e1⟩, e2.trans hi⟩
        · have := off_lt (cellIn_lt hr).1 (cellIn_lt hr).2 q2
          exact (hc _ _ (hin _ ⟨rfl, by simp, by simp; omega⟩) (q5 x j r hr)).1
        · exact (q6 x j r hr).1.frame fun p u hp hu => hk.k2 d p u (hit_false T.2 d hd) hp hu
      · exact nomatch hs
def Pl.set (pl : Pl) (i : Nat) (hdr : Value) (fp : Cell → Prop) : Pl := ⟨fun j => if j = i then hdr else pl.hdr j, fun j => if j = i then fp else pl.fp j, pl.base⟩
theorem Blk.sweep_nil (B : Blk) : B.sweep ([], []) = some B := by
  cases B with
  | box cs => simp [Blk.sweep, sweepL_nil]
  | arr sh t xs => cases sh <;> simp [Blk.sweep, hit_nil]
theorem HRel.own_there {H : Heap} {pl : Pl} {w : World} (hr : HRel H pl w) : ∀ i B' p, look H i = some B' → pl.fp i p → ∃ u, w.at? p = some u := fun i B' p h hp => by
  have := hr.blk i B' h
  cases B' with
  | box cs =>
    obtain ⟨b, o, _, h2, h3⟩ := this
    obtain ⟨q1, q2, q3⟩ := (h2 p).1 hp
    have hlt : p.2 - o < cs.length := by omega
    obtain ⟨u, hu, _⟩ := h3 (p.2 - o) _ (List.getElem?_eq_getElem hlt)
    exact ⟨u, by rw [← hu]; congr 1; ext <;> simp <;> omega⟩
  | arr sh t xs =>
    cases sh with
    | none => obtain ⟨R⟩ := this; exact R.repD.there p hp
    | some d =>
      obtain ⟨R⟩ := this
      rcases (R.hfp p).1 hp with ⟨q1, q2, q3⟩ | ⟨x, j, r, hx, hf⟩
      · obtain ⟨⟨u, hu⟩, _⟩ := R.hreg (p.2 - R.o) (by omega)
        exact ⟨u, by rw [← hu]; congr 1; ext <;> simp <;> omega⟩
      · exact ((R.hr x j r hx).2 p hf).elim
/-- A new block, in new memory. -/
theorem new_step {H : Heap} {pl : Pl} {w w' : World} {n : Nat} {B : Blk} {hdr : Value} {fp : Cell → Prop} (hr : HRel H pl w) (hn : look H n = none)
    (hg : Grown w w') (hold : ∀ p u, w.at? p = some u → w'.at? p = some u ∧ w'.ice? p = w.ice? p) (hfp : ∀ p, fp p → w.at? p = none)
    (hB : Keeps ([], []) w H pl w' (H ++ [(n, B)]) (pl.set n hdr fp) → BlkRep w' (H ++ [(n, B)]) (pl.set n hdr fp) n B) :
    StepTo H (H ++ [(n, B)]) ([], []) pl (pl.set n hdr fp) w w' := by
  have hne : ∀ i B', look H i = some B' → i ≠ n := fun i B' h e => by subst e; rw [hn] at h; exact nomatch h
  have hlook : ∀ i B', look (H ++ [(n, B)]) i = some B' → (i = n ∧ B' = B) ∨ (i ≠ n ∧ look H i = some B') := fun i B' h => by
    rw [look_append, look_cons] at h
    by_cases e : n = i
    · subst e; rw [hn] at h; simp at h; exact .inl ⟨rfl, h.symm⟩
    · rw [if_neg e] at h; simp [look] at h; exact .inr ⟨fun h => e h.symm, h⟩
  have hown := hr.own_there
  have hkeep : Keeps ([], []) w H pl w' (H ++ [(n, B)]) (pl.set n hdr fp) := by
    refine ⟨fun i B' hB' _ => ⟨B', ?_, B'.like_refl, if_neg (hne i B' hB')⟩, fun d p u _ h hp => ⟨⟨h.1, fun i B' hB' hm hf => ?_⟩, (hold p u hp).1⟩⟩
    · rw [look_append, hB']; rfl
    · rcases hlook i B' hB' with ⟨rfl, rfl⟩ | ⟨hi, hB''⟩
      · simp only [Pl.set, if_true] at hf
        rw [hfp p hf] at hp; exact nomatch hp
      · simp only [Pl.set, if_neg hi] at hf
        exact h.2 i B' hB'' hm hf
  refine ⟨⟨fun i B' hB' => ?_, fun i j B1 B2 p h1 h2 f1 f2 => ?_, fun i B' p hB' hf => ?_, fun p hp => ?_⟩, hkeep, rfl, hg, fun p u hp h => ⟨fun i B' hB' hf => ?_, hold p u hp⟩⟩
  · rcases hlook i B' hB' with ⟨rfl, rfl⟩ | ⟨hi, hB''⟩
    · exact hB hkeep
    · exact (hr.blk i B' hB'').keep hkeep (if_neg hi) (fun p => by simp [Pl.set, hi]) (fun p u _ hu => hold p u hu) B'.sweep_nil
  · rcases hlook i B1 h1 with ⟨rfl, rfl⟩ | ⟨hi, q1⟩ <;> rcases hlook j B2 h2 with ⟨rfl, rfl⟩ | ⟨hj, q2⟩
    · rfl
    · simp only [Pl.set, if_true, if_neg hj] at f1 f2
      obtain ⟨u, hu⟩ := hown _ _ _ q2 f2
      rw [hfp p f1] at hu; exact nomatch hu
    · simp only [Pl.set, if_true, if_neg hi] at f1 f2
      obtain ⟨u, hu⟩ := hown _ _ _ q1 f1
      rw [hfp p f2] at hu; exact nomatch hu
    · simp only [Pl.set, if_neg hi, if_neg hj] at f1 f2
      exact hr.dis i j B1 B2 p q1 q2 f1 f2
  · rcases hlook i B' hB' with ⟨rfl, rfl⟩ | ⟨hi, hB''⟩
    · simp only [Pl.set, if_true] at hf
      exact hr.nb p (hfp p hf)
    · simp only [Pl.set, if_neg hi] at hf
      exact hr.ob i B' p hB'' hf
  · refine hr.nb p ?_
    cases hq : w.at? p with
    | none => rfl
    | some u => rw [(hold p u hq).1] at hp; exact nomatch hp
  · rcases hlook i B' hB' with ⟨rfl, rfl⟩ | ⟨hi, hB''⟩
    · simp only [Pl.set, if_true] at hf
      rw [hfp p hf] at hp; exact nomatch hp
    · simp only [Pl.set, if_neg hi] at hf
      exact h i B' hB'' hf
end Go.Proofs.Ev
