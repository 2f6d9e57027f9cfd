/- The evaluator over the model's code, and that it is sound: part 4. -/
import Derived.Test.YthaamopjdieecaaEvK3
import Derived.Tactics
import Derived.LoopN
import Derived.Scope
set_option linter.unusedVariables false
set_option linter.unusedSimpArgs false
set_option linter.unusedVariables false
namespace Go.Proofs.Ev
variable [Tok]
set_option linter.unusedSectionVars false
/-- The state's relation to the frame, its placing hidden. -/
def Rl (w0 : World) (fp0 : G0) (bs : Cell → Prop) (n : Nat) (st : St) (a : Act) (w : World) : Prop := ∃ pl, Rel w0 fp0 st pl a w ∧ pl.base = bs ∧ st.n = n
section
variable {w : World} {H H' : Heap} {pl : Pl}
theorem keeps_same (e : SameL H' H) : Keeps ([], []) w H pl w H' pl :=
  ⟨fun i B hB _ => ⟨B, (e i).trans hB, B.like_refl, rfl⟩, fun d p u _ h hp => ⟨⟨h.1, fun i B hB => h.2 i B ((e i).symm.trans hB)⟩, hp⟩⟩
theorem HRel.same (e : SameL H' H) (h : HRel H pl w) : HRel H' pl w :=
  ⟨fun i B hB => (h.blk i B ((e i).symm.trans hB)).keep (keeps_same e) rfl (fun _ => Iff.rfl) (fun p u _ hu => ⟨hu, rfl⟩) B.sweep_nil,
   fun i j B B' p h1 h2 => h.dis i j B B' p ((e i).symm.trans h1) ((e j).symm.trans h2), fun i B p hB => h.ob i B p ((e i).symm.trans hB), h.nb⟩
theorem Rel.congr {w0 : World} {fp0 : G0} {s s' : List (Nat × SV)} {nid n : Nat} {gh : List (Option Nat)} {a : Act} (h : Rel w0 fp0 ⟨s, H, nid, n, gh⟩ pl a w) (hs : ∀ t v, look s' t = some v → look s t = some v) (e : SameL H' H) :
    Rel w0 fp0 ⟨s', H', nid, n, gh⟩ pl a w :=
  ⟨h.hr.same e, fun t v hv => (h.sl t v (hs t v hv)).keep0 (keeps_same e), h.sz, h.df, fun i hi => (e i).trans (h.fresh i hi), h.gr, fun p u hp hn => by
    obtain ⟨g1, g2, g3⟩ := h.fr p u hp hn
    exact ⟨fun i B hB => g1 i B ((e i).symm.trans hB), g2, g3⟩, fun k i hi => ⟨(h.gk k i hi).1, fun B hB => (h.gk k i hi).2 B ((e i).symm.trans hB)⟩⟩
end
theorem look_setH_dom {h : Heap} {k i : Nat} {b B : Blk} (e : look (setH h k b) i = some B) : ∃ B', look h i = some B' := by
  induction h with
  | nil => simp [setH, look] at e
  | cons x l ih =>
    obtain ⟨k', u⟩ := x
    rw [look_cons]
    by_cases c : k' = i
    · exact ⟨u, by simp [c]⟩
    · rw [if_neg c]
      simp only [setH] at e
      cases hb : Nat.beq k' k <;> simp only [hb, cond_true, cond_false] at e
      · rw [look_cons, if_neg c] at e; exact ih e
      · rw [look_cons, if_neg (by have := Nat.eq_of_beq_eq_true hb; omega)] at e; exact ⟨B, e⟩
theorem look_updsX_dom : ∀ {l h : Heap} {i : Nat} {B : Blk}, look (updsX l h) i = some B → ∃ B', look h i = some B'
  | [], h, i, B, e => ⟨B, e⟩
  | (k, b) :: l, h, i, B, e => by
    simp only [updsX] at e
    obtain ⟨B', hB'⟩ := look_updsX_dom e
    exact look_setH_dom hB'
/-- One operation's step, in a state as a set of operations leaves it. -/
theorem Rel.app {w0 : World} {fp0 : G0} {X X' : SH} {nid n : Nat} {gh : List (Option Nat)} {pl pl' : Pl} {a : Act} {w w' : World} {r : DR} {H' : Heap} {u : Value}
    (h : Rel w0 fp0 ⟨X.1, X.2, nid, n, gh⟩ pl a w) (hx : r.app X = some X') (hup : ∀ i B, look r.c.upd i = some B → ∃ B', look X.2 i = some B')
    (hd : ∀ t, r.dst = some t → t + 1 ≤ n) (hg : ∀ (k i : Nat), gh[k]? = some (some i) → i < r.n0) (hn : r.n0 + r.c.news.length ≤ nid) (ha : after X.2 r.n0 r.c = some H') (hs : StepTo X.2 H' r.c.kil pl pl' w w') (hv : SVRep w' H' pl' r.c.v u) :
    Rel w0 fp0 ⟨X'.1, X'.2, nid, n, gh⟩ pl' (a.put r.dst u) w' := by
  have hsame : SameL X'.2 H' := by
    unfold DR.app at hx
    unfold after at ha
    rw [upds_updsX hup] at ha
    simp only [Option.bind_eq_some_iff, Option.some.injEq] at hx ha
    obtain ⟨h1, e1, rfl⟩ := hx
    obtain ⟨h2, e2, rfl⟩ := ha
    rw [e1] at e2; cases e2
    exact fun _ => rfl
  have hfr : ∀ i, nid ≤ i → look H' i = none := fun i hi => by
    rw [← hsame i]
    cases hq : look X'.2 i with
    | none => rfl
    | some B =>
      rcases replay_dom (p := fun _ => true) [r] 0 X X' (by simp [replay, hx]) i B hq with ⟨B', hB'⟩ | ⟨j', r2, g1, _, g3⟩
      · have := h.fresh i hi; rw [hB'] at this; exact nomatch this
      · cases j' with
        | zero => simp at g1; subst g1; have := g3.2; omega
        | succ j' => simp at g1
  have hsl : Slots w' H' pl' (sweepS' r.c.kil X.1) a := h.sl.keep r.c.kil_le hs.kp
  have hsl2 : Slots w' H' pl' X'.1 (a.put r.dst u) := by
    rw [app_slots hx]
    cases hdst : r.dst with
    | none => exact hsl
    | some t =>
      have ht := hd t hdst
      exact Slots.put (n := n) (dst := some t) hsl h.sz (by simp only [putO, putD]; rw [show Nat.ble (t + 1) n = true from Nat.ble_eq_true_of_le ht]; rfl) hv
  exact Rel.congr (s := X'.1) (H := H') ⟨hs.hr, hsl2, by rw [Act.put_size]; exact h.sz, by rw [Act.put_df]; exact h.df, hfr, h.gr.trans hs.gr, fun p q hp hno => by
    obtain ⟨g1, g2, g3⟩ := h.fr p q hp hno
    obtain ⟨f1, f2, f3⟩ := hs.fr p q g2 g1
    exact ⟨f1, f2, f3.trans g3⟩, h.gk.step hs.kp (Nat.le_refl _) fun k i B hki hB => by
      have hi := hg k i hki
      rw [← hsame i] at hB
      unfold DR.app at hx
      simp only [Option.bind_eq_some_iff, Option.some.injEq] at hx
      obtain ⟨h1, e1, rfl⟩ := hx
      rw [look_append, look_newsH, if_neg (by omega), Option.or_none, sweepH'_spec r.c.kil_le e1 i] at hB
      cases hm : mem i r.c.kil.1 <;> simp only [hm, cond_true, cond_false] at hB
      · obtain ⟨B1, hB1, _⟩ := Option.bind_eq_some_iff.1 hB
        exact ⟨rfl, look_updsX_dom hB1⟩
      · exact nomatch hB⟩ (fun _ _ h => h) hsame
theorem ancOf_spec (acc : List Nat) (j : Nat) : ∀ l : List Edge, (ancOf acc l).testBit j = true ↔ ∃ e ∈ l, Region.binds .any e = true ∧ (j = e.on ∨ (acc.getD e.on 0).testBit j = true)
  | [] => by simp [ancOf]
  | e :: l => by
    simp only [ancOf]
    cases hb : Region.binds .any e
    · simp only [cond_false, ancOf_spec acc j l, List.mem_cons, exists_eq_or_imp, hb, Bool.false_eq_true, false_and, false_or]
    · simp only [cond_true, Nat.testBit_or, Nat.testBit_two_pow, Bool.or_eq_true, decide_eq_true_eq, ancOf_spec acc j l, List.mem_cons, exists_eq_or_imp, hb, true_and]
      constructor
      · rintro ((h | h) | h)
        · exact .inl (.inr h)
        · exact .inl (.inl h.symm)
        · exact .inr h
      · rintro ((h | h) | h)
        · exact .inl (.inr h.symm)
        · exact .inl (.inl h)
        · exact .inr h
theorem edgesOk_spec {n : Nat} : ∀ {l : List Edge}, edgesOk n l = true → ∀ e ∈ l, Region.binds .any e = true → e.on < n
  | [], _, e, he, _ => by simp at he
  | x :: l, h, e, he, hb => by
    simp only [edgesOk] at h
    cases hx : Region.binds .any x <;> simp only [hx, cond_true, cond_false] at h
    · rcases List.mem_cons.1 he with rfl | he
      · rw [hx] at hb; exact nomatch hb
      · exact edgesOk_spec h e he hb
    · cases hn : Nat.ble (x.on + 1) n <;> simp only [hn, cond_true, cond_false] at h
      · exact nomatch h
      · rcases List.mem_cons.1 he with rfl | he
        · exact Nat.le_of_ble_eq_true hn
        · exact edgesOk_spec h e he hb
structure Masks (ops : List Oper) (masks : List Nat) : Prop where
  back : ∀ (i : Nat) (o : Oper), ops[i]? = some o → ∀ e ∈ o.after.toList, Region.binds .any e = true → e.on < i
  spec : ∀ (i : Nat) (o : Oper), ops[i]? = some o → ∀ j, (masks.getD i 0).testBit j = true ↔ ∃ e ∈ o.after.toList, Region.binds .any e = true ∧ (j = e.on ∨ (masks.getD e.on 0).testBit j = true)
theorem masksOf_spec : ∀ (l : List Oper) (acc masks : List Nat), masksOf acc l = some masks → (∃ t, masks = acc ++ t) ∧
    ∀ (k : Nat) (o : Oper), l[k]? = some o → (∀ e ∈ o.after.toList, Region.binds .any e = true → e.on < acc.length + k) ∧
      ∀ j, (masks.getD (acc.length + k) 0).testBit j = true ↔ ∃ e ∈ o.after.toList, Region.binds .any e = true ∧ (j = e.on ∨ (masks.getD e.on 0).testBit j = true)
  | [], acc, masks, h => by cases h; exact ⟨⟨[], by simp⟩, fun k o ho => by simp at ho⟩
  | x :: l, acc, masks, h => by
    simp only [masksOf] at h
    cases he : edgesOk acc.length x.after.toList <;> simp only [he, cond_true, cond_false] at h
    · exact nomatch h
    · obtain ⟨⟨t, ht⟩, hl⟩ := masksOf_spec l _ masks h
      refine ⟨⟨ancOf acc x.after.toList :: t, by rw [ht]; simp⟩, fun k o ho => ?_⟩
      cases k with
      | zero =>
        simp at ho; subst ho
        refine ⟨edgesOk_spec he, fun j => ?_⟩
        have hm : masks.getD (acc.length + 0) 0 = ancOf acc x.after.toList := by rw [ht]; simp [List.getD]
        rw [hm, ancOf_spec]
        constructor
        · rintro ⟨e, h1, h2, h3⟩
          have hlt := edgesOk_spec he e h1 h2
          refine ⟨e, h1, h2, h3.imp id fun h3 => ?_⟩
          rw [ht]; simpa [List.getD, List.getElem?_append_left hlt, List.append_assoc] using h3
        · rintro ⟨e, h1, h2, h3⟩
          have hlt := edgesOk_spec he e h1 h2
          refine ⟨e, h1, h2, h3.imp id fun h3 => ?_⟩
          rw [ht] at h3; simpa [List.getD, List.getElem?_append_left hlt, List.append_assoc] using h3
      | succ k =>
        have := hl k o (by simpa using ho)
        simp only [List.length_append, List.length_cons, List.length_nil] at this
        rwa [show acc.length + (0 + 1) + k = acc.length + (k + 1) from by omega] at this
theorem masks_of {ops : List Oper} {masks : List Nat} (h : masksOf [] ops = some masks) : Masks ops masks := by
  obtain ⟨_, h2⟩ := masksOf_spec ops [] masks h
  exact ⟨fun i o ho => by have := (h2 i o ho).1; simpa using this, fun i o ho => by have := (h2 i o ho).2; simpa using this⟩
/-- What is closed under 'after' holds all that its members wait for. -/
theorem Masks.closed {ops : List Oper} {masks : List Nat} (hm : Masks ops masks) {p : Nat → Bool} (hp : ∀ (j : Nat) (o : Oper), ops[j]? = some o → p j = true → ∀ e ∈ o.after.toList, Region.binds .any e = true → p e.on = true) :
    ∀ (n i : Nat) (o : Oper), i ≤ n → ops[i]? = some o → (∀ e ∈ o.after.toList, Region.binds .any e = true → p e.on = true) → ∀ j, (masks.getD i 0).testBit j = true → p j = true
  | n, i, o, hn, ho, he, j, hj => by
    obtain ⟨e, h1, h2, h3⟩ := (hm.spec i o ho j).1 hj
    rcases h3 with rfl | h3
    · exact he e h1 h2
    · have hlt := hm.back i o ho e h1 h2
      have hol : e.on < ops.length := by have := (List.getElem?_eq_some_iff.1 ho).1; omega
      cases n with
      | zero => omega
      | succ n => exact hm.closed hp n e.on _ (by omega) (List.getElem?_eq_getElem hol) (fun e' h1' h2' => hp e.on _ (List.getElem?_eq_getElem hol) (he e h1 h2) e' h1' h2') j h3
theorem Masks.lt {ops : List Oper} {masks : List Nat} (hm : Masks ops masks) {i j : Nat} {o : Oper} (ho : ops[i]? = some o) (hj : (masks.getD i 0).testBit j = true) : j < i :=
  of_decide_eq_true (hm.closed (p := fun j => decide (j < i)) (fun k o' ho' hk e h1 h2 => decide_eq_true (by have := hm.back k o' ho' e h1 h2; have := of_decide_eq_true hk; omega)) i i o (Nat.le_refl _) ho
    (fun e h1 h2 => decide_eq_true (hm.back i o ho e h1 h2)) j hj)
end Go.Proofs.Ev

set_option linter.unusedVariables false
namespace Go.Proofs.Ev
variable [Tok]
set_option linter.unusedSectionVars false
def Wanted (masks : List Nat) (i : Nat) (o : Oper) (rs : List DR) (t : Bool) : Prop :=
  match o.guard with
  | none => t = true
  | some (g, want) => (masks.getD i 0).testBit g = true ∧ ∃ r d, rs[g]? = some r ∧ r.dst = some d ∧ ((∃ b, r.c.v = .r [] (.bool b) ∧ t = (b == want)) ∨ (r.c.v = .tup [] ∧ t = false))
theorem evMem_blank1 {ρ : Type} {E : Env} (hE : EnvOk E) {o : Oper} {y : Operand} (ho : ∀ (σ : Type) (s : List (Nat × SV)) (h : Heap) (n : Nat) (K : CR → Option σ), evMem E s h n o.op K = (opd s y).bind fun v => K { v := v }) (ht : tempsOf o.op.operands.toList = tempsOf [y])
    {s : List (Nat × SV)} {h0 : Heap} {n : Nat} {K : CR → Option ρ} {out : ρ} (h : evMem E s h0 n o.op K = some out) :
    ∃ c, K c = some out ∧ OpGen E.P o n c s h0 ∧ OpGen E.P o n c (restr [] s (tempsOf o.op.operands.toList)) [] ∧ ∀ t u, look (restr [] s (tempsOf o.op.operands.toList)) t = some u → look s t = some u ∧ u = c.v := by
  rw [ho, Option.bind_eq_some_iff] at h
  obtain ⟨v, hv, hk⟩ := h
  have gen : ∀ (s' : List (Nat × SV)) (h' : Heap), opd s' y = some v → OpGen E.P o n { v := v } s' h' := fun s' h' hs => by
    obtain ⟨c, e, g⟩ := evMem_gen hE (K := fun c => some c) (out := ({ v := v } : CR)) (o := o) (s := s') (h0 := h') (n := n) (by rw [ho, hs]; rfl)
    cases e; exact g
  have hsub : opd (restr [] s (tempsOf o.op.operands.toList)) y = some v ∧ ∀ t u, look (restr [] s (tempsOf o.op.operands.toList)) t = some u → look s t = some u ∧ u = v := by
    rw [ht]
    cases y with
    | tmp t =>
      simp only [opd] at hv
      simp only [tempsOf, restr, mem, cond_false, hv, opd]
      refine ⟨by simp [look], fun t' u hu => ?_⟩
      rw [look_cons] at hu
      by_cases c : t = t'
      · subst c; rw [if_pos rfl] at hu; cases hu; exact ⟨hv, rfl⟩
      · rw [if_neg c] at hu; exact nomatch hu
    | const x => exact ⟨hv, fun t u hu => nomatch hu⟩
    | func f => exact ⟨hv, fun t u hu => nomatch hu⟩
    | global g => exact nomatch hv
  exact ⟨{ v := v }, hk, gen _ _ hv, gen _ _ hsub.1, hsub.2⟩
theorem evMem_blank {ρ : Type} {E : Env} (hE : EnvOk E) {o : Oper} (hb : blankOp o.op = true) {s : List (Nat × SV)} {h0 : Heap} {n : Nat} {K : CR → Option ρ} {out : ρ} (h : evMem E s h0 n o.op K = some out) :
    ∃ c, K c = some out ∧ OpGen E.P o n c s h0 ∧ OpGen E.P o n c (restr [] s (tempsOf o.op.operands.toList)) [] ∧ ∀ t u, look (restr [] s (tempsOf o.op.operands.toList)) t = some u → look s t = some u ∧ u = c.v := by
  unfold blankOp at hb
  split at hb
  · rename_i y ho
    exact evMem_blank1 hE (y := y) (fun _ _ _ _ _ => by rw [ho]; rfl) (by rw [ho]; rfl) h
  · rename_i y ho
    exact evMem_blank1 hE (y := y) (fun _ _ _ _ _ => by rw [ho]; rfl) (by rw [ho]; rfl) h
  · exact nomatch hb
/-- What hands on a value looks at its operand's slot alone. -/
def Blank (E : Env) (x : SH) (r : DR) (o : Oper) : Prop := OpGen E.P o r.n0 r.c (restr [] x.1 (tempsOf o.op.operands.toList)) [] ∧ ∀ t u, look (restr [] x.1 (tempsOf o.op.operands.toList)) t = some u → look x.1 t = some u ∧ u = r.c.v
def GoodR (E : Env) (ops : List Oper) (masks dsts : List Nat) (s0 : List (Nat × SV)) (h0 : Heap) (rs : List DR) (i : Nat) (o : Oper) (r : DR) : Prop :=
  r.dst = o.dst ∧ okW E o.op r.c = true ∧ ∃ x t, replay (Nat.testBit (masks.getD i 0)) 0 (rs.take i) (restr (banT masks i 0 ops) s0 (tempsOf o.op.operands.toList), h0) = some x ∧ Wanted masks i o rs t ∧
    ((t = true ∧ r.see = seeB E masks i ops x o ∧ OpGen E.P o r.n0 r.c x.1 (viewB E masks i ops x o) ∧ (r.mv = true → Blank E x r o)) ∨ (t = false ∧ r.c = { v := .tup [] }))
structure Facts (E : Env) (ops : List Oper) (masks dsts : List Nat) (s0 : List (Nat × SV)) (h0 : Heap) (nid0 : Nat) (rs : List DR) (m nid : Nat) : Prop where
  len : rs.length = m
  good : ∀ (i : Nat) (o : Oper) (r : DR), ops[i]? = some o → rs[i]? = some r → GoodR E ops masks dsts s0 h0 rs i o r
  lo : ∀ (i : Nat) (r : DR), rs[i]? = some r → nid0 ≤ r.n0 ∧ r.n0 + r.c.news.length ≤ nid
  ord : ∀ (i j : Nat) (a b : DR), i < j → rs[i]? = some a → rs[j]? = some b → a.n0 + a.c.news.length ≤ b.n0
theorem Wanted.more {masks : List Nat} {i : Nat} {o : Oper} {rs : List DR} {t : Bool} (h : Wanted masks i o rs t) (r : DR) : Wanted masks i o (rs ++ [r]) t := by
  unfold Wanted at *
  split at h
  · exact h
  · obtain ⟨h1, r', d, h2, h3, h4⟩ := h
    exact ⟨h1, r', d, by rw [List.getElem?_append_left (List.getElem?_eq_some_iff.1 h2).1]; exact h2, h3, h4⟩
section
variable {ρ : Type} {E : Env} {ops : List Oper} {masks dsts : List Nat} {s0 : List (Nat × SV)} {h0 : Heap} {nid0 : Nat}
theorem Facts.push {rs : List DR} {m nid : Nat} (F : Facts E ops masks dsts s0 h0 nid0 rs m nid) (h0n : nid0 ≤ nid) {o : Oper} {r : DR} (ho : ops[m]? = some o) (hr : GoodR E ops masks dsts s0 h0 (rs ++ [r]) m o r) (hn : r.n0 = nid) :
    Facts E ops masks dsts s0 h0 nid0 (rs ++ [r]) (m + 1) (nid + r.c.news.length) := by
  have hcase : ∀ (i : Nat) (b : DR), (rs ++ [r])[i]? = some b → (i < m ∧ rs[i]? = some b) ∨ (i = m ∧ b = r) := fun i b hb => by
    by_cases c : i < m
    · rw [List.getElem?_append_left (by rw [F.len]; exact c)] at hb; exact .inl ⟨c, hb⟩
    · rw [List.getElem?_append_right (by rw [F.len]; omega), F.len] at hb
      have hi : i - m < 1 := by have := (List.getElem?_eq_some_iff.1 hb).1; simpa using this
      have : i - m = 0 := by omega
      rw [this] at hb; simp at hb
      exact .inr ⟨by omega, hb.symm⟩
  refine ⟨by simp [F.len], fun i o' b ho' hb => ?_, fun i b hb => ?_, fun i j a b hij ha hb => ?_⟩
  · rcases hcase i b hb with ⟨hi, h⟩ | ⟨rfl, rfl⟩
    · obtain ⟨g1, g2, x, t, g3, g4, g5⟩ := F.good i o' b ho' h
      exact ⟨g1, g2, x, t, by rw [List.take_append_of_le_length (by rw [F.len]; omega)]; exact g3, g4.more r, g5⟩
    · rw [ho] at ho'; cases ho'; exact hr
  · rcases hcase i b hb with ⟨hi, h⟩ | ⟨rfl, rfl⟩
    · have := F.lo i b h; exact ⟨this.1, by omega⟩
    · exact ⟨by omega, by omega⟩
  · rcases hcase j b hb with ⟨hj, h⟩ | ⟨rfl, rfl⟩
    · rcases hcase i a ha with ⟨hi, h'⟩ | ⟨rfl, rfl⟩
      · exact F.ord i j a b hij h' h
      · omega
    · rcases hcase i a ha with ⟨hi, h'⟩ | ⟨rfl, rfl⟩
      · have := F.lo i a h'; omega
      · omega
theorem setV_id : ∀ {rs : List DR} {g : Nat} {r : DR} {v : SV}, rs[g]? = some r → r.c.v = v → setV rs g v = rs
  | [], _, _, _, h, _ => by simp at h
  | x :: l, 0, r, v, h, hv => by simp at h; subst h; subst hv; rfl
  | x :: l, g + 1, r, v, h, hv => by simp only [setV]; rw [setV_id (rs := l) (by simpa using h) hv]
theorem evDraw_facts (hE : EnvOk E) {out : ρ} : ∀ (rest : List Oper) (i nid : Nat) (rs : List DR) (K : List DR → Nat → Option ρ), evDraw E ops masks dsts s0 h0 i rest nid rs K = some out →
    Facts E ops masks dsts s0 h0 nid0 rs i nid → nid0 ≤ nid → ops.drop i = rest → ∃ rs' nid', K rs' nid' = some out ∧ nid0 ≤ nid' ∧ Facts E ops masks dsts s0 h0 nid0 rs' (i + rest.length) nid'
  | [], i, nid, rs, K, h, F, hn, _ => ⟨rs, nid, h, hn, F⟩
  | o :: rest, i, nid, rs, K, h, F, hn, hd => by
    have ho : ops[i]? = some o := by rw [← List.head?_drop, hd]; rfl
    have hd' : ops.drop (i + 1) = rest := by rw [← List.drop_drop, hd]; rfl
    have htake : ∀ r, (rs ++ [r]).take i = rs := fun r => by rw [List.take_append_of_le_length (by rw [F.len]; omega), ← F.len, List.take_length]
    simp only [evDraw, Option.bind_eq_some_iff] at h
    obtain ⟨x, hx, h⟩ := h
    have exec : ∀ t, (∀ r, Wanted masks i o (rs ++ [r]) t) → t = true → (evMem E x.1 (viewB E masks i ops x o) nid o.op fun c => cond (okW E o.op c) (evDraw E ops masks dsts s0 h0 (i + 1) rest (nid + c.news.length) (rs ++ [⟨o.dst, nid, c, seeB E masks i ops x o, blankOp o.op⟩]) K) none) = some out →
        ∃ rs' nid', K rs' nid' = some out ∧ nid0 ≤ nid' ∧ Facts E ops masks dsts s0 h0 nid0 rs' (i + (o :: rest).length) nid' := fun t hw ht h => by
      obtain ⟨c, hc, hg, hbl⟩ : ∃ c, _ = some out ∧ OpGen E.P o nid c x.1 (viewB E masks i ops x o) ∧ (blankOp o.op = true → Blank E x ⟨o.dst, nid, c, seeB E masks i ops x o, blankOp o.op⟩ o) := by
        cases hb : blankOp o.op with
        | false =>
          obtain ⟨c, hc, hg⟩ := evMem_gen hE h
          exact ⟨c, hc, hg, fun h => nomatch h⟩
        | true =>
          obtain ⟨c, hc, hg, h1, h2⟩ := evMem_blank hE hb h
          exact ⟨c, hc, hg, fun _ => ⟨h1, h2⟩⟩
      cases hok : okW E o.op c <;> simp only [hok, cond_true, cond_false] at hc
      · exact nomatch hc
      · have F' := F.push hn (r := ⟨o.dst, nid, c, seeB E masks i ops x o, blankOp o.op⟩) ho ⟨rfl, hok, x, t, by rw [htake]; exact hx, hw _, .inl ⟨ht, rfl, hg, hbl⟩⟩ rfl
        have := evDraw_facts hE rest (i + 1) _ _ K hc F' (by omega) hd'
        rwa [show i + 1 + rest.length = i + (o :: rest).length from by simp; omega] at this
    have skip : ∀ t, (∀ r, Wanted masks i o (rs ++ [r]) t) → t = false → evDraw E ops masks dsts s0 h0 (i + 1) rest nid (rs ++ [⟨o.dst, nid, { v := .tup [] }, [], true⟩]) K = some out →
        ∃ rs' nid', K rs' nid' = some out ∧ nid0 ≤ nid' ∧ Facts E ops masks dsts s0 h0 nid0 rs' (i + (o :: rest).length) nid' := fun t hw ht h => by
      have F' := F.push hn (r := ⟨o.dst, nid, { v := .tup [] }, [], true⟩) ho ⟨rfl, by simp only [okW, isNil, CR.kil, List.nil_append]; cases isWriter E o.op <;> rfl, x, t, by rw [htake]; exact hx, hw _, .inr ⟨ht, rfl⟩⟩ rfl
      have := evDraw_facts hE rest (i + 1) _ _ K h F' (by simpa using hn) hd'
      rwa [show i + 1 + rest.length = i + (o :: rest).length from by simp; omega] at this
    split at h
    · rename_i hg
      exact exec true (fun r => by unfold Wanted; rw [hg]) rfl h
    · rename_i g want hg
      cases hb : (masks.getD i 0).testBit g <;> simp only [hb, cond_true, cond_false] at h
      · exact nomatch h
      · simp only [Option.bind_eq_some_iff] at h
        obtain ⟨r, hr, d, hdst, h⟩ := h
        split at h
        · rename_i hv
          exact skip false (fun r' => Wanted.more (by
            unfold Wanted; rw [hg]; exact ⟨hb, r, d, hr, hdst, .inr ⟨hv, rfl⟩⟩) r') rfl h
        · rename_i b hv
          have hw : ∀ r', Wanted masks i o (rs ++ [r']) (b == want) := fun r' => Wanted.more (by
            unfold Wanted; rw [hg]; exact ⟨hb, r, d, hr, hdst, .inl ⟨b, hv, rfl⟩⟩) r'
          cases b <;> simp only [cond_true, cond_false] at h
          · rw [setV_id hr hv] at h
            cases want <;> simp only [cond_true, cond_false] at h
            · exact exec _ hw rfl h
            · exact skip _ hw rfl h
          · rw [setV_id hr hv] at h
            cases want <;> simp only [cond_true, cond_false] at h
            · exact skip _ hw rfl h
            · exact exec _ hw rfl h
        · exact nomatch h
end
theorem pairs1_spec {masks : List Nat} {i : Nat} {r : DR} : ∀ {l : List DR} {k : Nat}, pairs1 masks i r k l = true → ∀ (j : Nat) (b : DR), l[j]? = some b → (masks.getD (k + j) 0).testBit i = true ∨ commB r b = true
  | [], _, _, j, b, hb => by simp at hb
  | x :: l, k, h, j, b, hb => by
    simp only [pairs1] at h
    have hl : pairs1 masks i r (k + 1) l = true ∧ ((masks.getD k 0).testBit i = true ∨ commB r x = true) := by
      cases h1 : (masks.getD k 0).testBit i <;> simp only [h1, cond_true, cond_false] at h
      · cases h2 : commB r x <;> simp only [h2, cond_true, cond_false] at h
        · exact nomatch h
        · exact ⟨h, .inr rfl⟩
      · exact ⟨h, .inl rfl⟩
    cases j with
    | zero => simp at hb; subst hb; exact hl.2
    | succ j => have := pairs1_spec hl.1 j b (by simpa using hb); rwa [show k + 1 + j = k + (j + 1) from by omega] at this
theorem pairsB_spec {masks : List Nat} : ∀ {l : List DR} {k : Nat}, pairsB masks k l = true → ∀ (i j : Nat) (a b : DR), i < j → l[i]? = some a → l[j]? = some b → (masks.getD (k + j) 0).testBit (k + i) = true ∨ commB a b = true
  | [], _, _, i, j, a, b, _, ha, _ => by simp at ha
  | x :: l, k, h, i, j, a, b, hij, ha, hb => by
    simp only [pairsB] at h
    cases h1 : pairs1 masks k x (k + 1) l <;> simp only [h1, cond_true, cond_false] at h
    · exact nomatch h
    · obtain ⟨j, rfl⟩ : ∃ j', j = j' + 1 := ⟨j - 1, by omega⟩
      cases i with
      | zero =>
        simp at ha; subst ha
        have := pairs1_spec h1 j b (by simpa using hb)
        rwa [show k + 1 + j = k + (j + 1) from by omega] at this
      | succ i =>
        have := pairsB_spec h i j a b (by omega) (by simpa using ha) (by simpa using hb)
        rwa [show k + 1 + j = k + (j + 1) from by omega, show k + 1 + i = k + (i + 1) from by omega] at this
theorem memI {i : Nat} {l : List Nat} : mem i l = true ↔ i ∈ l := by
  induction l with
  | nil => simp [mem]
  | cons k l ih =>
    simp only [mem, List.mem_cons]
    cases h : Nat.beq k i
    · have : ¬ i = k := fun e => by subst e; simp at h
      simp [ih, this]
    · have := Nat.eq_of_beq_eq_true h; simp [this]
theorem ltAll_spec {n : Nat} : ∀ {l : List Nat}, ltAll n l = true → ∀ i ∈ l, i + 1 ≤ n
  | [], _, i, hi => by simp at hi
  | x :: l, h, i, hi => by
    simp only [ltAll] at h
    cases hm : Nat.ble (x + 1) n <;> simp only [hm, cond_true, cond_false] at h
    · exact nomatch h
    · rcases List.mem_cons.1 hi with rfl | hi
      · exact Nat.le_of_ble_eq_true hm
      · exact ltAll_spec h i hi
theorem dstsOf_mem : ∀ {ops : List Oper} {j : Nat} {o : Oper} {t : Nat}, ops[j]? = some o → o.dst = some t → t ∈ dstsOf ops
  | [], j, o, t, h, _ => by simp at h
  | x :: l, 0, o, t, h, hd => by simp at h; subst h; simp [dstsOf, hd]
  | x :: l, j + 1, o, t, h, hd => by
    have := dstsOf_mem (ops := l) (by simpa using h) hd
    simp only [dstsOf]; split <;> simp [this]
theorem dstsOf_inj : ∀ {ops : List Oper}, (dstsOf ops).Nodup → ∀ {i j : Nat} {a b : Oper} {t : Nat}, i ≠ j → ops[i]? = some a → ops[j]? = some b → a.dst = some t → b.dst ≠ some t
  | [], _, i, j, a, b, t, _, h, _, _ => by simp at h
  | x :: l, hn, i, j, a, b, t, hij, ha, hb, h1 => by
    have hl : (dstsOf l).Nodup := by
      simp only [dstsOf] at hn; split at hn
      · exact (List.nodup_cons.1 hn).2
      · exact hn
    have hx : ∀ t, x.dst = some t → t ∉ dstsOf l := fun t ht => by
      simp only [dstsOf, ht] at hn; exact (List.nodup_cons.1 hn).1
    intro h2
    cases i with
    | zero =>
      simp at ha; subst ha
      cases j with
      | zero => exact hij rfl
      | succ j => exact hx t h1 (dstsOf_mem (by simpa using hb) h2)
    | succ i =>
      cases j with
      | zero => simp at hb; subst hb; exact hx t h2 (dstsOf_mem (by simpa using ha) h1)
      | succ j => exact dstsOf_inj (i := i) (j := j) hl (by omega) (by simpa using ha) (by simpa using hb) h1 h2
theorem banT_mem {masks : List Nat} {i : Nat} : ∀ {ops : List Oper} {k j : Nat} {o : Oper} {t : Nat}, ops[j]? = some o → o.dst = some t → (masks.getD (k + j) 0).testBit i = false → t ∈ banT masks i k ops
  | [], k, j, o, t, h, _, _ => by simp at h
  | x :: l, k, 0, o, t, h, hd, hb => by simp at h; subst h; simp only [Nat.add_zero] at hb; simp only [banT, hb, cond_false, hd]; exact List.mem_cons_self ..
  | x :: l, k, j + 1, o, t, h, hd, hb => by
    have := banT_mem (ops := l) (k := k + 1) (by simpa using h) hd (by rw [show k + 1 + j = k + (j + 1) from by omega]; exact hb)
    simp only [banT]
    cases (masks.getD k 0).testBit i <;> simp only [cond_true, cond_false]
    · split <;> simp [this]
    · exact this
theorem look_restr {T : List Nat} {s : List (Nat × SV)} {l : List Nat} {t : Nat} {v : SV} (h : look (restr T s l) t = some v) : t ∉ T ∧ look s t = some v := by
  induction l with
  | nil => exact nomatch h
  | cons k l ih =>
    simp only [restr] at h
    cases hm : mem k T <;> simp only [hm, cond_true, cond_false] at h
    · cases hl : look s k with
      | none => rw [hl] at h; exact ih h
      | some u =>
        rw [hl] at h
        rw [look_cons] at h
        by_cases e : k = t
        · subst e; rw [if_pos rfl] at h; cases h
          exact ⟨fun h => by rw [memI.2 h] at hm; exact (nomatch hm), hl⟩
        · rw [if_neg e] at h; exact ih h
    · exact ih h
theorem blindB_spec {E : Env} {masks : List Nat} {i : Nat} : ∀ {l : List Oper} {k : Nat}, blindB E masks i k l = false → ∀ (j : Nat) (o : Oper), l[j]? = some o → isWriter E o.op = true → ordB masks i (k + j) = true
  | [], _, _, j, o, h, _ => by simp at h
  | x :: l, k, h, j, o, ho, hw => by
    simp only [blindB] at h
    have hl : blindB E masks i (k + 1) l = false ∧ (isWriter E x.op = true → ordB masks i k = true) := by
      cases h1 : isWriter E x.op <;> simp only [h1, cond_true, cond_false] at h
      · exact ⟨h, fun h => nomatch h⟩
      · cases h2 : ordB masks i k <;> simp only [h2, cond_true, cond_false] at h
        · exact nomatch h
        · exact ⟨h, fun _ => rfl⟩
    cases j with
    | zero => simp at ho; subst ho; exact hl.2 hw
    | succ j => have := blindB_spec hl.1 j o (by simpa using ho) hw; rwa [show k + 1 + j = k + (j + 1) from by omega] at this
end Go.Proofs.Ev

set_option linter.unusedVariables false
namespace Go.Proofs.Ev
variable [Tok]
set_option linter.unusedSectionVars false
theorem after_of_app {r : DR} {X X' : SH} (h : r.app X = some X') (hup : ∀ i B, look r.c.upd i = some B → ∃ B', look X.2 i = some B') : ∃ H', after X.2 r.n0 r.c = some H' := by
  unfold DR.app at h
  unfold after
  rw [upds_updsX hup]
  simp only [Option.bind_eq_some_iff, Option.some.injEq] at h
  obtain ⟨h1, e1, _⟩ := h
  exact ⟨_, by rw [e1]; rfl⟩
theorem okW_or {E : Env} {op : Op} {c : CR} (h : okW E op c = true) : isWriter E op = false → c.kil.2 = [] ∧ c.upd = [] := by
  intro hw
  unfold okW at h
  rw [hw] at h
  simp only [cond_false, Bool.and_eq_true] at h
  exact ⟨isNil_eq h.1, isNil_eq h.2⟩
def unl (l : Array Bool) : Nat := l.toList.countP (fun b => !b)
theorem countP_set {l : List Bool} : ∀ {i : Nat}, l[i]? = some false → (l.set i true).countP (fun b => !b) + 1 = l.countP (fun b => !b) := by
  induction l with
  | nil => intro i h; simp at h
  | cons b l ih =>
    intro i h
    cases i with
    | zero => simp at h; subst h; simp
    | succ i => have := ih (i := i) (by simpa using h); simp only [List.set_cons_succ, List.countP_cons]; omega
theorem unl_set {l : Array Bool} {i : Nat} (h : l.getD i true = false) : unl (l.setIfInBounds i true) + 1 = unl l := by
  unfold unl
  rw [Array.toList_setIfInBounds]
  refine countP_set ?_
  rw [Array.getD_eq_getD_getElem?] at h
  cases hq : l[i]? with
  | none => rw [hq] at h; exact nomatch h
  | some b => rw [hq] at h; simp at h; subst h; rw [Array.getElem?_toList, hq]
theorem unl_zero {l : Array Bool} (h : unl l = 0) (i : Nat) : l.getD i true = true := by
  unfold unl at h
  rw [Array.getD_eq_getD_getElem?]
  cases hq : l[i]? with
  | none => rfl
  | some b =>
    cases b
    · have hm : false ∈ l.toList := by
        rw [← Array.getElem?_toList] at hq
        exact List.mem_of_getElem? hq
      have := List.countP_eq_zero.1 h false hm
      simp at this
    · rfl
theorem getD_both' {l : Array Bool} {i : Nat} (hi : i < l.size) : l.getD i true = l.getD i false := by
  simp [Array.getD_eq_getD_getElem?, hi]
section
variable {E : Env} {opsA : Array Oper} {masks : List Nat} {s0 : List (Nat × SV)} {h0 : Heap} {nid0 nidE n : Nat} {gh : List (Option Nat)} {rs : List DR} {XF : SH} {w0 : World} {fp0 : G0} {bs : Cell → Prop} {Q : Exit → Act → World → Prop}
def lp (l : Array Bool) : Nat → Bool := fun j => l.getD j false
def Closed (ops : Array Oper) (listed : Array Bool) : Prop := ∀ (j : Nat) (o : Oper), ops.toList[j]? = some o → lp listed j = true → ∀ e ∈ o.after.toList, Region.binds .any e = true → lp listed e.on = true
theorem all_listed (hm : Masks opsA.toList masks) {listed : Array Bool} (hs : listed.size = opsA.size) (hr : Region.ready .any opsA listed = []) : ∀ j, j < opsA.size → lp listed j = true := by
  intro j
  induction j using Nat.strongRecOn with
  | _ j ih =>
    intro hj
    cases hl : lp listed j with
    | true => rfl
    | false =>
      have : j ∈ Region.ready .any opsA listed := mem_ready.2 ⟨by rw [getD_both' (by omega)]; exact hl, opsA[j], by simp [hj], fun e he hb => by
        have hlt := hm.back j opsA[j] (by rw [Array.getElem?_toList]; simp [hj]) e (by simpa using he) hb
        exact ih e.on hlt (by omega)⟩
      rw [hr] at this; exact nomatch this
theorem draw_any (hm : Masks opsA.toList masks) (F : Facts E opsA.toList masks (dstsOf opsA.toList) s0 h0 nid0 rs opsA.size nidE) (hp : pairsB masks 0 rs = true)
    (hnd : nodupB (dstsOf opsA.toList) = true) (hlt : ltAll n (dstsOf opsA.toList) = true) (hfin : replay (fun _ => true) 0 rs (s0, h0) = some XF) (hfr : ∀ i, nid0 ≤ i → look h0 i = none) (hgh : ∀ (k i : Nat), gh[k]? = some (some i) → i < nid0)
    (hQ : ∀ a w, Rl w0 fp0 bs n ⟨XF.1, XF.2, nidE, n, gh⟩ a w → Q .normal a w) :
    ∀ (f : Nat) (listed : Array Bool) (a : Act) (w : World) (X : SH), listed.size = opsA.size → unl listed ≤ f → Closed opsA listed → replay (lp listed) 0 rs (s0, h0) = some X →
      Rl w0 fp0 bs n ⟨X.1, X.2, nidE, n, gh⟩ a w → wpAny E.P .any opsA Q f listed a w := by
  have done : ∀ (listed : Array Bool) (a : Act) (w : World) (X : SH), listed.size = opsA.size → replay (lp listed) 0 rs (s0, h0) = some X → Rl w0 fp0 bs n ⟨X.1, X.2, nidE, n, gh⟩ a w →
      Region.ready .any opsA listed = [] → Q .normal a w := fun listed a w X hs hX hR hr => by
    have hall := all_listed hm hs hr
    rw [replay_congr (q := fun _ => true) rs 0 _ fun j hj => by rw [F.len] at hj; rw [Nat.zero_add]; exact hall j hj, hfin] at hX
    cases hX
    exact hQ a w hR
  intro f
  induction f with
  | zero =>
    intro listed a w X hs hu hc hX hR
    have hr : Region.ready .any opsA listed = [] := by
      cases hq : Region.ready .any opsA listed with
      | nil => rfl
      | cons i l =>
        have hi : i ∈ Region.ready .any opsA listed := by rw [hq]; simp
        have := (mem_ready.1 hi).1
        rw [unl_zero (by omega) i] at this; exact nomatch this
    exact ⟨hr, done listed a w X hs hX hR hr⟩
  | succ f ih =>
    intro listed a w X hs hu hc hX hR
    refine ⟨done listed a w X hs hX hR, fun i hi => ?_⟩
    obtain ⟨hun, o, ho, hedge⟩ := mem_ready.1 hi
    have hil : i < opsA.size := (Array.getElem?_eq_some_iff.1 ho).1
    have ho' : opsA.toList[i]? = some o := by rwa [Array.getElem?_toList]
    have hpi : lp listed i = false := by unfold lp; rw [← getD_both' (by omega)]; exact hun
    obtain ⟨r, hr⟩ : ∃ r, rs[i]? = some r := ⟨_, List.getElem?_eq_getElem (by rw [F.len]; exact hil)⟩
    obtain ⟨hdst, hok, x, t, hx, hw, hgen⟩ := F.good i o r ho' hr
    have hanc : ∀ j, (masks.getD i 0).testBit j = true → lp listed j = true := hm.closed hc i i o (Nat.le_refl _) ho' fun e he hb => hedge e (by simpa using he) hb
    have hopr : ∀ (j : Nat) (b : DR), rs[j]? = some b → ∃ oj, opsA.toList[j]? = some oj ∧ b.dst = oj.dst ∧ okW E oj.op b.c = true := fun j b hb => by
      have hj : j < opsA.toList.length := by have := (List.getElem?_eq_some_iff.1 hb).1; rw [F.len] at this; simpa using this
      obtain ⟨g1, g2, _⟩ := F.good j _ b (List.getElem?_eq_getElem hj) hb
      exact ⟨_, List.getElem?_eq_getElem hj, g1, g2⟩
    have hback : ∀ (j : Nat), lp listed j = true → (masks.getD j 0).testBit i = false := fun j hj => by
      cases hq : (masks.getD j 0).testBit i with
      | false => rfl
      | true =>
        cases hoj : opsA.toList[j]? with
        | none =>
          have : lp listed j = false := by
            unfold lp
            rw [Array.getD_eq_getD_getElem?, Array.getElem?_eq_none]; rfl
            rw [hs]; have := List.getElem?_eq_none_iff.1 hoj; simpa using this
          rw [this] at hj; exact nomatch hj
        | some oj =>
          have := hm.closed hc j j oj (Nat.le_refl _) hoj (fun e he hb => hc j oj hoj hj e he hb) i hq
          rw [hpi] at this; exact nomatch this
    have hcomm1 : ∀ (j : Nat) (b : DR), j < i → rs[j]? = some b → (masks.getD i 0).testBit j = false → commB b r = true := fun j b hj hb hnot => by
      have := pairsB_spec hp j i b r hj hb hr
      simp only [Nat.zero_add] at this
      exact this.resolve_left (by rw [hnot]; simp)
    have hcomm2 : ∀ (j : Nat) (b : DR), i < j → rs[j]? = some b → lp listed j = true → commB r b = true := fun j b hj hb hl => by
      have := pairsB_spec hp i j r b hj hr hb
      simp only [Nat.zero_add] at this
      exact this.resolve_left (by rw [hback j hl]; simp)
    have hmine : ∀ (j j' : Nat) (b b' : DR) k, j ≠ j' → rs[j]? = some b → rs[j']? = some b' → b.mine k → ¬ b'.mine k := fun j j' b b' k hne h1 h2 m1 m2 => by
      rcases Nat.lt_or_gt_of_ne hne with h | h
      · have := F.ord j j' b b' h h1 h2; have := m1.2; have := m2.1; omega
      · have := F.ord j' j b' b h h2 h1; have := m2.2; have := m1.1; omega
    have hdd : ∀ (j j' : Nat) (b b' : DR) t, j ≠ j' → rs[j]? = some b → rs[j']? = some b' → b.dst = some t → b'.dst ≠ some t := fun j j' b b' t hne h1 h2 hb hb' => by
      obtain ⟨oj, q1, q2, _⟩ := hopr j b h1
      obtain ⟨oj', q1', q2', _⟩ := hopr j' b' h2
      exact dstsOf_inj (nodupB_spec hnd) hne q1 q1' (q2 ▸ hb) (q2' ▸ hb')
    have hfree : ∀ (b : DR) (j k : Nat), rs[j]? = some b → b.mine k → look h0 k = none := fun b j k hb hk => hfr k (by have := (F.lo j b hb).1; have := hk.1; omega)
    have hx' : replay (Nat.testBit (masks.getD i 0)) 0 rs (restr (banT masks i 0 opsA.toList) s0 (tempsOf o.op.operands.toList), h0) = some x := by
      have hsp := List.take_append_drop i rs
      rw [← hsp, replay_append, hx, Option.bind_some]
      refine replay_none _ _ _ fun j hj => ?_
      have hti : (rs.take i).length = i := by rw [List.length_take, F.len]; omega
      rw [hti, Nat.zero_add]
      cases hq : (masks.getD i 0).testBit (i + j) with
      | false => rfl
      | true => have := hm.lt ho' hq; omega
    have hpair : ∀ (j : Nat) (b : DR), rs[j]? = some b → lp listed j = true → (masks.getD i 0).testBit j = false → idleB r = false → b.c.kil.2 = [] ∧ hitH r.see b.c.upd = false := fun j b hb h1 h2 hi => by
      have idle : idleB b = true → b.c.kil.2 = [] ∧ hitH r.see b.c.upd = false := fun h => by
        obtain ⟨_, g1, g2, _⟩ := idleB_spec h
        exact ⟨g1, by rw [g2]; rfl⟩
      rcases Nat.lt_trichotomy j i with h | h | h
      · rcases commB_cases (hcomm1 j b h hb h2) with ⟨q, _⟩ | ⟨q, _⟩ | ⟨_, _, q⟩
        · exact idle q
        · rw [hi] at q; exact nomatch q
        · exact ⟨(commO_spec q).1, (commO_see q).1⟩
      · subst h; rw [hpi] at h1; exact nomatch h1
      · rcases commB_cases (hcomm2 j b h hb h1) with ⟨q, _⟩ | ⟨q, _⟩ | ⟨_, _, q⟩
        · rw [hi] at q; exact nomatch q
        · exact idle q
        · exact ⟨(commO_spec q).2.1, (commO_see q).2⟩
    have hfirm : ∀ (j : Nat) (b : DR), rs[j]? = some b → lp listed j = true → (masks.getD i 0).testBit j = false → idleB r = true → r.c.v.sweep b.c.kil = r.c.v := fun j b hb h1 h2 hi => by
      rcases Nat.lt_trichotomy j i with h | h | h
      · rcases commB_cases (hcomm1 j b h hb h2) with ⟨q, _⟩ | ⟨_, q⟩ | ⟨_, q, _⟩
        · exact firm_nil (idleB_spec q).2.1
        · exact q
        · rw [hi] at q; exact nomatch q
      · subst h; rw [hpi] at h1; exact nomatch h1
      · rcases commB_cases (hcomm2 j b h hb h1) with ⟨_, q⟩ | ⟨q, _⟩ | ⟨q, _, _⟩
        · exact q
        · exact firm_nil (idleB_spec q).2.1
        · rw [hi] at q; exact nomatch q
    have hg0 : idleB r = false → ∀ (j : Nat) (b : DR), rs[j]? = some b → lp listed (0 + j) = true → (masks.getD i 0).testBit (0 + j) = false → b.c.kil.2 = [] := fun hi j b hb h1 h2 => by
      rw [Nat.zero_add] at h1 h2
      exact (hpair j b hb h1 h2 hi).1
    have hes : idleB r = false → Ext x.1 X.1 := fun hi => replay_ext rs 0 _ _ x X hanc hx' hX (fun t v hv => by
        exact (look_restr hv).2)
      (fun t v hv j b hb hj _ hdt => by
        obtain ⟨oj, q1, q2, _⟩ := hopr j b hb
        rw [Nat.zero_add] at hj
        exact (look_restr hv).1 (banT_mem q1 (q2 ▸ hdt) (by rw [Nat.zero_add]; exact hback j hj))) hdd (hg0 hi)
    have hes0 : idleB r = true → Blank E x r o → Ext (restr [] x.1 (tempsOf o.op.operands.toList)) X.1 := fun hi hbl t u hu => by
      obtain ⟨hxt, rfl⟩ := hbl.2 t u hu
      refine replay_firm rs 0 _ _ x X hanc hx' hX hxt (fun j b hb h1 h2 => ⟨fun hdt => ?_, hfirm j b hb (by rwa [Nat.zero_add] at h1) (by rwa [Nat.zero_add] at h2) hi⟩) (fun u hu => ⟨[], (look_restr hu).2, by simp⟩)
      rw [Nat.zero_add] at h1 h2
      rcases replay_origin rs 0 _ x hx' hxt with ⟨u0, hu0⟩ | ⟨j', b', g1, g2, g3⟩
      · obtain ⟨oj, q1, q2, _⟩ := hopr j b hb
        exact (look_restr hu0).1 (banT_mem q1 (q2 ▸ hdt) (by rw [Nat.zero_add]; exact hback j h1))
      · rw [Nat.zero_add] at g2
        have hne : j ≠ j' := fun e => by subst e; rw [h2] at g2; exact nomatch g2
        exact hdd j j' b b' t hne hb g1 hdt g3
    have heh : idleB r = false → r.see = seeB E masks i opsA.toList x o → Ext (viewB E masks i opsA.toList x o) X.2 := fun hidle hsee => by
      cases hb : blindB E masks i 0 opsA.toList with
      | true =>
        unfold viewB
        rw [hb, cond_true, ← hsee]
        intro k B hB
        obtain ⟨m1, m2⟩ := look_restrH hB
        refine replay_extH (S := fun k => mem k r.see = true) rs 0 _ _ x X hanc hx' hX (fun _ _ _ h => h) (fun j b k hb hk => hfree b j k hb hk) (fun j j' b b' k => hmine j j' b b' k) (fun j b hjb h1 h2 => ?_) k B m1 m2
        rw [Nat.zero_add] at h1 h2
        have hc := hpair j b hjb h1 h2 hidle
        exact ⟨hc.1, hitH_none hc.2⟩
      | false =>
        unfold viewB
        rw [hb, cond_false]
        intro k B hB
        refine replay_extH (S := fun _ => True) rs 0 _ _ x X hanc hx' hX (fun _ _ _ h => h) (fun j b k hb hk => hfree b j k hb hk) (fun j j' b b' k => hmine j j' b b' k) (fun j b hjb h1 h2 => ?_) k B trivial hB
        rw [Nat.zero_add] at h1 h2
        obtain ⟨oj, q1, q2, q3⟩ := hopr j b hjb
        have hq : b.c.kil.2 = [] ∧ b.c.upd = [] := by
          refine okW_or q3 ?_
          cases hwr : isWriter E oj.op with
          | false => rfl
          | true =>
            have := blindB_spec hb j oj q1 hwr
            rw [Nat.zero_add] at this
            simp only [ordB, Bool.or_eq_true] at this
            rcases this with h | h | h
            · have := Nat.eq_of_beq_eq_true h; subst this; rw [hpi] at h1; exact nomatch h1
            · rw [h2] at h; exact nomatch h
            · rw [hback j h1] at h; exact nomatch h
        exact ⟨hq.1, fun _ _ => by rw [hq.2]; rfl⟩
    have hrange : ∀ k, k < r.c.news.length → look X.2 (r.n0 + k) = none := fun k hk => by
      cases hq : look X.2 (r.n0 + k) with
      | none => rfl
      | some B =>
        have hmk : r.mine (r.n0 + k) := ⟨by omega, by omega⟩
        rcases replay_dom rs 0 _ X hX _ B hq with ⟨B', hB'⟩ | ⟨j, b, g1, g2, g3⟩
        · have := hfree r i _ hr hmk; rw [this] at hB'; exact nomatch hB'
        · rw [Nat.zero_add] at g2
          have hne : j ≠ i := fun e => by subst e; rw [hpi] at g2; exact nomatch g2
          exact (hmine j i b r _ hne g1 hr g3 hmk).elim
    obtain ⟨X', happ⟩ : ∃ X', r.app X = some X' := by
      cases hg : r.c.kil.2 with
      | nil => exact ⟨_, app_plain hg X⟩
      | cons b0 T =>
        have hidle : idleB r = false := by
          cases hq : idleB r with
          | false => rfl
          | true => have := (idleB_spec hq).2.1; rw [hg] at this; exact nomatch this
        have hsp : rs = rs.take i ++ r :: rs.drop (i + 1) := by
          have hlen : i < rs.length := by rw [F.len]; exact hil
          conv => lhs; rw [← List.take_append_drop i rs]
          rw [List.drop_eq_getElem_cons hlen, (List.getElem?_eq_some_iff.1 hr).2]
        have hti : (rs.take i).length = i := by rw [List.length_take, F.len]; omega
        have hdiff : ∀ (j : Nat) (b : DR), rs[j]? = some b → lp listed (0 + j) ≠ (fun j => decide (j < i)) (0 + j) → idleB b = true := fun j b hb hne => by
          rw [Nat.zero_add] at hne
          rcases Nat.lt_trichotomy j i with h | h | h
          · simp only [h, decide_true] at hne
            have hno : (masks.getD i 0).testBit j = false := by
              cases hq : (masks.getD i 0).testBit j with
              | false => rfl
              | true => exact absurd (hanc j hq) hne
            rcases commB_cases (hcomm1 j b h hb hno) with ⟨q, _⟩ | ⟨q, _⟩ | ⟨_, _, q⟩
            · exact q
            · rw [hidle] at q; exact nomatch q
            · have := (commO_spec q).2.1; rw [hg] at this; exact nomatch this
          · subst h; rw [hpi] at hne; simp at hne
          · have hl : lp listed j = true := by
              cases hq : lp listed j with
              | true => rfl
              | false => rw [hq] at hne; simp at hne; omega
            rcases commB_cases (hcomm2 j b h hb hl) with ⟨q, _⟩ | ⟨q, _⟩ | ⟨_, _, q⟩
            · rw [hidle] at q; exact nomatch q
            · exact q
            · have := (commO_spec q).1; rw [hg] at this; exact nomatch this
        obtain ⟨X0, hX0, hh⟩ := replay_heap (p' := fun j => decide (j < i)) rs 0 (s0, h0) (s0, h0) X hdiff rfl hX
        have hXp : replay (fun _ => true) 0 (rs.take i) (s0, h0) = some X0 := by
          rw [hsp, replay_append, hti, Nat.zero_add] at hX0
          rw [replay_congr (q := fun j => decide (j < i)) _ _ _ fun j hj => by rw [hti] at hj; rw [Nat.zero_add]; exact (decide_eq_true hj).symm]
          rw [Option.bind_eq_some_iff] at hX0
          obtain ⟨y, hy, hX0⟩ := hX0
          rw [replay_none _ _ _ fun j _ => decide_eq_false (by omega)] at hX0
          cases hX0; exact hy
        rw [hsp, replay_append, hXp] at hfin
        simp only [Option.bind_some, replay, cond_true, Option.bind_eq_some_iff] at hfin
        obtain ⟨y, hy, _⟩ := hfin
        obtain ⟨y', hy', _⟩ := app_heap2 hh.symm hy
        exact ⟨y', hy'⟩
    have hpi' : lp (listed.setIfInBounds i true) i = true := by
      unfold lp; simp [Array.getD_eq_getD_getElem?, Array.getElem?_setIfInBounds, hs, hil]
    have hpp : ∀ j, j ≠ i → lp (listed.setIfInBounds i true) j = lp listed j := fun j hj => getD_set_ne false (fun e => hj e.symm)
    obtain ⟨X'', hX'', hsame⟩ := replay_insert hr hpi hpi' hpp (fun j b hj hb hl => ⟨hcomm2 j b hj hb hl, fun t h1 => hdd i j r b t (by omega) hr hb h1, fun k h1 => hmine i j r b k (by omega) hr hb h1⟩) hX happ
    have hcl' : Closed opsA (listed.setIfInBounds i true) := fun j oj hoj hl e he hb => by
      by_cases hji : j = i
      · subst hji
        rw [ho'] at hoj; cases hoj
        exact getD_set_true (hedge e (by simpa using he) hb)
      · rw [hpp j hji] at hl
        exact getD_set_true (hc j oj hoj hl e he hb)
    have hu' : unl (listed.setIfInBounds i true) ≤ f := by have := unl_set hun; omega
    have next : ∀ (H' : Heap) (pl pl' : Pl) (u : Value) (w' : World), after X.2 r.n0 r.c = some H' → Rel w0 fp0 ⟨X.1, X.2, nidE, n, gh⟩ pl a w → pl.base = bs → StepTo X.2 H' r.c.kil pl pl' w w' → SVRep w' H' pl' r.c.v u →
        (∀ i B, look r.c.upd i = some B → ∃ B', look X.2 i = some B') → wpAny E.P .any opsA Q f (listed.setIfInBounds i true) (a.put o.dst u) w' := fun H' pl pl' u w' hafter hR hb hst hv hup => by
      have h1 := Rel.app hR happ hup (fun t ht => ltAll_spec hlt t (dstsOf_mem ho' (hdst ▸ ht))) (fun k j hj => Nat.lt_of_lt_of_le (hgh k j hj) (F.lo i r hr).1) (F.lo i r hr).2 hafter hst hv
      rw [hdst] at h1
      have h2 := h1.congr (s' := X''.1) (H' := X''.2) (fun t v hv => (hsame.1 t).trans hv) (fun k => (hsame.2 k).symm)
      exact ih _ _ _ X'' (by simp [hs]) hu' hcl' hX'' ⟨pl', h2, hst.bs.trans hb, rfl⟩
    obtain ⟨pl, hR, hbase, _⟩ := hR
    have hwanted : Region.wanted o (yielded opsA a.tmps) = t := by
      unfold Wanted at hw
      unfold Region.wanted
      split at hw
      · rename_i hg; rw [hg]; exact hw.symm
      · rename_i g want hg
        obtain ⟨q1, rg, tg, q2, q3, q4⟩ := hw
        rw [hg]
        simp only
        obtain ⟨og, p1, p2, _⟩ := hopr g rg q2
        have hlen : g < rs.length := (List.getElem?_eq_some_iff.1 q2).1
        have hsp : rs = rs.take g ++ rg :: rs.drop (g + 1) := by
          conv => lhs; rw [← List.take_append_drop g rs]
          rw [List.drop_eq_getElem_cons hlen, (List.getElem?_eq_some_iff.1 q2).2]
        have hti : (rs.take g).length = g := by rw [List.length_take]; omega
        have hslot : ∀ v, rg.c.v = v → (∀ T, v.sweep T = v) → look X.1 tg = some v := fun v q4 hsw => by
          have hX2 := hX
          rw [hsp, replay_append, hti, Nat.zero_add, Option.bind_eq_some_iff] at hX2
          obtain ⟨y, hy, hX2⟩ := hX2
          simp only [replay, hanc g q1, cond_true, Option.bind_eq_some_iff] at hX2
          obtain ⟨y', hy', hX2⟩ := hX2
          refine replay_slot hsw _ _ y' X hX2 (fun j b' hb' => ?_) (by rw [app_slots hy', look_putD, if_pos q3, q4])
          rw [List.getElem?_drop] at hb'
          exact hdd g (g + 1 + j) rg b' tg (by omega) q2 hb' q3
        rcases q4 with ⟨b, q4, q5⟩ | ⟨q4, q5⟩
        rotate_left
        · have hval := hR.sl tg _ (hslot _ q4 fun T => by simp [SV.sweep, sweepL])
          have hog : opsA[g]? = some og := by rwa [Array.getElem?_toList] at p1
          have hval : ∃ vs, a.tmps.getD tg undef = .tuple vs := by
            generalize a.tmps.getD tg undef = u at hval
            cases hval with
            | tup _ vs => exact ⟨vs, rfl⟩
          obtain ⟨vs, hval⟩ := hval
          rw [p2] at q3
          have hy : yielded opsA a.tmps g = none := by
            rw [Array.getD_eq_getD_getElem?] at hval
            cases hq : a.tmps[tg]? with
            | none => simp [yielded, hog, q3, hq]
            | some x => rw [hq] at hval; simp [yielded, hog, q3, hq, show x = .tuple vs from hval]
          rw [hy, q5]
          rfl
        have hval := hR.sl tg _ (hslot _ q4 fun T => by simp [SV.sweep, hit])
        have hval : a.tmps.getD tg undef = .bool b := by
          generalize a.tmps.getD tg undef = u at hval
          cases hval with
          | r _ _ _ hx => cases hx; rfl
        have hog : opsA[g]? = some og := by rwa [Array.getElem?_toList] at p1
        have hgd : a.tmps[tg]? = some (.bool b) := by
          rw [Array.getD_eq_getD_getElem?] at hval
          cases hq : a.tmps[tg]? with
          | none => rw [hq] at hval; exact nomatch hval
          | some x => rw [hq] at hval; exact congrArg some hval
        rw [p2] at q3
        have hy : yielded opsA a.tmps g = some b := by simp [yielded, hog, q3, hgd]
        rw [hy, q5]
        cases b <;> cases want <;> rfl
    unfold wpOp
    rw [ho]
    simp only [hwanted]
    rcases hgen with ⟨rfl, hsee, hg, hbl⟩ | ⟨rfl, hcu⟩
    · rw [if_pos rfl]
      obtain ⟨hup, hsem⟩ : (∀ i B, look r.c.upd i = some B → ∃ B', look X.2 i = some B') ∧ _ := by
        cases hidle : idleB r with
        | false => exact hg X.1 X.2 a w pl (hes hidle) (heh hidle hsee) hR.hr hR.sl hrange
        | true =>
          have hb := hbl (idleB_spec hidle).1
          exact hb.1 X.1 X.2 a w pl (hes0 hidle hb) (fun i B hB => nomatch hB) hR.hr hR.sl hrange
      obtain ⟨H', hafter⟩ := after_of_app happ hup
      exact .inl (hsem H' _ Q hafter fun u pl' w' hst hv => next H' pl pl' u w' hafter hR hbase hst hv hup)
    · rw [if_neg (by simp)]
      have hafter : after X.2 r.n0 r.c = some X.2 := by
        rw [hcu]
        simp only [after, upds, newsH, List.append_nil, CR.kil, sweepH', Option.bind_some]
      refine next X.2 pl pl undef w hafter hR hbase ?_ ?_ ?_
      · rw [hcu]; exact StepTo.refl hR.hr
      · rw [hcu]; exact .tup [] #[] rfl fun j x v hx _ => by simp at hx
      · rw [hcu]; exact fun i B hB => by simp [look] at hB
theorem Rl.drew {n : Nat} {st : St} {a : Act} {w : World} (h : Rl w0 fp0 bs n st a w) : Rl w0 fp0 bs n st a { w with drawn := w.drawn + 1 } := by
  obtain ⟨pl, h, hb, hn⟩ := h
  have hk : Keeps ([], []) w st.heap pl { w with drawn := w.drawn + 1 } st.heap pl := ⟨fun i B hB _ => ⟨B, hB, B.like_refl, rfl⟩, fun d p u _ h hp => ⟨h, hp⟩⟩
  exact ⟨pl, ⟨⟨fun i B hB => (h.hr.blk i B hB).keep hk rfl (fun _ => Iff.rfl) (fun p u _ hu => ⟨hu, rfl⟩) B.sweep_nil, h.hr.dis, h.hr.ob, h.hr.nb⟩,
    fun t v hv => (h.sl t v hv).keep0 hk, h.sz, h.df, h.fresh, h.gr.trans (Grown.drew w), fun p u hp hno => h.fr p u hp hno, h.gk⟩, hb, hn⟩
theorem Rl.less {n : Nat} {st : St} {s' : List (Nat × SV)} {a : Act} {w : World} (h : Rl w0 fp0 bs n st a w) (hs : ∀ t v, look s' t = some v → look st.slots t = some v) : Rl w0 fp0 bs n ⟨s', st.heap, st.nid, st.n, st.gh⟩ a w := by
  obtain ⟨pl, h, hb, hn⟩ := h
  exact ⟨pl, h.congr hs fun _ => rfl, hb, hn⟩
theorem Rl.nidle {n nid nid' m : Nat} {s : List (Nat × SV)} {H : Heap} {a : Act} {w : World} (h : Rl w0 fp0 bs n ⟨s, H, nid, m, gh⟩ a w) (hn : nid ≤ nid') : Rl w0 fp0 bs n ⟨s, H, nid', m, gh⟩ a w := by
  obtain ⟨pl, h, hb, hn'⟩ := h
  exact ⟨pl, ⟨h.hr, h.sl, h.sz, h.df, fun i hi => h.fresh i (Nat.le_trans hn hi), h.gr, h.fr, fun k i hi => ⟨Nat.lt_of_lt_of_le (h.gk k i hi).1 hn, (h.gk k i hi).2⟩⟩, hb, hn'⟩
/-- The theorem. -/
theorem drawn_sound {ρ : Type} (hE : EnvOk E) {id n : Nat} {st : St} {a : Act} {w : World} {K : St → Option ρ} {out : ρ} (hR : Rl w0 fp0 bs n st a w) (h : evDrawn E opsA.toList st K = some out)
    (hK : ∀ st' a' w', K st' = some out → Rl w0 fp0 bs n st' a' w' → Q .normal a' w') : (Code.region id opsA true).wp E.P Q a w := by
  unfold evDrawn at h
  cases hmo : E.P.follows .mixedOrders <;> simp only [hmo, cond_true, cond_false] at h
  · exact nomatch h
  rw [Option.bind_eq_some_iff] at h
  obtain ⟨masks, hmasks, h⟩ := h
  cases hnd : nodupB (dstsOf opsA.toList) <;> simp only [hnd, cond_true, cond_false] at h
  · exact nomatch h
  cases hlt : ltAll st.n (dstsOf opsA.toList) <;> simp only [hlt, cond_true, cond_false] at h
  · exact nomatch h
  obtain ⟨rs, nidE, h, hnid, F⟩ := evDraw_facts (nid0 := st.nid) hE opsA.toList 0 st.nid [] _ h ⟨rfl, fun i o r _ hr => by simp at hr, fun i r hr => by simp at hr, fun i j a b _ ha => by simp at ha⟩ (Nat.le_refl _) (by simp)
  cases hp : pairsB masks 0 rs <;> simp only [hp, cond_true, cond_false] at h
  · exact nomatch h
  rw [Option.bind_eq_some_iff] at h
  obtain ⟨XF, hXF, h⟩ := h
  rw [Nat.zero_add, show opsA.toList.length = opsA.size from by simp] at F
  have hn := hR
  obtain ⟨pl, hR0, _, hnn⟩ := hn
  refine wp_region_any hmo (draw_any (XF := XF) (n := n) (nidE := nidE) (w0 := w0) (fp0 := fp0) (bs := bs) (masks_of hmasks) F hp hnd (by rw [← hnn]; exact hlt) hXF hR0.fresh (fun k i hi => (hR0.gk k i hi).1) (fun a' w' hR' => hK _ a' w' h (by rw [hnn]; exact hR')) opsA.size _ a _
    (st.slots, st.heap) (by simp) (by unfold unl; exact Nat.le_trans List.countP_le_length (by simp)) (fun j o _ hl => ?_) (replay_none _ _ _ fun j _ => ?_) ?_)
  · have : lp (Array.replicate opsA.size false) j = false := by
      unfold lp; rw [Array.getD_eq_getD_getElem?, Array.getElem?_replicate]; split <;> rfl
    rw [this] at hl; exact nomatch hl
  · show lp _ _ = false
    unfold lp; rw [Array.getD_eq_getD_getElem?, Array.getElem?_replicate]; split <;> rfl
  · have := (hR.nidle hnid).drew
    rw [hnn] at this
    exact this
end
end Go.Proofs.Ev

set_option linter.unusedVariables false
set_option linter.unusedSimpArgs false
namespace Go.Proofs.Ev
variable [Tok]
set_option linter.unusedSectionVars false
section
variable {w : World} {H : Heap} {pl : Pl} {i : Nat} {t : Ty}
theorem look_frzH {h : Heap} : ∀ (l : Heap) (k : Nat), look (frzH i t h l) k = if k = i then none else (look l k).map (Blk.frz i t h)
  | [], k => by simp [frzH, look]
  | (k0, b) :: l, k => by
    have ih := look_frzH (h := h) l k
    simp only [frzH]
    cases hk : Nat.beq k0 i
    · have hk : ¬ k0 = i := fun e => by subst e; simp at hk
      simp only [cond_false]
      rw [look_cons, look_cons, ih]
      by_cases c : k0 = k
      · subst c; rw [if_pos rfl, if_pos rfl, if_neg hk]; rfl
      · rw [if_neg c, if_neg c]
    · have hk := Nat.eq_of_beq_eq_true hk
      simp only [cond_true]
      rw [look_cons, ih]
      by_cases c : k = i
      · rw [if_pos c, if_pos c]
      · rw [if_neg c, if_neg c, if_neg (fun e => c (by rw [← e, hk]))]
theorem look_frzSl {h : Heap} : ∀ (l : List (Nat × SV)) (k : Nat), look (frzSl i t h l) k = (look l k).map (SV.frz i t h)
  | [], k => by simp [frzSl, look]
  | (k0, b) :: l, k => by
    simp only [frzSl]
    rw [look_cons, look_cons, look_frzSl l k]
    by_cases c : k0 = k
    · rw [if_pos c, if_pos c]; rfl
    · rw [if_neg c, if_neg c]
theorem mem_remD {k : Nat} (hk : k ≠ i) : ∀ (d : List Nat), mem k (remD i d) = mem k d
  | [] => rfl
  | x :: l => by
    have ih := mem_remD hk l
    simp only [remD]
    cases hx : Nat.beq x i
    · simp only [cond_false, mem, ih]
    · have hx := Nat.eq_of_beq_eq_true hx
      simp only [cond_true, mem, ih]
      have : Nat.beq x k = false := by
        cases h : Nat.beq x k
        · rfl
        · exact (hk (by rw [← Nat.eq_of_beq_eq_true h, hx])).elim
      rw [this]; rfl
theorem frz_isBox (B : Blk) (h : Heap) : (B.frz i t h).isBox = B.isBox := by
  cases B with
  | box cs => rfl
  | arr sh t' xs => cases sh <;> rfl
theorem frz_like (B : Blk) (h : Heap) : B.like (B.frz i t h) := by
  have hl : ∀ cs : List SV, (frzL i t h cs).length = cs.length := fun cs => by
    induction cs with
    | nil => rfl
    | cons v l ih => simp [frzL, ih]
  cases B with
  | box cs => exact (hl cs).symm
  | arr sh t' xs => cases sh <;> exact ⟨rfl, rfl⟩
theorem frz_back {h : Heap} {k : Nat} {B' : Blk} (e : look (frzH i t h H) k = some B') : k ≠ i ∧ ∃ B, look H k = some B ∧ B' = B.frz i t h := by
  rw [look_frzH] at e
  by_cases c : k = i
  · rw [if_pos c] at e; exact nomatch e
  · rw [if_neg c] at e
    obtain ⟨B, h1, h2⟩ := Option.map_eq_some_iff.1 e
    exact ⟨c, B, h1, h2.symm⟩
theorem frz_fwd {h : Heap} {k : Nat} {B : Blk} (c : k ≠ i) (e : look H k = some B) : look (frzH i t h H) k = some (B.frz i t h) := by
  rw [look_frzH, if_neg c, e]; rfl
theorem okd_frz {h : Heap} {d : List Nat} {p : Cell} (e : okd H pl d p) : okd (frzH i t h H) pl (remD i d) p :=
  ⟨e.1, fun k B' hB' hb => by
    obtain ⟨c, B, h1, rfl⟩ := frz_back hB'
    exact e.2 k B h1 fun hm => by
      have := hb (by rw [mem_remD c]; exact hm)
      rwa [frz_isBox] at this⟩
theorem frzL_get (h : Heap) : ∀ (cs : List SV) (j : Nat), (frzL i t h cs)[j]? = (cs[j]?).map (SV.frz i t h)
  | [], j => by simp [frzL]
  | v :: l, 0 => by simp [frzL]
  | v :: l, j + 1 => by simp [frzL, frzL_get h l j]
theorem frzL_len (h : Heap) : ∀ cs : List SV, (frzL i t h cs).length = cs.length
  | [] => rfl
  | v :: l => by simp [frzL, frzL_len h l]
theorem beq_ne {j i : Nat} (h : Nat.beq j i = false) : j ≠ i := fun e => by subst e; simp at h
mutual
theorem sv_frz (hr : HRel H pl w) : (v : SV) → {u : Value} → SVRep w H pl v u → SVRep w (frzH i t H H) pl (v.frz i t H) u
  | .r d x, u, h => by
    cases h with
    | r _ _ _ hx => exact .r _ _ _ (hx.frame fun p u hp hu => ⟨okd_frz hp, hu⟩)
  | .own j, u, h => by
    simp only [SV.frz]
    cases hj : Nat.beq j i
    · simp only [cond_false]
      cases h with
      | own _ sh t' xs hl =>
        have := frz_fwd (t := t) (h := H) (beq_ne hj) hl
        cases sh with
        | none => exact .own j none t' xs this
        | some d => exact .own j _ t' xs this
    · simp only [cond_true]
      unfold frzOwn
      split
      · rename_i p hp
        exact .r _ _ _ ((list_repR hr (d := p.1) (xs := p.2) hp h).frame fun p u hp hu => ⟨okd_frz hp, hu⟩)
      · exact .undef _
  | .sub j o n, u, h => by
    simp only [SV.frz]
    cases hj : Nat.beq j i
    · simp only [cond_false]
      cases h with
      | sub _ _ _ sh t' xs a a' cap cap' hl hh hn hc hc' ha =>
        have := frz_fwd (t := t) (h := H) (beq_ne hj) hl
        cases sh with
        | none => exact .sub j o n none t' xs a a' cap cap' this hh hn hc hc' ha
        | some d => exact .sub j o n _ t' xs a a' cap cap' this hh hn hc hc' ha
    · simp only [cond_true]
      unfold frzOwn
      split
      · rename_i p hp
        exact .r _ _ _ ((list_repR hr (d := p.1) (xs := p.2) hp h).frame fun p u hp hu => ⟨okd_frz hp, hu⟩)
      · exact .undef _
  | .bsl j n, u, h => by
    simp only [SV.frz]
    cases hj : Nat.beq j i
    · simp only [cond_false]
      cases h with
      | bsl _ _ cs a hl hh => exact .bsl j n _ a (frz_fwd (t := t) (h := H) (beq_ne hj) hl) hh
    · exact .undef _
  | .ptr j x o, u, h => by
    simp only [SV.frz]
    cases hj : Nat.beq j i
    · simp only [cond_false]
      cases h with
      | ptrB _ _ cs b k hl hh => exact .ptrB j o _ b k (frz_fwd (t := t) (h := H) (beq_ne hj) hl) hh
      | ptrA _ _ _ sh t' xs b k n cap hl hx hh =>
        have := frz_fwd (t := t) (h := H) (beq_ne hj) hl
        cases sh with
        | none => exact .ptrA j x o none t' xs b k n cap this hx hh
        | some d => exact .ptrA j x o _ t' xs b k n cap this hx hh
    · exact .undef _
  | .inn j x c, u, h => by
    simp only [SV.frz]
    cases hj : Nat.beq j i
    · simp only [cond_false]
      cases h with
      | inn _ _ _ sh t' xs b k n cap _ hl hx hc hh hok hv h1 =>
        have := frz_fwd (t := t) (h := H) (beq_ne hj) hl
        have hok' : okd (frzH i t H H) pl [j] (b, k + (x * t'.sz + c)) := by
          have := okd_frz (i := i) (t := t) (h := H) hok
          simpa only [remD, hj, cond_false] using this
        cases sh with
        | none => exact .inn j x c none t' xs b k n cap u this hx hc hh hok' hv h1
        | some d => exact .inn j x c _ t' xs b k n cap u this hx hc hh hok' hv h1
    · exact .undef _
  | .rptr d cs, u, h => by
    cases h with
    | rptr _ _ b o vs hc hr' => exact .rptr _ _ b o vs (fun j r hj => ⟨okd_frz (hc j r hj).1, (hc j r hj).2⟩) fun j r hj => (hr' j r hj).frame fun p u hp hu => ⟨okd_frz hp, hu⟩
  | .agg cs, u, h => by
    cases h with
    | agg _ vs hl h1 h3 => exact .agg _ _ (by rw [frzL_len, hl]) h1 fun j x v hx hv => svL_frz hr cs vs.toList (fun j x v hx hv => h3 j x v hx (by simpa using hv)) j x v hx (by simpa using hv)
  | .tup cs, u, h => by
    cases h with
    | tup _ vs hl h3 => exact .tup _ _ (by rw [frzL_len, hl]) fun j x v hx hv => svL_frz hr cs vs.toList (fun j x v hx hv => h3 j x v hx (by simpa using hv)) j x v hx (by simpa using hv)
  | .fn f a b, u, h => by
    cases h with
    | fn _ _ _ us vs h1 h3 h1' h3' =>
      exact .fn f _ _ _ _ (by rw [frzL_len, h1]) (fun j x v hx hv => svL_frz hr a us.toList (fun j x v hx hv => h3 j x v hx (by simpa using hv)) j x v hx (by simpa using hv))
        (by rw [frzL_len, h1']) (fun j x v hx hv => svL_frz hr b vs.toList (fun j x v hx hv => h3' j x v hx (by simpa using hv)) j x v hx (by simpa using hv))
  | .nilS, u, h => by cases h; exact .nilS
  | .nilP, u, h => by cases h; exact .nilP
  | .undef, u, h => .undef _
theorem svL_frz (hr : HRel H pl w) : (cs : List SV) → (us : List Value) → (∀ (j : Nat) (x : SV) (v : Value), cs[j]? = some x → us[j]? = some v → SVRep w H pl x v) →
    ∀ (j : Nat) (x : SV) (v : Value), (frzL i t H cs)[j]? = some x → us[j]? = some v → SVRep w (frzH i t H H) pl x v
  | [], us, _, j, x, v, hx, _ => by simp [frzL] at hx
  | c :: cs, [], _, j, x, v, _, hv => by simp at hv
  | c :: cs, u :: us, h, 0, x, v, hx, hv => by
    simp [frzL] at hx hv
    subst hx hv
    exact sv_frz hr c (h 0 c u rfl rfl)
  | c :: cs, u :: us, h, j + 1, x, v, hx, hv => svL_frz hr cs us (fun j x v hx hv => h (j + 1) x v (by simpa using hx) (by simpa using hv)) j x v (by simpa [frzL] using hx) (by simpa using hv)
end
theorem blk_frz (hr : HRel H pl w) {k : Nat} : (B : Blk) → BlkRep w H pl k B → BlkRep w (frzH i t H H) pl k (B.frz i t H)
  | .box cs, ⟨b, o, h1, h2, h3⟩ => by
    refine ⟨b, o, h1, fun p => by rw [frzL_len]; exact h2 p, fun j v hv => ?_⟩
    rw [frzL_get] at hv
    obtain ⟨v0, hv0, rfl⟩ := Option.map_eq_some_iff.1 hv
    obtain ⟨u, g1, g2, g3, g4⟩ := h3 j v0 hv0
    exact ⟨u, g1, g2, g3, sv_frz hr v0 g4⟩
  | .arr none t' xs, h => h
  | .arr (some d) t' xs, ⟨R⟩ => ⟨{ R with hr := fun i j r hc => ⟨(R.hr i j r hc).1.frame fun p u hp hu => ⟨okd_frz hp, hu⟩, (R.hr i j r hc).2⟩ }⟩
theorem hrel_frz (hr : HRel H pl w) : HRel (frzH i t H H) pl w :=
  ⟨fun k B' hB' => by
    obtain ⟨_, B, h1, rfl⟩ := frz_back hB'
    exact blk_frz hr B (hr.blk k B h1),
   fun k j B B' p h1 h2 f1 f2 => by
    obtain ⟨_, B1, g1, _⟩ := frz_back h1
    obtain ⟨_, B2, g2, _⟩ := frz_back h2
    exact hr.dis k j B1 B2 p g1 g2 f1 f2,
   fun k B p h1 hf => by
    obtain ⟨_, B1, g1, _⟩ := frz_back h1
    exact hr.ob k B1 p g1 hf, hr.nb⟩
end
theorem frzS_rl {w0 : World} {fp0 : G0} {bs : Cell → Prop} {n : Nat} {st : St} {a : Act} {w : World} (i : Nat) (h : Rl w0 fp0 bs n st a w) : Rl w0 fp0 bs n (frzS i st) a w := by
  unfold frzS
  split
  · rename_i sh t xs hl
    obtain ⟨pl, hr, hb, hn⟩ := h
    refine ⟨pl, ⟨hrel_frz hr.hr, fun k v hv => ?_, hr.sz, hr.df, fun k hk => ?_, hr.gr, fun p u hp hno => ?_, fun k j hk => ?_⟩, hb, hn⟩
    · have hv : look (frzSl i t st.heap st.slots) k = some v := hv
      rw [look_frzSl] at hv
      obtain ⟨v0, hv0, rfl⟩ := Option.map_eq_some_iff.1 hv
      exact sv_frz hr.hr v0 (hr.sl k v0 hv0)
    · show look (frzH i t st.heap st.heap) k = none
      rw [look_frzH, hr.fresh k hk]
      by_cases c : k = i
      · rw [if_pos c]
      · rw [if_neg c]; rfl
    · obtain ⟨f1, f2, f3⟩ := hr.fr p u hp hno
      exact ⟨fun k B hB => by
        obtain ⟨_, B1, g1, _⟩ := frz_back hB
        exact f1 k B1 g1, f2, f3⟩
    · obtain ⟨t1, t2⟩ := hr.gk k j hk
      refine ⟨t1, fun B hB => ?_⟩
      obtain ⟨_, B1, g1, rfl⟩ := frz_back hB
      obtain ⟨t3, t4⟩ := t2 B1 g1
      exact ⟨t3, Blk.like_trans t4 (frz_like B1 st.heap)⟩
  · exact h
theorem look_shr {H : Heap} {i : Nat} {t : Ty} (hl : look H i = some (.arr none t [])) (k : Nat) : look (put H i (.arr (some []) t [])) k = if k = i then some (.arr (some []) t []) else look H k := by
  rw [look_put]
  by_cases c : i = k
  · rw [if_pos c, if_pos c.symm]
  · rw [if_neg c, if_neg (fun e => c e.symm)]
theorem shr_back {H : Heap} {i : Nat} {t : Ty} (hl : look H i = some (.arr none t [])) {k : Nat} {B' : Blk} (e : look (put H i (.arr (some []) t [])) k = some B') :
    ∃ B, look H k = some B ∧ B.like B' ∧ B'.isBox = B.isBox := by
  rw [look_shr hl] at e
  by_cases c : k = i
  · rw [if_pos c] at e; cases e
    exact ⟨.arr none t [], by rw [c]; exact hl, show Blk.like (.arr none t []) (.arr (some []) t []) from ⟨rfl, rfl⟩, rfl⟩
  · rw [if_neg c] at e
    exact ⟨B', e, B'.like_refl, rfl⟩
theorem shr_keeps {w : World} {H : Heap} {pl : Pl} {i : Nat} {t : Ty} (hl : look H i = some (.arr none t [])) : Keeps ([], []) w H pl w (put H i (.arr (some []) t [])) pl :=
  ⟨fun k B hB _ => by
    by_cases c : k = i
    · subst c
      rw [hl] at hB; cases hB
      exact ⟨.arr (some []) t [], by rw [look_shr hl, if_pos rfl], show Blk.like (.arr none t []) (.arr (some []) t []) from ⟨rfl, rfl⟩, rfl⟩
    · exact ⟨B, by rw [look_shr hl, if_neg c]; exact hB, B.like_refl, rfl⟩,
   fun d p u _ hp hu => ⟨⟨hp.1, fun k B' hB' hb => by
    obtain ⟨B, h1, _, h3⟩ := shr_back hl hB'
    exact hp.2 k B h1 fun hm => by rw [← h3]; exact hb hm⟩, hu⟩⟩
theorem shrS_rl {w0 : World} {fp0 : G0} {bs : Cell → Prop} {n : Nat} {st : St} {a : Act} {w : World} (i : Nat) (h : Rl w0 fp0 bs n st a w) : Rl w0 fp0 bs n (shrS i st) a w := by
  unfold shrS
  split
  · rename_i t hl
    obtain ⟨pl, hr, hb, hn⟩ := h
    refine ⟨pl, ⟨⟨fun k B' hB' => ?_, fun k j B B' p h1 h2 f1 f2 => ?_, fun k B p h1 hf => ?_, hr.hr.nb⟩, fun k v hv => ?_, hr.sz, hr.df, fun k hk => ?_, hr.gr, fun p u hp hno => ?_, fun k j hk => ?_⟩, hb, hn⟩
    · have hB' : look (put st.heap i (.arr (some []) t [])) k = some B' := hB'
      rw [look_shr hl] at hB'
      by_cases c : k = i
      · rw [if_pos c] at hB'; cases hB'
        subst c
        obtain ⟨R⟩ := hr.hr.blk k _ hl
        exact ⟨{ R with hr := fun i j r ⟨x, hx, _⟩ => by simp at hx }⟩
      · rw [if_neg c] at hB'
        exact (hr.hr.blk k _ hB').keep (shr_keeps hl) rfl (fun _ => Iff.rfl) (fun p u _ hu => ⟨hu, rfl⟩) B'.sweep_nil
    · obtain ⟨B1, g1, _⟩ := shr_back hl h1
      obtain ⟨B2, g2, _⟩ := shr_back hl h2
      exact hr.hr.dis k j B1 B2 p g1 g2 f1 f2
    · obtain ⟨B1, g1, _⟩ := shr_back hl h1
      exact hr.hr.ob k B1 p g1 hf
    · exact (hr.sl k v hv).keep0 (shr_keeps hl)
    · show look (put st.heap i (.arr (some []) t [])) k = none
      rw [look_shr hl]
      by_cases c : k = i
      · have := hr.fresh k hk
        rw [c, hl] at this; exact nomatch this
      · rw [if_neg c]; exact hr.fresh k hk
    · obtain ⟨f1, f2, f3⟩ := hr.fr p u hp hno
      exact ⟨fun k B hB => by
        obtain ⟨B1, g1, _⟩ := shr_back hl hB
        exact f1 k B1 g1, f2, f3⟩
    · obtain ⟨t1, t2⟩ := hr.gk k j hk
      refine ⟨t1, fun B hB => ?_⟩
      obtain ⟨B1, g1, g2, _⟩ := shr_back hl hB
      obtain ⟨t3, t4⟩ := t2 B1 g1
      exact ⟨t3, Blk.like_trans t4 g2⟩
  · exact h
theorem frzAll_rl {w0 : World} {fp0 : G0} {bs : Cell → Prop} {n : Nat} {a : Act} {w : World} : ∀ (l : List (Bool × Nat × List Nat)) {st : St}, Rl w0 fp0 bs n st a w → Rl w0 fp0 bs n (frzAll l st) a w
  | [], st, h => h
  | x :: l, st, h => by
    refine frzAll_rl l ?_
    unfold frzOne
    split
    · split
      · cases x.1
        · exact frzS_rl _ h
        · exact shrS_rl _ h
      · exact h
    · exact h
end Go.Proofs.Ev

namespace Go.Proofs.Ev
variable [Tok]
set_option linter.unusedSectionVars false
section
variable {ρ : Type} {E : Env} {w0 : World} {fp0 : G0} {bs : Cell → Prop}
theorem Rl.put {n : Nat} {st : St} {a : Act} {w : World} {t : Nat} {v : SV} (h : Rl w0 fp0 bs n st a w) (hv : ∀ pl, SVRep w st.heap pl v (a.tmps.getD t undef)) : Rl w0 fp0 bs n { st with slots := put st.slots t v } a w := by
  obtain ⟨pl, h, hb, hn⟩ := h
  refine ⟨pl, ⟨h.hr, fun t' v' h' => ?_, h.sz, h.df, h.fresh, h.gr, h.fr, h.gk⟩, hb, hn⟩
  rw [look_put] at h'
  by_cases e : t = t'
  · subst e; simp at h'; subst h'; exact hv pl
  · rw [if_neg e] at h'; exact h.sl t' v' h'
theorem evOp_rl (hE : EnvOk E) {n : Nat} {o : Oper} {st : St} {a : Act} {w : World} {K : St → Option ρ} {out : ρ} {next : Act → World → Prop} {Q : Exit → Act → World → Prop}
    (hr : Rl w0 fp0 bs n st a w) (h : evOp E o st K = some out) (hK : ∀ st' a' w', K st' = some out → Rl w0 fp0 bs n st' a' w' → next a' w') : o.wp E.P a w next Q := by
  obtain ⟨pl, hr, hb, hn⟩ := hr
  exact evOp_sound hE hr h fun st' pl' a' w' hk hb' hn' hr' => hK st' a' w' hk ⟨pl', hr', hb'.trans hb, hn'.trans hn⟩
theorem skip_rl {n : Nat} {o : Oper} {st : St} {a : Act} {w : World} {K : St → Option ρ} {out : ρ} {next : Act → World → Prop}
    (hr : Rl w0 fp0 bs n st a w) (h : skipOp o st K = some out) (hK : ∀ st' a' w', K st' = some out → Rl w0 fp0 bs n st' a' w' → next a' w') : next (a.put o.dst undef) w := by
  simp only [skipOp, Option.bind_eq_some_iff] at h
  obtain ⟨s, hs, h⟩ := h
  obtain ⟨pl, hr, hb, hn⟩ := hr
  exact hK _ _ _ h ⟨pl, ⟨hr.hr, Slots.put hr.sl hr.sz hs (.tup [] #[] rfl fun j x v hx _ => by simp at hx), by rw [Act.put_size]; exact hr.sz, by rw [Act.put_df]; exact hr.df, hr.fresh, hr.gr, hr.fr, hr.gk⟩, hb, hn⟩
theorem evOps_list (hE : EnvOk E) {n : Nat} {ops : Array Oper} {Q : Exit → Act → World → Prop} {out : ρ} : ∀ (l : List Oper) (st : St) (a : Act) (w : World) (K : St → Option ρ),
    Rl w0 fp0 bs n st a w → evOps E ops.toList l st K = some out → (∀ st' a' w', K st' = some out → Rl w0 fp0 bs n st' a' w' → Q .normal a' w') → wpList E.P ops Q l a w
  | [], st, a, w, K, hr, h, hK => hK st a w h hr
  | o :: rest, st, a, w, K, hr, h, hK => by
    simp only [evOps] at h
    cases hg : o.guard with
    | none =>
      simp only [hg] at h
      refine wpList_plain hg fun K' hK' => evOp_rl hE hr h fun st' a' w' h' hr' => hK' _ _ (evOps_list hE rest st' a' w' K hr' h' hK)
    | some jw =>
      obtain ⟨j, want⟩ := jw
      simp only [hg, Option.bind_eq_some_iff] at h
      obtain ⟨t, ht, v, hv, h⟩ := h
      split at h
      · have hy : yielded ops a.tmps j = none := by
          simp only [dstOf, Option.bind_eq_some_iff] at ht
          obtain ⟨oj, hoj, hd⟩ := ht
          have hoj' : ops[j]? = some oj := by rwa [Array.getElem?_toList] at hoj
          have hval : ∃ vs, a.tmps.getD t undef = .tuple vs := by
            obtain ⟨pl, hr, _, _⟩ := hr
            have := hr.sl t _ hv
            generalize a.tmps.getD t undef = u at this
            cases this with
            | tup _ vs => exact ⟨vs, rfl⟩
          obtain ⟨vs, hval⟩ := hval
          rw [Array.getD_eq_getD_getElem?] at hval
          cases hq : a.tmps[t]? with
          | none => simp [yielded, hoj', hd, hq]
          | some x => rw [hq] at hval; simp [yielded, hoj', hd, hq, show x = .tuple vs from hval]
        refine wpList_step fun K' hK' => ?_
        simp only [Region.wanted, hg, hy]
        rw [if_neg (by simp)]
        exact skip_rl (next := K') hr h fun st' a' w' h' hr' => hK' _ _ (evOps_list hE rest st' a' w' K hr' h' hK)
      simp only [Option.bind_eq_some_iff] at h
      obtain ⟨b, hb, h⟩ := h
      have hval : a.tmps.getD t undef = .bool b := by
        obtain ⟨pl, hr, _, _⟩ := hr
        exact asB_rep hb (hr.sl t v hv)
      have hy : yielded ops a.tmps j = some b := by
        simp only [dstOf, Option.bind_eq_some_iff] at ht
        obtain ⟨oj, hoj, hd⟩ := ht
        have hoj' : ops[j]? = some oj := by rwa [Array.getElem?_toList] at hoj
        have hg : a.tmps[t]? = some (.bool b) := by
          rw [Array.getD_eq_getD_getElem?] at hval
          cases hq : a.tmps[t]? with
          | none => rw [hq] at hval; exact nomatch hval
          | some x => rw [hq] at hval; exact congrArg some hval
        simp [yielded, hoj', hd, hg]
      refine wpList_step fun K' hK' => ?_
      simp only [Region.wanted, hg, hy]
      have hput : ∀ b', b' = b → Rl w0 fp0 bs n { st with slots := put st.slots t (.b b') } a w := fun b' e => hr.put fun pl => by rw [hval, e]; exact rep_bool
      cases b <;> simp only [cond_true, cond_false] at h
      · have hr' := hput false rfl
        cases want <;> simp only [cond_true, cond_false] at h
        · rw [if_pos (by rfl)]
          exact evOp_rl hE hr' h fun st' a' w' h' hr' => hK' _ _ (evOps_list hE rest st' a' w' K hr' h' hK)
        · rw [if_neg (by simp)]
          exact skip_rl (next := K') hr' h fun st' a' w' h' hr' => hK' _ _ (evOps_list hE rest st' a' w' K hr' h' hK)
      · have hr' := hput true rfl
        cases want <;> simp only [cond_true, cond_false] at h
        · rw [if_neg (by simp)]
          exact skip_rl (next := K') hr' h fun st' a' w' h' hr' => hK' _ _ (evOps_list hE rest st' a' w' K hr' h' hK)
        · rw [if_pos (by rfl)]
          exact evOp_rl hE hr' h fun st' a' w' h' hr' => hK' _ _ (evOps_list hE rest st' a' w' K hr' h' hK)
def Ex.up : Ex → Exit
  | .normal => .normal
  | .exit id => .exit id
  | .ret => .ret
/-- 'f' says what 'c' does. -/
def Sound (P : Program) (c : Code) (f : Ev ρ) : Prop :=
  ∀ (w0 : World) (fp0 : G0) (bs : Cell → Prop) (n : Nat) (st : St) (a : Act) (w : World) (K : Ex → St → Option ρ) (out : ρ) (Q : Exit → Act → World → Prop),
    Rl w0 fp0 bs n st a w → f st K = some out → (∀ e st' a' w', K e st' = some out → Rl w0 fp0 bs n st' a' w' → Q e.up a' w') → c.wp P Q a w
def LPGood (E : Env) (LP : Nat → Ev ρ → Ev ρ) : Nat → Code → Prop
  | cb, .seq a b => LPGood E LP cb a ∧ LPGood E LP cb b
  | cb, .cond _ a b => LPGood E LP cb a ∧ LPGood E LP cb b
  | _, .block id c => LPGood E LP id c
  | cb, .scope c => LPGood E LP cb c
  | cb, .loop c => Sound E.P (.loop c) (LP cb fun st K => ev E LP cb c st K)
  | _, _ => True
theorem refine_rl {n : Nat} {st : St} {a : Act} {w : World} {c : Operand} {b : Bool} (h : Rl w0 fp0 bs n st a w) (hc : a.eval c = .bool b) : Rl w0 fp0 bs n (refine c b st) a w := by
  cases c with
  | tmp t => exact h.put fun pl => by rw [show a.tmps.getD t undef = .bool b from hc]; exact rep_bool
  | _ => exact h
theorem ev_sound (hE : EnvOk E) {LP : Nat → Ev ρ → Ev ρ} : ∀ (c : Code) (cb : Nat), LPGood E LP cb c → Sound E.P c (ev E LP cb c)
  | .skip, cb, _ => fun w0 fp0 bs n st a w K out Q hr h hK => wp_skip (hK .normal st a w h hr)
  | .label l, cb, _ => fun w0 fp0 bs n st a w K out Q hr h hK => wp_label (hK .normal st a w h hr)
  | .region id ops false, cb, _ => fun w0 fp0 bs n st a w K out Q hr h hK => wp_region_list (evOps_list hE _ _ a w _ (frzAll_rl _ hr) h fun st' a' w' h' hr' => hK .normal st' a' w' h' hr')
  | .region id ops true, cb, _ => fun w0 fp0 bs n st a w K out Q hr h hK => drawn_sound hE (frzAll_rl _ hr) h fun st' a' w' h' hr' => hK .normal st' a' w' h' hr'
  | .seq x y, cb, hg => fun w0 fp0 bs n st a w K out Q hr h hK => wp_seq <|
    ev_sound hE x cb hg.1 w0 fp0 bs n st a w _ out _ hr h fun e st' a' w' h' hr' => match e, h' with
      | .normal, h' => ev_sound hE y cb hg.2 w0 fp0 bs n st' a' w' K out Q hr' h' hK
      | .exit _, h' => hK _ st' a' w' h' hr'
      | .ret, h' => hK _ st' a' w' h' hr'
  | .cond c x y, cb, hg => fun w0 fp0 bs n st a w K out Q hr h hK => by
    simp only [ev, Option.bind_eq_some_iff] at h
    obtain ⟨v, hv, b, hb, h⟩ := h
    have hval : a.eval c = .bool b := by
      obtain ⟨pl, hr, _, _⟩ := hr
      exact asB_rep hb (opd_rep hr.sl hv)
    refine wp_cond hval ?_
    cases b
    · exact ev_sound hE y cb hg.2 w0 fp0 bs n _ a w K out Q (refine_rl hr hval) h hK
    · exact ev_sound hE x cb hg.1 w0 fp0 bs n _ a w K out Q (refine_rl hr hval) h hK
  | .block id c, cb, hg => fun w0 fp0 bs n st a w K out Q hr h hK => wp_block <|
    ev_sound hE c id hg w0 fp0 bs n st a w _ out _ hr h fun e st' a' w' h' hr' => match e, h' with
      | .normal, h' => hK .normal st' a' w' h' hr'
      | .exit j, h' => by
        simp only [inBlock] at h'
        show Exit.inBlock id Q (.exit j) a' w'
        cases hj : Nat.beq j id <;> simp only [hj, cond_true, cond_false] at h'
        · have : ¬ j = id := fun e => by subst e; simp at hj
          simp only [Exit.inBlock, if_neg this]
          exact hK (.exit j) st' a' w' h' hr'
        · simp only [Exit.inBlock, if_pos (Nat.eq_of_beq_eq_true hj)]
          exact hK .normal st' a' w' h' hr'
      | .ret, h' => hK .ret st' a' w' h' hr'
  | .loop c, cb, hg => hg
  | .exit id, cb, _ => fun w0 fp0 bs n st a w K out Q hr h hK => wp_exit (hK (.exit id) st a w h hr)
  | .scope c, cb, hg => fun w0 fp0 bs n st a w K out Q hr h hK => wp_scope_straight <|
    ev_sound hE c cb hg w0 fp0 bs n st a w K out _ hr h fun e st' a' w' h' hr' => match e, h' with
      | .normal, h' => hK .normal st' a' w' h' hr'
      | .exit j, h' => hK (.exit j) st' a' w' h' hr'
      | .ret, h' => hK .ret st' a' w' h' hr'
  | .ret, cb, _ => fun w0 fp0 bs n st a w K out Q hr h hK => wp_ret (hK .ret st a w h hr)
  | .rangeFunc _ _ _ _, cb, _ => fun w0 fp0 bs n st a w K out Q hr h hK => nomatch h
  | .goto _, cb, _ => fun w0 fp0 bs n st a w K out Q hr h hK => nomatch h
  | .refuse _, cb, _ => fun w0 fp0 bs n st a w K out Q hr h hK => nomatch h
/-- Rounds. -/
theorem loop_sound {P : Program} {c : Code} {f : Ev ρ} (hf : Sound P c f) (k : Nat) : Sound P (.loop c) (loopN f k) := by
  intro w0 fp0 bs n st a w K out Q hr h hK
  refine wp_loop_rounds k ?_
  induction k generalizing st a w with
  | zero => exact nomatch h
  | succ k ih =>
    rw [rounds_succ]
    exact hf w0 fp0 bs n st a w _ out _ hr h fun e st' a' w' h' hr' => match e, h' with
      | .normal, h' => ih st' a' w' hr' h'
      | .exit j, h' => hK (.exit j) st' a' w' h' hr'
      | .ret, h' => hK .ret st' a' w' h' hr'
end
end Go.Proofs.Ev

namespace Go.Proofs.Ev
variable [Tok]
set_option linter.unusedSectionVars false
inductive Arg where
  | one (r : R)
  | agg (rs : List R)
  | fn (f : Fn) (first cap : List R)
def Arg.sv : Arg → SV
  | .one r => .r [] r
  | .agg rs => .agg (rs.map (SV.r []))
  | .fn f a b => .fn f (a.map (SV.r [])) (b.map (SV.r []))
def RepRs (w : World) (ok : Cell → Prop) (rs : List R) (vs : Array Value) : Prop :=
  rs.length = vs.size ∧ ∀ (j : Nat) (r : R) (u : Value), rs[j]? = some r → vs[j]? = some u → RepR w ok r u
def RepArg (w : World) (ok : Cell → Prop) : Arg → Value → Prop
  | .one r, v => RepR w ok r v
  | .agg rs, v => ∃ vs, v = .agg vs ∧ RepRs w ok rs vs
  | .fn f a b, v => ∃ us vs, v = .func f us vs ∧ RepRs w ok a us ∧ RepRs w ok b vs
/-- A function that only computes: what it gives lies in new memory, or where its arguments lie. -/
def PureCalls (P : Program) (g : FuncId) (args : List Arg) (out : Out) : Prop :=
  Enters P g ∧ ∀ (w : World) (us : Array Value) (ok : Cell → Prop), args.length = us.size → (∀ (j : Nat) (x : Arg) (u : Value), args[j]? = some x → us[j]? = some u → RepArg w ok x u) →
    Calls P g us w fun e w' => ∃ u pl, e = .returned u ∧ HRel (newsH 0 out.2) pl w' ∧ SVRep w' (newsH 0 out.2) pl out.1 u ∧ pl.base = (fun p => ok p ∨ w.at? p = none) ∧
      (∀ p x, w.at? p = some x → w'.at? p = some x ∧ w'.ice? p = w.ice? p) ∧ (∀ i B p, look (newsH 0 out.2) i = some B → pl.fp i p → w.at? p = none) ∧ Grown w w'

def resO (P : Program) (st : St) : ResultVar → Option SV
  | .tmp t => look st.slots t
  | .cell a T => (look st.slots a).bind fun p => (cellsAt st.heap p).bind fun cs => ofCellsV P T cs
def resL (P : Program) (st : St) : List ResultVar → Option (List SV)
  | [] => some []
  | r :: l => (resO P st r).bind fun v => (resL P st l).bind fun vs => some (v :: vs)
def finV (P : Program) (fn : Func) (st : St) : Option SV :=
  (resL P st fn.results.toList).bind fun vs => match vs with
    | [v] => some v
    | vs => some (.tup vs)
/-- What a result is: of one cell; a slice in new memory ('shl': its inner slices are read only); a slice that is read only; a struct; several. -/
inductive RT where
  | sc
  | own (t : Ty)
  | shl (t : Ty)
  | ro (t : Ty)
  | agg (l : List RT)
  | tup (l : List RT)
  | fn (as bs : List RT)
  | ptr
/-- The place of a block among those that were handed in. -/
def posOf (i : Nat) : List (Option Nat) → Nat → Option Nat
  | [], _ => none
  | none :: l, n => posOf i l (n + 1)
  | some k :: l, n => cond (Nat.beq k i) (some n) (posOf i l (n + 1))
mutual
/-- The slices of a result that are its own. -/
def RT.srcs : RT → SV → Option (List (Bool × Ty × Option Nat))
  | .sc, _ => some []
  | .ro _, _ => some []
  | .own t, .own i => some [(false, t, some i)]
  | .own t, .nilS => some [(false, t, none)]
  | .shl t, .own i => some [(true, t, some i)]
  | .shl t, .nilS => some [(true, t, none)]
  | .agg l, .agg cs => srcsL l cs
  | .tup l, .tup cs => srcsL l cs
  | .fn as bs, .fn _ a b => (srcsL as a).bind fun x => (srcsL bs b).bind fun y => some (x ++ y)
  | .ptr, .ptr _ 0 _ => some []
  | _, _ => none
def srcsL : List RT → List SV → Option (List (Bool × Ty × Option Nat))
  | [], [] => some []
  | r :: l, v :: cs => (r.srcs v).bind fun a => (srcsL l cs).bind fun b => some (a ++ b)
  | _, _ => none
end
def idsOf : List (Bool × Ty × Option Nat) → List Nat
  | [] => []
  | (_, _, some i) :: l => i :: idsOf l
  | (_, _, none) :: l => idsOf l
mutual
def RT.out (h : Heap) (L : List Nat) (gh : List (Option Nat)) : RT → Nat → SV → Option (SV × Nat)
  | .sc, k, .r _ (.int kk n) => some (.r [] (.int kk n), k)
  | .sc, k, .r _ (.bool b) => some (.r [] (.bool b), k)
  | .sc, k, .r _ (.str l) => some (.r [] (.str l), k)
  | .own _, k, _ => some (.own k, k + 1)
  | .shl _, k, _ => some (.own k, k + 1)
  | .ro t, k, v => (v.list h t).bind fun p => cond (hit L p.1) none (some (.r [] (.sl t p.2), k))
  | .agg l, k, .agg cs => (outL h L gh l k cs).bind fun p => some (.agg p.1, p.2)
  | .tup l, k, .tup cs => (outL h L gh l k cs).bind fun p => some (.tup p.1, p.2)
  | .fn as bs, k, .fn f a b => (outL h L gh as k a).bind fun p => (outL h L gh bs p.2 b).bind fun q => some (.fn f p.1 q.1, q.2)
  | .ptr, k, .ptr i 0 o => (posOf i gh 0).bind fun j => some (.ptr j 0 o, k)
  | _, _, _ => none
def outL (h : Heap) (L : List Nat) (gh : List (Option Nat)) : List RT → Nat → List SV → Option (List SV × Nat)
  | [], k, [] => some ([], k)
  | r :: l, k, v :: cs => (r.out h L gh k v).bind fun p => (outL h L gh l p.2 cs).bind fun q => some (p.1 :: q.1, q.2)
  | _, _, _ => none
end
def placeOf (i : Nat) : List Nat → Nat → Option Nat
  | [], _ => none
  | k :: l, n => cond (Nat.beq k i) (some n) (placeOf i l (n + 1))
def nodup : List Nat → Bool
  | [] => true
  | k :: l => cond (mem k l) false (nodup l)
def outBlk (h : Heap) (L : List Nat) : Bool × Ty × Option Nat → Option Blk
  | (false, t, none) => some (.arr none t [])
  | (true, t, none) => some (.arr (some []) t [])
  | (false, t, some i) => match look h i with
    | some (.arr none t' xs) => cond (decide (t' = t)) (some (.arr none t' xs)) none
    | _ => none
  | (true, t, some i) => match look h i with
    | some (.arr (some d) t' xs) => cond (hit L d) none (cond (decide (t' = t)) (some (.arr (some []) t' xs)) none)
    | _ => none
def outBlks (h : Heap) (L : List Nat) : List (Bool × Ty × Option Nat) → Option (List Blk)
  | [] => some []
  | i :: l => (outBlk h L i).bind fun b => (outBlks h L l).bind fun l => some (b :: l)
def canon (rt : RT) (h : Heap) (v : SV) : Option Out :=
  (rt.srcs v).bind fun s => cond (nodup (idsOf s)) ((outBlks h (idsOf s) s).bind fun bs => (rt.out h (idsOf s) [] 0 v).bind fun p => some (p.1, bs)) none
def fin {ρ : Type} (P : Program) (fn : Func) (rt : RT) (dec : Out → Option ρ) : Ex → St → Option ρ
  | .exit _, _ => none
  | .normal, st => (finV P fn st).bind fun v => (canon rt st.heap v).bind dec
  | .ret, st => (finV P fn st).bind fun v => (canon rt st.heap v).bind dec
def slots0 : Nat → List Arg → List (Nat × SV)
  | _, [] => []
  | n, a :: l => (n, a.sv) :: slots0 (n + 1) l
def st0 (fn : Func) (args : List Arg) : St := { slots := slots0 0 args, heap := [], nid := 0, n := fn.ntmps }

section
variable {P : Program}
def resM (a : Act) : ResultVar → Sem Value
  | .tmp t => pure (a.tmps.getD t undef)
  | .cell b t => do loadVar t (← asAddr (a.tmps.getD b undef))
theorem results_eq (fn : Func) (a : Act) : results fn a.tmps = (fn.results.mapM (resM a) >>= fun vs => pure (if h : vs.size = 1 then vs[0] else .tuple vs)) := by
  unfold results
  congr 1
theorem resO_rep {w : World} {st : St} {pl : Pl} {a : Act} (hr : HRel st.heap pl w) (hs : Slots w st.heap pl st.slots a) {r : ResultVar} {v : SV} (h : resO P st r = some v) :
    ∃ u, (resM a r).run P w = .ok u w ∧ SVRep w st.heap pl v u := by
  cases r with
  | tmp t => exact ⟨_, rfl, hs t v h⟩
  | cell b T =>
    simp only [resO, Option.bind_eq_some_iff] at h
    obtain ⟨p, hp, cs, hcs, hv⟩ := h
    obtain ⟨b', o', hpu, hc⟩ := cellsAt_rep hr (hs b p hp) hcs
    obtain ⟨u, h1, h2⟩ := load_rep hv b' o' hc
    exact ⟨u, by simp [resM, hpu, asAddr, h1], h2⟩
theorem resL_rep {w : World} {st : St} {pl : Pl} {a : Act} (hr : HRel st.heap pl w) (hs : Slots w st.heap pl st.slots a) : ∀ {l : List ResultVar} {vs : List SV}, resL P st l = some vs →
    ∃ us, (l.mapM (resM a) : Sem (List Value)).run P w = .ok us w ∧ vs.length = us.length ∧
      ∀ (j : Nat) (x : SV) (u : Value), vs[j]? = some x → us[j]? = some u → SVRep w st.heap pl x u
  | [], vs, h => by cases h; exact ⟨[], rfl, rfl, fun j x u hx _ => by simp at hx⟩
  | r :: l, vs, h => by
    simp only [resL, Option.bind_eq_some_iff, Option.some.injEq] at h
    obtain ⟨v, hv, vs', hvs, rfl⟩ := h
    obtain ⟨us, h1, h2, h3⟩ := resL_rep hr hs hvs
    obtain ⟨u, h4, h5⟩ := resO_rep (P := P) hr hs hv
    refine ⟨u :: us, ?_, by simp [h2], fun j x u' hx hu => ?_⟩
    · rw [List.mapM_cons, Sem.run_bind, h4]
      simp only [Result.andThen_ok, Sem.run_bind, h1, Sem.run_pure]
    · cases j with
      | zero => simp at hx hu; subst hx hu; exact h5
      | succ j => exact h3 j x u' (by simpa using hx) (by simpa using hu)
theorem finV_rep {w : World} {st : St} {pl : Pl} {a : Act} (hr : HRel st.heap pl w) (hs : Slots w st.heap pl st.slots a) {fn : Func} {v : SV} (h : finV P fn st = some v) :
    ∃ u, (results fn a.tmps).run P w = .ok u w ∧ SVRep w st.heap pl v u := by
  simp only [finV, Option.bind_eq_some_iff] at h
  obtain ⟨vs, hvs, h⟩ := h
  obtain ⟨us, h1, h2, h3⟩ := resL_rep (P := P) hr hs hvs
  have hm : (fn.results.mapM (resM a) : Sem (Array Value)).run P w = .ok us.toArray w := by
    rw [Array.mapM_eq_mapM_toList, Sem.run_map, h1]; rfl
  split at h
  · rename_i v'
    cases h
    match us, h2, h3, hm with
    | [u], h2, h3, hm =>
      refine ⟨u, ?_, h3 0 _ _ rfl rfl⟩
      rw [results_eq, Sem.run_bind, hm]
      simp
  · rename_i hne
    cases h
    have hsz : ¬ us.toArray.size = 1 := fun e => by
      have : us.length = 1 := by simpa using e
      match vs, h2, hne with
      | [v'], h2, hne => exact hne v' rfl
      | [], h2, _ => simp at h2; omega
      | _ :: _ :: _, h2, _ => simp at h2; omega
    refine ⟨.tuple us.toArray, ?_, .tup _ _ (by simpa using h2) fun j x u hx hu => h3 j x u hx (by simpa using hu)⟩
    rw [results_eq, Sem.run_bind, hm]
    simp only [Result.andThen_ok, dif_neg hsz]; rfl
theorem placeOf_spec {i : Nat} : ∀ {L : List Nat} {n k : Nat}, placeOf i L n = some k → n ≤ k ∧ L[k - n]? = some i
  | j :: l, n, k, h => by
    simp only [placeOf] at h
    cases hj : Nat.beq j i <;> simp only [hj, cond_true, cond_false, Option.some.injEq] at h
    · obtain ⟨h1, h2⟩ := placeOf_spec h
      exact ⟨by omega, by rw [show k - n = (k - (n + 1)) + 1 from by omega]; exact h2⟩
    · subst h; exact ⟨Nat.le_refl _, by simp [Nat.eq_of_beq_eq_true hj]⟩
theorem nodup_spec : ∀ {L : List Nat}, nodup L = true → L.Nodup
  | [], _ => List.nodup_nil
  | k :: l, h => by
    simp only [nodup] at h
    cases hk : mem k l <;> simp only [hk, cond_true, cond_false] at h
    · refine List.nodup_cons.2 ⟨fun hm => ?_, nodup_spec h⟩
      rw [(mem_iff k l).2 hm] at hk; exact nomatch hk
    · exact nomatch h
theorem outBlks_spec {h : Heap} {L : List Nat} : ∀ {l : List (Bool × Ty × Option Nat)} {bs : List Blk}, outBlks h L l = some bs → bs.length = l.length ∧
    ∀ (k : Nat) (b : Blk), bs[k]? = some b → ∃ s, l[k]? = some s ∧ outBlk h L s = some b
  | [], bs, e => by cases e; exact ⟨rfl, fun k b hb => by simp at hb⟩
  | i :: l, bs, e => by
    simp only [outBlks, Option.bind_eq_some_iff, Option.some.injEq] at e
    obtain ⟨b, h2, l', h3, rfl⟩ := e
    obtain ⟨g1, g2⟩ := outBlks_spec h3
    refine ⟨by simp [g1], fun k b' hb => ?_⟩
    cases k with
    | zero => simp at hb; subst hb; exact ⟨i, rfl, h2⟩
    | succ k => simpa using g2 k b' (by simpa using hb)
def Pl.out (pl : Pl) (L : List Nat) : Pl := ⟨fun k => pl.hdr (L.getD k 0), fun k => pl.fp (L.getD k 0), pl.base⟩
def Pl.res (pl : Pl) (S : List (Bool × Ty × Option Nat)) : Pl :=
  ⟨fun k => match S[k]? with
    | some (_, _, some i) => pl.hdr i
    | _ => .slice none 0 0,
   fun k p => match S[k]? with
    | some (_, _, some i) => pl.fp i p
    | _ => False, pl.base⟩
theorem mem_idsOf {S : List (Bool × Ty × Option Nat)} {k : Nat} {b : Bool} {t : Ty} {i : Nat} (h : S[k]? = some (b, t, some i)) : i ∈ idsOf S := by
  induction S generalizing k with
  | nil => simp at h
  | cons x l ih =>
    obtain ⟨b', t', o⟩ := x
    cases k with
    | zero => simp at h; obtain ⟨rfl, rfl, rfl⟩ := h; simp [idsOf]
    | succ k =>
      have := ih (k := k) (by simpa using h)
      cases o <;> simp [idsOf, this]
theorem idsOf_inj {S : List (Bool × Ty × Option Nat)} (hn : (idsOf S).Nodup) {k k' : Nat} {b b' : Bool} {t t' : Ty} {i : Nat} (h : S[k]? = some (b, t, some i)) (h' : S[k']? = some (b', t', some i)) : k = k' := by
  induction S generalizing k k' with
  | nil => simp at h
  | cons x l ih =>
    obtain ⟨b0, t0, o⟩ := x
    cases k with
    | zero =>
      cases k' with
      | zero => rfl
      | succ k' =>
        simp at h; obtain ⟨rfl, rfl, rfl⟩ := h
        have := mem_idsOf (k := k') (by simpa using h')
        simp [idsOf] at hn
        exact (hn.1 this).elim
    | succ k =>
      cases k' with
      | zero =>
        simp at h'; obtain ⟨rfl, rfl, rfl⟩ := h'
        have := mem_idsOf (k := k) (by simpa using h)
        simp [idsOf] at hn
        exact (hn.1 this).elim
      | succ k' =>
        have hn' : (idsOf l).Nodup := by
          cases o with
          | none => exact hn
          | some x => simp [idsOf] at hn; exact hn.2
        rw [ih hn' (k := k) (k' := k') (by simpa using h) (by simpa using h')]
section
variable {w : World} {H : Heap} {pl : Pl} {S : List (Bool × Ty × Option Nat)} {bs : List Blk}
theorem res_back (hL : outBlks H (idsOf S) S = some bs) {k : Nat} {B : Blk} (hB : look (newsH 0 bs) k = some B) : ∃ s, S[k]? = some s ∧ outBlk H (idsOf S) s = some B := by
  rw [look_newsH, if_pos (Nat.zero_le _), Nat.sub_zero] at hB
  exact (outBlks_spec hL).2 k B hB
theorem outBlk_look {L : List Nat} {b : Bool} {t : Ty} {i : Nat} {B : Blk} (h : outBlk H L (b, t, some i) = some B) : ∃ sh xs, look H i = some (.arr sh t xs) ∧
    ((sh = none ∧ B = .arr none t xs) ∨ ∃ d, sh = some d ∧ hit L d = false ∧ B = .arr (some []) t xs) := by
  cases b with
  | false =>
    simp only [outBlk] at h
    split at h
    · rename_i t' xs hl
      cases ht : decide (t' = t) <;> simp only [ht, cond_true, cond_false, Option.some.injEq] at h
      · exact nomatch h
      · have ht : t' = t := by simpa using ht
        subst ht
        exact ⟨none, xs, hl, .inl ⟨rfl, h.symm⟩⟩
    · exact nomatch h
  | true =>
    simp only [outBlk] at h
    split at h
    · rename_i d t' xs hl
      cases hd : hit L d <;> simp only [hd, cond_true, cond_false] at h
      · cases ht : decide (t' = t) <;> simp only [ht, cond_true, cond_false, Option.some.injEq] at h
        · exact nomatch h
        · have ht : t' = t := by simpa using ht
          subst ht
          exact ⟨some d, xs, hl, .inr ⟨d, rfl, hd, h.symm⟩⟩
      · exact nomatch h
    · exact nomatch h
theorem out_okd (hL : outBlks H (idsOf S) S = some bs) {d : List Nat} (hd : hit (idsOf S) d = false) {p : Cell} (h : okd H pl d p) : okd (newsH 0 bs) (pl.res S) [] p := by
  refine ⟨h.1, fun k B hB _ hf => ?_⟩
  obtain ⟨⟨b, t, o⟩, h1, h2⟩ := res_back hL hB
  cases o with
  | none => simp [Pl.res, h1] at hf
  | some i =>
    simp only [Pl.res, h1] at hf
    obtain ⟨sh, xs, hl, _⟩ := outBlk_look h2
    refine h.2 i _ hl (fun hm => ?_) hf
    have hm2 := hit_false _ d hd i hm
    rw [(mem_iff i _).2 (mem_idsOf h1)] at hm2
    exact nomatch hm2
theorem srcs_own {r : RT} {v : SV} {s : List (Bool × Ty × Option Nat)} {t : Ty} {b : Bool} (hr : r = if b then .shl t else .own t) (h : r.srcs v = some s) : (∃ i, v = .own i ∧ s = [(b, t, some i)]) ∨ (v = .nilS ∧ s = [(b, t, none)]) := by
  cases b <;> simp at hr <;> subst hr <;> (cases v <;> simp only [RT.srcs] at h <;> first | (cases h; done) | (cases h; first | exact .inl ⟨_, rfl, rfl⟩ | exact .inr ⟨rfl, rfl⟩))
/-- One slice of a result. -/
theorem own_out (hL : outBlks H (idsOf S) S = some bs) {k : Nat} {b : Bool} {t : Ty} {v : SV} {u : Value} (hv : SVRep w H pl v u)
    (h : (∃ i, v = .own i ∧ S[k]? = some (b, t, some i)) ∨ (v = .nilS ∧ S[k]? = some (b, t, none))) : SVRep w (newsH 0 bs) (pl.res S) (.own k) u := by
  have hlt : ∀ {s}, S[k]? = some s → k < bs.length := fun {s} h => by rw [(outBlks_spec hL).1]; exact (List.getElem?_eq_some_iff.1 h).1
  have hget : ∀ {s}, S[k]? = some s → ∃ B, look (newsH 0 bs) k = some B ∧ outBlk H (idsOf S) s = some B := fun {s} h => by
    have hk := List.getElem?_eq_getElem (hlt h)
    obtain ⟨s', h1, h2⟩ := (outBlks_spec hL).2 k _ hk
    rw [h] at h1; cases h1
    exact ⟨_, by rw [look_newsH, if_pos (Nat.zero_le _), Nat.sub_zero]; exact hk, h2⟩
  rcases h with ⟨i, rfl, h⟩ | ⟨rfl, h⟩
  · obtain ⟨B, h1, h2⟩ := hget h
    obtain ⟨sh, xs, hl, h3⟩ := outBlk_look h2
    have e : (pl.res S).hdr k = pl.hdr i := by simp only [Pl.res, h]
    cases hv with
    | own _ sh' t' ys hl' =>
      rw [← e]
      rcases h3 with ⟨_, rfl⟩ | ⟨d, _, _, rfl⟩
      · exact .own k none t xs h1
      · exact .own k (some []) t xs h1
  · obtain ⟨B, h1, h2⟩ := hget h
    have e : (pl.res S).hdr k = .slice none 0 0 := by simp only [Pl.res, h]
    cases hv with
    | nilS =>
      rw [← e]
      cases b with
      | false => cases h2; exact .own k none t [] h1
      | true => cases h2; exact .own k (some []) t [] h1
section
variable {H2 : Heap} {plR : Pl} {m : Nat} {LL : List Nat} {gh : List (Option Nat)}
mutual
theorem out_repG (hr : HRel H pl w) (hown : ∀ (k : Nat) (b : Bool) (t : Ty) (v : SV) (u : Value), SVRep w H pl v u → ((∃ i, v = .own i ∧ S[k]? = some (b, t, some i)) ∨ (v = .nilS ∧ S[k]? = some (b, t, none))) → SVRep w H2 plR (.own (m + k)) u)
    (hro : ∀ d p, hit LL d = false → okd H pl d p → okd H2 plR [] p) (hptr : ∀ i j o u, posOf i gh 0 = some j → SVRep w H pl (.ptr i 0 o) u → SVRep w H2 plR (.ptr j 0 o) u) : (r : RT) → {v v' : SV} → {u : Value} → {k k' : Nat} → {s : List (Bool × Ty × Option Nat)} → r.srcs v = some s → (∀ (j : Nat) (x : Bool × Ty × Option Nat), s[j]? = some x → S[k + j]? = some x) →
    r.out H LL gh (m + k) v = some (v', k') → SVRep w H pl v u → SVRep w H2 plR v' u ∧ k' = m + (k + s.length)
  | .sc, v, v', u, k, k', s, hs, hS, h, hv => by
    simp only [RT.srcs, Option.some.injEq] at hs
    subst hs
    cases hv with
    | r d x _ hx => cases hx <;> (simp only [RT.out, Option.some.injEq, Prod.mk.injEq] at h) <;> first | (obtain ⟨rfl, rfl⟩ := h; exact ⟨by first | exact rep_int | exact rep_bool | exact rep_str, rfl⟩) | (exact nomatch h)
    | _ => simp [RT.out] at h
  | .own t, v, v', u, k, k', s, hs, hS, h, hv => by
    simp only [RT.out, Option.some.injEq, Prod.mk.injEq] at h
    obtain ⟨rfl, rfl⟩ := h
    rcases srcs_own (b := false) rfl hs with ⟨i, rfl, rfl⟩ | ⟨rfl, rfl⟩
    · exact ⟨hown k _ t _ u hv (.inl ⟨i, rfl, hS 0 _ rfl⟩), rfl⟩
    · exact ⟨hown k _ t _ u hv (.inr ⟨rfl, hS 0 _ rfl⟩), rfl⟩
  | .shl t, v, v', u, k, k', s, hs, hS, h, hv => by
    simp only [RT.out, Option.some.injEq, Prod.mk.injEq] at h
    obtain ⟨rfl, rfl⟩ := h
    rcases srcs_own (b := true) rfl hs with ⟨i, rfl, rfl⟩ | ⟨rfl, rfl⟩
    · exact ⟨hown k _ t _ u hv (.inl ⟨i, rfl, hS 0 _ rfl⟩), rfl⟩
    · exact ⟨hown k _ t _ u hv (.inr ⟨rfl, hS 0 _ rfl⟩), rfl⟩
  | .ro t, v, v', u, k, k', s, hs, hS, h, hv => by
    simp only [RT.srcs, Option.some.injEq] at hs
    subst hs
    simp only [RT.out, Option.bind_eq_some_iff] at h
    obtain ⟨⟨d, xs⟩, h1, h2⟩ := h
    cases hd : hit LL d <;> simp only [hd, cond_true, cond_false, Option.some.injEq, Prod.mk.injEq] at h2
    · obtain ⟨rfl, rfl⟩ := h2
      exact ⟨.r _ _ _ ((list_repR hr h1 hv).frame fun p u hp hu => ⟨hro d p hd hp, hu⟩), rfl⟩
    · exact nomatch h2
  | .agg l, v, v', u, k, k', s, hs, hS, h, hv => by
    cases hv with
    | agg cs vs h1 h2 h3 =>
      simp only [RT.out, Option.bind_eq_some_iff, Option.some.injEq, Prod.mk.injEq] at h
      obtain ⟨⟨l', k2⟩, h4, rfl, rfl⟩ := h
      simp only [RT.srcs] at hs
      obtain ⟨g1, g2, g3⟩ := outL_repG hr hown hro hptr l hs hS h4 vs.toList (by simpa using h1) fun j x u hx hu => h3 j x u hx (by simpa using hu)
      exact ⟨.agg _ _ (by simpa using g1) h2 fun j x u hx hu => g2 j x u hx (by simpa using hu), g3⟩
    | _ => simp [RT.out] at h
  | .tup l, v, v', u, k, k', s, hs, hS, h, hv => by
    cases hv with
    | tup cs vs h1 h3 =>
      simp only [RT.out, Option.bind_eq_some_iff, Option.some.injEq, Prod.mk.injEq] at h
      obtain ⟨⟨l', k2⟩, h4, rfl, rfl⟩ := h
      simp only [RT.srcs] at hs
      obtain ⟨g1, g2, g3⟩ := outL_repG hr hown hro hptr l hs hS h4 vs.toList (by simpa using h1) fun j x u hx hu => h3 j x u hx (by simpa using hu)
      exact ⟨.tup _ _ (by simpa using g1) fun j x u hx hu => g2 j x u hx (by simpa using hu), g3⟩
    | _ => simp [RT.out] at h
  | .fn as bs, v, v', u, k, k', s, hs, hS, h, hv => by
    cases hv with
    | fn f a b us vs h1 h3 h1' h3' =>
      simp only [RT.out, Option.bind_eq_some_iff, Option.some.injEq, Prod.mk.injEq] at h
      obtain ⟨⟨l', k2⟩, h4, ⟨l2', k3⟩, h5, rfl, rfl⟩ := h
      simp only [RT.srcs, Option.bind_eq_some_iff, Option.some.injEq] at hs
      obtain ⟨s1, e1, s2, e2, rfl⟩ := hs
      obtain ⟨g1, g2, g3⟩ := outL_repG hr hown hro hptr as e1 (fun j x hx => hS j x (by rw [List.getElem?_append_left (List.getElem?_eq_some_iff.1 hx).1]; exact hx)) h4 us.toList (by simpa using h1) fun j x u hx hu => h3 j x u hx (by simpa using hu)
      simp only at h5
      subst g3
      obtain ⟨q1, q2, q3⟩ := outL_repG hr hown hro hptr bs e2 (fun j x hx => by
        have := hS (s1.length + j) x (by rw [List.getElem?_append_right (by omega), Nat.add_sub_cancel_left]; exact hx)
        rw [Nat.add_assoc]; exact this) h5 vs.toList (by simpa using h1') fun j x u hx hu => h3' j x u hx (by simpa using hu)
      exact ⟨.fn _ _ _ _ _ (by simpa using g1) (fun j x u hx hu => g2 j x u hx (by simpa using hu)) (by simpa using q1) (fun j x u hx hu => q2 j x u hx (by simpa using hu)), by simp; omega⟩
    | _ => simp [RT.out] at h
  | .ptr, v, v', u, k, k', s, hs, hS, h, hv => by
    cases v with
    | ptr i x o =>
      cases x with
      | zero =>
        simp only [RT.out, Option.bind_eq_some_iff, Option.some.injEq, Prod.mk.injEq] at h
        simp only [RT.srcs, Option.some.injEq] at hs
        subst hs
        obtain ⟨j, h1, rfl, rfl⟩ := h
        exact ⟨hptr i j o u h1 hv, rfl⟩
      | succ x => simp [RT.out] at h
    | _ => simp [RT.out] at h
theorem outL_repG (hr : HRel H pl w) (hown : ∀ (k : Nat) (b : Bool) (t : Ty) (v : SV) (u : Value), SVRep w H pl v u → ((∃ i, v = .own i ∧ S[k]? = some (b, t, some i)) ∨ (v = .nilS ∧ S[k]? = some (b, t, none))) → SVRep w H2 plR (.own (m + k)) u)
    (hro : ∀ d p, hit LL d = false → okd H pl d p → okd H2 plR [] p) (hptr : ∀ i j o u, posOf i gh 0 = some j → SVRep w H pl (.ptr i 0 o) u → SVRep w H2 plR (.ptr j 0 o) u) : (l : List RT) → {cs cs' : List SV} → {k k' : Nat} → {s : List (Bool × Ty × Option Nat)} → srcsL l cs = some s → (∀ (j : Nat) (x : Bool × Ty × Option Nat), s[j]? = some x → S[k + j]? = some x) →
    outL H LL gh l (m + k) cs = some (cs', k') → (us : List Value) → cs.length = us.length → (∀ (j : Nat) (x : SV) (u : Value), cs[j]? = some x → us[j]? = some u → SVRep w H pl x u) →
    cs'.length = us.length ∧ (∀ (j : Nat) (x : SV) (u : Value), cs'[j]? = some x → us[j]? = some u → SVRep w H2 plR x u) ∧ k' = m + (k + s.length)
  | [], [], cs', k, k', s, hs, hS, h, us, hl, _ => by
    simp only [srcsL, Option.some.injEq] at hs
    simp only [outL, Option.some.injEq, Prod.mk.injEq] at h
    subst hs
    obtain ⟨rfl, rfl⟩ := h
    exact ⟨hl, fun j x u hx _ => by simp at hx, rfl⟩
  | r :: l, v :: cs, cs', k, k', s, hs, hS, h, u :: us, hl, hp => by
    simp only [srcsL, Option.bind_eq_some_iff, Option.some.injEq] at hs
    obtain ⟨s1, hs1, s2, hs2, rfl⟩ := hs
    simp only [outL, Option.bind_eq_some_iff, Option.some.injEq, Prod.mk.injEq] at h
    obtain ⟨⟨v', k2⟩, h1, ⟨l', k3⟩, h2, rfl, rfl⟩ := h
    obtain ⟨g1, g2⟩ := out_repG hr hown hro hptr r hs1 (fun j x hx => hS j x (by rw [List.getElem?_append_left (List.getElem?_eq_some_iff.1 hx).1]; exact hx)) h1 (hp 0 v u rfl rfl)
    simp only at h2
    subst g2
    obtain ⟨q1, q2, q3⟩ := outL_repG hr hown hro hptr l hs2 (fun j x hx => by
        have := hS (s1.length + j) x (by rw [List.getElem?_append_right (by omega), Nat.add_sub_cancel_left]; exact hx)
        rw [Nat.add_assoc]; exact this) h2 us (by simpa using hl) fun j x u hx hu => hp (j + 1) x u (by simpa using hx) (by simpa using hu)
    refine ⟨by simp [q1], fun j x u' hx hu => ?_, by simp; omega⟩
    cases j with
    | zero => simp at hx hu; subst hx hu; exact g1
    | succ j => exact q2 j x u' (by simpa using hx) (by simpa using hu)
  | [], _ :: _, _, _, _, _, hs, _, _, _, _, _ => nomatch hs
  | _ :: _, [], _, _, _, _, hs, _, _, _, _, _ => nomatch hs
end
end
theorem out_rep (hr : HRel H pl w) (hL : outBlks H (idsOf S) S = some bs) (r : RT) {v v' : SV} {u : Value} {k k' : Nat} {s : List (Bool × Ty × Option Nat)} (hs : r.srcs v = some s) (hS : ∀ (j : Nat) (x : Bool × Ty × Option Nat), s[j]? = some x → S[k + j]? = some x)
    (h : r.out H (idsOf S) [] k v = some (v', k')) (hv : SVRep w H pl v u) : SVRep w (newsH 0 bs) (pl.res S) v' u ∧ k' = k + s.length := by
  have := out_repG (H2 := newsH 0 bs) (plR := pl.res S) (m := 0) (LL := idsOf S) (gh := []) hr (fun k b t v u hv hc => by rw [Nat.zero_add]; exact own_out hL hv hc) (fun d p hd hp => out_okd hL hd hp) (fun i j o u h => nomatch h) r hs hS (by rw [Nat.zero_add]; exact h) hv
  simpa using this
theorem out_hrel (hr : HRel H pl w) (hn : nodup (idsOf S) = true) (hL : outBlks H (idsOf S) S = some bs) : HRel (newsH 0 bs) (pl.res S) w := by
  refine ⟨fun k B hB => ?_, fun k k' B B' p h1 h2 f1 f2 => ?_, fun k B p hB hf => ?_, hr.nb⟩
  · obtain ⟨⟨b, t, o⟩, h1, h2⟩ := res_back hL hB
    cases o with
    | none =>
      have e : (pl.res S).hdr k = .slice none 0 0 := by simp only [Pl.res, h1]
      have ef : ∀ p, ¬ (pl.res S).fp k p := fun p hp => by simp [Pl.res, h1] at hp
      have row : ∀ inner, Nonempty (Row w inner t [] ((pl.res S).hdr k) ((pl.res S).fp k)) := fun inner =>
        ⟨⟨none, 0, 0, 0, fun _ _ => undef, fun _ _ _ => False, e, Nat.le_refl _, .inl rfl, fun j hj => by simp at hj, fun i j r h => by have := (cellIn_lt h).1; simp at this, fun i j r h => by have := (cellIn_lt h).1; simp at this,
          fun i j r p h => by have := (cellIn_lt h).1; simp at this, fun i j r i' j' r' p h => by have := (cellIn_lt h).1; simp at this, fun p => ⟨fun hp => (ef p hp).elim, fun hp => by
            rcases hp with ⟨_, h, h'⟩ | ⟨i, j, r, h, _⟩
            · omega
            · have := (cellIn_lt h).1; simp at this⟩⟩⟩
      cases b with
      | false => cases h2; exact row _
      | true => cases h2; exact row _
    | some i =>
      have e : (pl.res S).hdr k = pl.hdr i := by simp only [Pl.res, h1]
      have ef : (pl.res S).fp k = pl.fp i := by funext p; simp only [Pl.res, h1]
      obtain ⟨sh, xs, hl, h3⟩ := outBlk_look h2
      have hb := hr.blk i _ hl
      rcases h3 with ⟨rfl, rfl⟩ | ⟨d, rfl, hd, rfl⟩
      · show Nonempty (Row w (RepD w) t xs ((pl.res S).hdr k) ((pl.res S).fp k))
        rw [e, ef]; exact hb
      · obtain ⟨⟨a, cap, b, o, vs, fs, q1, q2, q3, q4, q5, q6, q7, q8, q9⟩⟩ := hb
        exact ⟨⟨a, cap, b, o, vs, fs, e.trans q1, q2, q3, q4, q5, fun i j r hc => ⟨(q6 i j r hc).1.frame fun p u hp hu => ⟨out_okd hL hd hp, hu⟩, (q6 i j r hc).2⟩, q7, q8, fun p => by rw [ef]; exact q9 p⟩⟩
  · obtain ⟨⟨b, t, o⟩, g1, g2⟩ := res_back hL h1
    obtain ⟨⟨b', t', o'⟩, g1', g2'⟩ := res_back hL h2
    cases o with
    | none => simp [Pl.res, g1] at f1
    | some i =>
      cases o' with
      | none => simp [Pl.res, g1'] at f2
      | some i' =>
        simp only [Pl.res, g1] at f1
        simp only [Pl.res, g1'] at f2
        obtain ⟨_, _, hl, _⟩ := outBlk_look g2
        obtain ⟨_, _, hl', _⟩ := outBlk_look g2'
        have := hr.dis i i' _ _ p hl hl' f1 f2
        subst this
        exact idsOf_inj (nodup_spec hn) g1 g1'
  · obtain ⟨⟨b, t, o⟩, g1, g2⟩ := res_back hL hB
    cases o with
    | none => simp [Pl.res, g1] at hf
    | some i =>
      simp only [Pl.res, g1] at hf
      obtain ⟨_, _, hl, _⟩ := outBlk_look g2
      exact hr.ob i _ p hl hf
end
theorem look_slots0 (args : List Arg) (n t : Nat) : look (slots0 n args) t = if n ≤ t then (args[t - n]?).map Arg.sv else none := by
  induction args generalizing n with
  | nil => simp [slots0, look]
  | cons a l ih =>
    rw [slots0, look_cons, ih]
    by_cases h : n = t
    · subst h; simp
    · by_cases h2 : n ≤ t
      · rw [if_neg h, if_pos (by omega), if_pos h2, show t - n = (t - (n + 1)) + 1 from by omega]; rfl
      · rw [if_neg h, if_neg (by omega), if_neg h2]
theorem repRs_sv {w : World} {ok : Cell → Prop} {pl : Pl} (hb : ∀ p, ok p → pl.base p) {rs : List R} {vs : Array Value} (h : RepRs w ok rs vs) :
    (rs.map (SV.r [])).length = vs.size ∧ ∀ (j : Nat) (x : SV) (u : Value), (rs.map (SV.r []))[j]? = some x → vs[j]? = some u → SVRep w [] pl x u := by
  refine ⟨by simpa using h.1, fun j x u hx hu => ?_⟩
  rw [List.getElem?_map] at hx
  obtain ⟨r, hr, rfl⟩ := Option.map_eq_some_iff.1 hx
  exact .r _ _ _ ((h.2 j r u hr hu).frame fun p u hp hu => ⟨⟨hb p hp, fun i B hB => by simp [look] at hB⟩, hu⟩)
theorem arg_rep {w : World} {ok : Cell → Prop} {pl : Pl} (hb : ∀ p, ok p → pl.base p) {x : Arg} {u : Value} (h : RepArg w ok x u) : SVRep w [] pl x.sv u := by
  cases x with
  | one r => exact .r _ _ _ (h.frame fun p u hp hu => ⟨⟨hb p hp, fun i B hB => by simp [look] at hB⟩, hu⟩)
  | agg rs =>
    obtain ⟨vs, rfl, h⟩ := h
    obtain ⟨g1, g2⟩ := repRs_sv (pl := pl) hb h
    refine .agg _ _ g1 (fun j v hv => ?_) g2
    have hj : j < rs.length := by rw [h.1]; exact (Array.getElem?_eq_some_iff.1 hv).1
    exact (h.2 j _ v (List.getElem?_eq_getElem hj) hv).isOne
  | fn f a b =>
    obtain ⟨us, vs, rfl, h, h'⟩ := h
    obtain ⟨g1, g2⟩ := repRs_sv (pl := pl) hb h
    obtain ⟨g3, g4⟩ := repRs_sv (pl := pl) hb h'
    exact .fn _ _ _ _ _ g1 g2 g3 g4
/-- THE CONTRACT, out of the evaluator. -/
theorem pure_of_ev {ρ : Type} {E : Env} (hE : EnvOk E) {LP : Nat → Ev ρ → Ev ρ} {g : FuncId} {fn : Func} {c : Code} {args : List Arg} {r : ρ} {dec : Out → Option ρ} {enc : ρ → Out} (hd : ∀ o r, dec o = some r → o = enc r) (hf : E.P.funcs[g]? = some fn) (hc : fn.body = some c)
    (hnm : (fn.name == "runtime.NumGoroutine") = false) (hn : Nat.ble args.length fn.ntmps = true) (hLP : LPGood E LP 0 c) {rt : RT} (h : ev E LP 0 c (st0 fn args) (fin E.P fn rt dec) = some r) : PureCalls E.P g args (enc r) := by
  generalize ho : enc r = out
  refine ⟨enters_of hf (by rw [hc]; rfl) hnm, fun w us ok hlen hargs => ?_⟩
  have hn := Nat.le_of_ble_eq_true hn
  refine calls_of_wp hf hc ?_
  let pl0 : Pl := ⟨fun _ => undef, fun _ _ => False, fun p => ok p ∨ w.at? p = none⟩
  have hrel : Rl w ⟨fun _ => False, fun _ => undef, fun _ => .box []⟩ pl0.base fn.ntmps (st0 fn args) { tmps := us ++ Array.replicate (fn.ntmps - us.size) undef, defers := [] } w := by
    refine ⟨pl0, ⟨⟨fun i B hB => by simp [st0, look] at hB, fun i j B B' p hB => by simp [st0, look] at hB, fun i B p hB => by simp [st0, look] at hB, fun p hp => .inr hp⟩, fun t v hv => ?_, by simp [st0]; omega, rfl, fun i _ => rfl, Grown.refl w, fun p u hp _ => ⟨fun i B hB => by simp [st0, look] at hB, hp, rfl⟩, fun k i hk => by simp [st0] at hk⟩, rfl, rfl⟩
    simp only [st0] at hv
    rw [look_slots0, if_pos (Nat.zero_le _), Nat.sub_zero] at hv
    obtain ⟨x, hx, rfl⟩ := Option.map_eq_some_iff.1 hv
    have ht : t < us.size := by rw [← hlen]; exact (List.getElem?_eq_some_iff.1 hx).1
    have hg : (us ++ Array.replicate (fn.ntmps - us.size) undef).getD t undef = us[t] := by
      rw [Array.getD_eq_getD_getElem?, Array.getElem?_append_left ht, Array.getElem?_eq_getElem ht]; rfl
    rw [hg]
    exact arg_rep (fun p hp => Or.inl hp) (hargs t x _ hx (Array.getElem?_eq_getElem ht))
  refine ev_sound hE c 0 hLP w ⟨fun _ => False, fun _ => undef, fun _ => .box []⟩ pl0.base fn.ntmps _ _ w _ r _ hrel h fun e st' a' w' hK hr' => ?_
  obtain ⟨pl, hr, hb, _⟩ := hr'
  have key : ∀ v, finV E.P fn st' = some v → canon rt st'.heap v = some out → a'.defers = [] ∧ ∃ u, (results fn a'.tmps).run E.P w' = .ok u w' ∧ ∃ u' pl', Ending.returned u = .returned u' ∧ HRel (newsH 0 out.2) pl' w' ∧
      SVRep w' (newsH 0 out.2) pl' out.1 u' ∧ pl'.base = (fun p => ok p ∨ w.at? p = none) ∧
      (∀ p x, w.at? p = some x → w'.at? p = some x ∧ w'.ice? p = w.ice? p) ∧ (∀ i B p, look (newsH 0 out.2) i = some B → pl'.fp i p → w.at? p = none) ∧ Grown w w' := fun v hv hcn => by
    obtain ⟨u, hu, hvr⟩ := finV_rep (P := E.P) hr.hr hr.sl hv
    simp only [canon, Option.bind_eq_some_iff] at hcn
    obtain ⟨S, hS, hcn⟩ := hcn
    cases hnd : nodup (idsOf S) <;> simp only [hnd, cond_true, cond_false, Option.bind_eq_some_iff, Option.some.injEq] at hcn
    · exact nomatch hcn
    · obtain ⟨bs, hbs, ⟨v', k'⟩, hv', rfl⟩ := hcn
      refine ⟨hr.df, u, hu, u, pl.res S, rfl, out_hrel hr.hr hnd hbs, (out_rep hr.hr hbs rt hS (fun j x hx => by rw [Nat.zero_add]; exact hx) hv' hvr).1, hb, fun p x hp => ?_, fun i B p hB hf => ?_, hr.gr⟩
      · obtain ⟨_, g2, g3⟩ := hr.fr p x hp (fun h => h)
        exact ⟨g2, g3⟩
      · obtain ⟨⟨b, t, o⟩, g1, g2⟩ := res_back hbs hB
        cases o with
        | none => simp [Pl.res, g1] at hf
        | some i' =>
          simp only [Pl.res, g1] at hf
          obtain ⟨_, _, hl, _⟩ := outBlk_look g2
          cases hq : w.at? p with
          | none => rfl
          | some x => exact ((hr.fr p x hq (fun h => h)).1 i' _ hl hf).elim
  cases e with
  | exit j => exact nomatch hK
  | normal =>
    simp only [fin, Option.bind_eq_some_iff] at hK
    obtain ⟨v, hv, o, hcn, hdec⟩ := hK
    exact key v hv (hcn.trans (congrArg some ((hd o r hdec).trans ho)))
  | ret =>
    simp only [fin, Option.bind_eq_some_iff] at hK
    obtain ⟨v, hv, o, hcn, hdec⟩ := hK
    exact key v hv (hcn.trans (congrArg some ((hd o r hdec).trans ho)))
end
end Go.Proofs.Ev

namespace Go.Proofs.Ev
variable [Tok]
set_option linter.unusedSectionVars false
section
variable {w : World} {H : Heap} {pl : Pl} {P : Program}
end
/-- A parameter's shape. -/
inductive Sh where
  | one (t : Ty)
  | agg (ts : List Ty)
  | fn
def toArg (h : Heap) : Sh → SV → Option (List Nat × Arg)
  | .one t, v => (v.asR h t).bind fun p => some (p.1, .one p.2)
  | .agg ts, .agg cs => (asRs h ts cs).bind fun p => some (p.1, .agg p.2)
  | .fn, .fn f [] [] => some ([], .fn f [] [])
  | _, _ => none
def toArgs (h : Heap) : List Sh → List SV → Option (List Nat × List Arg)
  | [], [] => some ([], [])
  | s :: ss, v :: vs => (toArg h s v).bind fun p => (toArgs h ss vs).bind fun q => some (p.1 ++ q.1, p.2 :: q.2)
  | _, _ => none
mutual
/-- A result where it is called. -/
def SV.shift (n : Nat) (d : List Nat) : SV → SV
  | .own i => .own (n + i)
  | .r [] x => mkR d x
  | .nilS => .nilS
  | .agg cs => .agg (shiftL n d cs)
  | .tup cs => .tup (shiftL n d cs)
  | _ => .undef
def shiftL (n : Nat) (d : List Nat) : List SV → List SV
  | [] => []
  | v :: l => v.shift n d :: shiftL n d l
end
def Blk.shift (d : List Nat) : Blk → Blk
  | .arr none t xs => .arr none t xs
  | .arr (some _) t xs => .arr (some d) t xs
  | .box cs => .box cs
def shiftB (d : List Nat) : List Blk → List Blk
  | [] => []
  | b :: l => b.shift d :: shiftB d l
def goodB : List Blk → Bool
  | [] => true
  | .arr none _ _ :: l => goodB l
  | .arr (some []) _ _ :: l => goodB l
  | _ :: _ => false
/-- An oracle out of a function: 'G' gives, for the arguments, what comes of it. -/
abbrev PG := (ρ : Type) → List Arg → (Out → Option ρ) → Option ρ
def pureOrc (ss : List Sh) (G : PG) : Orc := fun ρ nid vs h K =>
  (toArgs h ss vs).bind fun p => G ρ p.2 fun o => cond (goodB o.2) (K { v := o.1.shift nid p.1, news := shiftB p.1 o.2 }) none
def PureOk (P : Program) (g : FuncId) (G : PG) : Prop :=
  ∀ (ρ : Type) args (K : Out → Option ρ) (out : ρ), G ρ args K = some out → ∃ o, K o = some out ∧ PureCalls P g args o
section
variable {w : World} {H : Heap} {pl : Pl} {P : Program}
theorem toArg_rep (hr : HRel H pl w) {s : Sh} {v : SV} {u : Value} {d : List Nat} {x : Arg} (h : toArg H s v = some (d, x)) (hv : SVRep w H pl v u) : RepArg w (okd H pl d) x u := by
  unfold toArg at h
  split at h
  · simp only [Option.bind_eq_some_iff, Option.some.injEq, Prod.mk.injEq] at h
    obtain ⟨⟨d', r⟩, h1, rfl, rfl⟩ := h
    exact asR_rep hr h1 hv
  · simp only [Option.bind_eq_some_iff, Option.some.injEq, Prod.mk.injEq] at h
    obtain ⟨⟨d', rs⟩, h1, rfl, rfl⟩ := h
    cases hv with
    | agg cs vs hl h2 h3 =>
      obtain ⟨g1, g2⟩ := asRs_rep hr h1 (us := vs.toList) (by simpa using hl) fun j x u hx hu => h3 j x u hx (by simpa using hu)
      exact ⟨vs, rfl, by simpa using g1, fun j r u hr hu => g2 j r u hr (by simpa using hu)⟩
  · cases h
    cases hv with
    | fn f as bs us vs hl h1 hl' h2 =>
      exact ⟨us, vs, rfl, ⟨hl, fun j r u hr _ => by simp at hr⟩, ⟨hl', fun j r u hr _ => by simp at hr⟩⟩
  · exact nomatch h
theorem RepArg.mono {ok ok' : Cell → Prop} (hk : ∀ p, ok p → ok' p) {x : Arg} {u : Value} (h : RepArg w ok x u) : RepArg w ok' x u := by
  cases x with
  | one r => exact RepR.frame h fun p u hp hu => ⟨hk p hp, hu⟩
  | agg rs => obtain ⟨vs, e, h1, h2⟩ := h; exact ⟨vs, e, h1, fun j r u hr hu => (h2 j r u hr hu).frame fun p u hp hu => ⟨hk p hp, hu⟩⟩
  | fn f a b =>
    obtain ⟨us, vs, e, ⟨h1, h2⟩, h3, h4⟩ := h
    exact ⟨us, vs, e, ⟨h1, fun j r u hr hu => (h2 j r u hr hu).frame fun p u hp hu => ⟨hk p hp, hu⟩⟩, h3, fun j r u hr hu => (h4 j r u hr hu).frame fun p u hp hu => ⟨hk p hp, hu⟩⟩
theorem toArgs_rep (hr : HRel H pl w) : ∀ {ss : List Sh} {vs : List SV} {us : List Value} {d : List Nat} {xs : List Arg}, toArgs H ss vs = some (d, xs) → vs.length = us.length →
    (∀ (j : Nat) (x : SV) (u : Value), vs[j]? = some x → us[j]? = some u → SVRep w H pl x u) →
    xs.length = us.length ∧ ∀ (j : Nat) (x : Arg) (u : Value), xs[j]? = some x → us[j]? = some u → RepArg w (okd H pl d) x u
  | [], [], us, d, xs, h, hl, _ => by cases h; exact ⟨hl, fun j r u hr _ => by simp at hr⟩
  | s :: ss, v :: vs, u :: us, d, xs, h, hl, hp => by
    simp only [toArgs, Option.bind_eq_some_iff, Option.some.injEq, Prod.mk.injEq] at h
    obtain ⟨⟨d1, x1⟩, h1, ⟨d2, xs2⟩, h2, rfl, rfl⟩ := h
    obtain ⟨g1, g2⟩ := toArgs_rep hr h2 (by simpa using hl) fun j x u hx hu => hp (j + 1) x u (by simpa using hx) (by simpa using hu)
    refine ⟨by simp [g1], fun j r u' hj hu => ?_⟩
    cases j with
    | zero => simp at hj hu; subst hj hu; exact (toArg_rep hr h1 (hp 0 v u rfl rfl)).mono fun p hp => okd_mono (fun i hi => by rw [mem_append, hi]; rfl) hp
    | succ j => exact (g2 j r u' (by simpa using hj) (by simpa using hu)).mono fun p hp => okd_mono (fun i hi => by rw [mem_append, hi, Bool.or_true]) hp
  | [], _ :: _, _, _, _, h, _, _ => nomatch h
  | _ :: _, [], _, _, _, h, _, _ => nomatch h
theorem look_shiftB (d : List Nat) (bs : List Blk) (n i : Nat) : look (newsH n (shiftB d bs)) i = (look (newsH n bs) i).map (Blk.shift d) := by
  induction bs generalizing n with
  | nil => rfl
  | cons b l ih =>
    rw [shiftB, newsH, newsH, look_cons, look_cons, ih]
    by_cases h : n = i <;> simp [h]
theorem goodB_spec : ∀ {bs : List Blk}, goodB bs = true → ∀ (k : Nat) (b : Blk), bs[k]? = some b → ∃ t xs, b = .arr none t xs ∨ b = .arr (some []) t xs
  | .arr none t xs :: l, h, k, b, hb => by
    cases k with
    | zero => simp at hb; exact ⟨t, xs, .inl hb.symm⟩
    | succ k => exact goodB_spec (bs := l) h k b (by simpa using hb)
  | .arr (some []) t xs :: l, h, k, b, hb => by
    cases k with
    | zero => simp at hb; exact ⟨t, xs, .inr hb.symm⟩
    | succ k => exact goodB_spec (bs := l) h k b (by simpa using hb)
def Pl.join (pl po : Pl) (n m : Nat) : Pl := ⟨fun i => if i < n ∨ n + m ≤ i then pl.hdr i else po.hdr (i - n), fun i => if i < n ∨ n + m ≤ i then pl.fp i else po.fp (i - n), pl.base⟩
section
variable {w w' : World} {H : Heap} {pl po : Pl} {n : Nat} {bs : List Blk} {d : List Nat}
theorem look_lt {i : Nat} {B : Blk} {bs : List Blk} (h : look (newsH 0 bs) i = some B) : i < bs.length := by
  rw [look_newsH, if_pos (Nat.zero_le _), Nat.sub_zero] at h
  exact (List.getElem?_eq_some_iff.1 h).1
theorem shiftB_length (d : List Nat) : (bs : List Blk) → (shiftB d bs).length = bs.length
  | [] => rfl
  | _ :: l => by simp [shiftB, shiftB_length d l]
theorem look_out {d : List Nat} {bs : List Blk} {n i : Nat} (hi : i < n ∨ n + bs.length ≤ i) : look (newsH n (shiftB d bs)) i = none := by
  rw [look_newsH]
  by_cases h : n ≤ i
  · rw [if_pos h, List.getElem?_eq_none]; rw [shiftB_length]; omega
  · rw [if_neg h]
theorem look_in {H : Heap} {n m i : Nat} (hn : ∀ k, k < m → look H (n + k) = none) (hi : ¬ (i < n ∨ n + m ≤ i)) : look H i = none := by
  have := hn (i - n) (by omega)
  rwa [show n + (i - n) = i from by omega] at this
theorem toArg_le {h h' : Heap} (hh : Ext h h') (s : Sh) (v : SV) : Le (toArg h s v) (toArg h' s v) := by
  intro p hp
  unfold toArg at hp
  split at hp <;> simp only [toArg]
  · exact ((asR_le hh _ _).bind fun _ => Le.refl _) p hp
  · exact ((asRs_le hh _ _).bind fun _ => Le.refl _) p hp
  · exact hp
  · exact nomatch hp
theorem toArgs_le {h h' : Heap} (hh : Ext h h') : (ss : List Sh) → (vs : List SV) → Le (toArgs h ss vs) (toArgs h' ss vs)
  | [], [] => Le.refl _
  | s :: ss, v :: vs => (toArg_le hh s v).bind fun _ => (toArgs_le hh ss vs).bind fun _ => Le.refl _
  | [], _ :: _ => Le.refl _
  | _ :: _, [] => Le.refl _
/-- What a result that is read only reads, where it is called. -/
theorem join_okd (hr : HRel H pl w) (hn : ∀ k, k < bs.length → look H (n + k) = none) (hown : ∀ i B p, look H i = some B → pl.fp i p → ∃ u, w.at? p = some u)
    (hb : po.base = fun p => okd H pl d p ∨ w.at? p = none) {p : Cell} (h : okd (newsH 0 bs) po [] p) : okd (H ++ newsH n (shiftB d bs)) (pl.join po n bs.length) d p := by
  have hbase : okd H pl d p ∨ w.at? p = none := by have := h.1; rw [hb] at this; exact this
  refine ⟨hbase.elim (fun h => h.1) (hr.nb p), fun i B hB hm hf => ?_⟩
  by_cases hi : i < n ∨ n + bs.length ≤ i
  · simp only [Pl.join, if_pos hi] at hf
    have hB' : look H i = some B := by
      rw [look_append, look_out hi] at hB
      simpa using hB
    rcases hbase with h' | h'
    · exact h'.2 i B hB' hm hf
    · obtain ⟨u, hu⟩ := hown i B p hB' hf
      rw [h'] at hu; exact nomatch hu
  · simp only [Pl.join, if_neg hi] at hf
    rw [look_append, look_in hn hi, look_shiftB, look_newsH, if_pos (by omega)] at hB
    simp only [Option.none_or, Option.map_eq_some_iff] at hB
    obtain ⟨b0, hb0, rfl⟩ := hB
    exact h.2 (i - n) b0 (by rw [look_newsH, if_pos (Nat.zero_le _), Nat.sub_zero]; exact hb0) (fun hm => by simp [mem] at hm) hf
theorem join_look (hn : ∀ k, k < bs.length → look H (n + k) = none) (k : Nat) (hk : k < bs.length) : look (H ++ newsH n (shiftB d bs)) (n + k) = (look (newsH 0 bs) k).map (Blk.shift d) := by
  rw [look_append, hn _ hk, look_shiftB, look_newsH, look_newsH, if_pos (by omega), if_pos (Nat.zero_le _), Nat.add_sub_cancel_left, Nat.sub_zero]; rfl
mutual
theorem shift_rep (hr : HRel H pl w) (hn : ∀ k, k < bs.length → look H (n + k) = none) (hown : ∀ i B p, look H i = some B → pl.fp i p → ∃ u, w.at? p = some u)
    (hb : po.base = fun p => okd H pl d p ∨ w.at? p = none) : (v : SV) → {u : Value} → SVRep w' (newsH 0 bs) po v u → SVRep w' (H ++ newsH n (shiftB d bs)) (pl.join po n bs.length) (v.shift n d) u
  | .own i, u, h => by
    cases h with
    | own _ sh t xs hl =>
      have hib : i < bs.length := look_lt hl
      have hk := join_look (d := d) (bs := bs) hn i hib
      rw [hl] at hk
      have hh : (pl.join po n bs.length).hdr (n + i) = po.hdr i := by
        show (if n + i < n ∨ n + bs.length ≤ n + i then _ else po.hdr (n + i - n)) = po.hdr i
        rw [if_neg (by omega), Nat.add_sub_cancel_left]
      rw [← hh]
      cases sh with
      | none => exact .own (n + i) none t xs hk
      | some d0 => exact .own (n + i) (some d) t xs hk
  | .r [] x, u, h => by
    cases h with
    | r _ _ _ hx => exact rep_mkR (hx.frame fun p u hp hu => ⟨join_okd hr hn hown hb hp, hu⟩)
  | .r (_ :: _) x, u, h => .undef _
  | .nilS, u, h => by cases h; exact .nilS
  | .agg cs, u, h => by
    cases h with
    | agg _ vs h1 h2 h3 =>
      obtain ⟨g1, g2⟩ := shiftL_rep hr hn hown hb cs vs.toList (by simpa using h1) fun j x u hx hu => h3 j x u hx (by simpa using hu)
      exact .agg _ _ (by simpa using g1) h2 fun j x u hx hu => g2 j x u hx (by simpa using hu)
  | .tup cs, u, h => by
    cases h with
    | tup _ vs h1 h3 =>
      obtain ⟨g1, g2⟩ := shiftL_rep hr hn hown hb cs vs.toList (by simpa using h1) fun j x u hx hu => h3 j x u hx (by simpa using hu)
      exact .tup _ _ (by simpa using g1) fun j x u hx hu => g2 j x u hx (by simpa using hu)
  | .nilP, _, _ => .undef _
  | .sub _ _ _, _, _ => .undef _
  | .bsl _ _, _, _ => .undef _
  | .ptr _ _ _, _, _ => .undef _
  | .inn _ _ _, _, _ => .undef _
  | .rptr _ _, _, _ => .undef _
  | .fn _ _ _, _, _ => .undef _
  | .undef, _, _ => .undef _
theorem shiftL_rep (hr : HRel H pl w) (hn : ∀ k, k < bs.length → look H (n + k) = none) (hown : ∀ i B p, look H i = some B → pl.fp i p → ∃ u, w.at? p = some u)
    (hb : po.base = fun p => okd H pl d p ∨ w.at? p = none) : (cs : List SV) → (us : List Value) → cs.length = us.length →
    (∀ (j : Nat) (x : SV) (u : Value), cs[j]? = some x → us[j]? = some u → SVRep w' (newsH 0 bs) po x u) →
    (shiftL n d cs).length = us.length ∧ ∀ (j : Nat) (x : SV) (u : Value), (shiftL n d cs)[j]? = some x → us[j]? = some u → SVRep w' (H ++ newsH n (shiftB d bs)) (pl.join po n bs.length) x u
  | [], us, hl, _ => ⟨hl, fun j x u hx _ => by simp [shiftL] at hx⟩
  | v :: cs, u :: us, hl, hp => by
    obtain ⟨g1, g2⟩ := shiftL_rep hr hn hown hb cs us (by simpa using hl) fun j x u hx hu => hp (j + 1) x u (by simpa using hx) (by simpa using hu)
    refine ⟨by simp [shiftL, g1], fun j x u' hx hu => ?_⟩
    cases j with
    | zero => simp [shiftL] at hx hu; subst hx hu; exact shift_rep hr hn hown hb v (hp 0 v u rfl rfl)
    | succ j => exact g2 j x u' (by simpa [shiftL] using hx) (by simpa using hu)
end
theorem join_step (hgr : Grown w w') (hr : HRel H pl w) (hn : ∀ k, k < bs.length → look H (n + k) = none) (hg : goodB bs = true) (hro : HRel (newsH 0 bs) po w') (hb : po.base = fun p => okd H pl d p ∨ w.at? p = none)
    (hold : ∀ p x, w.at? p = some x → w'.at? p = some x ∧ w'.ice? p = w.ice? p) (hnew : ∀ i B p, look (newsH 0 bs) i = some B → po.fp i p → w.at? p = none) :
    StepTo H (H ++ newsH n (shiftB d bs)) ([], []) pl (pl.join po n bs.length) w w' := by
  have hown := hr.own_there
  have hcase : ∀ i B, look (H ++ newsH n (shiftB d bs)) i = some B → ((i < n ∨ n + bs.length ≤ i) ∧ look H i = some B) ∨ (¬ (i < n ∨ n + bs.length ≤ i) ∧ ∃ b0, look (newsH 0 bs) (i - n) = some b0 ∧ B = b0.shift d) := fun i B hB => by
    by_cases hi : i < n ∨ n + bs.length ≤ i
    · rw [look_append, look_out hi] at hB
      exact .inl ⟨hi, by simpa using hB⟩
    · rw [show i = n + (i - n) from by omega, join_look hn _ (by omega)] at hB
      obtain ⟨b0, h1, h2⟩ := Option.map_eq_some_iff.1 hB
      exact .inr ⟨hi, b0, h1, h2.symm⟩
  have hlt : ∀ i B, look H i = some B → (i < n ∨ n + bs.length ≤ i) := fun i B hB => by
    by_cases hi : i < n ∨ n + bs.length ≤ i
    · exact hi
    · rw [look_in hn hi] at hB; exact nomatch hB
  have hkeep : Keeps ([], []) w H pl w' (H ++ newsH n (shiftB d bs)) (pl.join po n bs.length) := by
    refine ⟨fun i B hB _ => ⟨B, by rw [look_append, hB]; rfl, B.like_refl, by simp only [Pl.join, if_pos (hlt i B hB)]⟩, fun d' p u _ hok hu => ⟨⟨hok.1, fun i B hB hm hf => ?_⟩, (hold p u hu).1⟩⟩
    rcases hcase i B hB with ⟨hi, hB'⟩ | ⟨hi, b0, h1, _⟩
    · simp only [Pl.join, if_pos hi] at hf; exact hok.2 i B hB' hm hf
    · simp only [Pl.join, if_neg hi] at hf
      rw [hnew _ b0 p h1 hf] at hu; exact nomatch hu
  refine ⟨⟨fun i B hB => ?_, fun i j B B' p h1 h2 f1 f2 => ?_, fun i B p hB hf => ?_, fun p hp => hr.nb p ?_⟩, hkeep, rfl, hgr, fun p u hp hno => ⟨fun i B hB hf => ?_, hold p u hp⟩⟩
  · rcases hcase i B hB with ⟨hi, hB'⟩ | ⟨hi, b0, h1, rfl⟩
    · exact (hr.blk i B hB').keep hkeep (by simp only [Pl.join, if_pos hi]) (fun p => by simp only [Pl.join, if_pos hi]) (fun p u _ hu => hold p u hu) B.sweep_nil
    · have hbl := hro.blk _ b0 h1
      have hget : bs[i - n]? = some b0 := by rw [look_newsH, if_pos (Nat.zero_le _), Nat.sub_zero] at h1; exact h1
      have e1 : (pl.join po n bs.length).hdr i = po.hdr (i - n) := by simp only [Pl.join, if_neg hi]
      have e2 : (pl.join po n bs.length).fp i = po.fp (i - n) := by simp only [Pl.join, if_neg hi]
      obtain ⟨t, xs, rfl | rfl⟩ := goodB_spec hg _ _ hget
      · show Nonempty (Row w' (RepD w') t xs ((pl.join po n bs.length).hdr i) ((pl.join po n bs.length).fp i))
        rw [e1, e2]; exact hbl
      · obtain ⟨⟨a, cap, b, o, vs, fs, q1, q2, q3, q4, q5, q6, q7, q8, q9⟩⟩ := hbl
        refine ⟨⟨a, cap, b, o, vs, fs, by rw [e1]; exact q1, q2, q3, q4, q5, fun i j r hc => ⟨(q6 i j r hc).1.frame fun p u hp hu => ⟨join_okd hr hn hown hb hp, hu⟩, (q6 i j r hc).2⟩, q7, q8, fun p => by rw [e2]; exact q9 p⟩⟩
  · rcases hcase i B h1 with ⟨hi, q1⟩ | ⟨hi, b0, q1, _⟩ <;> rcases hcase j B' h2 with ⟨hj, q2⟩ | ⟨hj, b1, q2, _⟩
    · simp only [Pl.join, if_pos hi] at f1
      simp only [Pl.join, if_pos hj] at f2
      exact hr.dis i j _ _ p q1 q2 f1 f2
    · simp only [Pl.join, if_pos hi] at f1
      simp only [Pl.join, if_neg hj] at f2
      obtain ⟨u, hu⟩ := hown i _ p q1 f1
      rw [hnew _ _ p q2 f2] at hu; exact nomatch hu
    · simp only [Pl.join, if_neg hi] at f1
      simp only [Pl.join, if_pos hj] at f2
      obtain ⟨u, hu⟩ := hown j _ p q2 f2
      rw [hnew _ _ p q1 f1] at hu; exact nomatch hu
    · simp only [Pl.join, if_neg hi] at f1
      simp only [Pl.join, if_neg hj] at f2
      have := hro.dis _ _ _ _ p q1 q2 f1 f2
      omega
  · rcases hcase i B hB with ⟨hi, q1⟩ | ⟨hi, b0, q1, _⟩
    · simp only [Pl.join, if_pos hi] at hf; exact hr.ob i B p q1 hf
    · simp only [Pl.join, if_neg hi] at hf
      exact hr.nb p (hnew _ _ p q1 hf)
  · cases hq : w.at? p with
    | none => rfl
    | some u => rw [(hold p u hq).1] at hp; exact nomatch hp
  · rcases hcase i B hB with ⟨hi, q1⟩ | ⟨hi, b0, q1, _⟩
    · simp only [Pl.join, if_pos hi] at hf; exact hno i B q1 hf
    · simp only [Pl.join, if_neg hi] at hf
      rw [hnew _ _ p q1 hf] at hp; exact nomatch hp
end
theorem pureOrc_ok {g : FuncId} {ss : List Sh} {G : PG} (h : PureOk P g G) : OrcOk P g (pureOrc ss G) := by
  intro ρ nid vs H K out hK
  simp only [pureOrc, Option.bind_eq_some_iff] at hK
  obtain ⟨⟨d, args⟩, hargs, hG⟩ := hK
  obtain ⟨o, ho, hen, hcalls⟩ := h ρ args _ out hG
  cases hg : goodB o.2 <;> simp only [hg, cond_true, cond_false] at ho
  · exact nomatch ho
  · refine ⟨_, ho, hen, fun i B hB => by simp [look] at hB, fun H1 pl w us he hr hn hl hp H' ha => ?_⟩
    have hn : ∀ k, k < o.2.length → look H1 (nid + k) = none := fun k hk => hn k (by rw [shiftB_length]; exact hk)
    obtain ⟨g1, g2⟩ := toArgs_rep (us := us.toList) hr (toArgs_le he _ _ _ hargs) (by simpa using hl) fun j x u hx hu => hp j x u hx (by simpa using hu)
    refine (hcalls w us (okd H1 pl d) (by simpa using g1) fun j x u hx hu => g2 j x u hx (by simpa using hu)).mono fun e w' ⟨u, po, he, h1, h2, h3, h4, h5, h6⟩ => ?_
    cases ha
    have hst := join_step (d := d) h6 hr hn hg h1 h3 h4 h5
    exact ⟨u, _, he, hst, shift_rep hr hn hr.own_there h3 o.1 h2⟩
end
end Go.Proofs.Ev
