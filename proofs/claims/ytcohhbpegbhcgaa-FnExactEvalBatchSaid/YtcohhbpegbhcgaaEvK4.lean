/- The evaluator over the model's code, and that it is sound: part 4. -/
import Derived.Test.YtcohhbpegbhcgaaEvK3
import Derived.Tactics
import Derived.LoopN
import Derived.Scope
set_option linter.unusedVariables false
set_option linter.unusedSimpArgs false
set_option linter.unusedVariables false
namespace Go.Proofs.Ev
variable [Tok]
set_option linter.unusedSectionVars false
def Wanted (masks : List Nat) (i : Nat) (o : Oper) (rs : List DR) (t : Bool) : Prop :=
  match o.guard with
  | none => t = true
  | some (g, want) => (masks.getD i 0).testBit g = true ∧ ∃ r d, rs[g]? = some r ∧ r.dst = some d ∧ ((∃ b, r.c.v = .r [] (.bool b) ∧ t = (b == want)) ∨ (r.c.v = .tup [] ∧ t = false))
def GoodR (E : Env) (ops : List Oper) (masks dsts : List Nat) (s0 : List (Nat × SV)) (h0 : Heap) (rs : List DR) (i : Nat) (o : Oper) (r : DR) : Prop :=
  r.dst = o.dst ∧ okW E o.op r.c = true ∧ ∃ x t, replay (Nat.testBit (masks.getD i 0)) 0 (rs.take i) (restr (banT masks i 0 ops) s0 (tempsOf o.op.operands.toList), h0) = some x ∧ Wanted masks i o rs t ∧
    ((t = true ∧ r.see = seeB E masks i ops x o ∧ OpGen E.P o r.n0 r.c x.1 (viewB E masks i ops x o)) ∨ (t = false ∧ r.c = { v := .tup [] }))
structure Facts (E : Env) (ops : List Oper) (masks dsts : List Nat) (s0 : List (Nat × SV)) (h0 : Heap) (nid0 : Nat) (rs : List DR) (m nid : Nat) : Prop where
  len : rs.length = m
  good : ∀ (i : Nat) (o : Oper) (r : DR), ops[i]? = some o → rs[i]? = some r → GoodR E ops masks dsts s0 h0 rs i o r
  lo : ∀ (i : Nat) (r : DR), rs[i]? = some r → nid0 ≤ r.n0 ∧ r.n0 + r.c.news.length ≤ nid
  ord : ∀ (i j : Nat) (a b : DR), i < j → rs[i]? = some a → rs[j]? = some b → a.n0 + a.c.news.length ≤ b.n0
theorem Wanted.more {masks : List Nat} {i : Nat} {o : Oper} {rs : List DR} {t : Bool} (h : Wanted masks i o rs t) (r : DR) : Wanted masks i o (rs ++ [r]) t := by
  unfold Wanted at *
  split at h
  · exact h
  · obtain ⟨h1, r', d, h2, h3, h4⟩ := h
    exact ⟨h1, r', d, by rw [List.getElem?_append_left (List.getElem?_eq_some_iff.1 h2).1]; exact h2, h3, h4⟩
section
variable {ρ : Type} {E : Env} {ops : List Oper} {masks dsts : List Nat} {s0 : List (Nat × SV)} {h0 : Heap} {nid0 : Nat}
theorem Facts.push {rs : List DR} {m nid : Nat} (F : Facts E ops masks dsts s0 h0 nid0 rs m nid) (h0n : nid0 ≤ nid) {o : Oper} {r : DR} (ho : ops[m]? = some o) (hr : GoodR E ops masks dsts s0 h0 (rs ++ [r]) m o r) (hn : r.n0 = nid) :
    Facts E ops masks dsts s0 h0 nid0 (rs ++ [r]) (m + 1) (nid + r.c.news.length) := by
  have hcase : ∀ (i : Nat) (b : DR), (rs ++ [r])[i]? = some b → (i < m ∧ rs[i]? = some b) ∨ (i = m ∧ b = r) := fun i b hb => by
    by_cases c : i < m
    · rw [List.getElem?_append_left (by rw [F.len]; exact c)] at hb; exact .inl ⟨c, hb⟩
    · rw [List.getElem?_append_right (by rw [F.len]; omega), F.len] at hb
      have hi : i - m < 1 := by have := (List.getElem?_eq_some_iff.1 hb).1; simpa using this
      have : i - m = 0 := by omega
      rw [this] at hb; simp at hb
      exact .inr ⟨by omega, hb.symm⟩
  refine ⟨by simp [F.len], fun i o' b ho' hb => ?_, fun i b hb => ?_, fun i j a b hij ha hb => ?_⟩
  · rcases hcase i b hb with ⟨hi, h⟩ | ⟨rfl, rfl⟩
    · obtain ⟨g1, g2, x, t, g3, g4, g5⟩ := F.good i o' b ho' h
      exact ⟨g1, g2, x, t, by rw [List.take_append_of_le_length (by rw [F.len]; omega)]; exact g3, g4.more r, g5⟩
    · rw [ho] at ho'; cases ho'; exact hr
  · rcases hcase i b hb with ⟨hi, h⟩ | ⟨rfl, rfl⟩
    · have := F.lo i b h; exact ⟨this.1, by omega⟩
    · exact ⟨by omega, by omega⟩
  · rcases hcase j b hb with ⟨hj, h⟩ | ⟨rfl, rfl⟩
    · rcases hcase i a ha with ⟨hi, h'⟩ | ⟨rfl, rfl⟩
      · exact F.ord i j a b hij h' h
      · omega
    · rcases hcase i a ha with ⟨hi, h'⟩ | ⟨rfl, rfl⟩
      · have := F.lo i a h'; omega
      · omega
theorem setV_id : ∀ {rs : List DR} {g : Nat} {r : DR} {v : SV}, rs[g]? = some r → r.c.v = v → setV rs g v = rs
  | [], _, _, _, h, _ => by simp at h
  | x :: l, 0, r, v, h, hv => by simp at h; subst h; subst hv; rfl
  | x :: l, g + 1, r, v, h, hv => by simp only [setV]; rw [setV_id (rs := l) (by simpa using h) hv]
theorem evDraw_facts (hE : EnvOk E) {out : ρ} : ∀ (rest : List Oper) (i nid : Nat) (rs : List DR) (K : List DR → Nat → Option ρ), evDraw E ops masks dsts s0 h0 i rest nid rs K = some out →
    Facts E ops masks dsts s0 h0 nid0 rs i nid → nid0 ≤ nid → ops.drop i = rest → ∃ rs' nid', K rs' nid' = some out ∧ nid0 ≤ nid' ∧ Facts E ops masks dsts s0 h0 nid0 rs' (i + rest.length) nid'
  | [], i, nid, rs, K, h, F, hn, _ => ⟨rs, nid, h, hn, F⟩
  | o :: rest, i, nid, rs, K, h, F, hn, hd => by
    have ho : ops[i]? = some o := by rw [← List.head?_drop, hd]; rfl
    have hd' : ops.drop (i + 1) = rest := by rw [← List.drop_drop, hd]; rfl
    have htake : ∀ r, (rs ++ [r]).take i = rs := fun r => by rw [List.take_append_of_le_length (by rw [F.len]; omega), ← F.len, List.take_length]
    simp only [evDraw, Option.bind_eq_some_iff] at h
    obtain ⟨x, hx, h⟩ := h
    have exec : ∀ t, (∀ r, Wanted masks i o (rs ++ [r]) t) → t = true → (evMem E x.1 (viewB E masks i ops x o) nid o.op fun c => cond (okW E o.op c) (evDraw E ops masks dsts s0 h0 (i + 1) rest (nid + c.news.length) (rs ++ [⟨o.dst, nid, c, seeB E masks i ops x o⟩]) K) none) = some out →
        ∃ rs' nid', K rs' nid' = some out ∧ nid0 ≤ nid' ∧ Facts E ops masks dsts s0 h0 nid0 rs' (i + (o :: rest).length) nid' := fun t hw ht h => by
      obtain ⟨c, hc, hg⟩ := evMem_gen hE h
      cases hok : okW E o.op c <;> simp only [hok, cond_true, cond_false] at hc
      · exact nomatch hc
      · have F' := F.push hn (r := ⟨o.dst, nid, c, seeB E masks i ops x o⟩) ho ⟨rfl, hok, x, t, by rw [htake]; exact hx, hw _, .inl ⟨ht, rfl, hg⟩⟩ rfl
        have := evDraw_facts hE rest (i + 1) _ _ K hc F' (by omega) hd'
        rwa [show i + 1 + rest.length = i + (o :: rest).length from by simp; omega] at this
    have skip : ∀ t, (∀ r, Wanted masks i o (rs ++ [r]) t) → t = false → evDraw E ops masks dsts s0 h0 (i + 1) rest nid (rs ++ [⟨o.dst, nid, { v := .tup [] }, []⟩]) K = some out →
        ∃ rs' nid', K rs' nid' = some out ∧ nid0 ≤ nid' ∧ Facts E ops masks dsts s0 h0 nid0 rs' (i + (o :: rest).length) nid' := fun t hw ht h => by
      have F' := F.push hn (r := ⟨o.dst, nid, { v := .tup [] }, []⟩) ho ⟨rfl, by simp only [okW, isNil, CR.kil, List.nil_append]; cases isWriter E o.op <;> rfl, x, t, by rw [htake]; exact hx, hw _, .inr ⟨ht, rfl⟩⟩ rfl
      have := evDraw_facts hE rest (i + 1) _ _ K h F' (by simpa using hn) hd'
      rwa [show i + 1 + rest.length = i + (o :: rest).length from by simp; omega] at this
    split at h
    · rename_i hg
      exact exec true (fun r => by unfold Wanted; rw [hg]) rfl h
    · rename_i g want hg
      cases hb : (masks.getD i 0).testBit g <;> simp only [hb, cond_true, cond_false] at h
      · exact nomatch h
      · simp only [Option.bind_eq_some_iff] at h
        obtain ⟨r, hr, d, hdst, h⟩ := h
        split at h
        · rename_i hv
          exact skip false (fun r' => Wanted.more (by
            unfold Wanted; rw [hg]; exact ⟨hb, r, d, hr, hdst, .inr ⟨hv, rfl⟩⟩) r') rfl h
        · rename_i b hv
          have hw : ∀ r', Wanted masks i o (rs ++ [r']) (b == want) := fun r' => Wanted.more (by
            unfold Wanted; rw [hg]; exact ⟨hb, r, d, hr, hdst, .inl ⟨b, hv, rfl⟩⟩) r'
          cases b <;> simp only [cond_true, cond_false] at h
          · rw [setV_id hr hv] at h
            cases want <;> simp only [cond_true, cond_false] at h
            · exact exec _ hw rfl h
            · exact skip _ hw rfl h
          · rw [setV_id hr hv] at h
            cases want <;> simp only [cond_true, cond_false] at h
            · exact skip _ hw rfl h
            · exact exec _ hw rfl h
        · exact nomatch h
end
theorem pairs1_spec {masks : List Nat} {i : Nat} {r : DR} : ∀ {l : List DR} {k : Nat}, pairs1 masks i r k l = true → ∀ (j : Nat) (b : DR), l[j]? = some b → (masks.getD (k + j) 0).testBit i = true ∨ commB r b = true
  | [], _, _, j, b, hb => by simp at hb
  | x :: l, k, h, j, b, hb => by
    simp only [pairs1] at h
    have hl : pairs1 masks i r (k + 1) l = true ∧ ((masks.getD k 0).testBit i = true ∨ commB r x = true) := by
      cases h1 : (masks.getD k 0).testBit i <;> simp only [h1, cond_true, cond_false] at h
      · cases h2 : commB r x <;> simp only [h2, cond_true, cond_false] at h
        · exact nomatch h
        · exact ⟨h, .inr rfl⟩
      · exact ⟨h, .inl rfl⟩
    cases j with
    | zero => simp at hb; subst hb; exact hl.2
    | succ j => have := pairs1_spec hl.1 j b (by simpa using hb); rwa [show k + 1 + j = k + (j + 1) from by omega] at this
theorem pairsB_spec {masks : List Nat} : ∀ {l : List DR} {k : Nat}, pairsB masks k l = true → ∀ (i j : Nat) (a b : DR), i < j → l[i]? = some a → l[j]? = some b → (masks.getD (k + j) 0).testBit (k + i) = true ∨ commB a b = true
  | [], _, _, i, j, a, b, _, ha, _ => by simp at ha
  | x :: l, k, h, i, j, a, b, hij, ha, hb => by
    simp only [pairsB] at h
    cases h1 : pairs1 masks k x (k + 1) l <;> simp only [h1, cond_true, cond_false] at h
    · exact nomatch h
    · obtain ⟨j, rfl⟩ : ∃ j', j = j' + 1 := ⟨j - 1, by omega⟩
      cases i with
      | zero =>
        simp at ha; subst ha
        have := pairs1_spec h1 j b (by simpa using hb)
        rwa [show k + 1 + j = k + (j + 1) from by omega] at this
      | succ i =>
        have := pairsB_spec h i j a b (by omega) (by simpa using ha) (by simpa using hb)
        rwa [show k + 1 + j = k + (j + 1) from by omega, show k + 1 + i = k + (i + 1) from by omega] at this
theorem memI {i : Nat} {l : List Nat} : mem i l = true ↔ i ∈ l := by
  induction l with
  | nil => simp [mem]
  | cons k l ih =>
    simp only [mem, List.mem_cons]
    cases h : Nat.beq k i
    · have : ¬ i = k := fun e => by subst e; simp at h
      simp [ih, this]
    · have := Nat.eq_of_beq_eq_true h; simp [this]
theorem ltAll_spec {n : Nat} : ∀ {l : List Nat}, ltAll n l = true → ∀ i ∈ l, i + 1 ≤ n
  | [], _, i, hi => by simp at hi
  | x :: l, h, i, hi => by
    simp only [ltAll] at h
    cases hm : Nat.ble (x + 1) n <;> simp only [hm, cond_true, cond_false] at h
    · exact nomatch h
    · rcases List.mem_cons.1 hi with rfl | hi
      · exact Nat.le_of_ble_eq_true hm
      · exact ltAll_spec h i hi
theorem dstsOf_mem : ∀ {ops : List Oper} {j : Nat} {o : Oper} {t : Nat}, ops[j]? = some o → o.dst = some t → t ∈ dstsOf ops
  | [], j, o, t, h, _ => by simp at h
  | x :: l, 0, o, t, h, hd => by simp at h; subst h; simp [dstsOf, hd]
  | x :: l, j + 1, o, t, h, hd => by
    have := dstsOf_mem (ops := l) (by simpa using h) hd
    simp only [dstsOf]; split <;> simp [this]
theorem dstsOf_inj : ∀ {ops : List Oper}, (dstsOf ops).Nodup → ∀ {i j : Nat} {a b : Oper} {t : Nat}, i ≠ j → ops[i]? = some a → ops[j]? = some b → a.dst = some t → b.dst ≠ some t
  | [], _, i, j, a, b, t, _, h, _, _ => by simp at h
  | x :: l, hn, i, j, a, b, t, hij, ha, hb, h1 => by
    have hl : (dstsOf l).Nodup := by
      simp only [dstsOf] at hn; split at hn
      · exact (List.nodup_cons.1 hn).2
      · exact hn
    have hx : ∀ t, x.dst = some t → t ∉ dstsOf l := fun t ht => by
      simp only [dstsOf, ht] at hn; exact (List.nodup_cons.1 hn).1
    intro h2
    cases i with
    | zero =>
      simp at ha; subst ha
      cases j with
      | zero => exact hij rfl
      | succ j => exact hx t h1 (dstsOf_mem (by simpa using hb) h2)
    | succ i =>
      cases j with
      | zero => simp at hb; subst hb; exact hx t h2 (dstsOf_mem (by simpa using ha) h1)
      | succ j => exact dstsOf_inj (i := i) (j := j) hl (by omega) (by simpa using ha) (by simpa using hb) h1 h2
theorem banT_mem {masks : List Nat} {i : Nat} : ∀ {ops : List Oper} {k j : Nat} {o : Oper} {t : Nat}, ops[j]? = some o → o.dst = some t → (masks.getD (k + j) 0).testBit i = false → t ∈ banT masks i k ops
  | [], k, j, o, t, h, _, _ => by simp at h
  | x :: l, k, 0, o, t, h, hd, hb => by simp at h; subst h; simp only [Nat.add_zero] at hb; simp only [banT, hb, cond_false, hd]; exact List.mem_cons_self ..
  | x :: l, k, j + 1, o, t, h, hd, hb => by
    have := banT_mem (ops := l) (k := k + 1) (by simpa using h) hd (by rw [show k + 1 + j = k + (j + 1) from by omega]; exact hb)
    simp only [banT]
    cases (masks.getD k 0).testBit i <;> simp only [cond_true, cond_false]
    · split <;> simp [this]
    · exact this
theorem look_restr {T : List Nat} {s : List (Nat × SV)} {l : List Nat} {t : Nat} {v : SV} (h : look (restr T s l) t = some v) : t ∉ T ∧ look s t = some v := by
  induction l with
  | nil => exact nomatch h
  | cons k l ih =>
    simp only [restr] at h
    cases hm : mem k T <;> simp only [hm, cond_true, cond_false] at h
    · cases hl : look s k with
      | none => rw [hl] at h; exact ih h
      | some u =>
        rw [hl] at h
        rw [look_cons] at h
        by_cases e : k = t
        · subst e; rw [if_pos rfl] at h; cases h
          exact ⟨fun h => by rw [memI.2 h] at hm; exact (nomatch hm), hl⟩
        · rw [if_neg e] at h; exact ih h
    · exact ih h
theorem blindB_spec {E : Env} {masks : List Nat} {i : Nat} : ∀ {l : List Oper} {k : Nat}, blindB E masks i k l = false → ∀ (j : Nat) (o : Oper), l[j]? = some o → isWriter E o.op = true → ordB masks i (k + j) = true
  | [], _, _, j, o, h, _ => by simp at h
  | x :: l, k, h, j, o, ho, hw => by
    simp only [blindB] at h
    have hl : blindB E masks i (k + 1) l = false ∧ (isWriter E x.op = true → ordB masks i k = true) := by
      cases h1 : isWriter E x.op <;> simp only [h1, cond_true, cond_false] at h
      · exact ⟨h, fun h => nomatch h⟩
      · cases h2 : ordB masks i k <;> simp only [h2, cond_true, cond_false] at h
        · exact nomatch h
        · exact ⟨h, fun _ => rfl⟩
    cases j with
    | zero => simp at ho; subst ho; exact hl.2 hw
    | succ j => have := blindB_spec hl.1 j o (by simpa using ho) hw; rwa [show k + 1 + j = k + (j + 1) from by omega] at this
end Go.Proofs.Ev

set_option linter.unusedVariables false
namespace Go.Proofs.Ev
variable [Tok]
set_option linter.unusedSectionVars false
theorem after_of_app {r : DR} {X X' : SH} (h : r.app X = some X') (hup : ∀ i B, look r.c.upd i = some B → ∃ B', look X.2 i = some B') : ∃ H', after X.2 r.n0 r.c = some H' := by
  unfold DR.app at h
  unfold after
  rw [upds_updsX hup]
  simp only [Option.bind_eq_some_iff, Option.some.injEq] at h
  obtain ⟨h1, e1, _⟩ := h
  exact ⟨_, by rw [e1]; rfl⟩
theorem okW_or {E : Env} {op : Op} {c : CR} (h : okW E op c = true) : isWriter E op = false → c.kil.2 = [] ∧ c.upd = [] := by
  intro hw
  unfold okW at h
  rw [hw] at h
  simp only [cond_false, Bool.and_eq_true] at h
  exact ⟨isNil_eq h.1, isNil_eq h.2⟩
def unl (l : Array Bool) : Nat := l.toList.countP (fun b => !b)
theorem countP_set {l : List Bool} : ∀ {i : Nat}, l[i]? = some false → (l.set i true).countP (fun b => !b) + 1 = l.countP (fun b => !b) := by
  induction l with
  | nil => intro i h; simp at h
  | cons b l ih =>
    intro i h
    cases i with
    | zero => simp at h; subst h; simp
    | succ i => have := ih (i := i) (by simpa using h); simp only [List.set_cons_succ, List.countP_cons]; omega
theorem unl_set {l : Array Bool} {i : Nat} (h : l.getD i true = false) : unl (l.setIfInBounds i true) + 1 = unl l := by
  unfold unl
  rw [Array.toList_setIfInBounds]
  refine countP_set ?_
  rw [Array.getD_eq_getD_getElem?] at h
  cases hq : l[i]? with
  | none => rw [hq] at h; exact nomatch h
  | some b => rw [hq] at h; simp at h; subst h; rw [Array.getElem?_toList, hq]
theorem unl_zero {l : Array Bool} (h : unl l = 0) (i : Nat) : l.getD i true = true := by
  unfold unl at h
  rw [Array.getD_eq_getD_getElem?]
  cases hq : l[i]? with
  | none => rfl
  | some b =>
    cases b
    · have hm : false ∈ l.toList := by
        rw [← Array.getElem?_toList] at hq
        exact List.mem_of_getElem? hq
      have := List.countP_eq_zero.1 h false hm
      simp at this
    · rfl
theorem getD_both' {l : Array Bool} {i : Nat} (hi : i < l.size) : l.getD i true = l.getD i false := by
  simp [Array.getD_eq_getD_getElem?, hi]
section
variable {E : Env} {opsA : Array Oper} {masks : List Nat} {s0 : List (Nat × SV)} {h0 : Heap} {nid0 nidE n : Nat} {gh : List (Option Nat)} {rs : List DR} {XF : SH} {w0 : World} {fp0 : G0} {bs : Cell → Prop} {Q : Exit → Act → World → Prop}
def lp (l : Array Bool) : Nat → Bool := fun j => l.getD j false
def Closed (ops : Array Oper) (listed : Array Bool) : Prop := ∀ (j : Nat) (o : Oper), ops.toList[j]? = some o → lp listed j = true → ∀ e ∈ o.after.toList, Region.binds .any e = true → lp listed e.on = true
theorem all_listed (hm : Masks opsA.toList masks) {listed : Array Bool} (hs : listed.size = opsA.size) (hr : Region.ready .any opsA listed = []) : ∀ j, j < opsA.size → lp listed j = true := by
  intro j
  induction j using Nat.strongRecOn with
  | _ j ih =>
    intro hj
    cases hl : lp listed j with
    | true => rfl
    | false =>
      have : j ∈ Region.ready .any opsA listed := mem_ready.2 ⟨by rw [getD_both' (by omega)]; exact hl, opsA[j], by simp [hj], fun e he hb => by
        have hlt := hm.back j opsA[j] (by rw [Array.getElem?_toList]; simp [hj]) e (by simpa using he) hb
        exact ih e.on hlt (by omega)⟩
      rw [hr] at this; exact nomatch this
theorem draw_any (hm : Masks opsA.toList masks) (F : Facts E opsA.toList masks (dstsOf opsA.toList) s0 h0 nid0 rs opsA.size nidE) (hp : pairsB masks 0 rs = true)
    (hnd : nodupB (dstsOf opsA.toList) = true) (hlt : ltAll n (dstsOf opsA.toList) = true) (hfin : replay (fun _ => true) 0 rs (s0, h0) = some XF) (hfr : ∀ i, nid0 ≤ i → look h0 i = none) (hgh : ∀ (k i : Nat), gh[k]? = some (some i) → i < nid0)
    (hQ : ∀ a w, Rl w0 fp0 bs n ⟨XF.1, XF.2, nidE, n, gh⟩ a w → Q .normal a w) :
    ∀ (f : Nat) (listed : Array Bool) (a : Act) (w : World) (X : SH), listed.size = opsA.size → unl listed ≤ f → Closed opsA listed → replay (lp listed) 0 rs (s0, h0) = some X →
      Rl w0 fp0 bs n ⟨X.1, X.2, nidE, n, gh⟩ a w → wpAny E.P .any opsA Q f listed a w := by
  have done : ∀ (listed : Array Bool) (a : Act) (w : World) (X : SH), listed.size = opsA.size → replay (lp listed) 0 rs (s0, h0) = some X → Rl w0 fp0 bs n ⟨X.1, X.2, nidE, n, gh⟩ a w →
      Region.ready .any opsA listed = [] → Q .normal a w := fun listed a w X hs hX hR hr => by
    have hall := all_listed hm hs hr
    rw [replay_congr (q := fun _ => true) rs 0 _ fun j hj => by rw [F.len] at hj; rw [Nat.zero_add]; exact hall j hj, hfin] at hX
    cases hX
    exact hQ a w hR
  intro f
  induction f with
  | zero =>
    intro listed a w X hs hu hc hX hR
    have hr : Region.ready .any opsA listed = [] := by
      cases hq : Region.ready .any opsA listed with
      | nil => rfl
      | cons i l =>
        have hi : i ∈ Region.ready .any opsA listed := by rw [hq]; simp
        have := (mem_ready.1 hi).1
        rw [unl_zero (by omega) i] at this; exact nomatch this
    exact ⟨hr, done listed a w X hs hX hR hr⟩
  | succ f ih =>
    intro listed a w X hs hu hc hX hR
    refine ⟨done listed a w X hs hX hR, fun i hi => ?_⟩
    obtain ⟨hun, o, ho, hedge⟩ := mem_ready.1 hi
    have hil : i < opsA.size := (Array.getElem?_eq_some_iff.1 ho).1
    have ho' : opsA.toList[i]? = some o := by rwa [Array.getElem?_toList]
    have hpi : lp listed i = false := by unfold lp; rw [← getD_both' (by omega)]; exact hun
    obtain ⟨r, hr⟩ : ∃ r, rs[i]? = some r := ⟨_, List.getElem?_eq_getElem (by rw [F.len]; exact hil)⟩
    obtain ⟨hdst, hok, x, t, hx, hw, hgen⟩ := F.good i o r ho' hr
    have hanc : ∀ j, (masks.getD i 0).testBit j = true → lp listed j = true := hm.closed hc i i o (Nat.le_refl _) ho' fun e he hb => hedge e (by simpa using he) hb
    have hopr : ∀ (j : Nat) (b : DR), rs[j]? = some b → ∃ oj, opsA.toList[j]? = some oj ∧ b.dst = oj.dst ∧ okW E oj.op b.c = true := fun j b hb => by
      have hj : j < opsA.toList.length := by have := (List.getElem?_eq_some_iff.1 hb).1; rw [F.len] at this; simpa using this
      obtain ⟨g1, g2, _⟩ := F.good j _ b (List.getElem?_eq_getElem hj) hb
      exact ⟨_, List.getElem?_eq_getElem hj, g1, g2⟩
    have hback : ∀ (j : Nat), lp listed j = true → (masks.getD j 0).testBit i = false := fun j hj => by
      cases hq : (masks.getD j 0).testBit i with
      | false => rfl
      | true =>
        cases hoj : opsA.toList[j]? with
        | none =>
          have : lp listed j = false := by
            unfold lp
            rw [Array.getD_eq_getD_getElem?, Array.getElem?_eq_none]; rfl
            rw [hs]; have := List.getElem?_eq_none_iff.1 hoj; simpa using this
          rw [this] at hj; exact nomatch hj
        | some oj =>
          have := hm.closed hc j j oj (Nat.le_refl _) hoj (fun e he hb => hc j oj hoj hj e he hb) i hq
          rw [hpi] at this; exact nomatch this
    have hcomm1 : ∀ (j : Nat) (b : DR), j < i → rs[j]? = some b → (masks.getD i 0).testBit j = false → commB b r = true := fun j b hj hb hnot => by
      have := pairsB_spec hp j i b r hj hb hr
      simp only [Nat.zero_add] at this
      exact this.resolve_left (by rw [hnot]; simp)
    have hcomm2 : ∀ (j : Nat) (b : DR), i < j → rs[j]? = some b → lp listed j = true → commB r b = true := fun j b hj hb hl => by
      have := pairsB_spec hp i j r b hj hr hb
      simp only [Nat.zero_add] at this
      exact this.resolve_left (by rw [hback j hl]; simp)
    have hmine : ∀ (j j' : Nat) (b b' : DR) k, j ≠ j' → rs[j]? = some b → rs[j']? = some b' → b.mine k → ¬ b'.mine k := fun j j' b b' k hne h1 h2 m1 m2 => by
      rcases Nat.lt_or_gt_of_ne hne with h | h
      · have := F.ord j j' b b' h h1 h2; have := m1.2; have := m2.1; omega
      · have := F.ord j' j b' b h h2 h1; have := m2.2; have := m1.1; omega
    have hdd : ∀ (j j' : Nat) (b b' : DR) t, j ≠ j' → rs[j]? = some b → rs[j']? = some b' → b.dst = some t → b'.dst ≠ some t := fun j j' b b' t hne h1 h2 hb hb' => by
      obtain ⟨oj, q1, q2, _⟩ := hopr j b h1
      obtain ⟨oj', q1', q2', _⟩ := hopr j' b' h2
      exact dstsOf_inj (nodupB_spec hnd) hne q1 q1' (q2 ▸ hb) (q2' ▸ hb')
    have hfree : ∀ (b : DR) (j k : Nat), rs[j]? = some b → b.mine k → look h0 k = none := fun b j k hb hk => hfr k (by have := (F.lo j b hb).1; have := hk.1; omega)
    have hx' : replay (Nat.testBit (masks.getD i 0)) 0 rs (restr (banT masks i 0 opsA.toList) s0 (tempsOf o.op.operands.toList), h0) = some x := by
      have hsp := List.take_append_drop i rs
      rw [← hsp, replay_append, hx, Option.bind_some]
      refine replay_none _ _ _ fun j hj => ?_
      have hti : (rs.take i).length = i := by rw [List.length_take, F.len]; omega
      rw [hti, Nat.zero_add]
      cases hq : (masks.getD i 0).testBit (i + j) with
      | false => rfl
      | true => have := hm.lt ho' hq; omega
    have hg0 : ∀ (j : Nat) (b : DR), rs[j]? = some b → lp listed (0 + j) = true → (masks.getD i 0).testBit (0 + j) = false → b.c.kil.2 = [] := fun j b hb h1 h2 => by
      rw [Nat.zero_add] at h1 h2
      rcases Nat.lt_trichotomy j i with h | h | h
      · exact (commB_spec (hcomm1 j b h hb h2)).1
      · subst h; rw [hpi] at h1; exact nomatch h1
      · exact (commB_spec (hcomm2 j b h hb h1)).2.1
    have hes : Ext x.1 X.1 := replay_ext rs 0 _ _ x X hanc hx' hX (fun t v hv => by
        exact (look_restr hv).2)
      (fun t v hv j b hb hj _ hdt => by
        obtain ⟨oj, q1, q2, _⟩ := hopr j b hb
        rw [Nat.zero_add] at hj
        exact (look_restr hv).1 (banT_mem q1 (q2 ▸ hdt) (by rw [Nat.zero_add]; exact hback j hj))) hdd hg0
    have heh : r.see = seeB E masks i opsA.toList x o → Ext (viewB E masks i opsA.toList x o) X.2 := fun hsee => by
      cases hb : blindB E masks i 0 opsA.toList with
      | true =>
        unfold viewB
        rw [hb, cond_true, ← hsee]
        intro k B hB
        obtain ⟨m1, m2⟩ := look_restrH hB
        refine replay_extH (S := fun k => mem k r.see = true) rs 0 _ _ x X hanc hx' hX (fun _ _ _ h => h) (fun j b k hb hk => hfree b j k hb hk) (fun j j' b b' k => hmine j j' b b' k) (fun j b hjb h1 h2 => ?_) k B m1 m2
        rw [Nat.zero_add] at h1 h2
        rcases Nat.lt_trichotomy j i with h | h | h
        · have hc := hcomm1 j b h hjb h2
          exact ⟨(commB_spec hc).1, hitH_none (commB_see hc).1⟩
        · subst h; rw [hpi] at h1; exact nomatch h1
        · have hc := hcomm2 j b h hjb h1
          exact ⟨(commB_spec hc).2.1, hitH_none (commB_see hc).2⟩
      | false =>
        unfold viewB
        rw [hb, cond_false]
        intro k B hB
        refine replay_extH (S := fun _ => True) rs 0 _ _ x X hanc hx' hX (fun _ _ _ h => h) (fun j b k hb hk => hfree b j k hb hk) (fun j j' b b' k => hmine j j' b b' k) (fun j b hjb h1 h2 => ?_) k B trivial hB
        rw [Nat.zero_add] at h1 h2
        obtain ⟨oj, q1, q2, q3⟩ := hopr j b hjb
        have hq : b.c.kil.2 = [] ∧ b.c.upd = [] := by
          refine okW_or q3 ?_
          cases hwr : isWriter E oj.op with
          | false => rfl
          | true =>
            have := blindB_spec hb j oj q1 hwr
            rw [Nat.zero_add] at this
            simp only [ordB, Bool.or_eq_true] at this
            rcases this with h | h | h
            · have := Nat.eq_of_beq_eq_true h; subst this; rw [hpi] at h1; exact nomatch h1
            · rw [h2] at h; exact nomatch h
            · rw [hback j h1] at h; exact nomatch h
        exact ⟨hq.1, fun _ _ => by rw [hq.2]; rfl⟩
    have hrange : ∀ k, k < r.c.news.length → look X.2 (r.n0 + k) = none := fun k hk => by
      cases hq : look X.2 (r.n0 + k) with
      | none => rfl
      | some B =>
        have hmk : r.mine (r.n0 + k) := ⟨by omega, by omega⟩
        rcases replay_dom rs 0 _ X hX _ B hq with ⟨B', hB'⟩ | ⟨j, b, g1, g2, g3⟩
        · have := hfree r i _ hr hmk; rw [this] at hB'; exact nomatch hB'
        · rw [Nat.zero_add] at g2
          have hne : j ≠ i := fun e => by subst e; rw [hpi] at g2; exact nomatch g2
          exact (hmine j i b r _ hne g1 hr g3 hmk).elim
    obtain ⟨X', happ⟩ : ∃ X', r.app X = some X' := by
      cases hg : r.c.kil.2 with
      | nil => exact ⟨_, app_plain hg X⟩
      | cons b0 T =>
        have hlow : ∀ j, j < i → lp listed j = true := fun j hj => by
          obtain ⟨b, hb⟩ : ∃ b, rs[j]? = some b := ⟨_, List.getElem?_eq_getElem (by rw [F.len]; omega)⟩
          cases hq : (masks.getD i 0).testBit j with
          | true => exact hanc j hq
          | false => have := (commB_spec (hcomm1 j b hj hb hq)).2.1; rw [hg] at this; exact nomatch this
        have hhigh : ∀ j, i < j → j < opsA.size → lp listed j = false := fun j hj hjl => by
          obtain ⟨b, hb⟩ : ∃ b, rs[j]? = some b := ⟨_, List.getElem?_eq_getElem (by rw [F.len]; omega)⟩
          cases hq : lp listed j with
          | false => rfl
          | true => have := (commB_spec (hcomm2 j b hj hb hq)).1; rw [hg] at this; exact nomatch this
        have hsp : rs = rs.take i ++ r :: rs.drop (i + 1) := by
          have hlen : i < rs.length := by rw [F.len]; exact hil
          conv => lhs; rw [← List.take_append_drop i rs]
          rw [List.drop_eq_getElem_cons hlen, (List.getElem?_eq_some_iff.1 hr).2]
        have hti : (rs.take i).length = i := by rw [List.length_take, F.len]; omega
        have hXp : replay (fun _ => true) 0 (rs.take i) (s0, h0) = some X := by
          rw [hsp, replay_append, hti, Nat.zero_add] at hX
          rw [replay_congr (q := lp listed) _ _ _ fun j hj => by rw [hti] at hj; rw [Nat.zero_add]; exact (hlow j hj).symm]
          rw [Option.bind_eq_some_iff] at hX
          obtain ⟨y, hy, hX⟩ := hX
          rw [replay_none] at hX
          · cases hX; exact hy
          · intro j hj
            cases j with
            | zero => exact hpi
            | succ j => refine hhigh _ (by omega) ?_; simp only [List.length_cons, List.length_drop, F.len] at hj; omega
        rw [hsp, replay_append, hXp] at hfin
        simp only [Option.bind_some, replay, cond_true, Option.bind_eq_some_iff] at hfin
        obtain ⟨y, hy, _⟩ := hfin
        exact ⟨y, hy⟩
    have hpi' : lp (listed.setIfInBounds i true) i = true := by
      unfold lp; simp [Array.getD_eq_getD_getElem?, Array.getElem?_setIfInBounds, hs, hil]
    have hpp : ∀ j, j ≠ i → lp (listed.setIfInBounds i true) j = lp listed j := fun j hj => getD_set_ne false (fun e => hj e.symm)
    obtain ⟨X'', hX'', hsame⟩ := replay_insert hr hpi hpi' hpp (fun j b hj hb hl => ⟨hcomm2 j b hj hb hl, fun t h1 => hdd i j r b t (by omega) hr hb h1, fun k h1 => hmine i j r b k (by omega) hr hb h1⟩) hX happ
    have hcl' : Closed opsA (listed.setIfInBounds i true) := fun j oj hoj hl e he hb => by
      by_cases hji : j = i
      · subst hji
        rw [ho'] at hoj; cases hoj
        exact getD_set_true (hedge e (by simpa using he) hb)
      · rw [hpp j hji] at hl
        exact getD_set_true (hc j oj hoj hl e he hb)
    have hu' : unl (listed.setIfInBounds i true) ≤ f := by have := unl_set hun; omega
    have next : ∀ (H' : Heap) (pl pl' : Pl) (u : Value) (w' : World), after X.2 r.n0 r.c = some H' → Rel w0 fp0 ⟨X.1, X.2, nidE, n, gh⟩ pl a w → pl.base = bs → StepTo X.2 H' r.c.kil pl pl' w w' → SVRep w' H' pl' r.c.v u →
        (∀ i B, look r.c.upd i = some B → ∃ B', look X.2 i = some B') → wpAny E.P .any opsA Q f (listed.setIfInBounds i true) (a.put o.dst u) w' := fun H' pl pl' u w' hafter hR hb hst hv hup => by
      have h1 := Rel.app hR happ hup (fun t ht => ltAll_spec hlt t (dstsOf_mem ho' (hdst ▸ ht))) (fun k j hj => Nat.lt_of_lt_of_le (hgh k j hj) (F.lo i r hr).1) (F.lo i r hr).2 hafter hst hv
      rw [hdst] at h1
      have h2 := h1.congr (s' := X''.1) (H' := X''.2) (fun t v hv => (hsame.1 t).trans hv) (fun k => (hsame.2 k).symm)
      exact ih _ _ _ X'' (by simp [hs]) hu' hcl' hX'' ⟨pl', h2, hst.bs.trans hb, rfl⟩
    obtain ⟨pl, hR, hbase, _⟩ := hR
    have hwanted : Region.wanted o (yielded opsA a.tmps) = t := by
      unfold Wanted at hw
      unfold Region.wanted
      split at hw
      · rename_i hg; rw [hg]; exact hw.symm
      · rename_i g want hg
        obtain ⟨q1, rg, tg, q2, q3, q4⟩ := hw
        rw [hg]
        simp only
        obtain ⟨og, p1, p2, _⟩ := hopr g rg q2
        have hlen : g < rs.length := (List.getElem?_eq_some_iff.1 q2).1
        have hsp : rs = rs.take g ++ rg :: rs.drop (g + 1) := by
          conv => lhs; rw [← List.take_append_drop g rs]
          rw [List.drop_eq_getElem_cons hlen, (List.getElem?_eq_some_iff.1 q2).2]
        have hti : (rs.take g).length = g := by rw [List.length_take]; omega
        have hslot : ∀ v, rg.c.v = v → (∀ T, v.sweep T = v) → look X.1 tg = some v := fun v q4 hsw => by
          have hX2 := hX
          rw [hsp, replay_append, hti, Nat.zero_add, Option.bind_eq_some_iff] at hX2
          obtain ⟨y, hy, hX2⟩ := hX2
          simp only [replay, hanc g q1, cond_true, Option.bind_eq_some_iff] at hX2
          obtain ⟨y', hy', hX2⟩ := hX2
          refine replay_slot hsw _ _ y' X hX2 (fun j b' hb' => ?_) (by rw [app_slots hy', look_putD, if_pos q3, q4])
          rw [List.getElem?_drop] at hb'
          exact hdd g (g + 1 + j) rg b' tg (by omega) q2 hb' q3
        rcases q4 with ⟨b, q4, q5⟩ | ⟨q4, q5⟩
        rotate_left
        · have hval := hR.sl tg _ (hslot _ q4 fun T => by simp [SV.sweep, sweepL])
          have hog : opsA[g]? = some og := by rwa [Array.getElem?_toList] at p1
          have hval : ∃ vs, a.tmps.getD tg undef = .tuple vs := by
            generalize a.tmps.getD tg undef = u at hval
            cases hval with
            | tup _ vs => exact ⟨vs, rfl⟩
          obtain ⟨vs, hval⟩ := hval
          rw [p2] at q3
          have hy : yielded opsA a.tmps g = none := by
            rw [Array.getD_eq_getD_getElem?] at hval
            cases hq : a.tmps[tg]? with
            | none => simp [yielded, hog, q3, hq]
            | some x => rw [hq] at hval; simp [yielded, hog, q3, hq, show x = .tuple vs from hval]
          rw [hy, q5]
          rfl
        have hval := hR.sl tg _ (hslot _ q4 fun T => by simp [SV.sweep, hit])
        have hval : a.tmps.getD tg undef = .bool b := by
          generalize a.tmps.getD tg undef = u at hval
          cases hval with
          | r _ _ _ hx => cases hx; rfl
        have hog : opsA[g]? = some og := by rwa [Array.getElem?_toList] at p1
        have hgd : a.tmps[tg]? = some (.bool b) := by
          rw [Array.getD_eq_getD_getElem?] at hval
          cases hq : a.tmps[tg]? with
          | none => rw [hq] at hval; exact nomatch hval
          | some x => rw [hq] at hval; exact congrArg some hval
        rw [p2] at q3
        have hy : yielded opsA a.tmps g = some b := by simp [yielded, hog, q3, hgd]
        rw [hy, q5]
        cases b <;> cases want <;> rfl
    unfold wpOp
    rw [ho]
    simp only [hwanted]
    rcases hgen with ⟨rfl, hsee, hg⟩ | ⟨rfl, hcu⟩
    · rw [if_pos rfl]
      obtain ⟨hup, hsem⟩ := hg X.1 X.2 a w pl hes (heh hsee) hR.hr hR.sl hrange
      obtain ⟨H', hafter⟩ := after_of_app happ hup
      exact .inl (hsem H' _ Q hafter fun u pl' w' hst hv => next H' pl pl' u w' hafter hR hbase hst hv hup)
    · rw [if_neg (by simp)]
      have hafter : after X.2 r.n0 r.c = some X.2 := by
        rw [hcu]
        simp only [after, upds, newsH, List.append_nil, CR.kil, sweepH', Option.bind_some]
      refine next X.2 pl pl undef w hafter hR hbase ?_ ?_ ?_
      · rw [hcu]; exact StepTo.refl hR.hr
      · rw [hcu]; exact .tup [] #[] rfl fun j x v hx _ => by simp at hx
      · rw [hcu]; exact fun i B hB => by simp [look] at hB
theorem Rl.drew {n : Nat} {st : St} {a : Act} {w : World} (h : Rl w0 fp0 bs n st a w) : Rl w0 fp0 bs n st a { w with drawn := w.drawn + 1 } := by
  obtain ⟨pl, h, hb, hn⟩ := h
  have hk : Keeps ([], []) w st.heap pl { w with drawn := w.drawn + 1 } st.heap pl := ⟨fun i B hB _ => ⟨B, hB, B.like_refl, rfl⟩, fun d p u _ h hp => ⟨h, hp⟩⟩
  exact ⟨pl, ⟨⟨fun i B hB => (h.hr.blk i B hB).keep hk rfl (fun _ => Iff.rfl) (fun p u _ hu => ⟨hu, rfl⟩) B.sweep_nil, h.hr.dis, h.hr.ob, h.hr.nb⟩,
    fun t v hv => (h.sl t v hv).keep0 hk, h.sz, h.df, h.fresh, h.gr.trans (Grown.drew w), fun p u hp hno => h.fr p u hp hno, h.gk⟩, hb, hn⟩
theorem Rl.less {n : Nat} {st : St} {s' : List (Nat × SV)} {a : Act} {w : World} (h : Rl w0 fp0 bs n st a w) (hs : ∀ t v, look s' t = some v → look st.slots t = some v) : Rl w0 fp0 bs n ⟨s', st.heap, st.nid, st.n, st.gh⟩ a w := by
  obtain ⟨pl, h, hb, hn⟩ := h
  exact ⟨pl, h.congr hs fun _ => rfl, hb, hn⟩
theorem Rl.nidle {n nid nid' m : Nat} {s : List (Nat × SV)} {H : Heap} {a : Act} {w : World} (h : Rl w0 fp0 bs n ⟨s, H, nid, m, gh⟩ a w) (hn : nid ≤ nid') : Rl w0 fp0 bs n ⟨s, H, nid', m, gh⟩ a w := by
  obtain ⟨pl, h, hb, hn'⟩ := h
  exact ⟨pl, ⟨h.hr, h.sl, h.sz, h.df, fun i hi => h.fresh i (Nat.le_trans hn hi), h.gr, h.fr, fun k i hi => ⟨Nat.lt_of_lt_of_le (h.gk k i hi).1 hn, (h.gk k i hi).2⟩⟩, hb, hn'⟩
/-- The theorem. -/
theorem drawn_sound {ρ : Type} (hE : EnvOk E) {id n : Nat} {st : St} {a : Act} {w : World} {K : St → Option ρ} {out : ρ} (hR : Rl w0 fp0 bs n st a w) (h : evDrawn E opsA.toList st K = some out)
    (hK : ∀ st' a' w', K st' = some out → Rl w0 fp0 bs n st' a' w' → Q .normal a' w') : (Code.region id opsA true).wp E.P Q a w := by
  unfold evDrawn at h
  cases hmo : E.P.follows .mixedOrders <;> simp only [hmo, cond_true, cond_false] at h
  · exact nomatch h
  rw [Option.bind_eq_some_iff] at h
  obtain ⟨masks, hmasks, h⟩ := h
  cases hnd : nodupB (dstsOf opsA.toList) <;> simp only [hnd, cond_true, cond_false] at h
  · exact nomatch h
  cases hlt : ltAll st.n (dstsOf opsA.toList) <;> simp only [hlt, cond_true, cond_false] at h
  · exact nomatch h
  obtain ⟨rs, nidE, h, hnid, F⟩ := evDraw_facts (nid0 := st.nid) hE opsA.toList 0 st.nid [] _ h ⟨rfl, fun i o r _ hr => by simp at hr, fun i r hr => by simp at hr, fun i j a b _ ha => by simp at ha⟩ (Nat.le_refl _) (by simp)
  cases hp : pairsB masks 0 rs <;> simp only [hp, cond_true, cond_false] at h
  · exact nomatch h
  rw [Option.bind_eq_some_iff] at h
  obtain ⟨XF, hXF, h⟩ := h
  rw [Nat.zero_add, show opsA.toList.length = opsA.size from by simp] at F
  have hn := hR
  obtain ⟨pl, hR0, _, hnn⟩ := hn
  refine wp_region_any hmo (draw_any (XF := XF) (n := n) (nidE := nidE) (w0 := w0) (fp0 := fp0) (bs := bs) (masks_of hmasks) F hp hnd (by rw [← hnn]; exact hlt) hXF hR0.fresh (fun k i hi => (hR0.gk k i hi).1) (fun a' w' hR' => hK _ a' w' h (by rw [hnn]; exact hR')) opsA.size _ a _
    (st.slots, st.heap) (by simp) (by unfold unl; exact Nat.le_trans List.countP_le_length (by simp)) (fun j o _ hl => ?_) (replay_none _ _ _ fun j _ => ?_) ?_)
  · have : lp (Array.replicate opsA.size false) j = false := by
      unfold lp; rw [Array.getD_eq_getD_getElem?, Array.getElem?_replicate]; split <;> rfl
    rw [this] at hl; exact nomatch hl
  · show lp _ _ = false
    unfold lp; rw [Array.getD_eq_getD_getElem?, Array.getElem?_replicate]; split <;> rfl
  · have := (hR.nidle hnid).drew
    rw [hnn] at this
    exact this
end
end Go.Proofs.Ev

namespace Go.Proofs.Ev
variable [Tok]
set_option linter.unusedSectionVars false
section
variable {ρ : Type} {E : Env} {w0 : World} {fp0 : G0} {bs : Cell → Prop}
theorem Rl.put {n : Nat} {st : St} {a : Act} {w : World} {t : Nat} {v : SV} (h : Rl w0 fp0 bs n st a w) (hv : ∀ pl, SVRep w st.heap pl v (a.tmps.getD t undef)) : Rl w0 fp0 bs n { st with slots := put st.slots t v } a w := by
  obtain ⟨pl, h, hb, hn⟩ := h
  refine ⟨pl, ⟨h.hr, fun t' v' h' => ?_, h.sz, h.df, h.fresh, h.gr, h.fr, h.gk⟩, hb, hn⟩
  rw [look_put] at h'
  by_cases e : t = t'
  · subst e; simp at h'; subst h'; exact hv pl
  · rw [if_neg e] at h'; exact h.sl t' v' h'
theorem evOp_rl (hE : EnvOk E) {n : Nat} {o : Oper} {st : St} {a : Act} {w : World} {K : St → Option ρ} {out : ρ} {next : Act → World → Prop} {Q : Exit → Act → World → Prop}
    (hr : Rl w0 fp0 bs n st a w) (h : evOp E o st K = some out) (hK : ∀ st' a' w', K st' = some out → Rl w0 fp0 bs n st' a' w' → next a' w') : o.wp E.P a w next Q := by
  obtain ⟨pl, hr, hb, hn⟩ := hr
  exact evOp_sound hE hr h fun st' pl' a' w' hk hb' hn' hr' => hK st' a' w' hk ⟨pl', hr', hb'.trans hb, hn'.trans hn⟩
theorem skip_rl {n : Nat} {o : Oper} {st : St} {a : Act} {w : World} {K : St → Option ρ} {out : ρ} {next : Act → World → Prop}
    (hr : Rl w0 fp0 bs n st a w) (h : skipOp o st K = some out) (hK : ∀ st' a' w', K st' = some out → Rl w0 fp0 bs n st' a' w' → next a' w') : next (a.put o.dst undef) w := by
  simp only [skipOp, Option.bind_eq_some_iff] at h
  obtain ⟨s, hs, h⟩ := h
  obtain ⟨pl, hr, hb, hn⟩ := hr
  exact hK _ _ _ h ⟨pl, ⟨hr.hr, Slots.put hr.sl hr.sz hs (.tup [] #[] rfl fun j x v hx _ => by simp at hx), by rw [Act.put_size]; exact hr.sz, by rw [Act.put_df]; exact hr.df, hr.fresh, hr.gr, hr.fr, hr.gk⟩, hb, hn⟩
theorem evOps_list (hE : EnvOk E) {n : Nat} {ops : Array Oper} {Q : Exit → Act → World → Prop} {out : ρ} : ∀ (l : List Oper) (st : St) (a : Act) (w : World) (K : St → Option ρ),
    Rl w0 fp0 bs n st a w → evOps E ops.toList l st K = some out → (∀ st' a' w', K st' = some out → Rl w0 fp0 bs n st' a' w' → Q .normal a' w') → wpList E.P ops Q l a w
  | [], st, a, w, K, hr, h, hK => hK st a w h hr
  | o :: rest, st, a, w, K, hr, h, hK => by
    simp only [evOps] at h
    cases hg : o.guard with
    | none =>
      simp only [hg] at h
      refine wpList_plain hg fun K' hK' => evOp_rl hE hr h fun st' a' w' h' hr' => hK' _ _ (evOps_list hE rest st' a' w' K hr' h' hK)
    | some jw =>
      obtain ⟨j, want⟩ := jw
      simp only [hg, Option.bind_eq_some_iff] at h
      obtain ⟨t, ht, v, hv, h⟩ := h
      split at h
      · have hy : yielded ops a.tmps j = none := by
          simp only [dstOf, Option.bind_eq_some_iff] at ht
          obtain ⟨oj, hoj, hd⟩ := ht
          have hoj' : ops[j]? = some oj := by rwa [Array.getElem?_toList] at hoj
          have hval : ∃ vs, a.tmps.getD t undef = .tuple vs := by
            obtain ⟨pl, hr, _, _⟩ := hr
            have := hr.sl t _ hv
            generalize a.tmps.getD t undef = u at this
            cases this with
            | tup _ vs => exact ⟨vs, rfl⟩
          obtain ⟨vs, hval⟩ := hval
          rw [Array.getD_eq_getD_getElem?] at hval
          cases hq : a.tmps[t]? with
          | none => simp [yielded, hoj', hd, hq]
          | some x => rw [hq] at hval; simp [yielded, hoj', hd, hq, show x = .tuple vs from hval]
        refine wpList_step fun K' hK' => ?_
        simp only [Region.wanted, hg, hy]
        rw [if_neg (by simp)]
        exact skip_rl (next := K') hr h fun st' a' w' h' hr' => hK' _ _ (evOps_list hE rest st' a' w' K hr' h' hK)
      simp only [Option.bind_eq_some_iff] at h
      obtain ⟨b, hb, h⟩ := h
      have hval : a.tmps.getD t undef = .bool b := by
        obtain ⟨pl, hr, _, _⟩ := hr
        exact asB_rep hb (hr.sl t v hv)
      have hy : yielded ops a.tmps j = some b := by
        simp only [dstOf, Option.bind_eq_some_iff] at ht
        obtain ⟨oj, hoj, hd⟩ := ht
        have hoj' : ops[j]? = some oj := by rwa [Array.getElem?_toList] at hoj
        have hg : a.tmps[t]? = some (.bool b) := by
          rw [Array.getD_eq_getD_getElem?] at hval
          cases hq : a.tmps[t]? with
          | none => rw [hq] at hval; exact nomatch hval
          | some x => rw [hq] at hval; exact congrArg some hval
        simp [yielded, hoj', hd, hg]
      refine wpList_step fun K' hK' => ?_
      simp only [Region.wanted, hg, hy]
      have hput : ∀ b', b' = b → Rl w0 fp0 bs n { st with slots := put st.slots t (.b b') } a w := fun b' e => hr.put fun pl => by rw [hval, e]; exact rep_bool
      cases b <;> simp only [cond_true, cond_false] at h
      · have hr' := hput false rfl
        cases want <;> simp only [cond_true, cond_false] at h
        · rw [if_pos (by rfl)]
          exact evOp_rl hE hr' h fun st' a' w' h' hr' => hK' _ _ (evOps_list hE rest st' a' w' K hr' h' hK)
        · rw [if_neg (by simp)]
          exact skip_rl (next := K') hr' h fun st' a' w' h' hr' => hK' _ _ (evOps_list hE rest st' a' w' K hr' h' hK)
      · have hr' := hput true rfl
        cases want <;> simp only [cond_true, cond_false] at h
        · rw [if_neg (by simp)]
          exact skip_rl (next := K') hr' h fun st' a' w' h' hr' => hK' _ _ (evOps_list hE rest st' a' w' K hr' h' hK)
        · rw [if_pos (by rfl)]
          exact evOp_rl hE hr' h fun st' a' w' h' hr' => hK' _ _ (evOps_list hE rest st' a' w' K hr' h' hK)
def Ex.up : Ex → Exit
  | .normal => .normal
  | .exit id => .exit id
  | .ret => .ret
/-- 'f' says what 'c' does. -/
def Sound (P : Program) (c : Code) (f : Ev ρ) : Prop :=
  ∀ (w0 : World) (fp0 : G0) (bs : Cell → Prop) (n : Nat) (st : St) (a : Act) (w : World) (K : Ex → St → Option ρ) (out : ρ) (Q : Exit → Act → World → Prop),
    Rl w0 fp0 bs n st a w → f st K = some out → (∀ e st' a' w', K e st' = some out → Rl w0 fp0 bs n st' a' w' → Q e.up a' w') → c.wp P Q a w
def LPGood (E : Env) (LP : Nat → Ev ρ → Ev ρ) : Nat → Code → Prop
  | cb, .seq a b => LPGood E LP cb a ∧ LPGood E LP cb b
  | cb, .cond _ a b => LPGood E LP cb a ∧ LPGood E LP cb b
  | _, .block id c => LPGood E LP id c
  | cb, .scope c => LPGood E LP cb c
  | cb, .loop c => Sound E.P (.loop c) (LP cb fun st K => ev E LP cb c st K)
  | _, _ => True
theorem refine_rl {n : Nat} {st : St} {a : Act} {w : World} {c : Operand} {b : Bool} (h : Rl w0 fp0 bs n st a w) (hc : a.eval c = .bool b) : Rl w0 fp0 bs n (refine c b st) a w := by
  cases c with
  | tmp t => exact h.put fun pl => by rw [show a.tmps.getD t undef = .bool b from hc]; exact rep_bool
  | _ => exact h
theorem ev_sound (hE : EnvOk E) {LP : Nat → Ev ρ → Ev ρ} : ∀ (c : Code) (cb : Nat), LPGood E LP cb c → Sound E.P c (ev E LP cb c)
  | .skip, cb, _ => fun w0 fp0 bs n st a w K out Q hr h hK => wp_skip (hK .normal st a w h hr)
  | .label l, cb, _ => fun w0 fp0 bs n st a w K out Q hr h hK => wp_label (hK .normal st a w h hr)
  | .region id ops false, cb, _ => fun w0 fp0 bs n st a w K out Q hr h hK => wp_region_list (evOps_list hE _ st a w _ hr h fun st' a' w' h' hr' => hK .normal st' a' w' h' hr')
  | .region id ops true, cb, _ => fun w0 fp0 bs n st a w K out Q hr h hK => drawn_sound hE hr h fun st' a' w' h' hr' => hK .normal st' a' w' h' hr'
  | .seq x y, cb, hg => fun w0 fp0 bs n st a w K out Q hr h hK => wp_seq <|
    ev_sound hE x cb hg.1 w0 fp0 bs n st a w _ out _ hr h fun e st' a' w' h' hr' => match e, h' with
      | .normal, h' => ev_sound hE y cb hg.2 w0 fp0 bs n st' a' w' K out Q hr' h' hK
      | .exit _, h' => hK _ st' a' w' h' hr'
      | .ret, h' => hK _ st' a' w' h' hr'
  | .cond c x y, cb, hg => fun w0 fp0 bs n st a w K out Q hr h hK => by
    simp only [ev, Option.bind_eq_some_iff] at h
    obtain ⟨v, hv, b, hb, h⟩ := h
    have hval : a.eval c = .bool b := by
      obtain ⟨pl, hr, _, _⟩ := hr
      exact asB_rep hb (opd_rep hr.sl hv)
    refine wp_cond hval ?_
    cases b
    · exact ev_sound hE y cb hg.2 w0 fp0 bs n _ a w K out Q (refine_rl hr hval) h hK
    · exact ev_sound hE x cb hg.1 w0 fp0 bs n _ a w K out Q (refine_rl hr hval) h hK
  | .block id c, cb, hg => fun w0 fp0 bs n st a w K out Q hr h hK => wp_block <|
    ev_sound hE c id hg w0 fp0 bs n st a w _ out _ hr h fun e st' a' w' h' hr' => match e, h' with
      | .normal, h' => hK .normal st' a' w' h' hr'
      | .exit j, h' => by
        simp only [inBlock] at h'
        show Exit.inBlock id Q (.exit j) a' w'
        cases hj : Nat.beq j id <;> simp only [hj, cond_true, cond_false] at h'
        · have : ¬ j = id := fun e => by subst e; simp at hj
          simp only [Exit.inBlock, if_neg this]
          exact hK (.exit j) st' a' w' h' hr'
        · simp only [Exit.inBlock, if_pos (Nat.eq_of_beq_eq_true hj)]
          exact hK .normal st' a' w' h' hr'
      | .ret, h' => hK .ret st' a' w' h' hr'
  | .loop c, cb, hg => hg
  | .exit id, cb, _ => fun w0 fp0 bs n st a w K out Q hr h hK => wp_exit (hK (.exit id) st a w h hr)
  | .scope c, cb, hg => fun w0 fp0 bs n st a w K out Q hr h hK => wp_scope_straight <|
    ev_sound hE c cb hg w0 fp0 bs n st a w K out _ hr h fun e st' a' w' h' hr' => match e, h' with
      | .normal, h' => hK .normal st' a' w' h' hr'
      | .exit j, h' => hK (.exit j) st' a' w' h' hr'
      | .ret, h' => hK .ret st' a' w' h' hr'
  | .ret, cb, _ => fun w0 fp0 bs n st a w K out Q hr h hK => wp_ret (hK .ret st a w h hr)
  | .rangeFunc _ _ _ _, cb, _ => fun w0 fp0 bs n st a w K out Q hr h hK => nomatch h
  | .goto _, cb, _ => fun w0 fp0 bs n st a w K out Q hr h hK => nomatch h
  | .refuse _, cb, _ => fun w0 fp0 bs n st a w K out Q hr h hK => nomatch h
end
end Go.Proofs.Ev

namespace Go.Proofs.Ev
variable [Tok]
set_option linter.unusedSectionVars false
inductive Arg where
  | one (r : R)
  | agg (rs : List R)
  | fn (f : Fn) (first cap : List R)
def Arg.sv : Arg → SV
  | .one r => .r [] r
  | .agg rs => .agg (rs.map (SV.r []))
  | .fn f a b => .fn f (a.map (SV.r [])) (b.map (SV.r []))
def RepRs (w : World) (ok : Cell → Prop) (rs : List R) (vs : Array Value) : Prop :=
  rs.length = vs.size ∧ ∀ (j : Nat) (r : R) (u : Value), rs[j]? = some r → vs[j]? = some u → RepR w ok r u
def RepArg (w : World) (ok : Cell → Prop) : Arg → Value → Prop
  | .one r, v => RepR w ok r v
  | .agg rs, v => ∃ vs, v = .agg vs ∧ RepRs w ok rs vs
  | .fn f a b, v => ∃ us vs, v = .func f us vs ∧ RepRs w ok a us ∧ RepRs w ok b vs
/-- A function that only computes: what it gives lies in new memory, or where its arguments lie. -/
def PureCalls (P : Program) (g : FuncId) (args : List Arg) (out : Out) : Prop :=
  Enters P g ∧ ∀ (w : World) (us : Array Value) (ok : Cell → Prop), args.length = us.size → (∀ (j : Nat) (x : Arg) (u : Value), args[j]? = some x → us[j]? = some u → RepArg w ok x u) →
    Calls P g us w fun e w' => ∃ u pl, e = .returned u ∧ HRel (newsH 0 out.2) pl w' ∧ SVRep w' (newsH 0 out.2) pl out.1 u ∧ pl.base = (fun p => ok p ∨ w.at? p = none) ∧
      (∀ p x, w.at? p = some x → w'.at? p = some x ∧ w'.ice? p = w.ice? p) ∧ (∀ i B p, look (newsH 0 out.2) i = some B → pl.fp i p → w.at? p = none) ∧ Grown w w'

def resO (P : Program) (st : St) : ResultVar → Option SV
  | .tmp t => look st.slots t
  | .cell a T => (look st.slots a).bind fun p => (cellsAt st.heap p).bind fun cs => ofCellsV P T cs
def resL (P : Program) (st : St) : List ResultVar → Option (List SV)
  | [] => some []
  | r :: l => (resO P st r).bind fun v => (resL P st l).bind fun vs => some (v :: vs)
def finV (P : Program) (fn : Func) (st : St) : Option SV :=
  (resL P st fn.results.toList).bind fun vs => match vs with
    | [v] => some v
    | vs => some (.tup vs)
/-- What a result is: of one cell; a slice in new memory ('shl': its inner slices are read only); a slice that is read only; a struct; several. -/
inductive RT where
  | sc
  | own (t : Ty)
  | shl (t : Ty)
  | ro (t : Ty)
  | agg (l : List RT)
  | tup (l : List RT)
  | fn (as bs : List RT)
  | ptr
/-- The place of a block among those that were handed in. -/
def posOf (i : Nat) : List (Option Nat) → Nat → Option Nat
  | [], _ => none
  | none :: l, n => posOf i l (n + 1)
  | some k :: l, n => cond (Nat.beq k i) (some n) (posOf i l (n + 1))
mutual
/-- The slices of a result that are its own. -/
def RT.srcs : RT → SV → Option (List (Bool × Ty × Option Nat))
  | .sc, _ => some []
  | .ro _, _ => some []
  | .own t, .own i => some [(false, t, some i)]
  | .own t, .nilS => some [(false, t, none)]
  | .shl t, .own i => some [(true, t, some i)]
  | .shl t, .nilS => some [(true, t, none)]
  | .agg l, .agg cs => srcsL l cs
  | .tup l, .tup cs => srcsL l cs
  | .fn as bs, .fn _ a b => (srcsL as a).bind fun x => (srcsL bs b).bind fun y => some (x ++ y)
  | .ptr, .ptr _ 0 _ => some []
  | _, _ => none
def srcsL : List RT → List SV → Option (List (Bool × Ty × Option Nat))
  | [], [] => some []
  | r :: l, v :: cs => (r.srcs v).bind fun a => (srcsL l cs).bind fun b => some (a ++ b)
  | _, _ => none
end
def idsOf : List (Bool × Ty × Option Nat) → List Nat
  | [] => []
  | (_, _, some i) :: l => i :: idsOf l
  | (_, _, none) :: l => idsOf l
mutual
def RT.out (h : Heap) (L : List Nat) (gh : List (Option Nat)) : RT → Nat → SV → Option (SV × Nat)
  | .sc, k, .r _ (.int kk n) => some (.r [] (.int kk n), k)
  | .sc, k, .r _ (.bool b) => some (.r [] (.bool b), k)
  | .sc, k, .r _ (.str l) => some (.r [] (.str l), k)
  | .own _, k, _ => some (.own k, k + 1)
  | .shl _, k, _ => some (.own k, k + 1)
  | .ro t, k, v => (v.list h t).bind fun p => cond (hit L p.1) none (some (.r [] (.sl t p.2), k))
  | .agg l, k, .agg cs => (outL h L gh l k cs).bind fun p => some (.agg p.1, p.2)
  | .tup l, k, .tup cs => (outL h L gh l k cs).bind fun p => some (.tup p.1, p.2)
  | .fn as bs, k, .fn f a b => (outL h L gh as k a).bind fun p => (outL h L gh bs p.2 b).bind fun q => some (.fn f p.1 q.1, q.2)
  | .ptr, k, .ptr i 0 o => (posOf i gh 0).bind fun j => some (.ptr j 0 o, k)
  | _, _, _ => none
def outL (h : Heap) (L : List Nat) (gh : List (Option Nat)) : List RT → Nat → List SV → Option (List SV × Nat)
  | [], k, [] => some ([], k)
  | r :: l, k, v :: cs => (r.out h L gh k v).bind fun p => (outL h L gh l p.2 cs).bind fun q => some (p.1 :: q.1, q.2)
  | _, _, _ => none
end
def placeOf (i : Nat) : List Nat → Nat → Option Nat
  | [], _ => none
  | k :: l, n => cond (Nat.beq k i) (some n) (placeOf i l (n + 1))
def nodup : List Nat → Bool
  | [] => true
  | k :: l => cond (mem k l) false (nodup l)
def outBlk (h : Heap) (L : List Nat) : Bool × Ty × Option Nat → Option Blk
  | (false, t, none) => some (.arr none t [])
  | (true, t, none) => some (.arr (some []) t [])
  | (false, t, some i) => match look h i with
    | some (.arr none t' xs) => cond (decide (t' = t)) (some (.arr none t' xs)) none
    | _ => none
  | (true, t, some i) => match look h i with
    | some (.arr (some d) t' xs) => cond (hit L d) none (cond (decide (t' = t)) (some (.arr (some []) t' xs)) none)
    | _ => none
def outBlks (h : Heap) (L : List Nat) : List (Bool × Ty × Option Nat) → Option (List Blk)
  | [] => some []
  | i :: l => (outBlk h L i).bind fun b => (outBlks h L l).bind fun l => some (b :: l)
def canon (rt : RT) (h : Heap) (v : SV) : Option Out :=
  (rt.srcs v).bind fun s => cond (nodup (idsOf s)) ((outBlks h (idsOf s) s).bind fun bs => (rt.out h (idsOf s) [] 0 v).bind fun p => some (p.1, bs)) none
def fin {ρ : Type} (P : Program) (fn : Func) (rt : RT) (dec : Out → Option ρ) : Ex → St → Option ρ
  | .exit _, _ => none
  | .normal, st => (finV P fn st).bind fun v => (canon rt st.heap v).bind dec
  | .ret, st => (finV P fn st).bind fun v => (canon rt st.heap v).bind dec
def slots0 : Nat → List Arg → List (Nat × SV)
  | _, [] => []
  | n, a :: l => (n, a.sv) :: slots0 (n + 1) l
def st0 (fn : Func) (args : List Arg) : St := { slots := slots0 0 args, heap := [], nid := 0, n := fn.ntmps }

section
variable {P : Program}
def resM (a : Act) : ResultVar → Sem Value
  | .tmp t => pure (a.tmps.getD t undef)
  | .cell b t => do loadVar t (← asAddr (a.tmps.getD b undef))
theorem results_eq (fn : Func) (a : Act) : results fn a.tmps = (fn.results.mapM (resM a) >>= fun vs => pure (if h : vs.size = 1 then vs[0] else .tuple vs)) := by
  unfold results
  congr 1
theorem resO_rep {w : World} {st : St} {pl : Pl} {a : Act} (hr : HRel st.heap pl w) (hs : Slots w st.heap pl st.slots a) {r : ResultVar} {v : SV} (h : resO P st r = some v) :
    ∃ u, (resM a r).run P w = .ok u w ∧ SVRep w st.heap pl v u := by
  cases r with
  | tmp t => exact ⟨_, rfl, hs t v h⟩
  | cell b T =>
    simp only [resO, Option.bind_eq_some_iff] at h
    obtain ⟨p, hp, cs, hcs, hv⟩ := h
    obtain ⟨b', o', hpu, hc⟩ := cellsAt_rep hr (hs b p hp) hcs
    obtain ⟨u, h1, h2⟩ := load_rep hv b' o' hc
    exact ⟨u, by simp [resM, hpu, asAddr, h1], h2⟩
theorem resL_rep {w : World} {st : St} {pl : Pl} {a : Act} (hr : HRel st.heap pl w) (hs : Slots w st.heap pl st.slots a) : ∀ {l : List ResultVar} {vs : List SV}, resL P st l = some vs →
    ∃ us, (l.mapM (resM a) : Sem (List Value)).run P w = .ok us w ∧ vs.length = us.length ∧
      ∀ (j : Nat) (x : SV) (u : Value), vs[j]? = some x → us[j]? = some u → SVRep w st.heap pl x u
  | [], vs, h => by cases h; exact ⟨[], rfl, rfl, fun j x u hx _ => by simp at hx⟩
  | r :: l, vs, h => by
    simp only [resL, Option.bind_eq_some_iff, Option.some.injEq] at h
    obtain ⟨v, hv, vs', hvs, rfl⟩ := h
    obtain ⟨us, h1, h2, h3⟩ := resL_rep hr hs hvs
    obtain ⟨u, h4, h5⟩ := resO_rep (P := P) hr hs hv
    refine ⟨u :: us, ?_, by simp [h2], fun j x u' hx hu => ?_⟩
    · rw [List.mapM_cons, Sem.run_bind, h4]
      simp only [Result.andThen_ok, Sem.run_bind, h1, Sem.run_pure]
    · cases j with
      | zero => simp at hx hu; subst hx hu; exact h5
      | succ j => exact h3 j x u' (by simpa using hx) (by simpa using hu)
theorem finV_rep {w : World} {st : St} {pl : Pl} {a : Act} (hr : HRel st.heap pl w) (hs : Slots w st.heap pl st.slots a) {fn : Func} {v : SV} (h : finV P fn st = some v) :
    ∃ u, (results fn a.tmps).run P w = .ok u w ∧ SVRep w st.heap pl v u := by
  simp only [finV, Option.bind_eq_some_iff] at h
  obtain ⟨vs, hvs, h⟩ := h
  obtain ⟨us, h1, h2, h3⟩ := resL_rep (P := P) hr hs hvs
  have hm : (fn.results.mapM (resM a) : Sem (Array Value)).run P w = .ok us.toArray w := by
    rw [Array.mapM_eq_mapM_toList, Sem.run_map, h1]; rfl
  split at h
  · rename_i v'
    cases h
    match us, h2, h3, hm with
    | [u], h2, h3, hm =>
      refine ⟨u, ?_, h3 0 _ _ rfl rfl⟩
      rw [results_eq, Sem.run_bind, hm]
      simp
  · rename_i hne
    cases h
    have hsz : ¬ us.toArray.size = 1 := fun e => by
      have : us.length = 1 := by simpa using e
      match vs, h2, hne with
      | [v'], h2, hne => exact hne v' rfl
      | [], h2, _ => simp at h2; omega
      | _ :: _ :: _, h2, _ => simp at h2; omega
    refine ⟨.tuple us.toArray, ?_, .tup _ _ (by simpa using h2) fun j x u hx hu => h3 j x u hx (by simpa using hu)⟩
    rw [results_eq, Sem.run_bind, hm]
    simp only [Result.andThen_ok, dif_neg hsz]; rfl
theorem placeOf_spec {i : Nat} : ∀ {L : List Nat} {n k : Nat}, placeOf i L n = some k → n ≤ k ∧ L[k - n]? = some i
  | j :: l, n, k, h => by
    simp only [placeOf] at h
    cases hj : Nat.beq j i <;> simp only [hj, cond_true, cond_false, Option.some.injEq] at h
    · obtain ⟨h1, h2⟩ := placeOf_spec h
      exact ⟨by omega, by rw [show k - n = (k - (n + 1)) + 1 from by omega]; exact h2⟩
    · subst h; exact ⟨Nat.le_refl _, by simp [Nat.eq_of_beq_eq_true hj]⟩
theorem nodup_spec : ∀ {L : List Nat}, nodup L = true → L.Nodup
  | [], _ => List.nodup_nil
  | k :: l, h => by
    simp only [nodup] at h
    cases hk : mem k l <;> simp only [hk, cond_true, cond_false] at h
    · refine List.nodup_cons.2 ⟨fun hm => ?_, nodup_spec h⟩
      rw [(mem_iff k l).2 hm] at hk; exact nomatch hk
    · exact nomatch h
theorem outBlks_spec {h : Heap} {L : List Nat} : ∀ {l : List (Bool × Ty × Option Nat)} {bs : List Blk}, outBlks h L l = some bs → bs.length = l.length ∧
    ∀ (k : Nat) (b : Blk), bs[k]? = some b → ∃ s, l[k]? = some s ∧ outBlk h L s = some b
  | [], bs, e => by cases e; exact ⟨rfl, fun k b hb => by simp at hb⟩
  | i :: l, bs, e => by
    simp only [outBlks, Option.bind_eq_some_iff, Option.some.injEq] at e
    obtain ⟨b, h2, l', h3, rfl⟩ := e
    obtain ⟨g1, g2⟩ := outBlks_spec h3
    refine ⟨by simp [g1], fun k b' hb => ?_⟩
    cases k with
    | zero => simp at hb; subst hb; exact ⟨i, rfl, h2⟩
    | succ k => simpa using g2 k b' (by simpa using hb)
def Pl.out (pl : Pl) (L : List Nat) : Pl := ⟨fun k => pl.hdr (L.getD k 0), fun k => pl.fp (L.getD k 0), pl.base⟩
def Pl.res (pl : Pl) (S : List (Bool × Ty × Option Nat)) : Pl :=
  ⟨fun k => match S[k]? with
    | some (_, _, some i) => pl.hdr i
    | _ => .slice none 0 0,
   fun k p => match S[k]? with
    | some (_, _, some i) => pl.fp i p
    | _ => False, pl.base⟩
theorem mem_idsOf {S : List (Bool × Ty × Option Nat)} {k : Nat} {b : Bool} {t : Ty} {i : Nat} (h : S[k]? = some (b, t, some i)) : i ∈ idsOf S := by
  induction S generalizing k with
  | nil => simp at h
  | cons x l ih =>
    obtain ⟨b', t', o⟩ := x
    cases k with
    | zero => simp at h; obtain ⟨rfl, rfl, rfl⟩ := h; simp [idsOf]
    | succ k =>
      have := ih (k := k) (by simpa using h)
      cases o <;> simp [idsOf, this]
theorem idsOf_inj {S : List (Bool × Ty × Option Nat)} (hn : (idsOf S).Nodup) {k k' : Nat} {b b' : Bool} {t t' : Ty} {i : Nat} (h : S[k]? = some (b, t, some i)) (h' : S[k']? = some (b', t', some i)) : k = k' := by
  induction S generalizing k k' with
  | nil => simp at h
  | cons x l ih =>
    obtain ⟨b0, t0, o⟩ := x
    cases k with
    | zero =>
      cases k' with
      | zero => rfl
      | succ k' =>
        simp at h; obtain ⟨rfl, rfl, rfl⟩ := h
        have := mem_idsOf (k := k') (by simpa using h')
        simp [idsOf] at hn
        exact (hn.1 this).elim
    | succ k =>
      cases k' with
      | zero =>
        simp at h'; obtain ⟨rfl, rfl, rfl⟩ := h'
        have := mem_idsOf (k := k) (by simpa using h)
        simp [idsOf] at hn
        exact (hn.1 this).elim
      | succ k' =>
        have hn' : (idsOf l).Nodup := by
          cases o with
          | none => exact hn
          | some x => simp [idsOf] at hn; exact hn.2
        rw [ih hn' (k := k) (k' := k') (by simpa using h) (by simpa using h')]
section
variable {w : World} {H : Heap} {pl : Pl} {S : List (Bool × Ty × Option Nat)} {bs : List Blk}
theorem res_back (hL : outBlks H (idsOf S) S = some bs) {k : Nat} {B : Blk} (hB : look (newsH 0 bs) k = some B) : ∃ s, S[k]? = some s ∧ outBlk H (idsOf S) s = some B := by
  rw [look_newsH, if_pos (Nat.zero_le _), Nat.sub_zero] at hB
  exact (outBlks_spec hL).2 k B hB
theorem outBlk_look {L : List Nat} {b : Bool} {t : Ty} {i : Nat} {B : Blk} (h : outBlk H L (b, t, some i) = some B) : ∃ sh xs, look H i = some (.arr sh t xs) ∧
    ((sh = none ∧ B = .arr none t xs) ∨ ∃ d, sh = some d ∧ hit L d = false ∧ B = .arr (some []) t xs) := by
  cases b with
  | false =>
    simp only [outBlk] at h
    split at h
    · rename_i t' xs hl
      cases ht : decide (t' = t) <;> simp only [ht, cond_true, cond_false, Option.some.injEq] at h
      · exact nomatch h
      · have ht : t' = t := by simpa using ht
        subst ht
        exact ⟨none, xs, hl, .inl ⟨rfl, h.symm⟩⟩
    · exact nomatch h
  | true =>
    simp only [outBlk] at h
    split at h
    · rename_i d t' xs hl
      cases hd : hit L d <;> simp only [hd, cond_true, cond_false] at h
      · cases ht : decide (t' = t) <;> simp only [ht, cond_true, cond_false, Option.some.injEq] at h
        · exact nomatch h
        · have ht : t' = t := by simpa using ht
          subst ht
          exact ⟨some d, xs, hl, .inr ⟨d, rfl, hd, h.symm⟩⟩
      · exact nomatch h
    · exact nomatch h
theorem out_okd (hL : outBlks H (idsOf S) S = some bs) {d : List Nat} (hd : hit (idsOf S) d = false) {p : Cell} (h : okd H pl d p) : okd (newsH 0 bs) (pl.res S) [] p := by
  refine ⟨h.1, fun k B hB _ hf => ?_⟩
  obtain ⟨⟨b, t, o⟩, h1, h2⟩ := res_back hL hB
  cases o with
  | none => simp [Pl.res, h1] at hf
  | some i =>
    simp only [Pl.res, h1] at hf
    obtain ⟨sh, xs, hl, _⟩ := outBlk_look h2
    refine h.2 i _ hl (fun hm => ?_) hf
    have hm2 := hit_false _ d hd i hm
    rw [(mem_iff i _).2 (mem_idsOf h1)] at hm2
    exact nomatch hm2
theorem srcs_own {r : RT} {v : SV} {s : List (Bool × Ty × Option Nat)} {t : Ty} {b : Bool} (hr : r = if b then .shl t else .own t) (h : r.srcs v = some s) : (∃ i, v = .own i ∧ s = [(b, t, some i)]) ∨ (v = .nilS ∧ s = [(b, t, none)]) := by
  cases b <;> simp at hr <;> subst hr <;> (cases v <;> simp only [RT.srcs] at h <;> first | (cases h; done) | (cases h; first | exact .inl ⟨_, rfl, rfl⟩ | exact .inr ⟨rfl, rfl⟩))
/-- One slice of a result. -/
theorem own_out (hL : outBlks H (idsOf S) S = some bs) {k : Nat} {b : Bool} {t : Ty} {v : SV} {u : Value} (hv : SVRep w H pl v u)
    (h : (∃ i, v = .own i ∧ S[k]? = some (b, t, some i)) ∨ (v = .nilS ∧ S[k]? = some (b, t, none))) : SVRep w (newsH 0 bs) (pl.res S) (.own k) u := by
  have hlt : ∀ {s}, S[k]? = some s → k < bs.length := fun {s} h => by rw [(outBlks_spec hL).1]; exact (List.getElem?_eq_some_iff.1 h).1
  have hget : ∀ {s}, S[k]? = some s → ∃ B, look (newsH 0 bs) k = some B ∧ outBlk H (idsOf S) s = some B := fun {s} h => by
    have hk := List.getElem?_eq_getElem (hlt h)
    obtain ⟨s', h1, h2⟩ := (outBlks_spec hL).2 k _ hk
    rw [h] at h1; cases h1
    exact ⟨_, by rw [look_newsH, if_pos (Nat.zero_le _), Nat.sub_zero]; exact hk, h2⟩
  rcases h with ⟨i, rfl, h⟩ | ⟨rfl, h⟩
  · obtain ⟨B, h1, h2⟩ := hget h
    obtain ⟨sh, xs, hl, h3⟩ := outBlk_look h2
    have e : (pl.res S).hdr k = pl.hdr i := by simp only [Pl.res, h]
    cases hv with
    | own _ sh' t' ys hl' =>
      rw [← e]
      rcases h3 with ⟨_, rfl⟩ | ⟨d, _, _, rfl⟩
      · exact .own k none t xs h1
      · exact .own k (some []) t xs h1
  · obtain ⟨B, h1, h2⟩ := hget h
    have e : (pl.res S).hdr k = .slice none 0 0 := by simp only [Pl.res, h]
    cases hv with
    | nilS =>
      rw [← e]
      cases b with
      | false => cases h2; exact .own k none t [] h1
      | true => cases h2; exact .own k (some []) t [] h1
section
variable {H2 : Heap} {plR : Pl} {m : Nat} {LL : List Nat} {gh : List (Option Nat)}
mutual
theorem out_repG (hr : HRel H pl w) (hown : ∀ (k : Nat) (b : Bool) (t : Ty) (v : SV) (u : Value), SVRep w H pl v u → ((∃ i, v = .own i ∧ S[k]? = some (b, t, some i)) ∨ (v = .nilS ∧ S[k]? = some (b, t, none))) → SVRep w H2 plR (.own (m + k)) u)
    (hro : ∀ d p, hit LL d = false → okd H pl d p → okd H2 plR [] p) (hptr : ∀ i j o u, posOf i gh 0 = some j → SVRep w H pl (.ptr i 0 o) u → SVRep w H2 plR (.ptr j 0 o) u) : (r : RT) → {v v' : SV} → {u : Value} → {k k' : Nat} → {s : List (Bool × Ty × Option Nat)} → r.srcs v = some s → (∀ (j : Nat) (x : Bool × Ty × Option Nat), s[j]? = some x → S[k + j]? = some x) →
    r.out H LL gh (m + k) v = some (v', k') → SVRep w H pl v u → SVRep w H2 plR v' u ∧ k' = m + (k + s.length)
  | .sc, v, v', u, k, k', s, hs, hS, h, hv => by
    simp only [RT.srcs, Option.some.injEq] at hs
    subst hs
    cases hv with
    | r d x _ hx => cases hx <;> (simp only [RT.out, Option.some.injEq, Prod.mk.injEq] at h) <;> first | (obtain ⟨rfl, rfl⟩ := h; exact ⟨by first | exact rep_int | exact rep_bool | exact rep_str, rfl⟩) | (exact nomatch h)
    | _ => simp [RT.out] at h
  | .own t, v, v', u, k, k', s, hs, hS, h, hv => by
    simp only [RT.out, Option.some.injEq, Prod.mk.injEq] at h
    obtain ⟨rfl, rfl⟩ := h
    rcases srcs_own (b := false) rfl hs with ⟨i, rfl, rfl⟩ | ⟨rfl, rfl⟩
    · exact ⟨hown k _ t _ u hv (.inl ⟨i, rfl, hS 0 _ rfl⟩), rfl⟩
    · exact ⟨hown k _ t _ u hv (.inr ⟨rfl, hS 0 _ rfl⟩), rfl⟩
  | .shl t, v, v', u, k, k', s, hs, hS, h, hv => by
    simp only [RT.out, Option.some.injEq, Prod.mk.injEq] at h
    obtain ⟨rfl, rfl⟩ := h
    rcases srcs_own (b := true) rfl hs with ⟨i, rfl, rfl⟩ | ⟨rfl, rfl⟩
    · exact ⟨hown k _ t _ u hv (.inl ⟨i, rfl, hS 0 _ rfl⟩), rfl⟩
    · exact ⟨hown k _ t _ u hv (.inr ⟨rfl, hS 0 _ rfl⟩), rfl⟩
  | .ro t, v, v', u, k, k', s, hs, hS, h, hv => by
    simp only [RT.srcs, Option.some.injEq] at hs
    subst hs
    simp only [RT.out, Option.bind_eq_some_iff] at h
    obtain ⟨⟨d, xs⟩, h1, h2⟩ := h
    cases hd : hit LL d <;> simp only [hd, cond_true, cond_false, Option.some.injEq, Prod.mk.injEq] at h2
    · obtain ⟨rfl, rfl⟩ := h2
      exact ⟨.r _ _ _ ((list_repR hr h1 hv).frame fun p u hp hu => ⟨hro d p hd hp, hu⟩), rfl⟩
    · exact nomatch h2
  | .agg l, v, v', u, k, k', s, hs, hS, h, hv => by
    cases hv with
    | agg cs vs h1 h2 h3 =>
      simp only [RT.out, Option.bind_eq_some_iff, Option.some.injEq, Prod.mk.injEq] at h
      obtain ⟨⟨l', k2⟩, h4, rfl, rfl⟩ := h
      simp only [RT.srcs] at hs
      obtain ⟨g1, g2, g3⟩ := outL_repG hr hown hro hptr l hs hS h4 vs.toList (by simpa using h1) fun j x u hx hu => h3 j x u hx (by simpa using hu)
      exact ⟨.agg _ _ (by simpa using g1) h2 fun j x u hx hu => g2 j x u hx (by simpa using hu), g3⟩
    | _ => simp [RT.out] at h
  | .tup l, v, v', u, k, k', s, hs, hS, h, hv => by
    cases hv with
    | tup cs vs h1 h3 =>
      simp only [RT.out, Option.bind_eq_some_iff, Option.some.injEq, Prod.mk.injEq] at h
      obtain ⟨⟨l', k2⟩, h4, rfl, rfl⟩ := h
      simp only [RT.srcs] at hs
      obtain ⟨g1, g2, g3⟩ := outL_repG hr hown hro hptr l hs hS h4 vs.toList (by simpa using h1) fun j x u hx hu => h3 j x u hx (by simpa using hu)
      exact ⟨.tup _ _ (by simpa using g1) fun j x u hx hu => g2 j x u hx (by simpa using hu), g3⟩
    | _ => simp [RT.out] at h
  | .fn as bs, v, v', u, k, k', s, hs, hS, h, hv => by
    cases hv with
    | fn f a b us vs h1 h3 h1' h3' =>
      simp only [RT.out, Option.bind_eq_some_iff, Option.some.injEq, Prod.mk.injEq] at h
      obtain ⟨⟨l', k2⟩, h4, ⟨l2', k3⟩, h5, rfl, rfl⟩ := h
      simp only [RT.srcs, Option.bind_eq_some_iff, Option.some.injEq] at hs
      obtain ⟨s1, e1, s2, e2, rfl⟩ := hs
      obtain ⟨g1, g2, g3⟩ := outL_repG hr hown hro hptr as e1 (fun j x hx => hS j x (by rw [List.getElem?_append_left (List.getElem?_eq_some_iff.1 hx).1]; exact hx)) h4 us.toList (by simpa using h1) fun j x u hx hu => h3 j x u hx (by simpa using hu)
      simp only at h5
      subst g3
      obtain ⟨q1, q2, q3⟩ := outL_repG hr hown hro hptr bs e2 (fun j x hx => by
        have := hS (s1.length + j) x (by rw [List.getElem?_append_right (by omega), Nat.add_sub_cancel_left]; exact hx)
        rw [Nat.add_assoc]; exact this) h5 vs.toList (by simpa using h1') fun j x u hx hu => h3' j x u hx (by simpa using hu)
      exact ⟨.fn _ _ _ _ _ (by simpa using g1) (fun j x u hx hu => g2 j x u hx (by simpa using hu)) (by simpa using q1) (fun j x u hx hu => q2 j x u hx (by simpa using hu)), by simp; omega⟩
    | _ => simp [RT.out] at h
  | .ptr, v, v', u, k, k', s, hs, hS, h, hv => by
    cases v with
    | ptr i x o =>
      cases x with
      | zero =>
        simp only [RT.out, Option.bind_eq_some_iff, Option.some.injEq, Prod.mk.injEq] at h
        simp only [RT.srcs, Option.some.injEq] at hs
        subst hs
        obtain ⟨j, h1, rfl, rfl⟩ := h
        exact ⟨hptr i j o u h1 hv, rfl⟩
      | succ x => simp [RT.out] at h
    | _ => simp [RT.out] at h
theorem outL_repG (hr : HRel H pl w) (hown : ∀ (k : Nat) (b : Bool) (t : Ty) (v : SV) (u : Value), SVRep w H pl v u → ((∃ i, v = .own i ∧ S[k]? = some (b, t, some i)) ∨ (v = .nilS ∧ S[k]? = some (b, t, none))) → SVRep w H2 plR (.own (m + k)) u)
    (hro : ∀ d p, hit LL d = false → okd H pl d p → okd H2 plR [] p) (hptr : ∀ i j o u, posOf i gh 0 = some j → SVRep w H pl (.ptr i 0 o) u → SVRep w H2 plR (.ptr j 0 o) u) : (l : List RT) → {cs cs' : List SV} → {k k' : Nat} → {s : List (Bool × Ty × Option Nat)} → srcsL l cs = some s → (∀ (j : Nat) (x : Bool × Ty × Option Nat), s[j]? = some x → S[k + j]? = some x) →
    outL H LL gh l (m + k) cs = some (cs', k') → (us : List Value) → cs.length = us.length → (∀ (j : Nat) (x : SV) (u : Value), cs[j]? = some x → us[j]? = some u → SVRep w H pl x u) →
    cs'.length = us.length ∧ (∀ (j : Nat) (x : SV) (u : Value), cs'[j]? = some x → us[j]? = some u → SVRep w H2 plR x u) ∧ k' = m + (k + s.length)
  | [], [], cs', k, k', s, hs, hS, h, us, hl, _ => by
    simp only [srcsL, Option.some.injEq] at hs
    simp only [outL, Option.some.injEq, Prod.mk.injEq] at h
    subst hs
    obtain ⟨rfl, rfl⟩ := h
    exact ⟨hl, fun j x u hx _ => by simp at hx, rfl⟩
  | r :: l, v :: cs, cs', k, k', s, hs, hS, h, u :: us, hl, hp => by
    simp only [srcsL, Option.bind_eq_some_iff, Option.some.injEq] at hs
    obtain ⟨s1, hs1, s2, hs2, rfl⟩ := hs
    simp only [outL, Option.bind_eq_some_iff, Option.some.injEq, Prod.mk.injEq] at h
    obtain ⟨⟨v', k2⟩, h1, ⟨l', k3⟩, h2, rfl, rfl⟩ := h
    obtain ⟨g1, g2⟩ := out_repG hr hown hro hptr r hs1 (fun j x hx => hS j x (by rw [List.getElem?_append_left (List.getElem?_eq_some_iff.1 hx).1]; exact hx)) h1 (hp 0 v u rfl rfl)
    simp only at h2
    subst g2
    obtain ⟨q1, q2, q3⟩ := outL_repG hr hown hro hptr l hs2 (fun j x hx => by
        have := hS (s1.length + j) x (by rw [List.getElem?_append_right (by omega), Nat.add_sub_cancel_left]; exact hx)
        rw [Nat.add_assoc]; exact this) h2 us (by simpa using hl) fun j x u hx hu => hp (j + 1) x u (by simpa using hx) (by simpa using hu)
    refine ⟨by simp [q1], fun j x u' hx hu => ?_, by simp; omega⟩
    cases j with
    | zero => simp at hx hu; subst hx hu; exact g1
    | succ j => exact q2 j x u' (by simpa using hx) (by simpa using hu)
  | [], _ :: _, _, _, _, _, hs, _, _, _, _, _ => nomatch hs
  | _ :: _, [], _, _, _, _, hs, _, _, _, _, _ => nomatch hs
end
end
theorem out_rep (hr : HRel H pl w) (hL : outBlks H (idsOf S) S = some bs) (r : RT) {v v' : SV} {u : Value} {k k' : Nat} {s : List (Bool × Ty × Option Nat)} (hs : r.srcs v = some s) (hS : ∀ (j : Nat) (x : Bool × Ty × Option Nat), s[j]? = some x → S[k + j]? = some x)
    (h : r.out H (idsOf S) [] k v = some (v', k')) (hv : SVRep w H pl v u) : SVRep w (newsH 0 bs) (pl.res S) v' u ∧ k' = k + s.length := by
  have := out_repG (H2 := newsH 0 bs) (plR := pl.res S) (m := 0) (LL := idsOf S) (gh := []) hr (fun k b t v u hv hc => by rw [Nat.zero_add]; exact own_out hL hv hc) (fun d p hd hp => out_okd hL hd hp) (fun i j o u h => nomatch h) r hs hS (by rw [Nat.zero_add]; exact h) hv
  simpa using this
theorem out_hrel (hr : HRel H pl w) (hn : nodup (idsOf S) = true) (hL : outBlks H (idsOf S) S = some bs) : HRel (newsH 0 bs) (pl.res S) w := by
  refine ⟨fun k B hB => ?_, fun k k' B B' p h1 h2 f1 f2 => ?_, fun k B p hB hf => ?_, hr.nb⟩
  · obtain ⟨⟨b, t, o⟩, h1, h2⟩ := res_back hL hB
    cases o with
    | none =>
      have e : (pl.res S).hdr k = .slice none 0 0 := by simp only [Pl.res, h1]
      have ef : ∀ p, ¬ (pl.res S).fp k p := fun p hp => by simp [Pl.res, h1] at hp
      have row : ∀ inner, Nonempty (Row w inner t [] ((pl.res S).hdr k) ((pl.res S).fp k)) := fun inner =>
        ⟨⟨none, 0, 0, 0, fun _ _ => undef, fun _ _ _ => False, e, Nat.le_refl _, .inl rfl, fun j hj => by simp at hj, fun i j r h => by have := (cellIn_lt h).1; simp at this, fun i j r h => by have := (cellIn_lt h).1; simp at this,
          fun i j r p h => by have := (cellIn_lt h).1; simp at this, fun i j r i' j' r' p h => by have := (cellIn_lt h).1; simp at this, fun p => ⟨fun hp => (ef p hp).elim, fun hp => by
            rcases hp with ⟨_, h, h'⟩ | ⟨i, j, r, h, _⟩
            · omega
            · have := (cellIn_lt h).1; simp at this⟩⟩⟩
      cases b with
      | false => cases h2; exact row _
      | true => cases h2; exact row _
    | some i =>
      have e : (pl.res S).hdr k = pl.hdr i := by simp only [Pl.res, h1]
      have ef : (pl.res S).fp k = pl.fp i := by funext p; simp only [Pl.res, h1]
      obtain ⟨sh, xs, hl, h3⟩ := outBlk_look h2
      have hb := hr.blk i _ hl
      rcases h3 with ⟨rfl, rfl⟩ | ⟨d, rfl, hd, rfl⟩
      · show Nonempty (Row w (RepD w) t xs ((pl.res S).hdr k) ((pl.res S).fp k))
        rw [e, ef]; exact hb
      · obtain ⟨⟨a, cap, b, o, vs, fs, q1, q2, q3, q4, q5, q6, q7, q8, q9⟩⟩ := hb
        exact ⟨⟨a, cap, b, o, vs, fs, e.trans q1, q2, q3, q4, q5, fun i j r hc => ⟨(q6 i j r hc).1.frame fun p u hp hu => ⟨out_okd hL hd hp, hu⟩, (q6 i j r hc).2⟩, q7, q8, fun p => by rw [ef]; exact q9 p⟩⟩
  · obtain ⟨⟨b, t, o⟩, g1, g2⟩ := res_back hL h1
    obtain ⟨⟨b', t', o'⟩, g1', g2'⟩ := res_back hL h2
    cases o with
    | none => simp [Pl.res, g1] at f1
    | some i =>
      cases o' with
      | none => simp [Pl.res, g1'] at f2
      | some i' =>
        simp only [Pl.res, g1] at f1
        simp only [Pl.res, g1'] at f2
        obtain ⟨_, _, hl, _⟩ := outBlk_look g2
        obtain ⟨_, _, hl', _⟩ := outBlk_look g2'
        have := hr.dis i i' _ _ p hl hl' f1 f2
        subst this
        exact idsOf_inj (nodup_spec hn) g1 g1'
  · obtain ⟨⟨b, t, o⟩, g1, g2⟩ := res_back hL hB
    cases o with
    | none => simp [Pl.res, g1] at hf
    | some i =>
      simp only [Pl.res, g1] at hf
      obtain ⟨_, _, hl, _⟩ := outBlk_look g2
      exact hr.ob i _ p hl hf
end
theorem look_slots0 (args : List Arg) (n t : Nat) : look (slots0 n args) t = if n ≤ t then (args[t - n]?).map Arg.sv else none := by
  induction args generalizing n with
  | nil => simp [slots0, look]
  | cons a l ih =>
    rw [slots0, look_cons, ih]
    by_cases h : n = t
    · subst h; simp
    · by_cases h2 : n ≤ t
      · rw [if_neg h, if_pos (by omega), if_pos h2, show t - n = (t - (n + 1)) + 1 from by omega]; rfl
      · rw [if_neg h, if_neg (by omega), if_neg h2]
theorem repRs_sv {w : World} {ok : Cell → Prop} {pl : Pl} (hb : ∀ p, ok p → pl.base p) {rs : List R} {vs : Array Value} (h : RepRs w ok rs vs) :
    (rs.map (SV.r [])).length = vs.size ∧ ∀ (j : Nat) (x : SV) (u : Value), (rs.map (SV.r []))[j]? = some x → vs[j]? = some u → SVRep w [] pl x u := by
  refine ⟨by simpa using h.1, fun j x u hx hu => ?_⟩
  rw [List.getElem?_map] at hx
  obtain ⟨r, hr, rfl⟩ := Option.map_eq_some_iff.1 hx
  exact .r _ _ _ ((h.2 j r u hr hu).frame fun p u hp hu => ⟨⟨hb p hp, fun i B hB => by simp [look] at hB⟩, hu⟩)
theorem arg_rep {w : World} {ok : Cell → Prop} {pl : Pl} (hb : ∀ p, ok p → pl.base p) {x : Arg} {u : Value} (h : RepArg w ok x u) : SVRep w [] pl x.sv u := by
  cases x with
  | one r => exact .r _ _ _ (h.frame fun p u hp hu => ⟨⟨hb p hp, fun i B hB => by simp [look] at hB⟩, hu⟩)
  | agg rs =>
    obtain ⟨vs, rfl, h⟩ := h
    obtain ⟨g1, g2⟩ := repRs_sv (pl := pl) hb h
    refine .agg _ _ g1 (fun j v hv => ?_) g2
    have hj : j < rs.length := by rw [h.1]; exact (Array.getElem?_eq_some_iff.1 hv).1
    exact (h.2 j _ v (List.getElem?_eq_getElem hj) hv).isOne
  | fn f a b =>
    obtain ⟨us, vs, rfl, h, h'⟩ := h
    obtain ⟨g1, g2⟩ := repRs_sv (pl := pl) hb h
    obtain ⟨g3, g4⟩ := repRs_sv (pl := pl) hb h'
    exact .fn _ _ _ _ _ g1 g2 g3 g4
/-- THE CONTRACT, out of the evaluator. -/
theorem pure_of_ev {ρ : Type} {E : Env} (hE : EnvOk E) {LP : Nat → Ev ρ → Ev ρ} {g : FuncId} {fn : Func} {c : Code} {args : List Arg} {r : ρ} {dec : Out → Option ρ} {enc : ρ → Out} (hd : ∀ o r, dec o = some r → o = enc r) (hf : E.P.funcs[g]? = some fn) (hc : fn.body = some c)
    (hnm : (fn.name == "runtime.NumGoroutine") = false) (hn : Nat.ble args.length fn.ntmps = true) (hLP : LPGood E LP 0 c) {rt : RT} (h : ev E LP 0 c (st0 fn args) (fin E.P fn rt dec) = some r) : PureCalls E.P g args (enc r) := by
  generalize ho : enc r = out
  refine ⟨enters_of hf (by rw [hc]; rfl) hnm, fun w us ok hlen hargs => ?_⟩
  have hn := Nat.le_of_ble_eq_true hn
  refine calls_of_wp hf hc ?_
  let pl0 : Pl := ⟨fun _ => undef, fun _ _ => False, fun p => ok p ∨ w.at? p = none⟩
  have hrel : Rl w ⟨fun _ => False, fun _ => undef, fun _ => .box []⟩ pl0.base fn.ntmps (st0 fn args) { tmps := us ++ Array.replicate (fn.ntmps - us.size) undef, defers := [] } w := by
    refine ⟨pl0, ⟨⟨fun i B hB => by simp [st0, look] at hB, fun i j B B' p hB => by simp [st0, look] at hB, fun i B p hB => by simp [st0, look] at hB, fun p hp => .inr hp⟩, fun t v hv => ?_, by simp [st0]; omega, rfl, fun i _ => rfl, Grown.refl w, fun p u hp _ => ⟨fun i B hB => by simp [st0, look] at hB, hp, rfl⟩, fun k i hk => by simp [st0] at hk⟩, rfl, rfl⟩
    simp only [st0] at hv
    rw [look_slots0, if_pos (Nat.zero_le _), Nat.sub_zero] at hv
    obtain ⟨x, hx, rfl⟩ := Option.map_eq_some_iff.1 hv
    have ht : t < us.size := by rw [← hlen]; exact (List.getElem?_eq_some_iff.1 hx).1
    have hg : (us ++ Array.replicate (fn.ntmps - us.size) undef).getD t undef = us[t] := by
      rw [Array.getD_eq_getD_getElem?, Array.getElem?_append_left ht, Array.getElem?_eq_getElem ht]; rfl
    rw [hg]
    exact arg_rep (fun p hp => Or.inl hp) (hargs t x _ hx (Array.getElem?_eq_getElem ht))
  refine ev_sound hE c 0 hLP w ⟨fun _ => False, fun _ => undef, fun _ => .box []⟩ pl0.base fn.ntmps _ _ w _ r _ hrel h fun e st' a' w' hK hr' => ?_
  obtain ⟨pl, hr, hb, _⟩ := hr'
  have key : ∀ v, finV E.P fn st' = some v → canon rt st'.heap v = some out → a'.defers = [] ∧ ∃ u, (results fn a'.tmps).run E.P w' = .ok u w' ∧ ∃ u' pl', Ending.returned u = .returned u' ∧ HRel (newsH 0 out.2) pl' w' ∧
      SVRep w' (newsH 0 out.2) pl' out.1 u' ∧ pl'.base = (fun p => ok p ∨ w.at? p = none) ∧
      (∀ p x, w.at? p = some x → w'.at? p = some x ∧ w'.ice? p = w.ice? p) ∧ (∀ i B p, look (newsH 0 out.2) i = some B → pl'.fp i p → w.at? p = none) ∧ Grown w w' := fun v hv hcn => by
    obtain ⟨u, hu, hvr⟩ := finV_rep (P := E.P) hr.hr hr.sl hv
    simp only [canon, Option.bind_eq_some_iff] at hcn
    obtain ⟨S, hS, hcn⟩ := hcn
    cases hnd : nodup (idsOf S) <;> simp only [hnd, cond_true, cond_false, Option.bind_eq_some_iff, Option.some.injEq] at hcn
    · exact nomatch hcn
    · obtain ⟨bs, hbs, ⟨v', k'⟩, hv', rfl⟩ := hcn
      refine ⟨hr.df, u, hu, u, pl.res S, rfl, out_hrel hr.hr hnd hbs, (out_rep hr.hr hbs rt hS (fun j x hx => by rw [Nat.zero_add]; exact hx) hv' hvr).1, hb, fun p x hp => ?_, fun i B p hB hf => ?_, hr.gr⟩
      · obtain ⟨_, g2, g3⟩ := hr.fr p x hp (fun h => h)
        exact ⟨g2, g3⟩
      · obtain ⟨⟨b, t, o⟩, g1, g2⟩ := res_back hbs hB
        cases o with
        | none => simp [Pl.res, g1] at hf
        | some i' =>
          simp only [Pl.res, g1] at hf
          obtain ⟨_, _, hl, _⟩ := outBlk_look g2
          cases hq : w.at? p with
          | none => rfl
          | some x => exact ((hr.fr p x hq (fun h => h)).1 i' _ hl hf).elim
  cases e with
  | exit j => exact nomatch hK
  | normal =>
    simp only [fin, Option.bind_eq_some_iff] at hK
    obtain ⟨v, hv, o, hcn, hdec⟩ := hK
    exact key v hv (hcn.trans (congrArg some ((hd o r hdec).trans ho)))
  | ret =>
    simp only [fin, Option.bind_eq_some_iff] at hK
    obtain ⟨v, hv, o, hcn, hdec⟩ := hK
    exact key v hv (hcn.trans (congrArg some ((hd o r hdec).trans ho)))
end
end Go.Proofs.Ev

namespace Go.Proofs.Ev
variable [Tok]
set_option linter.unusedSectionVars false
section
variable {w : World} {H : Heap} {pl : Pl} {P : Program}
end
/-- A parameter's shape. -/
inductive Sh where
  | one (t : Ty)
  | agg (ts : List Ty)
  | fn
def toArg (h : Heap) : Sh → SV → Option (List Nat × Arg)
  | .one t, v => (v.asR h t).bind fun p => some (p.1, .one p.2)
  | .agg ts, .agg cs => (asRs h ts cs).bind fun p => some (p.1, .agg p.2)
  | .fn, .fn f [] [] => some ([], .fn f [] [])
  | _, _ => none
def toArgs (h : Heap) : List Sh → List SV → Option (List Nat × List Arg)
  | [], [] => some ([], [])
  | s :: ss, v :: vs => (toArg h s v).bind fun p => (toArgs h ss vs).bind fun q => some (p.1 ++ q.1, p.2 :: q.2)
  | _, _ => none
mutual
/-- A result where it is called. -/
def SV.shift (n : Nat) (d : List Nat) : SV → SV
  | .own i => .own (n + i)
  | .r [] x => mkR d x
  | .nilS => .nilS
  | .agg cs => .agg (shiftL n d cs)
  | .tup cs => .tup (shiftL n d cs)
  | _ => .undef
def shiftL (n : Nat) (d : List Nat) : List SV → List SV
  | [] => []
  | v :: l => v.shift n d :: shiftL n d l
end
def Blk.shift (d : List Nat) : Blk → Blk
  | .arr none t xs => .arr none t xs
  | .arr (some _) t xs => .arr (some d) t xs
  | .box cs => .box cs
def shiftB (d : List Nat) : List Blk → List Blk
  | [] => []
  | b :: l => b.shift d :: shiftB d l
def goodB : List Blk → Bool
  | [] => true
  | .arr none _ _ :: l => goodB l
  | .arr (some []) _ _ :: l => goodB l
  | _ :: _ => false
/-- An oracle out of a function: 'G' gives, for the arguments, what comes of it. -/
abbrev PG := (ρ : Type) → List Arg → (Out → Option ρ) → Option ρ
def pureOrc (ss : List Sh) (G : PG) : Orc := fun ρ nid vs h K =>
  (toArgs h ss vs).bind fun p => G ρ p.2 fun o => cond (goodB o.2) (K { v := o.1.shift nid p.1, news := shiftB p.1 o.2 }) none
def PureOk (P : Program) (g : FuncId) (G : PG) : Prop :=
  ∀ (ρ : Type) args (K : Out → Option ρ) (out : ρ), G ρ args K = some out → ∃ o, K o = some out ∧ PureCalls P g args o
section
variable {w : World} {H : Heap} {pl : Pl} {P : Program}
theorem toArg_rep (hr : HRel H pl w) {s : Sh} {v : SV} {u : Value} {d : List Nat} {x : Arg} (h : toArg H s v = some (d, x)) (hv : SVRep w H pl v u) : RepArg w (okd H pl d) x u := by
  unfold toArg at h
  split at h
  · simp only [Option.bind_eq_some_iff, Option.some.injEq, Prod.mk.injEq] at h
    obtain ⟨⟨d', r⟩, h1, rfl, rfl⟩ := h
    exact asR_rep hr h1 hv
  · simp only [Option.bind_eq_some_iff, Option.some.injEq, Prod.mk.injEq] at h
    obtain ⟨⟨d', rs⟩, h1, rfl, rfl⟩ := h
    cases hv with
    | agg cs vs hl h2 h3 =>
      obtain ⟨g1, g2⟩ := asRs_rep hr h1 (us := vs.toList) (by simpa using hl) fun j x u hx hu => h3 j x u hx (by simpa using hu)
      exact ⟨vs, rfl, by simpa using g1, fun j r u hr hu => g2 j r u hr (by simpa using hu)⟩
  · cases h
    cases hv with
    | fn f as bs us vs hl h1 hl' h2 =>
      exact ⟨us, vs, rfl, ⟨hl, fun j r u hr _ => by simp at hr⟩, ⟨hl', fun j r u hr _ => by simp at hr⟩⟩
  · exact nomatch h
theorem RepArg.mono {ok ok' : Cell → Prop} (hk : ∀ p, ok p → ok' p) {x : Arg} {u : Value} (h : RepArg w ok x u) : RepArg w ok' x u := by
  cases x with
  | one r => exact RepR.frame h fun p u hp hu => ⟨hk p hp, hu⟩
  | agg rs => obtain ⟨vs, e, h1, h2⟩ := h; exact ⟨vs, e, h1, fun j r u hr hu => (h2 j r u hr hu).frame fun p u hp hu => ⟨hk p hp, hu⟩⟩
  | fn f a b =>
    obtain ⟨us, vs, e, ⟨h1, h2⟩, h3, h4⟩ := h
    exact ⟨us, vs, e, ⟨h1, fun j r u hr hu => (h2 j r u hr hu).frame fun p u hp hu => ⟨hk p hp, hu⟩⟩, h3, fun j r u hr hu => (h4 j r u hr hu).frame fun p u hp hu => ⟨hk p hp, hu⟩⟩
theorem toArgs_rep (hr : HRel H pl w) : ∀ {ss : List Sh} {vs : List SV} {us : List Value} {d : List Nat} {xs : List Arg}, toArgs H ss vs = some (d, xs) → vs.length = us.length →
    (∀ (j : Nat) (x : SV) (u : Value), vs[j]? = some x → us[j]? = some u → SVRep w H pl x u) →
    xs.length = us.length ∧ ∀ (j : Nat) (x : Arg) (u : Value), xs[j]? = some x → us[j]? = some u → RepArg w (okd H pl d) x u
  | [], [], us, d, xs, h, hl, _ => by cases h; exact ⟨hl, fun j r u hr _ => by simp at hr⟩
  | s :: ss, v :: vs, u :: us, d, xs, h, hl, hp => by
    simp only [toArgs, Option.bind_eq_some_iff, Option.some.injEq, Prod.mk.injEq] at h
    obtain ⟨⟨d1, x1⟩, h1, ⟨d2, xs2⟩, h2, rfl, rfl⟩ := h
    obtain ⟨g1, g2⟩ := toArgs_rep hr h2 (by simpa using hl) fun j x u hx hu => hp (j + 1) x u (by simpa using hx) (by simpa using hu)
    refine ⟨by simp [g1], fun j r u' hj hu => ?_⟩
    cases j with
    | zero => simp at hj hu; subst hj hu; exact (toArg_rep hr h1 (hp 0 v u rfl rfl)).mono fun p hp => okd_mono (fun i hi => by rw [mem_append, hi]; rfl) hp
    | succ j => exact (g2 j r u' (by simpa using hj) (by simpa using hu)).mono fun p hp => okd_mono (fun i hi => by rw [mem_append, hi, Bool.or_true]) hp
  | [], _ :: _, _, _, _, h, _, _ => nomatch h
  | _ :: _, [], _, _, _, h, _, _ => nomatch h
theorem look_shiftB (d : List Nat) (bs : List Blk) (n i : Nat) : look (newsH n (shiftB d bs)) i = (look (newsH n bs) i).map (Blk.shift d) := by
  induction bs generalizing n with
  | nil => rfl
  | cons b l ih =>
    rw [shiftB, newsH, newsH, look_cons, look_cons, ih]
    by_cases h : n = i <;> simp [h]
theorem goodB_spec : ∀ {bs : List Blk}, goodB bs = true → ∀ (k : Nat) (b : Blk), bs[k]? = some b → ∃ t xs, b = .arr none t xs ∨ b = .arr (some []) t xs
  | .arr none t xs :: l, h, k, b, hb => by
    cases k with
    | zero => simp at hb; exact ⟨t, xs, .inl hb.symm⟩
    | succ k => exact goodB_spec (bs := l) h k b (by simpa using hb)
  | .arr (some []) t xs :: l, h, k, b, hb => by
    cases k with
    | zero => simp at hb; exact ⟨t, xs, .inr hb.symm⟩
    | succ k => exact goodB_spec (bs := l) h k b (by simpa using hb)
def Pl.join (pl po : Pl) (n m : Nat) : Pl := ⟨fun i => if i < n ∨ n + m ≤ i then pl.hdr i else po.hdr (i - n), fun i => if i < n ∨ n + m ≤ i then pl.fp i else po.fp (i - n), pl.base⟩
section
variable {w w' : World} {H : Heap} {pl po : Pl} {n : Nat} {bs : List Blk} {d : List Nat}
theorem look_lt {i : Nat} {B : Blk} {bs : List Blk} (h : look (newsH 0 bs) i = some B) : i < bs.length := by
  rw [look_newsH, if_pos (Nat.zero_le _), Nat.sub_zero] at h
  exact (List.getElem?_eq_some_iff.1 h).1
theorem shiftB_length (d : List Nat) : (bs : List Blk) → (shiftB d bs).length = bs.length
  | [] => rfl
  | _ :: l => by simp [shiftB, shiftB_length d l]
theorem look_out {d : List Nat} {bs : List Blk} {n i : Nat} (hi : i < n ∨ n + bs.length ≤ i) : look (newsH n (shiftB d bs)) i = none := by
  rw [look_newsH]
  by_cases h : n ≤ i
  · rw [if_pos h, List.getElem?_eq_none]; rw [shiftB_length]; omega
  · rw [if_neg h]
theorem look_in {H : Heap} {n m i : Nat} (hn : ∀ k, k < m → look H (n + k) = none) (hi : ¬ (i < n ∨ n + m ≤ i)) : look H i = none := by
  have := hn (i - n) (by omega)
  rwa [show n + (i - n) = i from by omega] at this
theorem toArg_le {h h' : Heap} (hh : Ext h h') (s : Sh) (v : SV) : Le (toArg h s v) (toArg h' s v) := by
  intro p hp
  unfold toArg at hp
  split at hp <;> simp only [toArg]
  · exact ((asR_le hh _ _).bind fun _ => Le.refl _) p hp
  · exact ((asRs_le hh _ _).bind fun _ => Le.refl _) p hp
  · exact hp
  · exact nomatch hp
theorem toArgs_le {h h' : Heap} (hh : Ext h h') : (ss : List Sh) → (vs : List SV) → Le (toArgs h ss vs) (toArgs h' ss vs)
  | [], [] => Le.refl _
  | s :: ss, v :: vs => (toArg_le hh s v).bind fun _ => (toArgs_le hh ss vs).bind fun _ => Le.refl _
  | [], _ :: _ => Le.refl _
  | _ :: _, [] => Le.refl _
/-- What a result that is read only reads, where it is called. -/
theorem join_okd (hr : HRel H pl w) (hn : ∀ k, k < bs.length → look H (n + k) = none) (hown : ∀ i B p, look H i = some B → pl.fp i p → ∃ u, w.at? p = some u)
    (hb : po.base = fun p => okd H pl d p ∨ w.at? p = none) {p : Cell} (h : okd (newsH 0 bs) po [] p) : okd (H ++ newsH n (shiftB d bs)) (pl.join po n bs.length) d p := by
  have hbase : okd H pl d p ∨ w.at? p = none := by have := h.1; rw [hb] at this; exact this
  refine ⟨hbase.elim (fun h => h.1) (hr.nb p), fun i B hB hm hf => ?_⟩
  by_cases hi : i < n ∨ n + bs.length ≤ i
  · simp only [Pl.join, if_pos hi] at hf
    have hB' : look H i = some B := by
      rw [look_append, look_out hi] at hB
      simpa using hB
    rcases hbase with h' | h'
    · exact h'.2 i B hB' hm hf
    · obtain ⟨u, hu⟩ := hown i B p hB' hf
      rw [h'] at hu; exact nomatch hu
  · simp only [Pl.join, if_neg hi] at hf
    rw [look_append, look_in hn hi, look_shiftB, look_newsH, if_pos (by omega)] at hB
    simp only [Option.none_or, Option.map_eq_some_iff] at hB
    obtain ⟨b0, hb0, rfl⟩ := hB
    exact h.2 (i - n) b0 (by rw [look_newsH, if_pos (Nat.zero_le _), Nat.sub_zero]; exact hb0) (fun hm => by simp [mem] at hm) hf
theorem join_look (hn : ∀ k, k < bs.length → look H (n + k) = none) (k : Nat) (hk : k < bs.length) : look (H ++ newsH n (shiftB d bs)) (n + k) = (look (newsH 0 bs) k).map (Blk.shift d) := by
  rw [look_append, hn _ hk, look_shiftB, look_newsH, look_newsH, if_pos (by omega), if_pos (Nat.zero_le _), Nat.add_sub_cancel_left, Nat.sub_zero]; rfl
mutual
theorem shift_rep (hr : HRel H pl w) (hn : ∀ k, k < bs.length → look H (n + k) = none) (hown : ∀ i B p, look H i = some B → pl.fp i p → ∃ u, w.at? p = some u)
    (hb : po.base = fun p => okd H pl d p ∨ w.at? p = none) : (v : SV) → {u : Value} → SVRep w' (newsH 0 bs) po v u → SVRep w' (H ++ newsH n (shiftB d bs)) (pl.join po n bs.length) (v.shift n d) u
  | .own i, u, h => by
    cases h with
    | own _ sh t xs hl =>
      have hib : i < bs.length := look_lt hl
      have hk := join_look (d := d) (bs := bs) hn i hib
      rw [hl] at hk
      have hh : (pl.join po n bs.length).hdr (n + i) = po.hdr i := by
        show (if n + i < n ∨ n + bs.length ≤ n + i then _ else po.hdr (n + i - n)) = po.hdr i
        rw [if_neg (by omega), Nat.add_sub_cancel_left]
      rw [← hh]
      cases sh with
      | none => exact .own (n + i) none t xs hk
      | some d0 => exact .own (n + i) (some d) t xs hk
  | .r [] x, u, h => by
    cases h with
    | r _ _ _ hx => exact rep_mkR (hx.frame fun p u hp hu => ⟨join_okd hr hn hown hb hp, hu⟩)
  | .r (_ :: _) x, u, h => .undef _
  | .nilS, u, h => by cases h; exact .nilS
  | .agg cs, u, h => by
    cases h with
    | agg _ vs h1 h2 h3 =>
      obtain ⟨g1, g2⟩ := shiftL_rep hr hn hown hb cs vs.toList (by simpa using h1) fun j x u hx hu => h3 j x u hx (by simpa using hu)
      exact .agg _ _ (by simpa using g1) h2 fun j x u hx hu => g2 j x u hx (by simpa using hu)
  | .tup cs, u, h => by
    cases h with
    | tup _ vs h1 h3 =>
      obtain ⟨g1, g2⟩ := shiftL_rep hr hn hown hb cs vs.toList (by simpa using h1) fun j x u hx hu => h3 j x u hx (by simpa using hu)
      exact .tup _ _ (by simpa using g1) fun j x u hx hu => g2 j x u hx (by simpa using hu)
  | .nilP, _, _ => .undef _
  | .sub _ _ _, _, _ => .undef _
  | .bsl _ _, _, _ => .undef _
  | .ptr _ _ _, _, _ => .undef _
  | .inn _ _ _, _, _ => .undef _
  | .rptr _ _, _, _ => .undef _
  | .fn _ _ _, _, _ => .undef _
  | .undef, _, _ => .undef _
theorem shiftL_rep (hr : HRel H pl w) (hn : ∀ k, k < bs.length → look H (n + k) = none) (hown : ∀ i B p, look H i = some B → pl.fp i p → ∃ u, w.at? p = some u)
    (hb : po.base = fun p => okd H pl d p ∨ w.at? p = none) : (cs : List SV) → (us : List Value) → cs.length = us.length →
    (∀ (j : Nat) (x : SV) (u : Value), cs[j]? = some x → us[j]? = some u → SVRep w' (newsH 0 bs) po x u) →
    (shiftL n d cs).length = us.length ∧ ∀ (j : Nat) (x : SV) (u : Value), (shiftL n d cs)[j]? = some x → us[j]? = some u → SVRep w' (H ++ newsH n (shiftB d bs)) (pl.join po n bs.length) x u
  | [], us, hl, _ => ⟨hl, fun j x u hx _ => by simp [shiftL] at hx⟩
  | v :: cs, u :: us, hl, hp => by
    obtain ⟨g1, g2⟩ := shiftL_rep hr hn hown hb cs us (by simpa using hl) fun j x u hx hu => hp (j + 1) x u (by simpa using hx) (by simpa using hu)
    refine ⟨by simp [shiftL, g1], fun j x u' hx hu => ?_⟩
    cases j with
    | zero => simp [shiftL] at hx hu; subst hx hu; exact shift_rep hr hn hown hb v (hp 0 v u rfl rfl)
    | succ j => exact g2 j x u' (by simpa [shiftL] using hx) (by simpa using hu)
end
theorem join_step (hgr : Grown w w') (hr : HRel H pl w) (hn : ∀ k, k < bs.length → look H (n + k) = none) (hg : goodB bs = true) (hro : HRel (newsH 0 bs) po w') (hb : po.base = fun p => okd H pl d p ∨ w.at? p = none)
    (hold : ∀ p x, w.at? p = some x → w'.at? p = some x ∧ w'.ice? p = w.ice? p) (hnew : ∀ i B p, look (newsH 0 bs) i = some B → po.fp i p → w.at? p = none) :
    StepTo H (H ++ newsH n (shiftB d bs)) ([], []) pl (pl.join po n bs.length) w w' := by
  have hown := hr.own_there
  have hcase : ∀ i B, look (H ++ newsH n (shiftB d bs)) i = some B → ((i < n ∨ n + bs.length ≤ i) ∧ look H i = some B) ∨ (¬ (i < n ∨ n + bs.length ≤ i) ∧ ∃ b0, look (newsH 0 bs) (i - n) = some b0 ∧ B = b0.shift d) := fun i B hB => by
    by_cases hi : i < n ∨ n + bs.length ≤ i
    · rw [look_append, look_out hi] at hB
      exact .inl ⟨hi, by simpa using hB⟩
    · rw [show i = n + (i - n) from by omega, join_look hn _ (by omega)] at hB
      obtain ⟨b0, h1, h2⟩ := Option.map_eq_some_iff.1 hB
      exact .inr ⟨hi, b0, h1, h2.symm⟩
  have hlt : ∀ i B, look H i = some B → (i < n ∨ n + bs.length ≤ i) := fun i B hB => by
    by_cases hi : i < n ∨ n + bs.length ≤ i
    · exact hi
    · rw [look_in hn hi] at hB; exact nomatch hB
  have hkeep : Keeps ([], []) w H pl w' (H ++ newsH n (shiftB d bs)) (pl.join po n bs.length) := by
    refine ⟨fun i B hB _ => ⟨B, by rw [look_append, hB]; rfl, B.like_refl, by simp only [Pl.join, if_pos (hlt i B hB)]⟩, fun d' p u _ hok hu => ⟨⟨hok.1, fun i B hB hm hf => ?_⟩, (hold p u hu).1⟩⟩
    rcases hcase i B hB with ⟨hi, hB'⟩ | ⟨hi, b0, h1, _⟩
    · simp only [Pl.join, if_pos hi] at hf; exact hok.2 i B hB' hm hf
    · simp only [Pl.join, if_neg hi] at hf
      rw [hnew _ b0 p h1 hf] at hu; exact nomatch hu
  refine ⟨⟨fun i B hB => ?_, fun i j B B' p h1 h2 f1 f2 => ?_, fun i B p hB hf => ?_, fun p hp => hr.nb p ?_⟩, hkeep, rfl, hgr, fun p u hp hno => ⟨fun i B hB hf => ?_, hold p u hp⟩⟩
  · rcases hcase i B hB with ⟨hi, hB'⟩ | ⟨hi, b0, h1, rfl⟩
    · exact (hr.blk i B hB').keep hkeep (by simp only [Pl.join, if_pos hi]) (fun p => by simp only [Pl.join, if_pos hi]) (fun p u _ hu => hold p u hu) B.sweep_nil
    · have hbl := hro.blk _ b0 h1
      have hget : bs[i - n]? = some b0 := by rw [look_newsH, if_pos (Nat.zero_le _), Nat.sub_zero] at h1; exact h1
      have e1 : (pl.join po n bs.length).hdr i = po.hdr (i - n) := by simp only [Pl.join, if_neg hi]
      have e2 : (pl.join po n bs.length).fp i = po.fp (i - n) := by simp only [Pl.join, if_neg hi]
      obtain ⟨t, xs, rfl | rfl⟩ := goodB_spec hg _ _ hget
      · show Nonempty (Row w' (RepD w') t xs ((pl.join po n bs.length).hdr i) ((pl.join po n bs.length).fp i))
        rw [e1, e2]; exact hbl
      · obtain ⟨⟨a, cap, b, o, vs, fs, q1, q2, q3, q4, q5, q6, q7, q8, q9⟩⟩ := hbl
        refine ⟨⟨a, cap, b, o, vs, fs, by rw [e1]; exact q1, q2, q3, q4, q5, fun i j r hc => ⟨(q6 i j r hc).1.frame fun p u hp hu => ⟨join_okd hr hn hown hb hp, hu⟩, (q6 i j r hc).2⟩, q7, q8, fun p => by rw [e2]; exact q9 p⟩⟩
  · rcases hcase i B h1 with ⟨hi, q1⟩ | ⟨hi, b0, q1, _⟩ <;> rcases hcase j B' h2 with ⟨hj, q2⟩ | ⟨hj, b1, q2, _⟩
    · simp only [Pl.join, if_pos hi] at f1
      simp only [Pl.join, if_pos hj] at f2
      exact hr.dis i j _ _ p q1 q2 f1 f2
    · simp only [Pl.join, if_pos hi] at f1
      simp only [Pl.join, if_neg hj] at f2
      obtain ⟨u, hu⟩ := hown i _ p q1 f1
      rw [hnew _ _ p q2 f2] at hu; exact nomatch hu
    · simp only [Pl.join, if_neg hi] at f1
      simp only [Pl.join, if_pos hj] at f2
      obtain ⟨u, hu⟩ := hown j _ p q2 f2
      rw [hnew _ _ p q1 f1] at hu; exact nomatch hu
    · simp only [Pl.join, if_neg hi] at f1
      simp only [Pl.join, if_neg hj] at f2
      have := hro.dis _ _ _ _ p q1 q2 f1 f2
      omega
  · rcases hcase i B hB with ⟨hi, q1⟩ | ⟨hi, b0, q1, _⟩
    · simp only [Pl.join, if_pos hi] at hf; exact hr.ob i B p q1 hf
    · simp only [Pl.join, if_neg hi] at hf
      exact hr.nb p (hnew _ _ p q1 hf)
  · cases hq : w.at? p with
    | none => rfl
    | some u => rw [(hold p u hq).1] at hp; exact nomatch hp
  · rcases hcase i B hB with ⟨hi, q1⟩ | ⟨hi, b0, q1, _⟩
    · simp only [Pl.join, if_pos hi] at hf; exact hno i B q1 hf
    · simp only [Pl.join, if_neg hi] at hf
      rw [hnew _ _ p q1 hf] at hp; exact nomatch hp
end
theorem pureOrc_ok {g : FuncId} {ss : List Sh} {G : PG} (h : PureOk P g G) : OrcOk P g (pureOrc ss G) := by
  intro ρ nid vs H K out hK
  simp only [pureOrc, Option.bind_eq_some_iff] at hK
  obtain ⟨⟨d, args⟩, hargs, hG⟩ := hK
  obtain ⟨o, ho, hen, hcalls⟩ := h ρ args _ out hG
  cases hg : goodB o.2 <;> simp only [hg, cond_true, cond_false] at ho
  · exact nomatch ho
  · refine ⟨_, ho, hen, fun i B hB => by simp [look] at hB, fun H1 pl w us he hr hn hl hp H' ha => ?_⟩
    have hn : ∀ k, k < o.2.length → look H1 (nid + k) = none := fun k hk => hn k (by rw [shiftB_length]; exact hk)
    obtain ⟨g1, g2⟩ := toArgs_rep (us := us.toList) hr (toArgs_le he _ _ _ hargs) (by simpa using hl) fun j x u hx hu => hp j x u hx (by simpa using hu)
    refine (hcalls w us (okd H1 pl d) (by simpa using g1) fun j x u hx hu => g2 j x u hx (by simpa using hu)).mono fun e w' ⟨u, po, he, h1, h2, h3, h4, h5, h6⟩ => ?_
    cases ha
    have hst := join_step (d := d) h6 hr hn hg h1 h3 h4 h5
    exact ⟨u, _, he, hst, shift_rep hr hn hr.own_there h3 o.1 h2⟩
end
end Go.Proofs.Ev

namespace Go.Proofs.Ev
variable [Tok]
set_option linter.unusedSectionVars false
def renD (L : List Nat) : List Nat → List Nat
  | [] => []
  | i :: l => match placeOf i L 0 with
    | some k => k :: renD L l
    | none => renD L l
mutual
def SV.ren (L : List Nat) : SV → Option SV
  | .r d x => some (.r (renD L d) x)
  | .nilS => some .nilS
  | .nilP => some .nilP
  | .own i => (placeOf i L 0).bind fun k => some (.own k)
  | .sub i o n => (placeOf i L 0).bind fun k => some (.sub k o n)
  | .bsl i n => (placeOf i L 0).bind fun k => some (.bsl k n)
  | .ptr i x o => (placeOf i L 0).bind fun k => some (.ptr k x o)
  | .inn _ _ _ => none
  | .rptr d cs => some (.rptr (renD L d) cs)
  | .agg cs => (renL L cs).bind fun l => some (.agg l)
  | .tup cs => (renL L cs).bind fun l => some (.tup l)
  | .fn f a b => (renL L a).bind fun a => (renL L b).bind fun b => some (.fn f a b)
  | .undef => some .undef
def renL (L : List Nat) : List SV → Option (List SV)
  | [] => some []
  | v :: l => (v.ren L).bind fun v => (renL L l).bind fun l => some (v :: l)
end
def Blk.ren (L : List Nat) : Blk → Option Blk
  | .box cs => (renL L cs).bind fun l => some (.box l)
  | .arr none t xs => some (.arr none t xs)
  | .arr (some d) t xs => some (.arr (some (renD L d)) t xs)
def renBs (h : Heap) (L : List Nat) : List Nat → Option (List Blk)
  | [] => some []
  | i :: l => (look h i).bind fun b => (b.ren L).bind fun b => (renBs h L l).bind fun l => some (b :: l)
def getAll (s : List (Nat × SV)) : List Nat → Option (List SV)
  | [] => some []
  | t :: l => (look s t).bind fun v => (getAll s l).bind fun vs => some (v :: vs)
abbrev NF := List SV × List Blk × List (Option Nat)
/-- The blocks that were handed in and are still there. -/
def ghIds (h : Heap) : List (Option Nat) → List Nat
  | [] => []
  | none :: l => ghIds h l
  | some i :: l => match look h i with
    | some _ => i :: ghIds h l
    | none => ghIds h l
def ghRen (L : List Nat) : List (Option Nat) → List (Option Nat)
  | [] => []
  | none :: l => none :: ghRen L l
  | some i :: l => placeOf i L 0 :: ghRen L l
def norm (keep : List Nat) (st : St) : Option NF :=
  (getAll st.slots keep).bind fun vs =>
    let L := reach st.heap 3 (addNew (addNew [] (idsL vs)) (ghIds st.heap st.gh))
    cond (nodup L) ((renL L vs).bind fun vs' => (renBs st.heap L L).bind fun bs => some (vs', bs, ghRen L st.gh)) none
def zipK : List Nat → List SV → List (Nat × SV)
  | t :: l, v :: vs => (t, v) :: zipK l vs
  | _, _ => []
def denorm (keep : List Nat) (n : Nat) (nf : NF) : St := { slots := zipK keep nf.1, heap := newsH 0 nf.2.1, nid := nf.2.1.length, n := n, gh := nf.2.2 }

theorem renL_length {L : List Nat} : {cs l : List SV} → renL L cs = some l → l.length = cs.length
  | [], l, h => by cases h; rfl
  | v :: cs, l, h => by
    simp only [renL, Option.bind_eq_some_iff, Option.some.injEq] at h
    obtain ⟨v', hv, l', hl', rfl⟩ := h
    simp [renL_length hl']
section
variable {w : World} {H : Heap} {pl : Pl} {L : List Nat} {bs : List Blk}
theorem placeOf_none {i : Nat} : ∀ {L : List Nat} {n : Nat}, placeOf i L n = none → i ∉ L
  | [], _, _ => fun h => nomatch h
  | j :: l, n, h => by
    simp only [placeOf] at h
    cases hj : Nat.beq j i <;> simp only [hj, cond_true, cond_false] at h
    · intro hm
      rcases List.mem_cons.1 hm with rfl | hm
      · simp at hj
      · exact placeOf_none h hm
    · exact nomatch h
theorem renBs_spec {h : Heap} {L : List Nat} : ∀ {l : List Nat} {bs : List Blk}, renBs h L l = some bs → bs.length = l.length ∧
    (∀ (k : Nat) (b : Blk), bs[k]? = some b → ∃ i b0, l[k]? = some i ∧ look h i = some b0 ∧ b0.ren L = some b)
  | [], bs, e => by cases e; exact ⟨rfl, fun k b hb => by simp at hb⟩
  | i :: l, bs, e => by
    simp only [renBs, Option.bind_eq_some_iff, Option.some.injEq] at e
    obtain ⟨b0, h1, b, h2, l', h3, rfl⟩ := e
    obtain ⟨g1, g2⟩ := renBs_spec h3
    refine ⟨by simp [g1], fun k b' hb => ?_⟩
    cases k with
    | zero => simp at hb; subst hb; exact ⟨i, b0, rfl, h1, h2⟩
    | succ k => simpa using g2 k b' (by simpa using hb)
theorem ren_get (hL : renBs H L L = some bs) {i k : Nat} (hk : placeOf i L 0 = some k) {B : Blk} (hB : look H i = some B) :
    L.getD k 0 = i ∧ ∃ B', look (newsH 0 bs) k = some B' ∧ B.ren L = some B' := by
  obtain ⟨_, h2⟩ := placeOf_spec hk
  rw [Nat.sub_zero] at h2
  have hlt : k < bs.length := by rw [(renBs_spec hL).1]; exact (List.getElem?_eq_some_iff.1 h2).1
  obtain ⟨i', b0, e1, e2, e3⟩ := (renBs_spec hL).2 k _ (List.getElem?_eq_getElem hlt)
  rw [h2] at e1; cases e1
  rw [hB] at e2; cases e2
  exact ⟨by simp [List.getD, h2], _, by rw [look_newsH, if_pos (Nat.zero_le _), Nat.sub_zero]; exact List.getElem?_eq_getElem hlt, e3⟩
theorem ren_back (hL : renBs H L L = some bs) {k : Nat} {B : Blk} (hB : look (newsH 0 bs) k = some B) : ∃ i b0, L[k]? = some i ∧ L.getD k 0 = i ∧ look H i = some b0 ∧ b0.ren L = some B := by
  rw [look_newsH, if_pos (Nat.zero_le _), Nat.sub_zero] at hB
  obtain ⟨i, b0, h1, h2, h3⟩ := (renBs_spec hL).2 k B hB
  exact ⟨i, b0, h1, by simp [List.getD, h1], h2, h3⟩
theorem placeOf_of_get {L : List Nat} (hn : L.Nodup) {k i : Nat} (h : L[k]? = some i) : placeOf i L 0 = some k := by
  cases hp : placeOf i L 0 with
  | none => exact (placeOf_none hp (List.mem_of_getElem? h)).elim
  | some k' =>
    obtain ⟨_, h2⟩ := placeOf_spec hp
    rw [Nat.sub_zero] at h2
    have hlt := (List.getElem?_eq_some_iff.1 h).1
    rw [(List.getElem?_inj hlt hn).1 (h.trans h2.symm)]
theorem mem_renD {L d : List Nat} {k i : Nat} (h : placeOf i L 0 = some k) (hd : mem i d = true) : mem k (renD L d) = true := by
  induction d with
  | nil => exact nomatch hd
  | cons j l ih =>
    simp only [renD]
    simp only [mem] at hd
    cases hj : Nat.beq j i <;> simp only [hj, cond_true, cond_false] at hd
    · cases placeOf j L 0 with
      | none => exact ih hd
      | some m => simp only [mem]; cases Nat.beq m k <;> simp [ih hd]
    · have : j = i := Nat.eq_of_beq_eq_true hj
      subst this
      simp only [h, mem]
      simp
theorem Blk.ren_box {b b' : Blk} (h : b.ren L = some b') : b'.isBox = b.isBox := by
  cases b with
  | box cs => simp only [Blk.ren, Option.bind_eq_some_iff, Option.some.injEq] at h; obtain ⟨_, _, rfl⟩ := h; rfl
  | arr sh t xs => cases sh <;> (cases h; rfl)
theorem ren_okd (hn : nodup L = true) (hL : renBs H L L = some bs) {d : List Nat} {p : Cell} (h : okd H pl d p) : okd (newsH 0 bs) (pl.out L) (renD L d) p := by
  refine ⟨h.1, fun k B hB hm hf => ?_⟩
  obtain ⟨i, b0, h1, hi, h2, h3⟩ := ren_back hL hB
  simp only [Pl.out, hi] at hf
  refine h.2 i b0 h2 (fun hd => ?_) hf
  rw [← Blk.ren_box h3]
  exact hm (mem_renD (placeOf_of_get (nodup_spec hn) h1) hd)
mutual
theorem ren_rep (hn : nodup L = true) (hL : renBs H L L = some bs) : (v : SV) → {v' : SV} → {u : Value} → v.ren L = some v' → SVRep w H pl v u → SVRep w (newsH 0 bs) (pl.out L) v' u
  | .r d x, v', u, h, hv => by
    cases h
    cases hv with
    | r _ _ _ hx => exact .r _ _ _ (hx.frame fun p u hp hu => ⟨ren_okd hn hL hp, hu⟩)
  | .nilS, v', u, h, hv => by cases h; cases hv; exact .nilS
  | .nilP, v', u, h, hv => by cases h; cases hv; exact .nilP
  | .own i, v', u, h, hv => by
    simp only [SV.ren, Option.bind_eq_some_iff, Option.some.injEq] at h
    obtain ⟨k, hk, rfl⟩ := h
    cases hv with
    | own _ sh t xs hl =>
      obtain ⟨hi, B', g1, g2⟩ := ren_get hL hk hl
      have e : (pl.out L).hdr k = pl.hdr i := by simp only [Pl.out, hi]
      rw [← e]
      cases sh with
      | none => cases g2; exact .own k none t xs g1
      | some d => cases g2; exact .own k _ t xs g1
  | .sub i o n, v', u, h, hv => by
    simp only [SV.ren, Option.bind_eq_some_iff, Option.some.injEq] at h
    obtain ⟨k, hk, rfl⟩ := h
    cases hv with
    | sub _ _ _ sh t xs a a' cap cap' hl hh h1 h2 h3 h4 =>
      obtain ⟨hi, B', g1, g2⟩ := ren_get hL hk hl
      have e : (pl.out L).hdr k = pl.hdr i := by simp only [Pl.out, hi]
      cases sh with
      | none => cases g2; exact .sub k o n none t xs a a' cap cap' g1 (e.trans hh) h1 h2 h3 h4
      | some d => cases g2; exact .sub k o n _ t xs a a' cap cap' g1 (e.trans hh) h1 h2 h3 h4
  | .bsl i n, v', u, h, hv => by
    simp only [SV.ren, Option.bind_eq_some_iff, Option.some.injEq] at h
    obtain ⟨k, hk, rfl⟩ := h
    cases hv with
    | bsl _ _ cs a hl hh =>
      obtain ⟨hi, B', g1, g2⟩ := ren_get hL hk hl
      have e : (pl.out L).hdr k = pl.hdr i := by simp only [Pl.out, hi]
      simp only [Blk.ren, Option.bind_eq_some_iff, Option.some.injEq] at g2
      obtain ⟨l, hl', rfl⟩ := g2
      exact .bsl k n l a g1 (e.trans hh)
  | .ptr i x o, v', u, h, hv => by
    simp only [SV.ren, Option.bind_eq_some_iff, Option.some.injEq] at h
    obtain ⟨k, hk, rfl⟩ := h
    cases hv with
    | ptrB _ _ cs b m hl hh =>
      obtain ⟨hi, B', g1, g2⟩ := ren_get hL hk hl
      have e : (pl.out L).hdr k = pl.hdr i := by simp only [Pl.out, hi]
      simp only [Blk.ren, Option.bind_eq_some_iff, Option.some.injEq] at g2
      obtain ⟨l, hl', rfl⟩ := g2
      exact .ptrB k o l b m g1 (e.trans hh)
    | ptrA _ _ _ sh t xs b m n cap hl hx hh =>
      obtain ⟨hi, B', g1, g2⟩ := ren_get hL hk hl
      have e : (pl.out L).hdr k = pl.hdr i := by simp only [Pl.out, hi]
      cases sh with
      | none => cases g2; exact .ptrA k x o none t xs b m n cap g1 hx (e.trans hh)
      | some d => cases g2; exact .ptrA k x o _ t xs b m n cap g1 hx (e.trans hh)
  | .inn _ _ _, v', u, h, hv => by cases h
  | .rptr d cs, v', u, h, hv => by
    cases h
    cases hv with
    | rptr _ _ b o vs h1 h2 => exact .rptr _ _ b o vs (fun j r hj => ⟨ren_okd hn hL (h1 j r hj).1, (h1 j r hj).2⟩) fun j r hj => (h2 j r hj).frame fun p u hp hu => ⟨ren_okd hn hL hp, hu⟩
  | .agg cs, v', u, h, hv => by
    simp only [SV.ren, Option.bind_eq_some_iff, Option.some.injEq] at h
    obtain ⟨l, hl, rfl⟩ := h
    cases hv with
    | agg _ vs h1 h2 h3 =>
      obtain ⟨g1, g2⟩ := renL_rep hn hL cs hl vs.toList (by simpa using h1) fun j x u hx hu => h3 j x u hx (by simpa using hu)
      exact .agg _ _ (by simpa using g1) h2 fun j x u hx hu => g2 j x u hx (by simpa using hu)
  | .tup cs, v', u, h, hv => by
    simp only [SV.ren, Option.bind_eq_some_iff, Option.some.injEq] at h
    obtain ⟨l, hl, rfl⟩ := h
    cases hv with
    | tup _ vs h1 h3 =>
      obtain ⟨g1, g2⟩ := renL_rep hn hL cs hl vs.toList (by simpa using h1) fun j x u hx hu => h3 j x u hx (by simpa using hu)
      exact .tup _ _ (by simpa using g1) fun j x u hx hu => g2 j x u hx (by simpa using hu)
  | .fn f as bs', v', u, h, hv => by
    simp only [SV.ren, Option.bind_eq_some_iff, Option.some.injEq] at h
    obtain ⟨l, hl, l', hl', rfl⟩ := h
    cases hv with
    | fn _ _ _ us vs h1 h3 h1' h3' =>
      obtain ⟨g1, g2⟩ := renL_rep hn hL as hl us.toList (by simpa using h1) fun j x u hx hu => h3 j x u hx (by simpa using hu)
      obtain ⟨g3, g4⟩ := renL_rep hn hL bs' hl' vs.toList (by simpa using h1') fun j x u hx hu => h3' j x u hx (by simpa using hu)
      exact .fn _ _ _ _ _ (by simpa using g1) (fun j x u hx hu => g2 j x u hx (by simpa using hu)) (by simpa using g3) fun j x u hx hu => g4 j x u hx (by simpa using hu)
  | .undef, v', u, h, hv => by cases h; exact .undef _
theorem renL_rep (hn : nodup L = true) (hL : renBs H L L = some bs) : (cs : List SV) → {l : List SV} → renL L cs = some l → (us : List Value) → cs.length = us.length →
    (∀ (j : Nat) (x : SV) (u : Value), cs[j]? = some x → us[j]? = some u → SVRep w H pl x u) →
    l.length = us.length ∧ ∀ (j : Nat) (x : SV) (u : Value), l[j]? = some x → us[j]? = some u → SVRep w (newsH 0 bs) (pl.out L) x u
  | [], l, h, us, hl, _ => by cases h; exact ⟨hl, fun j x u hx _ => by simp at hx⟩
  | v :: cs, l, h, u :: us, hl, hp => by
    simp only [renL, Option.bind_eq_some_iff, Option.some.injEq] at h
    obtain ⟨v', hv, l', hl', rfl⟩ := h
    obtain ⟨g1, g2⟩ := renL_rep hn hL cs hl' us (by simpa using hl) fun j x u hx hu => hp (j + 1) x u (by simpa using hx) (by simpa using hu)
    refine ⟨by simp [g1], fun j x u' hx hu => ?_⟩
    cases j with
    | zero => simp at hx hu; subst hx hu; exact ren_rep hn hL v hv (hp 0 v u rfl rfl)
    | succ j => exact g2 j x u' (by simpa using hx) (by simpa using hu)
end
theorem renL_get {cs l : List SV} (h : renL L cs = some l) : ∀ (j : Nat) (x : SV), l[j]? = some x → ∃ y, cs[j]? = some y ∧ y.ren L = some x := by
  induction cs generalizing l with
  | nil => cases h; intro j x hx; simp at hx
  | cons v cs ih =>
    simp only [renL, Option.bind_eq_some_iff, Option.some.injEq] at h
    obtain ⟨v', hv, l', hl', rfl⟩ := h
    intro j x hx
    cases j with
    | zero => simp at hx; subst hx; exact ⟨v, rfl, hv⟩
    | succ j => simpa using ih hl' j x (by simpa using hx)
theorem ren_hrel (hr : HRel H pl w) (hn : nodup L = true) (hL : renBs H L L = some bs) : HRel (newsH 0 bs) (pl.out L) w := by
  refine ⟨fun k B hB => ?_, fun k k' B B' p h1 h2 f1 f2 => ?_, fun k B p hB hf => ?_, hr.nb⟩
  · obtain ⟨i, b0, h1, hi, h2, h3⟩ := ren_back hL hB
    have hb := hr.blk i b0 h2
    have eh : (pl.out L).hdr k = pl.hdr i := by simp only [Pl.out, hi]
    have ef : (pl.out L).fp k = pl.fp i := by simp only [Pl.out, hi]
    cases b0 with
    | box cs =>
      simp only [Blk.ren, Option.bind_eq_some_iff, Option.some.injEq] at h3
      obtain ⟨l, hl, rfl⟩ := h3
      obtain ⟨b, o, q1, q2, q3⟩ := hb
      refine ⟨b, o, eh.trans q1, fun p => by rw [ef, q2, renL_length hl], fun j v hv => ?_⟩
      obtain ⟨y, hy, hy2⟩ := renL_get hl j v hv
      obtain ⟨u, g1, g2, g3, g4⟩ := q3 j y hy
      exact ⟨u, g1, g2, g3, ren_rep hn hL y hy2 g4⟩
    | arr sh t xs =>
      cases sh with
      | none =>
        cases h3
        show Nonempty (Row w (RepD w) t xs ((pl.out L).hdr k) ((pl.out L).fp k))
        rw [eh, ef]; exact hb
      | some d =>
        cases h3
        obtain ⟨⟨a, cap, b, o, vs, fs, q1, q2, q3, q4, q5, q6, q7, q8, q9⟩⟩ := hb
        exact ⟨⟨a, cap, b, o, vs, fs, eh.trans q1, q2, q3, q4, q5, fun i j r hc => ⟨(q6 i j r hc).1.frame fun p u hp hu => ⟨ren_okd hn hL hp, hu⟩, (q6 i j r hc).2⟩, q7, q8, fun p => by rw [ef]; exact q9 p⟩⟩
  · obtain ⟨i, b0, g1, hi, g2, g3⟩ := ren_back hL h1
    obtain ⟨i', b0', g1', hi', g2', g3'⟩ := ren_back hL h2
    simp only [Pl.out, hi] at f1
    simp only [Pl.out, hi'] at f2
    have := hr.dis i i' b0 b0' p g2 g2' f1 f2
    subst this
    exact (List.getElem?_inj (List.getElem?_eq_some_iff.1 g1).1 (nodup_spec hn)).1 (g1.trans g1'.symm)
  · obtain ⟨i, b0, g1, hi, g2, g3⟩ := ren_back hL hB
    simp only [Pl.out, hi] at hf
    exact hr.ob i b0 p g2 hf
theorem getAll_get {s : List (Nat × SV)} : ∀ {l : List Nat} {vs : List SV}, getAll s l = some vs → vs.length = l.length ∧ ∀ (j t : Nat), l[j]? = some t → ∃ v, vs[j]? = some v ∧ look s t = some v
  | [], vs, h => by cases h; exact ⟨rfl, fun j t ht => by simp at ht⟩
  | t :: l, vs, h => by
    simp only [getAll, Option.bind_eq_some_iff, Option.some.injEq] at h
    obtain ⟨v, hv, vs', hvs, rfl⟩ := h
    obtain ⟨g1, g2⟩ := getAll_get hvs
    refine ⟨by simp [g1], fun j t' ht => ?_⟩
    cases j with
    | zero => simp at ht; subst ht; exact ⟨v, rfl, hv⟩
    | succ j => simpa using g2 j t' (by simpa using ht)
theorem zipK_look : ∀ {l : List Nat} {vs : List SV} {t : Nat} {v : SV}, look (zipK l vs) t = some v → ∃ j : Nat, l[j]? = some t ∧ vs[j]? = some v
  | [], _, t, v, h => by simp [zipK, look] at h
  | _ :: _, [], t, v, h => by simp [zipK, look] at h
  | k :: l, x :: vs, t, v, h => by
    rw [zipK, look_cons] at h
    by_cases e : k = t
    · rw [if_pos e] at h; cases h; exact ⟨0, by simp [e], rfl⟩
    · rw [if_neg e] at h
      obtain ⟨j, h1, h2⟩ := zipK_look h
      exact ⟨j + 1, by simpa using h1, by simpa using h2⟩
end
theorem Blk.ren_like {L : List Nat} {b b' : Blk} (h : b.ren L = some b') : b.like b' := by
  cases b with
  | box cs =>
    simp only [Blk.ren, Option.bind_eq_some_iff, Option.some.injEq] at h
    obtain ⟨l, h1, rfl⟩ := h
    exact (renL_length h1).symm
  | arr sh t xs => cases sh <;> (cases h; exact ⟨rfl, rfl⟩)
theorem ghRen_get {L : List Nat} : ∀ {gh : List (Option Nat)} {k i : Nat}, (ghRen L gh)[k]? = some (some i) → ∃ j, gh[k]? = some (some j) ∧ placeOf j L 0 = some i
  | [], k, i, h => by simp [ghRen] at h
  | none :: l, k, i, h => by
    cases k with
    | zero => simp [ghRen] at h
    | succ k => simpa using ghRen_get (gh := l) (by simpa [ghRen] using h)
  | some j :: l, k, i, h => by
    cases k with
    | zero => simp [ghRen] at h; exact ⟨j, rfl, h⟩
    | succ k => simpa using ghRen_get (gh := l) (by simpa [ghRen] using h)
theorem norm_rl {w0 : World} {fp0 : G0} {bs : Cell → Prop} {n : Nat} {keep : List Nat} {st : St} {nf : NF} {a : Act} {w : World} (h : Rl w0 fp0 bs n st a w) (hn : norm keep st = some nf) :
    Rl w0 fp0 bs n (denorm keep n nf) a w := by
  obtain ⟨pl, hr, hb, hnn⟩ := h
  simp only [norm, Option.bind_eq_some_iff] at hn
  obtain ⟨vs, hvs, hn⟩ := hn
  generalize reach st.heap 3 (addNew (addNew [] (idsL vs)) (ghIds st.heap st.gh)) = L at hn
  cases hnd : nodup L <;> simp only [hnd, cond_true, cond_false, Option.bind_eq_some_iff, Option.some.injEq] at hn
  · exact nomatch hn
  · obtain ⟨vs', hvs', bs', hbs, rfl⟩ := hn
    refine ⟨pl.out L, ⟨ren_hrel hr.hr hnd hbs, fun t v hv => ?_, hr.sz.trans hnn, hr.df, fun i hi => ?_, hr.gr, fun p u hp hno => ?_, fun k i hk => ?_⟩, hb, rfl⟩
    · obtain ⟨j, h1, h2⟩ := zipK_look hv
      obtain ⟨x, h3, h4⟩ := (getAll_get hvs).2 j t h1
      obtain ⟨y, h5, h6⟩ := renL_get hvs' j v h2
      rw [h3] at h5; cases h5
      exact ren_rep hnd hbs x h6 (hr.sl t x h4)
    · show look (newsH 0 bs') i = none
      rw [look_newsH, if_pos (Nat.zero_le _), Nat.sub_zero]
      exact List.getElem?_eq_none hi
    · obtain ⟨g1, g2, g3⟩ := hr.fr p u hp hno
      refine ⟨fun k B hB hf => ?_, g2, g3⟩
      obtain ⟨i, b0, _, hi, e2, _⟩ := ren_back hbs hB
      simp only [Pl.out, hi] at hf
      exact g1 i b0 e2 hf
    · obtain ⟨j, h1, h2⟩ := ghRen_get hk
      obtain ⟨q1, q2⟩ := hr.gk k j h1
      obtain ⟨p1, p2⟩ := placeOf_spec h2
      rw [Nat.sub_zero] at p2
      have hlt : i < bs'.length := by rw [(renBs_spec hbs).1]; exact (List.getElem?_eq_some_iff.1 p2).1
      refine ⟨hlt, fun B hB => ?_⟩
      obtain ⟨i', b0, g1, g2, g3, g4⟩ := ren_back hbs hB
      rw [p2] at g1; cases g1
      obtain ⟨r1, r2⟩ := q2 b0 g3
      exact ⟨by simp only [Pl.out, g2]; exact r1, Blk.like_trans r2 (Blk.ren_like g4)⟩
inductive Co where
  | nilOwn (sh : Bool) (t : Ty)
  | ro (t : Ty)
  | drop
inductive Where where
  | slot (t : Nat)
  | cell (t j : Nat)
  | box (i j : Nat)
  /-- Into the variable that a slot's pointer leads to. -/
  | pbox (t j : Nat)
  /-- Of a block that was handed in: no more is told where it is. -/
  | gh (k : Nat)
def coV (n : Nat) (h : Heap) : Co → SV → SV × List Blk
  | .nilOwn sh t, .nilS => (.own n, [.arr (cond sh (some []) none) t []])
  | .ro t, v => match v.list h t with
    | some p => (.r p.1 (.sl t p.2), [])
    | none => (v, [])
  | .drop, _ => (.undef, [])
  | _, v => (v, [])
def coBox (st : St) (i j : Nat) (c : Co) : St :=
  match look st.heap i with
  | some (.box cs) => match cs[j]? with
    | some v => { st with heap := put (st.heap ++ newsH st.nid (coV st.nid st.heap c v).2) i (.box (cs.set j (coV st.nid st.heap c v).1)), nid := st.nid + (coV st.nid st.heap c v).2.length }
    | none => st
  | _ => st
def coOne (st : St) : Where × Co → St
  | (.slot t, c) => match look st.slots t with
    | some v => { st with slots := put st.slots t (coV st.nid st.heap c v).1, heap := st.heap ++ newsH st.nid (coV st.nid st.heap c v).2, nid := st.nid + (coV st.nid st.heap c v).2.length }
    | none => st
  | (.cell t j, c) => match look st.slots t with
    | some (.agg cs) => match cs[j]? with
      | some v => { st with slots := put st.slots t (.agg (cs.set j (coV st.nid st.heap c v).1)), heap := st.heap ++ newsH st.nid (coV st.nid st.heap c v).2, nid := st.nid + (coV st.nid st.heap c v).2.length }
      | none => st
    | _ => st
  | (.box i j, c) => coBox st i j c
  | (.pbox t j, c) => match look st.slots t with
    | some (.ptr i _ _) => coBox st i j c
    | _ => st
  | (.gh k, _) => { st with gh := st.gh.set k none }
def coAll : List (Where × Co) → St → St
  | [], st => st
  | x :: l, st => coAll l (coOne st x)
def normC (keep : List Nat) (co : List (Where × Co)) (st : St) : Option NF :=
  match co with
  | [] => norm keep st
  | _ => (norm keep st).bind fun nf => norm keep (coAll co (denorm keep st.n nf))
section
variable {w : World} {H : Heap} {pl : Pl}
theorem adopt_step (hr : HRel H pl w) {n : Nat} (hn : look H n = none) (sh : Bool) (t : Ty) :
    StepTo H (H ++ [(n, .arr (cond sh (some []) none) t [])]) ([], []) pl (pl.set n (.slice none 0 0) fun _ => False) w w :=
  new_step hr hn (Grown.refl w) (fun p u hu => ⟨hu, rfl⟩) (fun p h => h.elim) fun _ => by
    refine BlkRep.of_rowI ?_
    simp only [Pl.set, if_true]
    exact Row.nil _
theorem coV_rep (hr : HRel H pl w) {n : Nat} (hn : look H n = none) (c : Co) {v : SV} {u : Value} (hv : SVRep w H pl v u) :
    ∃ pl', StepTo H (H ++ newsH n (coV n H c v).2) ([], []) pl pl' w w ∧ SVRep w (H ++ newsH n (coV n H c v).2) pl' (coV n H c v).1 u := by
  have still : ∀ {v' : SV}, SVRep w H pl v' u → ∃ pl', StepTo H (H ++ newsH n []) ([], []) pl pl' w w ∧ SVRep w (H ++ newsH n []) pl' v' u := fun {v'} h => by
    simp only [newsH, List.append_nil]
    exact ⟨pl, StepTo.refl hr, h⟩
  cases c with
  | nilOwn sh t =>
    cases v with
    | nilS =>
      have hst := adopt_step hr hn sh t
      refine ⟨_, hst, ?_⟩
      cases hv
      have := SVRep.own (w := w) (H := H ++ [(n, .arr (cond sh (some []) none) t [])]) (pl := pl.set n (.slice none 0 0) fun _ => False) n (cond sh (some []) none) t [] (by rw [look_append, hn, look_cons]; simp)
      simpa [Pl.set, coV, newsH] using this
    | _ => exact still hv
  | ro t =>
    simp only [coV]
    cases hl : v.list H t with
    | none => exact still hv
    | some p => exact still (.r _ _ _ (list_repR hr hl hv))
  | drop => exact still (.undef _)
/-- A variable's cells told otherwise. -/
theorem recell_step (hr : HRel H pl w) {i j : Nat} {cs : List SV} {x v : SV} (hl : look H i = some (.box cs)) (hj : cs[j]? = some x) (hx : ∀ u, SVRep w H pl x u → SVRep w H pl v u) :
    StepTo H (put H i (.box (cs.set j v))) ([], []) pl pl w w := by
  have hlk : ∀ k B, look (put H i (.box (cs.set j v))) k = some B → (k = i ∧ B = .box (cs.set j v)) ∨ (k ≠ i ∧ look H k = some B) := fun k B h => by
    rw [look_put] at h
    by_cases e : i = k
    · subst e; simp only [if_true, Option.some.injEq] at h; exact .inl ⟨rfl, h.symm⟩
    · rw [if_neg e] at h; exact .inr ⟨fun h => e h.symm, h⟩
  have hk : Keeps ([], []) w H pl w (put H i (.box (cs.set j v))) pl := by
    refine ⟨fun k B hB _ => ?_, fun d p u _ h hp => ⟨⟨h.1, fun k B hB hm => ?_⟩, hp⟩⟩
    · rw [look_put]
      by_cases e : i = k
      · subst e
        rw [hl] at hB; cases hB
        exact ⟨_, by simp; rfl, by simp [Blk.like], rfl⟩
      · rw [if_neg e]; exact ⟨B, hB, B.like_refl, rfl⟩
    · rcases hlk k B hB with ⟨rfl, rfl⟩ | ⟨_, hB⟩
      · exact h.2 k _ hl fun _ => rfl
      · exact h.2 k B hB hm
  refine ⟨⟨fun k B hB => ?_, fun k k' B B' p h1 h2 => ?_, fun k B p hB => ?_, hr.nb⟩, hk, rfl, Grown.refl w, fun p u hp hno => ⟨fun k B hB => ?_, hp, rfl⟩⟩
  · rcases hlk k B hB with ⟨rfl, rfl⟩ | ⟨_, hB⟩
    · obtain ⟨b, o, q1, q2, q3⟩ := hr.blk k _ hl
      refine ⟨b, o, q1, fun p => by rw [q2, List.length_set], fun m y hy => ?_⟩
      rw [List.getElem?_set] at hy
      by_cases e : j = m
      · subst e
        obtain ⟨u, g1, g2, g3, g4⟩ := q3 j x hj
        simp only [if_true] at hy
        split at hy
        · cases hy; exact ⟨u, g1, g2, g3, (hx u g4).keep0 hk⟩
        · exact nomatch hy
      · rw [if_neg e] at hy
        obtain ⟨u, g1, g2, g3, g4⟩ := q3 m y hy
        exact ⟨u, g1, g2, g3, g4.keep0 hk⟩
    · exact (hr.blk k B hB).keep hk rfl (fun _ => Iff.rfl) (fun p u _ hu => ⟨hu, rfl⟩) B.sweep_nil
  · have f1 : ∃ B, look H k = some B := by
      rcases hlk k B h1 with ⟨rfl, rfl⟩ | ⟨_, h1⟩
      · exact ⟨_, hl⟩
      · exact ⟨_, h1⟩
    have f2 : ∃ B, look H k' = some B := by
      rcases hlk k' B' h2 with ⟨rfl, rfl⟩ | ⟨_, h2⟩
      · exact ⟨_, hl⟩
      · exact ⟨_, h2⟩
    obtain ⟨_, f1⟩ := f1
    obtain ⟨_, f2⟩ := f2
    exact hr.dis k k' _ _ p f1 f2
  · rcases hlk k B hB with ⟨rfl, rfl⟩ | ⟨_, hB⟩
    · exact hr.ob k _ p hl
    · exact hr.ob k B p hB
  · rcases hlk k B hB with ⟨rfl, rfl⟩ | ⟨_, hB⟩
    · exact hno k _ hl
    · exact hno k B hB
end
theorem StepTo.trans0 {H H' H'' : Heap} {pl pl' pl'' : Pl} {w w' w'' : World} (h : StepTo H H' ([], []) pl pl' w w') (g : StepTo H' H'' ([], []) pl' pl'' w' w'') : StepTo H H'' ([], []) pl pl'' w w'' := by
  refine ⟨g.hr, ⟨fun i B hB hm => ?_, fun d p u hd ho hp => ?_⟩, g.bs.trans h.bs, h.gr.trans g.gr, fun p u hp hno => ?_⟩
  · obtain ⟨B', q1, q2, q3⟩ := h.kp.k1 i B hB hm
    obtain ⟨B'', r1, r2, r3⟩ := g.kp.k1 i B' q1 hm
    exact ⟨B'', r1, Blk.like_trans q2 r2, r3.trans q3⟩
  · obtain ⟨q1, q2⟩ := h.kp.k2 d p u hd ho hp
    exact g.kp.k2 d p u hd q1 q2
  · obtain ⟨q1, q2, q3⟩ := h.fr p u hp hno
    obtain ⟨r1, r2, r3⟩ := g.fr p u q2 q1
    exact ⟨r1, r2, r3.trans q3⟩
theorem Rel.ghost {w0 : World} {fp0 : G0} {st : St} {pl pl' : Pl} {a : Act} {w : World} {H' : Heap} {nid' : Nat} (h : Rel w0 fp0 st pl a w) (hs : StepTo st.heap H' ([], []) pl pl' w w) (hn : st.nid ≤ nid')
    (hf : ∀ i, nid' ≤ i → look H' i = none) (hb : ∀ i B, i < st.nid → look H' i = some B → ∃ B', look st.heap i = some B') : Rel w0 fp0 { st with heap := H', nid := nid' } pl' a w :=
  ⟨hs.hr, fun t v hv => (h.sl t v hv).keep0 hs.kp, h.sz, h.df, hf, h.gr, fun p u hp hno => by
    obtain ⟨g1, g2, g3⟩ := h.fr p u hp hno
    obtain ⟨f1, f2, f3⟩ := hs.fr p u g2 g1
    exact ⟨f1, f2, f3.trans g3⟩, h.gk.step hs.kp hn fun k i B hki hB => ⟨rfl, hb i B (h.gk k i hki).1 hB⟩⟩
theorem newsH_low {n i : Nat} {bs : List Blk} (h : i < n) : look (newsH n bs) i = none := by rw [look_newsH, if_neg (by omega)]
theorem newsH_high {n i : Nat} {bs : List Blk} (h : n + bs.length ≤ i) : look (newsH n bs) i = none := by rw [look_newsH, if_pos (by omega), List.getElem?_eq_none (by omega)]
theorem coOne_rl {w0 : World} {fp0 : G0} {bs : Cell → Prop} {n : Nat} {st : St} {a : Act} {w : World} (h : Rl w0 fp0 bs n st a w) (x : Where × Co) : Rl w0 fp0 bs n (coOne st x) a w := by
  obtain ⟨pl, hr, hb, hnn⟩ := h
  have hfresh := hr.fresh st.nid (Nat.le_refl _)
  have app : ∀ (bl : List Blk) {pl' : Pl}, StepTo st.heap (st.heap ++ newsH st.nid bl) ([], []) pl pl' w w → Rel w0 fp0 { st with heap := st.heap ++ newsH st.nid bl, nid := st.nid + bl.length } pl' a w := fun bl pl' hs =>
    hr.ghost hs (by simp) (fun i hi => by rw [look_append, hr.fresh i (by omega), newsH_high hi]; rfl) fun i B hi hB => by
      rw [look_append, newsH_low hi, Option.or_none] at hB; exact ⟨B, hB⟩
  have slots : ∀ {st1 : St} {pl' : Pl} {t : Nat} {v : SV}, Rel w0 fp0 st1 pl' a w → st1.slots = st.slots → SVRep w st1.heap pl' v (a.tmps.getD t undef) → Rel w0 fp0 { st1 with slots := put st.slots t v } pl' a w := fun {st1 pl' t v} h1 e hv =>
    ⟨h1.hr, fun t' v' h' => by
      rw [look_put] at h'
      by_cases c : t = t'
      · subst c; simp at h'; subst h'; exact hv
      · rw [if_neg c] at h'; exact h1.sl t' v' (by rw [e]; exact h'), h1.sz, h1.df, h1.fresh, h1.gr, h1.fr, h1.gk⟩
  obtain ⟨wh, c⟩ := x
  have box : ∀ i j, Rl w0 fp0 bs n (coBox st i j c) a w := fun i j => by
    unfold coBox
    split
    · rename_i cs hl
      split
      · rename_i v hj
        have hi : i < st.nid := by
          by_cases c : i < st.nid
          · exact c
          · rw [hr.fresh i (by omega)] at hl; exact nomatch hl
        have hv : ∃ u, SVRep w st.heap pl v u := by
          obtain ⟨b, o, _, _, q3⟩ := hr.hr.blk i _ hl
          obtain ⟨u, _, _, _, h⟩ := q3 j v hj
          exact ⟨u, h⟩
        have key : ∃ pl', StepTo st.heap (st.heap ++ newsH st.nid (coV st.nid st.heap c v).2) ([], []) pl pl' w w ∧
            ∀ u, SVRep w (st.heap ++ newsH st.nid (coV st.nid st.heap c v).2) pl' v u → SVRep w (st.heap ++ newsH st.nid (coV st.nid st.heap c v).2) pl' (coV st.nid st.heap c v).1 u := by
          have still : (coV st.nid st.heap c v).2 = [] → (∀ u, SVRep w st.heap pl v u → SVRep w st.heap pl (coV st.nid st.heap c v).1 u) →
              ∃ pl', StepTo st.heap (st.heap ++ newsH st.nid (coV st.nid st.heap c v).2) ([], []) pl pl' w w ∧
              ∀ u, SVRep w (st.heap ++ newsH st.nid (coV st.nid st.heap c v).2) pl' v u → SVRep w (st.heap ++ newsH st.nid (coV st.nid st.heap c v).2) pl' (coV st.nid st.heap c v).1 u := fun e h => by
            rw [e]; simp only [newsH, List.append_nil]
            exact ⟨pl, StepTo.refl hr.hr, h⟩
          cases c with
          | nilOwn sh t =>
            cases v with
            | nilS =>
              obtain ⟨u, hu⟩ := hv
              refine ⟨_, adopt_step hr.hr hfresh sh t, fun u hu => ?_⟩
              cases hu
              have := SVRep.own (w := w) (H := st.heap ++ [(st.nid, .arr (cond sh (some []) none) t [])]) (pl := pl.set st.nid (.slice none 0 0) fun _ => False) st.nid (cond sh (some []) none) t [] (by rw [look_append, hfresh, look_cons]; simp)
              simpa [Pl.set, coV, newsH] using this
            | _ => exact still rfl fun u h => h
          | ro t =>
            cases hq : v.list st.heap t with
            | none => exact still (by simp only [coV, hq]) fun u h => by simp only [coV, hq]; exact h
            | some p => exact still (by simp only [coV, hq]) fun u h => by simp only [coV, hq]; exact .r _ _ _ (list_repR hr.hr hq h)
          | drop => exact still rfl fun u _ => .undef _
        obtain ⟨pl', h1, h2⟩ := key
        have hl' : look (st.heap ++ newsH st.nid (coV st.nid st.heap c v).2) i = some (.box cs) := by rw [look_append, hl]; rfl
        have h3 := h1.trans0 (recell_step h1.hr hl' hj h2)
        refine ⟨pl', hr.ghost h3 (by simp) (fun k hk => ?_) (fun k B hk hB => ?_), h1.bs.trans hb, hnn⟩
        · rw [look_put, if_neg (by omega), look_append, hr.fresh k (by omega), newsH_high hk]; rfl
        · rw [look_put] at hB
          by_cases e : i = k
          · subst e; exact ⟨_, hl⟩
          · rw [if_neg e, look_append, newsH_low hk, Option.or_none] at hB; exact ⟨B, hB⟩
      · exact ⟨pl, hr, hb, hnn⟩
    · exact ⟨pl, hr, hb, hnn⟩
  cases wh with
  | slot t =>
    simp only [coOne]
    cases hl : look st.slots t with
    | none => exact ⟨pl, hr, hb, hnn⟩
    | some v =>
      obtain ⟨pl', h1, h2⟩ := coV_rep hr.hr hfresh c (hr.sl t v hl)
      exact ⟨pl', slots (app _ h1) rfl h2, h1.bs.trans hb, hnn⟩
  | cell t j =>
    simp only [coOne]
    split
    · rename_i cs hl
      split
      · rename_i v hj
        have hv := hr.sl t _ hl
        generalize hu : a.tmps.getD t undef = u at hv
        cases hv with
        | agg _ vs hlen hone hall =>
          have hjl : j < vs.size := by rw [← hlen]; exact (List.getElem?_eq_some_iff.1 hj).1
          obtain ⟨pl', h1, h2⟩ := coV_rep hr.hr hfresh c (hall j v vs[j] hj (by simp))
          refine ⟨pl', slots (app _ h1) rfl ?_, h1.bs.trans hb, hnn⟩
          rw [hu]
          refine .agg _ _ (by simp [hlen]) hone fun m y z hy hz => ?_
          rw [List.getElem?_set] at hy
          by_cases e : j = m
          · subst e
            simp only [if_true] at hy
            split at hy
            · cases hy
              have : vs[j] = z := by have := Array.getElem?_eq_getElem hjl; rw [this] at hz; exact Option.some.inj hz
              rw [← this]; exact h2
            · exact nomatch hy
          · rw [if_neg e] at hy
            exact (hall m y z hy hz).keep0 h1.kp
      · exact ⟨pl, hr, hb, hnn⟩
    · exact ⟨pl, hr, hb, hnn⟩
  | box i j => exact box i j
  | pbox t j =>
    simp only [coOne]
    split
    · exact box _ j
    · exact ⟨pl, hr, hb, hnn⟩
  | gh k =>
    refine ⟨pl, ⟨hr.hr, hr.sl, hr.sz, hr.df, hr.fresh, hr.gr, hr.fr, fun j i hj => ?_⟩, hb, hnn⟩
    have hj : (st.gh.set k none)[j]? = some (some i) := hj
    rw [List.getElem?_set] at hj
    by_cases e : k = j
    · rw [if_pos e] at hj
      split at hj <;> exact nomatch hj
    · rw [if_neg e] at hj; exact hr.gk j i hj
theorem coAll_rl {w0 : World} {fp0 : G0} {bs : Cell → Prop} {n : Nat} {a : Act} {w : World} : ∀ (l : List (Where × Co)) {st : St}, Rl w0 fp0 bs n st a w → Rl w0 fp0 bs n (coAll l st) a w
  | [], _, h => h
  | x :: l, _, h => coAll_rl l (coOne_rl h x)
theorem normC_rl {w0 : World} {fp0 : G0} {bs : Cell → Prop} {n : Nat} {keep : List Nat} {co : List (Where × Co)} {st : St} {nf : NF} {a : Act} {w : World} (h : Rl w0 fp0 bs n st a w) (hn : normC keep co st = some nf) :
    Rl w0 fp0 bs n (denorm keep n nf) a w := by
  unfold normC at hn
  split at hn
  · exact norm_rl h hn
  · simp only [Option.bind_eq_some_iff] at hn
    obtain ⟨nf1, h1, h2⟩ := hn
    obtain ⟨_, _, _, hnn⟩ := id h
    rw [hnn] at h2
    have := coAll_rl co (norm_rl h h1)
    exact norm_rl this h2
section
variable {ρ : Type}
/-- A loop, its state made plain ahead of each round and where it is left: 'kx' tells what is kept there. -/
def loopV (body : Ev ρ) (keep : List Nat) (co : List (Where × Co)) (kx : Ex → List Nat) (cx : Ex → List (Where × Co)) : Nat → Ev ρ
  | 0, _, _ => none
  | k + 1, st, K => body st fun e st' => match e with
    | .normal => (normC keep co st').bind fun nf => loopV body keep co kx cx k (denorm keep st'.n nf) K
    | e => (normC (kx e) (cx e) st').bind fun nf => K e (denorm (kx e) st'.n nf)
theorem Rl.n_eq {w0 : World} {fp0 : G0} {bs : Cell → Prop} {n : Nat} {st : St} {a : Act} {w : World} (h : Rl w0 fp0 bs n st a w) : st.n = n := by
  obtain ⟨_, _, _, h⟩ := h; exact h
theorem loopV_sound {P : Program} {c : Code} {f : Ev ρ} (hf : Sound P c f) (keep : List Nat) (co : List (Where × Co)) (kx : Ex → List Nat) (cx : Ex → List (Where × Co)) (k : Nat) : Sound P (.loop c) (loopV f keep co kx cx k) := by
  intro w0 fp0 bs n st a w K out Q hr h hK
  refine wp_loop_rounds k ?_
  induction k generalizing st a w with
  | zero => exact nomatch h
  | succ k ih =>
    rw [rounds_succ]
    exact hf w0 fp0 bs n st a w _ out _ hr h fun e st' a' w' h' hr' => by
      have hn := hr'.n_eq
      cases e with
      | normal =>
        simp only [Option.bind_eq_some_iff] at h'
        obtain ⟨nf, h1, h2⟩ := h'
        rw [hn] at h2
        exact ih _ a' w' (normC_rl hr' h1) h2
      | exit j =>
        simp only [Option.bind_eq_some_iff] at h'
        obtain ⟨nf, h1, h2⟩ := h'
        rw [hn] at h2
        exact hK (.exit j) _ a' w' h2 (normC_rl hr' h1)
      | ret =>
        simp only [Option.bind_eq_some_iff] at h'
        obtain ⟨nf, h1, h2⟩ := h'
        rw [hn] at h2
        exact hK .ret _ a' w' h2 (normC_rl hr' h1)
/-- A loop over plain values. -/
def iter {V R : Type} (g : V → (V → Option R) → Option R) : Nat → V → Option R
  | 0, _ => none
  | k + 1, v => g v (iter g k)
/-- The loop's oracle: the state, made plain, is read as a plain value. -/
def loopOrc {V : Type} (keep : List Nat) (co : List (Where × Co)) (dec : Nat → NF → Option V) (run : V → (Ex → St → Option ρ) → Option ρ) : Ev ρ := fun st K =>
  (normC keep co st).bind fun nf => (dec st.n nf).bind fun v => run v K
/-- An oracle is right: what it reads is the state; a round from there is 'g'. -/
theorem loopOrc_sound {P : Program} {c : Code} {f : Ev ρ} {V : Type} (hf : Sound P c f) {keep : List Nat} {co : List (Where × Co)} (kx : Ex → List Nat) (cx : Ex → List (Where × Co)) {dec : Nat → NF → Option V} {run : V → (Ex → St → Option ρ) → Option ρ}
    {tm : V → St} (k : Nat) (hd : ∀ n nf v, dec n nf = some v → denorm keep n nf = tm v)
    (hrun : ∀ v K, run v K = loopV f keep co kx cx k (tm v) K) : Sound P (.loop c) (loopOrc keep co dec run) := by
  intro w0 fp0 bs n st a w K out Q hr h hK
  simp only [loopOrc, Option.bind_eq_some_iff] at h
  obtain ⟨nf, h1, v, h2, h3⟩ := h
  have hn := hr.n_eq
  rw [hn] at h2
  rw [hrun v K, ← hd n nf v h2] at h3
  exact loopV_sound hf keep co kx cx k w0 fp0 bs n _ a w K out Q (normC_rl hr h1) h3 hK
theorem iter_loopV {V : Type} {f : Ev ρ} {keep : List Nat} {co : List (Where × Co)} {kx : Ex → List Nat} {cx : Ex → List (Where × Co)} {tm : V → St} {g : V → (V → Option ρ) → (Ex → St → Option ρ) → Option ρ}
    (hg : ∀ (v : V) (K K1 : Ex → St → Option ρ) (next : V → Option ρ), (∀ v', (K1 .normal (tm v')) = next v') →
      f (tm v) (fun e st' => match e with
        | .normal => (normC keep co st').bind fun nf => K1 .normal (denorm keep st'.n nf)
        | e => (normC (kx e) (cx e) st').bind fun nf => K e (denorm (kx e) st'.n nf)) = g v next K) (K : Ex → St → Option ρ) :
    ∀ (k : Nat) (v : V), loopV f keep co kx cx k (tm v) K = iter (fun v next => g v next K) k v
  | 0, v => rfl
  | k + 1, v => by
    show f (tm v) _ = g v (iter (fun v next => g v next K) k) K
    exact hg v K (fun _ st => loopV f keep co kx cx k st K) _ fun v' => iter_loopV hg K k v'
end
end Go.Proofs.Ev
