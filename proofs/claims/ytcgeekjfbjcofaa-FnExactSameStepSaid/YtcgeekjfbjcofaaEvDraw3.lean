/- A region whose order is drawn: whatever order, the text's own comes to the same. -/
import Derived.Test.YtcgeekjfbjcofaaEvDraw2
set_option linter.unusedSimpArgs false
set_option linter.unusedVariables false
namespace Go.Proofs.Ev
def Wanted (masks : List Nat) (i : Nat) (o : Oper) (rs : List DR) (t : Bool) : Prop :=
  match o.guard with
  | none => t = true
  | some (g, want) => (masks.getD i 0).testBit g = true ∧ ∃ r b d, rs[g]? = some r ∧ r.dst = some d ∧ r.c.v = .r [] (.bool b) ∧ t = (b == want)
def GoodR (E : Env) (ops : List Oper) (masks dsts : List Nat) (s0 : List (Nat × SV)) (h0 : Heap) (rs : List DR) (i : Nat) (o : Oper) (r : DR) : Prop :=
  r.dst = o.dst ∧ okW o.op r.c = true ∧ ∃ x t, replay (Nat.testBit (masks.getD i 0)) 0 (rs.take i) (restr dsts s0 (tempsOf o.op.operands.toList), h0) = some x ∧ Wanted masks i o rs t ∧
    ((t = true ∧ OpGen E.P o r.n0 r.c x.1 (cond (blindB masks i 0 ops) [] x.2)) ∨ (t = false ∧ r.c = { v := .undef }))
structure Facts (E : Env) (ops : List Oper) (masks dsts : List Nat) (s0 : List (Nat × SV)) (h0 : Heap) (nid0 : Nat) (rs : List DR) (m nid : Nat) : Prop where
  len : rs.length = m
  good : ∀ (i : Nat) (o : Oper) (r : DR), ops[i]? = some o → rs[i]? = some r → GoodR E ops masks dsts s0 h0 rs i o r
  lo : ∀ (i : Nat) (r : DR), rs[i]? = some r → nid0 ≤ r.n0 ∧ r.n0 + r.c.news.length ≤ nid
  ord : ∀ (i j : Nat) (a b : DR), i < j → rs[i]? = some a → rs[j]? = some b → a.n0 + a.c.news.length ≤ b.n0
theorem Wanted.more {masks : List Nat} {i : Nat} {o : Oper} {rs : List DR} {t : Bool} (h : Wanted masks i o rs t) (r : DR) : Wanted masks i o (rs ++ [r]) t := by
  unfold Wanted at *
  split at h
  · exact h
  · obtain ⟨h1, r', b, d, h2, h3, h4, h5⟩ := h
    exact ⟨h1, r', b, d, by rw [List.getElem?_append_left (List.getElem?_eq_some_iff.1 h2).1]; exact h2, h3, h4, h5⟩
section
variable {ρ : Type} {E : Env} {ops : List Oper} {masks dsts : List Nat} {s0 : List (Nat × SV)} {h0 : Heap} {nid0 : Nat}
theorem Facts.push {rs : List DR} {m nid : Nat} (F : Facts E ops masks dsts s0 h0 nid0 rs m nid) (h0n : nid0 ≤ nid) {o : Oper} {r : DR} (ho : ops[m]? = some o) (hr : GoodR E ops masks dsts s0 h0 (rs ++ [r]) m o r) (hn : r.n0 = nid) :
    Facts E ops masks dsts s0 h0 nid0 (rs ++ [r]) (m + 1) (nid + r.c.news.length) := by
  have hcase : ∀ (i : Nat) (b : DR), (rs ++ [r])[i]? = some b → (i < m ∧ rs[i]? = some b) ∨ (i = m ∧ b = r) := fun i b hb => by
    by_cases c : i < m
    · rw [List.getElem?_append_left (by rw [F.len]; exact c)] at hb; exact .inl ⟨c, hb⟩
    · rw [List.getElem?_append_right (by rw [F.len]; omega), F.len] at hb
      have hi : i - m < 1 := by have := (List.getElem?_eq_some_iff.1 hb).1; simpa using this
      have : i - m = 0 := by omega
      rw [this] at hb; simp at hb
      exact .inr ⟨by omega, hb.symm⟩
  refine ⟨by simp [F.len], fun i o' b ho' hb => ?_, fun i b hb => ?_, fun i j a b hij ha hb => ?_⟩
  · rcases hcase i b hb with ⟨hi, h⟩ | ⟨rfl, rfl⟩
    · obtain ⟨g1, g2, x, t, g3, g4, g5⟩ := F.good i o' b ho' h
      exact ⟨g1, g2, x, t, by rw [List.take_append_of_le_length (by rw [F.len]; omega)]; exact g3, g4.more r, g5⟩
    · rw [ho] at ho'; cases ho'; exact hr
  · rcases hcase i b hb with ⟨hi, h⟩ | ⟨rfl, rfl⟩
    · have := F.lo i b h; exact ⟨this.1, by omega⟩
    · exact ⟨by omega, by omega⟩
  · rcases hcase j b hb with ⟨hj, h⟩ | ⟨rfl, rfl⟩
    · rcases hcase i a ha with ⟨hi, h'⟩ | ⟨rfl, rfl⟩
      · exact F.ord i j a b hij h' h
      · omega
    · rcases hcase i a ha with ⟨hi, h'⟩ | ⟨rfl, rfl⟩
      · have := F.lo i a h'; omega
      · omega
theorem setV_id : ∀ {rs : List DR} {g : Nat} {r : DR} {v : SV}, rs[g]? = some r → r.c.v = v → setV rs g v = rs
  | [], _, _, _, h, _ => by simp at h
  | x :: l, 0, r, v, h, hv => by simp at h; subst h; subst hv; rfl
  | x :: l, g + 1, r, v, h, hv => by simp only [setV]; rw [setV_id (rs := l) (by simpa using h) hv]
theorem evDraw_facts (hE : EnvOk E) {out : ρ} : ∀ (rest : List Oper) (i nid : Nat) (rs : List DR) (K : List DR → Nat → Option ρ), evDraw E ops masks dsts s0 h0 i rest nid rs K = some out →
    Facts E ops masks dsts s0 h0 nid0 rs i nid → nid0 ≤ nid → ops.drop i = rest → ∃ rs' nid', K rs' nid' = some out ∧ nid0 ≤ nid' ∧ Facts E ops masks dsts s0 h0 nid0 rs' (i + rest.length) nid'
  | [], i, nid, rs, K, h, F, hn, _ => ⟨rs, nid, h, hn, F⟩
  | o :: rest, i, nid, rs, K, h, F, hn, hd => by
    have ho : ops[i]? = some o := by rw [← List.head?_drop, hd]; rfl
    have hd' : ops.drop (i + 1) = rest := by rw [← List.drop_drop, hd]; rfl
    have htake : ∀ r, (rs ++ [r]).take i = rs := fun r => by rw [List.take_append_of_le_length (by rw [F.len]; omega), ← F.len, List.take_length]
    simp only [evDraw, Option.bind_eq_some_iff] at h
    obtain ⟨x, hx, h⟩ := h
    have exec : ∀ t, (∀ r, Wanted masks i o (rs ++ [r]) t) → t = true → (evMem E x.1 (cond (blindB masks i 0 ops) [] x.2) nid o.op fun c => cond (okW o.op c) (evDraw E ops masks dsts s0 h0 (i + 1) rest (nid + c.news.length) (rs ++ [⟨o.dst, nid, c⟩]) K) none) = some out →
        ∃ rs' nid', K rs' nid' = some out ∧ nid0 ≤ nid' ∧ Facts E ops masks dsts s0 h0 nid0 rs' (i + (o :: rest).length) nid' := fun t hw ht h => by
      obtain ⟨c, hc, hg⟩ := evMem_gen hE h
      cases hok : okW o.op c <;> simp only [hok, cond_true, cond_false] at hc
      · exact nomatch hc
      · have F' := F.push hn (r := ⟨o.dst, nid, c⟩) ho ⟨rfl, hok, x, t, by rw [htake]; exact hx, hw _, .inl ⟨ht, hg⟩⟩ rfl
        have := evDraw_facts hE rest (i + 1) _ _ K hc F' (by omega) hd'
        rwa [show i + 1 + rest.length = i + (o :: rest).length from by simp; omega] at this
    have skip : ∀ t, (∀ r, Wanted masks i o (rs ++ [r]) t) → t = false → evDraw E ops masks dsts s0 h0 (i + 1) rest nid (rs ++ [⟨o.dst, nid, { v := .undef }⟩]) K = some out →
        ∃ rs' nid', K rs' nid' = some out ∧ nid0 ≤ nid' ∧ Facts E ops masks dsts s0 h0 nid0 rs' (i + (o :: rest).length) nid' := fun t hw ht h => by
      have F' := F.push hn (r := ⟨o.dst, nid, { v := .undef }⟩) ho ⟨rfl, by simp only [okW, isNil, CR.kil, List.nil_append]; cases isWriter o.op <;> rfl, x, t, by rw [htake]; exact hx, hw _, .inr ⟨ht, rfl⟩⟩ rfl
      have := evDraw_facts hE rest (i + 1) _ _ K h F' (by simpa using hn) hd'
      rwa [show i + 1 + rest.length = i + (o :: rest).length from by simp; omega] at this
    split at h
    · rename_i hg
      exact exec true (fun r => by unfold Wanted; rw [hg]) rfl h
    · rename_i g want hg
      cases hb : (masks.getD i 0).testBit g <;> simp only [hb, cond_true, cond_false] at h
      · exact nomatch h
      · simp only [Option.bind_eq_some_iff] at h
        obtain ⟨r, hr, d, hdst, h⟩ := h
        split at h
        · rename_i b hv
          have hw : ∀ r', Wanted masks i o (rs ++ [r']) (b == want) := fun r' => Wanted.more (by
            unfold Wanted; rw [hg]; exact ⟨hb, r, b, d, hr, hdst, hv, rfl⟩) r'
          cases b <;> simp only [cond_true, cond_false] at h
          · rw [setV_id hr hv] at h
            cases want <;> simp only [cond_true, cond_false] at h
            · exact exec _ hw rfl h
            · exact skip _ hw rfl h
          · rw [setV_id hr hv] at h
            cases want <;> simp only [cond_true, cond_false] at h
            · exact skip _ hw rfl h
            · exact exec _ hw rfl h
        · exact nomatch h
end
theorem pairs1_spec {masks : List Nat} {i : Nat} {r : DR} : ∀ {l : List DR} {k : Nat}, pairs1 masks i r k l = true → ∀ (j : Nat) (b : DR), l[j]? = some b → (masks.getD (k + j) 0).testBit i = true ∨ commB r b = true
  | [], _, _, j, b, hb => by simp at hb
  | x :: l, k, h, j, b, hb => by
    simp only [pairs1] at h
    have hl : pairs1 masks i r (k + 1) l = true ∧ ((masks.getD k 0).testBit i = true ∨ commB r x = true) := by
      cases h1 : (masks.getD k 0).testBit i <;> simp only [h1, cond_true, cond_false] at h
      · cases h2 : commB r x <;> simp only [h2, cond_true, cond_false] at h
        · exact nomatch h
        · exact ⟨h, .inr rfl⟩
      · exact ⟨h, .inl rfl⟩
    cases j with
    | zero => simp at hb; subst hb; exact hl.2
    | succ j => have := pairs1_spec hl.1 j b (by simpa using hb); rwa [show k + 1 + j = k + (j + 1) from by omega] at this
theorem pairsB_spec {masks : List Nat} : ∀ {l : List DR} {k : Nat}, pairsB masks k l = true → ∀ (i j : Nat) (a b : DR), i < j → l[i]? = some a → l[j]? = some b → (masks.getD (k + j) 0).testBit (k + i) = true ∨ commB a b = true
  | [], _, _, i, j, a, b, _, ha, _ => by simp at ha
  | x :: l, k, h, i, j, a, b, hij, ha, hb => by
    simp only [pairsB] at h
    cases h1 : pairs1 masks k x (k + 1) l <;> simp only [h1, cond_true, cond_false] at h
    · exact nomatch h
    · obtain ⟨j, rfl⟩ : ∃ j', j = j' + 1 := ⟨j - 1, by omega⟩
      cases i with
      | zero =>
        simp at ha; subst ha
        have := pairs1_spec h1 j b (by simpa using hb)
        rwa [show k + 1 + j = k + (j + 1) from by omega] at this
      | succ i =>
        have := pairsB_spec h i j a b (by omega) (by simpa using ha) (by simpa using hb)
        rwa [show k + 1 + j = k + (j + 1) from by omega, show k + 1 + i = k + (i + 1) from by omega] at this
theorem memI {i : Nat} {l : List Nat} : mem i l = true ↔ i ∈ l := by
  induction l with
  | nil => simp [mem]
  | cons k l ih =>
    simp only [mem, List.mem_cons]
    cases h : Nat.beq k i
    · have : ¬ i = k := fun e => by subst e; simp at h
      simp [ih, this]
    · have := Nat.eq_of_beq_eq_true h; simp [this]
theorem ltAll_spec {n : Nat} : ∀ {l : List Nat}, ltAll n l = true → ∀ i ∈ l, i + 1 ≤ n
  | [], _, i, hi => by simp at hi
  | x :: l, h, i, hi => by
    simp only [ltAll] at h
    cases hm : Nat.ble (x + 1) n <;> simp only [hm, cond_true, cond_false] at h
    · exact nomatch h
    · rcases List.mem_cons.1 hi with rfl | hi
      · exact Nat.le_of_ble_eq_true hm
      · exact ltAll_spec h i hi
theorem dstsOf_mem : ∀ {ops : List Oper} {j : Nat} {o : Oper} {t : Nat}, ops[j]? = some o → o.dst = some t → t ∈ dstsOf ops
  | [], j, o, t, h, _ => by simp at h
  | x :: l, 0, o, t, h, hd => by simp at h; subst h; simp [dstsOf, hd]
  | x :: l, j + 1, o, t, h, hd => by
    have := dstsOf_mem (ops := l) (by simpa using h) hd
    simp only [dstsOf]; split <;> simp [this]
theorem dstsOf_inj : ∀ {ops : List Oper}, (dstsOf ops).Nodup → ∀ {i j : Nat} {a b : Oper} {t : Nat}, i ≠ j → ops[i]? = some a → ops[j]? = some b → a.dst = some t → b.dst ≠ some t
  | [], _, i, j, a, b, t, _, h, _, _ => by simp at h
  | x :: l, hn, i, j, a, b, t, hij, ha, hb, h1 => by
    have hl : (dstsOf l).Nodup := by
      simp only [dstsOf] at hn; split at hn
      · exact (List.nodup_cons.1 hn).2
      · exact hn
    have hx : ∀ t, x.dst = some t → t ∉ dstsOf l := fun t ht => by
      simp only [dstsOf, ht] at hn; exact (List.nodup_cons.1 hn).1
    intro h2
    cases i with
    | zero =>
      simp at ha; subst ha
      cases j with
      | zero => exact hij rfl
      | succ j => exact hx t h1 (dstsOf_mem (by simpa using hb) h2)
    | succ i =>
      cases j with
      | zero => simp at hb; subst hb; exact hx t h2 (dstsOf_mem (by simpa using ha) h1)
      | succ j => exact dstsOf_inj (i := i) (j := j) hl (by omega) (by simpa using ha) (by simpa using hb) h1 h2
theorem look_delAll (T : List Nat) (s : List (Nat × SV)) (t : Nat) : look (delAll T s) t = if t ∈ T then none else look s t := by
  induction s with
  | nil => simp [delAll, look]
  | cons x l ih =>
    obtain ⟨k, v⟩ := x
    simp only [delAll]
    cases hm : mem k T <;> simp only [cond_true, cond_false]
    · rw [look_cons, look_cons, ih]
      by_cases e : k = t
      · subst e
        have : k ∉ T := fun h => by rw [memI.2 h] at hm; exact nomatch hm
        simp [this]
      · simp [e]
    · rw [ih, look_cons]
      by_cases e : k = t
      · subst e; simp [memI.1 hm]
      · simp [e]
theorem look_restr {T : List Nat} {s : List (Nat × SV)} {l : List Nat} {t : Nat} {v : SV} (h : look (restr T s l) t = some v) : t ∉ T ∧ look s t = some v := by
  induction l with
  | nil => exact nomatch h
  | cons k l ih =>
    simp only [restr] at h
    cases hm : mem k T <;> simp only [hm, cond_true, cond_false] at h
    · cases hl : look s k with
      | none => rw [hl] at h; exact ih h
      | some u =>
        rw [hl] at h
        rw [look_cons] at h
        by_cases e : k = t
        · subst e; rw [if_pos rfl] at h; cases h
          exact ⟨fun h => by rw [memI.2 h] at hm; exact (nomatch hm), hl⟩
        · rw [if_neg e] at h; exact ih h
    · exact ih h
theorem blindB_spec {masks : List Nat} {i : Nat} : ∀ {l : List Oper} {k : Nat}, blindB masks i k l = false → ∀ (j : Nat) (o : Oper), l[j]? = some o → isWriter o.op = true → ordB masks i (k + j) = true
  | [], _, _, j, o, h, _ => by simp at h
  | x :: l, k, h, j, o, ho, hw => by
    simp only [blindB] at h
    have hl : blindB masks i (k + 1) l = false ∧ (isWriter x.op = true → ordB masks i k = true) := by
      cases h1 : isWriter x.op <;> simp only [h1, cond_true, cond_false] at h
      · exact ⟨h, fun h => nomatch h⟩
      · cases h2 : ordB masks i k <;> simp only [h2, cond_true, cond_false] at h
        · exact nomatch h
        · exact ⟨h, fun _ => rfl⟩
    cases j with
    | zero => simp at ho; subst ho; exact hl.2 hw
    | succ j => have := blindB_spec hl.1 j o (by simpa using ho) hw; rwa [show k + 1 + j = k + (j + 1) from by omega] at this
end Go.Proofs.Ev
