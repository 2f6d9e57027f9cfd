/- The evaluator over the model's code, and that it is sound: part 5. -/
import Derived.Test.YthaamopjdieecaaEvK4
set_option linter.unusedVariables false
set_option linter.unusedSimpArgs false
namespace Go.Proofs.Ev
variable [Tok]
set_option linter.unusedSectionVars false
def renD (L : List Nat) : List Nat → List Nat
  | [] => []
  | i :: l => match placeOf i L 0 with
    | some k => k :: renD L l
    | none => renD L l
mutual
def SV.ren (L : List Nat) : SV → Option SV
  | .r d x => some (.r (renD L d) x)
  | .nilS => some .nilS
  | .nilP => some .nilP
  | .own i => (placeOf i L 0).bind fun k => some (.own k)
  | .sub i o n => (placeOf i L 0).bind fun k => some (.sub k o n)
  | .bsl i n => (placeOf i L 0).bind fun k => some (.bsl k n)
  | .ptr i x o => (placeOf i L 0).bind fun k => some (.ptr k x o)
  | .inn _ _ _ => none
  | .rptr d cs => some (.rptr (renD L d) cs)
  | .agg cs => (renL L cs).bind fun l => some (.agg l)
  | .tup cs => (renL L cs).bind fun l => some (.tup l)
  | .fn f a b => (renL L a).bind fun a => (renL L b).bind fun b => some (.fn f a b)
  | .undef => some .undef
def renL (L : List Nat) : List SV → Option (List SV)
  | [] => some []
  | v :: l => (v.ren L).bind fun v => (renL L l).bind fun l => some (v :: l)
end
def Blk.ren (L : List Nat) : Blk → Option Blk
  | .box cs => (renL L cs).bind fun l => some (.box l)
  | .arr none t xs => some (.arr none t xs)
  | .arr (some d) t xs => some (.arr (some (renD L d)) t xs)
def renBs (h : Heap) (L : List Nat) : List Nat → Option (List Blk)
  | [] => some []
  | i :: l => (look h i).bind fun b => (b.ren L).bind fun b => (renBs h L l).bind fun l => some (b :: l)
def getAll (s : List (Nat × SV)) : List Nat → Option (List SV)
  | [] => some []
  | t :: l => (look s t).bind fun v => (getAll s l).bind fun vs => some (v :: vs)
abbrev NF := List SV × List Blk × List (Option Nat)
/-- The blocks that were handed in and are still there. -/
def ghIds (h : Heap) : List (Option Nat) → List Nat
  | [] => []
  | none :: l => ghIds h l
  | some i :: l => match look h i with
    | some _ => i :: ghIds h l
    | none => ghIds h l
def ghRen (L : List Nat) : List (Option Nat) → List (Option Nat)
  | [] => []
  | none :: l => none :: ghRen L l
  | some i :: l => placeOf i L 0 :: ghRen L l
def norm (keep : List Nat) (st : St) : Option NF :=
  (getAll st.slots keep).bind fun vs =>
    let L := reach st.heap 3 (addNew (addNew [] (idsL vs)) (ghIds st.heap st.gh))
    cond (nodup L) ((renL L vs).bind fun vs' => (renBs st.heap L L).bind fun bs => some (vs', bs, ghRen L st.gh)) none
def zipK : List Nat → List SV → List (Nat × SV)
  | t :: l, v :: vs => (t, v) :: zipK l vs
  | _, _ => []
def denorm (keep : List Nat) (n : Nat) (nf : NF) : St := { slots := zipK keep nf.1, heap := newsH 0 nf.2.1, nid := nf.2.1.length, n := n, gh := nf.2.2 }

theorem renL_length {L : List Nat} : {cs l : List SV} → renL L cs = some l → l.length = cs.length
  | [], l, h => by cases h; rfl
  | v :: cs, l, h => by
    simp only [renL, Option.bind_eq_some_iff, Option.some.injEq] at h
    obtain ⟨v', hv, l', hl', rfl⟩ := h
    simp [renL_length hl']
section
variable {w : World} {H : Heap} {pl : Pl} {L : List Nat} {bs : List Blk}
theorem placeOf_none {i : Nat} : ∀ {L : List Nat} {n : Nat}, placeOf i L n = none → i ∉ L
  | [], _, _ => fun h => nomatch h
  | j :: l, n, h => by
    simp only [placeOf] at h
    cases hj : Nat.beq j i <;> simp only [hj, cond_true, cond_false] at h
    · intro hm
      rcases List.mem_cons.1 hm with rfl | hm
      · simp at hj
      · exact placeOf_none h hm
    · exact nomatch h
theorem renBs_spec {h : Heap} {L : List Nat} : ∀ {l : List Nat} {bs : List Blk}, renBs h L l = some bs → bs.length = l.length ∧
    (∀ (k : Nat) (b : Blk), bs[k]? = some b → ∃ i b0, l[k]? = some i ∧ look h i = some b0 ∧ b0.ren L = some b)
  | [], bs, e => by cases e; exact ⟨rfl, fun k b hb => by simp at hb⟩
  | i :: l, bs, e => by
    simp only [renBs, Option.bind_eq_some_iff, Option.some.injEq] at e
    obtain ⟨b0, h1, b, h2, l', h3, rfl⟩ := e
    obtain ⟨g1, g2⟩ := renBs_spec h3
    refine ⟨by simp [g1], fun k b' hb => ?_⟩
    cases k with
    | zero => simp at hb; subst hb; exact ⟨i, b0, rfl, h1, h2⟩
    | succ k => simpa using g2 k b' (by simpa using hb)
theorem ren_get (hL : renBs H L L = some bs) {i k : Nat} (hk : placeOf i L 0 = some k) {B : Blk} (hB : look H i = some B) :
    L.getD k 0 = i ∧ ∃ B', look (newsH 0 bs) k = some B' ∧ B.ren L = some B' := by
  obtain ⟨_, h2⟩ := placeOf_spec hk
  rw [Nat.sub_zero] at h2
  have hlt : k < bs.length := by rw [(renBs_spec hL).1]; exact (List.getElem?_eq_some_iff.1 h2).1
  obtain ⟨i', b0, e1, e2, e3⟩ := (renBs_spec hL).2 k _ (List.getElem?_eq_getElem hlt)
  rw [h2] at e1; cases e1
  rw [hB] at e2; cases e2
  exact ⟨by simp [List.getD, h2], _, by rw [look_newsH, if_pos (Nat.zero_le _), Nat.sub_zero]; exact List.getElem?_eq_getElem hlt, e3⟩
theorem ren_back (hL : renBs H L L = some bs) {k : Nat} {B : Blk} (hB : look (newsH 0 bs) k = some B) : ∃ i b0, L[k]? = some i ∧ L.getD k 0 = i ∧ look H i = some b0 ∧ b0.ren L = some B := by
  rw [look_newsH, if_pos (Nat.zero_le _), Nat.sub_zero] at hB
  obtain ⟨i, b0, h1, h2, h3⟩ := (renBs_spec hL).2 k B hB
  exact ⟨i, b0, h1, by simp [List.getD, h1], h2, h3⟩
theorem placeOf_of_get {L : List Nat} (hn : L.Nodup) {k i : Nat} (h : L[k]? = some i) : placeOf i L 0 = some k := by
  cases hp : placeOf i L 0 with
  | none => exact (placeOf_none hp (List.mem_of_getElem? h)).elim
  | some k' =>
    obtain ⟨_, h2⟩ := placeOf_spec hp
    rw [Nat.sub_zero] at h2
    have hlt := (List.getElem?_eq_some_iff.1 h).1
    rw [(List.getElem?_inj hlt hn).1 (h.trans h2.symm)]
theorem mem_renD {L d : List Nat} {k i : Nat} (h : placeOf i L 0 = some k) (hd : mem i d = true) : mem k (renD L d) = true := by
  induction d with
  | nil => exact nomatch hd
  | cons j l ih =>
    simp only [renD]
    simp only [mem] at hd
    cases hj : Nat.beq j i <;> simp only [hj, cond_true, cond_false] at hd
    · cases placeOf j L 0 with
      | none => exact ih hd
      | some m => simp only [mem]; cases Nat.beq m k <;> simp [ih hd]
    · have : j = i := Nat.eq_of_beq_eq_true hj
      subst this
      simp only [h, mem]
      simp
theorem Blk.ren_box {b b' : Blk} (h : b.ren L = some b') : b'.isBox = b.isBox := by
  cases b with
  | box cs => simp only [Blk.ren, Option.bind_eq_some_iff, Option.some.injEq] at h; obtain ⟨_, _, rfl⟩ := h; rfl
  | arr sh t xs => cases sh <;> (cases h; rfl)
theorem ren_okd (hn : nodup L = true) (hL : renBs H L L = some bs) {d : List Nat} {p : Cell} (h : okd H pl d p) : okd (newsH 0 bs) (pl.out L) (renD L d) p := by
  refine ⟨h.1, fun k B hB hm hf => ?_⟩
  obtain ⟨i, b0, h1, hi, h2, h3⟩ := ren_back hL hB
  simp only [Pl.out, hi] at hf
  refine h.2 i b0 h2 (fun hd => ?_) hf
  rw [← Blk.ren_box h3]
  exact hm (mem_renD (placeOf_of_get (nodup_spec hn) h1) hd)
mutual
theorem ren_rep (hn : nodup L = true) (hL : renBs H L L = some bs) : (v : SV) → {v' : SV} → {u : Value} → v.ren L = some v' → SVRep w H pl v u → SVRep w (newsH 0 bs) (pl.out L) v' u
  | .r d x, v', u, h, hv => by
    cases h
    cases hv with
    | r _ _ _ hx => exact .r _ _ _ (hx.frame fun p u hp hu => ⟨ren_okd hn hL hp, hu⟩)
  | .nilS, v', u, h, hv => by cases h; cases hv; exact .nilS
  | .nilP, v', u, h, hv => by cases h; cases hv; exact .nilP
  | .own i, v', u, h, hv => by
    simp only [SV.ren, Option.bind_eq_some_iff, Option.some.injEq] at h
    obtain ⟨k, hk, rfl⟩ := h
    cases hv with
    | own _ sh t xs hl =>
      obtain ⟨hi, B', g1, g2⟩ := ren_get hL hk hl
      have e : (pl.out L).hdr k = pl.hdr i := by simp only [Pl.out, hi]
      rw [← e]
      cases sh with
      | none => cases g2; exact .own k none t xs g1
      | some d => cases g2; exact .own k _ t xs g1
  | .sub i o n, v', u, h, hv => by
    simp only [SV.ren, Option.bind_eq_some_iff, Option.some.injEq] at h
    obtain ⟨k, hk, rfl⟩ := h
    cases hv with
    | sub _ _ _ sh t xs a a' cap cap' hl hh h1 h2 h3 h4 =>
      obtain ⟨hi, B', g1, g2⟩ := ren_get hL hk hl
      have e : (pl.out L).hdr k = pl.hdr i := by simp only [Pl.out, hi]
      cases sh with
      | none => cases g2; exact .sub k o n none t xs a a' cap cap' g1 (e.trans hh) h1 h2 h3 h4
      | some d => cases g2; exact .sub k o n _ t xs a a' cap cap' g1 (e.trans hh) h1 h2 h3 h4
  | .bsl i n, v', u, h, hv => by
    simp only [SV.ren, Option.bind_eq_some_iff, Option.some.injEq] at h
    obtain ⟨k, hk, rfl⟩ := h
    cases hv with
    | bsl _ _ cs a hl hh =>
      obtain ⟨hi, B', g1, g2⟩ := ren_get hL hk hl
      have e : (pl.out L).hdr k = pl.hdr i := by simp only [Pl.out, hi]
      simp only [Blk.ren, Option.bind_eq_some_iff, Option.some.injEq] at g2
      obtain ⟨l, hl', rfl⟩ := g2
      exact .bsl k n l a g1 (e.trans hh)
  | .ptr i x o, v', u, h, hv => by
    simp only [SV.ren, Option.bind_eq_some_iff, Option.some.injEq] at h
    obtain ⟨k, hk, rfl⟩ := h
    cases hv with
    | ptrB _ _ cs b m hl hh =>
      obtain ⟨hi, B', g1, g2⟩ := ren_get hL hk hl
      have e : (pl.out L).hdr k = pl.hdr i := by simp only [Pl.out, hi]
      simp only [Blk.ren, Option.bind_eq_some_iff, Option.some.injEq] at g2
      obtain ⟨l, hl', rfl⟩ := g2
      exact .ptrB k o l b m g1 (e.trans hh)
    | ptrA _ _ _ sh t xs b m n cap hl hx hh =>
      obtain ⟨hi, B', g1, g2⟩ := ren_get hL hk hl
      have e : (pl.out L).hdr k = pl.hdr i := by simp only [Pl.out, hi]
      cases sh with
      | none => cases g2; exact .ptrA k x o none t xs b m n cap g1 hx (e.trans hh)
      | some d => cases g2; exact .ptrA k x o _ t xs b m n cap g1 hx (e.trans hh)
  | .inn _ _ _, v', u, h, hv => by cases h
  | .rptr d cs, v', u, h, hv => by
    cases h
    cases hv with
    | rptr _ _ b o vs h1 h2 => exact .rptr _ _ b o vs (fun j r hj => ⟨ren_okd hn hL (h1 j r hj).1, (h1 j r hj).2⟩) fun j r hj => (h2 j r hj).frame fun p u hp hu => ⟨ren_okd hn hL hp, hu⟩
  | .agg cs, v', u, h, hv => by
    simp only [SV.ren, Option.bind_eq_some_iff, Option.some.injEq] at h
    obtain ⟨l, hl, rfl⟩ := h
    cases hv with
    | agg _ vs h1 h2 h3 =>
      obtain ⟨g1, g2⟩ := renL_rep hn hL cs hl vs.toList (by simpa using h1) fun j x u hx hu => h3 j x u hx (by simpa using hu)
      exact .agg _ _ (by simpa using g1) h2 fun j x u hx hu => g2 j x u hx (by simpa using hu)
  | .tup cs, v', u, h, hv => by
    simp only [SV.ren, Option.bind_eq_some_iff, Option.some.injEq] at h
    obtain ⟨l, hl, rfl⟩ := h
    cases hv with
    | tup _ vs h1 h3 =>
      obtain ⟨g1, g2⟩ := renL_rep hn hL cs hl vs.toList (by simpa using h1) fun j x u hx hu => h3 j x u hx (by simpa using hu)
      exact .tup _ _ (by simpa using g1) fun j x u hx hu => g2 j x u hx (by simpa using hu)
  | .fn f as bs', v', u, h, hv => by
    simp only [SV.ren, Option.bind_eq_some_iff, Option.some.injEq] at h
    obtain ⟨l, hl, l', hl', rfl⟩ := h
    cases hv with
    | fn _ _ _ us vs h1 h3 h1' h3' =>
      obtain ⟨g1, g2⟩ := renL_rep hn hL as hl us.toList (by simpa using h1) fun j x u hx hu => h3 j x u hx (by simpa using hu)
      obtain ⟨g3, g4⟩ := renL_rep hn hL bs' hl' vs.toList (by simpa using h1') fun j x u hx hu => h3' j x u hx (by simpa using hu)
      exact .fn _ _ _ _ _ (by simpa using g1) (fun j x u hx hu => g2 j x u hx (by simpa using hu)) (by simpa using g3) fun j x u hx hu => g4 j x u hx (by simpa using hu)
  | .undef, v', u, h, hv => by cases h; exact .undef _
theorem renL_rep (hn : nodup L = true) (hL : renBs H L L = some bs) : (cs : List SV) → {l : List SV} → renL L cs = some l → (us : List Value) → cs.length = us.length →
    (∀ (j : Nat) (x : SV) (u : Value), cs[j]? = some x → us[j]? = some u → SVRep w H pl x u) →
    l.length = us.length ∧ ∀ (j : Nat) (x : SV) (u : Value), l[j]? = some x → us[j]? = some u → SVRep w (newsH 0 bs) (pl.out L) x u
  | [], l, h, us, hl, _ => by cases h; exact ⟨hl, fun j x u hx _ => by simp at hx⟩
  | v :: cs, l, h, u :: us, hl, hp => by
    simp only [renL, Option.bind_eq_some_iff, Option.some.injEq] at h
    obtain ⟨v', hv, l', hl', rfl⟩ := h
    obtain ⟨g1, g2⟩ := renL_rep hn hL cs hl' us (by simpa using hl) fun j x u hx hu => hp (j + 1) x u (by simpa using hx) (by simpa using hu)
    refine ⟨by simp [g1], fun j x u' hx hu => ?_⟩
    cases j with
    | zero => simp at hx hu; subst hx hu; exact ren_rep hn hL v hv (hp 0 v u rfl rfl)
    | succ j => exact g2 j x u' (by simpa using hx) (by simpa using hu)
end
theorem renL_get {cs l : List SV} (h : renL L cs = some l) : ∀ (j : Nat) (x : SV), l[j]? = some x → ∃ y, cs[j]? = some y ∧ y.ren L = some x := by
  induction cs generalizing l with
  | nil => cases h; intro j x hx; simp at hx
  | cons v cs ih =>
    simp only [renL, Option.bind_eq_some_iff, Option.some.injEq] at h
    obtain ⟨v', hv, l', hl', rfl⟩ := h
    intro j x hx
    cases j with
    | zero => simp at hx; subst hx; exact ⟨v, rfl, hv⟩
    | succ j => simpa using ih hl' j x (by simpa using hx)
theorem ren_hrel (hr : HRel H pl w) (hn : nodup L = true) (hL : renBs H L L = some bs) : HRel (newsH 0 bs) (pl.out L) w := by
  refine ⟨fun k B hB => ?_, fun k k' B B' p h1 h2 f1 f2 => ?_, fun k B p hB hf => ?_, hr.nb⟩
  · obtain ⟨i, b0, h1, hi, h2, h3⟩ := ren_back hL hB
    have hb := hr.blk i b0 h2
    have eh : (pl.out L).hdr k = pl.hdr i := by simp only [Pl.out, hi]
    have ef : (pl.out L).fp k = pl.fp i := by simp only [Pl.out, hi]
    cases b0 with
    | box cs =>
      simp only [Blk.ren, Option.bind_eq_some_iff, Option.some.injEq] at h3
      obtain ⟨l, hl, rfl⟩ := h3
      obtain ⟨b, o, q1, q2, q3⟩ := hb
      refine ⟨b, o, eh.trans q1, fun p => by rw [ef, q2, renL_length hl], fun j v hv => ?_⟩
      obtain ⟨y, hy, hy2⟩ := renL_get hl j v hv
      obtain ⟨u, g1, g2, g3, g4⟩ := q3 j y hy
      exact ⟨u, g1, g2, g3, ren_rep hn hL y hy2 g4⟩
    | arr sh t xs =>
      cases sh with
      | none =>
        cases h3
        show Nonempty (Row w (RepD w) t xs ((pl.out L).hdr k) ((pl.out L).fp k))
        rw [eh, ef]; exact hb
      | some d =>
        cases h3
        obtain ⟨⟨a, cap, b, o, vs, fs, q1, q2, q3, q4, q5, q6, q7, q8, q9⟩⟩ := hb
        exact ⟨⟨a, cap, b, o, vs, fs, eh.trans q1, q2, q3, q4, q5, fun i j r hc => ⟨(q6 i j r hc).1.frame fun p u hp hu => ⟨ren_okd hn hL hp, hu⟩, (q6 i j r hc).2⟩, q7, q8, fun p => by rw [ef]; exact q9 p⟩⟩
  · obtain ⟨i, b0, g1, hi, g2, g3⟩ := ren_back hL h1
    obtain ⟨i', b0', g1', hi', g2', g3'⟩ := ren_back hL h2
    simp only [Pl.out, hi] at f1
    simp only [Pl.out, hi'] at f2
    have := hr.dis i i' b0 b0' p g2 g2' f1 f2
    subst this
    exact (List.getElem?_inj (List.getElem?_eq_some_iff.1 g1).1 (nodup_spec hn)).1 (g1.trans g1'.symm)
  · obtain ⟨i, b0, g1, hi, g2, g3⟩ := ren_back hL hB
    simp only [Pl.out, hi] at hf
    exact hr.ob i b0 p g2 hf
theorem getAll_get {s : List (Nat × SV)} : ∀ {l : List Nat} {vs : List SV}, getAll s l = some vs → vs.length = l.length ∧ ∀ (j t : Nat), l[j]? = some t → ∃ v, vs[j]? = some v ∧ look s t = some v
  | [], vs, h => by cases h; exact ⟨rfl, fun j t ht => by simp at ht⟩
  | t :: l, vs, h => by
    simp only [getAll, Option.bind_eq_some_iff, Option.some.injEq] at h
    obtain ⟨v, hv, vs', hvs, rfl⟩ := h
    obtain ⟨g1, g2⟩ := getAll_get hvs
    refine ⟨by simp [g1], fun j t' ht => ?_⟩
    cases j with
    | zero => simp at ht; subst ht; exact ⟨v, rfl, hv⟩
    | succ j => simpa using g2 j t' (by simpa using ht)
theorem zipK_look : ∀ {l : List Nat} {vs : List SV} {t : Nat} {v : SV}, look (zipK l vs) t = some v → ∃ j : Nat, l[j]? = some t ∧ vs[j]? = some v
  | [], _, t, v, h => by simp [zipK, look] at h
  | _ :: _, [], t, v, h => by simp [zipK, look] at h
  | k :: l, x :: vs, t, v, h => by
    rw [zipK, look_cons] at h
    by_cases e : k = t
    · rw [if_pos e] at h; cases h; exact ⟨0, by simp [e], rfl⟩
    · rw [if_neg e] at h
      obtain ⟨j, h1, h2⟩ := zipK_look h
      exact ⟨j + 1, by simpa using h1, by simpa using h2⟩
end
theorem Blk.ren_like {L : List Nat} {b b' : Blk} (h : b.ren L = some b') : b.like b' := by
  cases b with
  | box cs =>
    simp only [Blk.ren, Option.bind_eq_some_iff, Option.some.injEq] at h
    obtain ⟨l, h1, rfl⟩ := h
    exact (renL_length h1).symm
  | arr sh t xs => cases sh <;> (cases h; exact ⟨rfl, rfl⟩)
theorem ghRen_get {L : List Nat} : ∀ {gh : List (Option Nat)} {k i : Nat}, (ghRen L gh)[k]? = some (some i) → ∃ j, gh[k]? = some (some j) ∧ placeOf j L 0 = some i
  | [], k, i, h => by simp [ghRen] at h
  | none :: l, k, i, h => by
    cases k with
    | zero => simp [ghRen] at h
    | succ k => simpa using ghRen_get (gh := l) (by simpa [ghRen] using h)
  | some j :: l, k, i, h => by
    cases k with
    | zero => simp [ghRen] at h; exact ⟨j, rfl, h⟩
    | succ k => simpa using ghRen_get (gh := l) (by simpa [ghRen] using h)
theorem norm_rl {w0 : World} {fp0 : G0} {bs : Cell → Prop} {n : Nat} {keep : List Nat} {st : St} {nf : NF} {a : Act} {w : World} (h : Rl w0 fp0 bs n st a w) (hn : norm keep st = some nf) :
    Rl w0 fp0 bs n (denorm keep n nf) a w := by
  obtain ⟨pl, hr, hb, hnn⟩ := h
  simp only [norm, Option.bind_eq_some_iff] at hn
  obtain ⟨vs, hvs, hn⟩ := hn
  generalize reach st.heap 3 (addNew (addNew [] (idsL vs)) (ghIds st.heap st.gh)) = L at hn
  cases hnd : nodup L <;> simp only [hnd, cond_true, cond_false, Option.bind_eq_some_iff, Option.some.injEq] at hn
  · exact nomatch hn
  · obtain ⟨vs', hvs', bs', hbs, rfl⟩ := hn
    refine ⟨pl.out L, ⟨ren_hrel hr.hr hnd hbs, fun t v hv => ?_, hr.sz.trans hnn, hr.df, fun i hi => ?_, hr.gr, fun p u hp hno => ?_, fun k i hk => ?_⟩, hb, rfl⟩
    · obtain ⟨j, h1, h2⟩ := zipK_look hv
      obtain ⟨x, h3, h4⟩ := (getAll_get hvs).2 j t h1
      obtain ⟨y, h5, h6⟩ := renL_get hvs' j v h2
      rw [h3] at h5; cases h5
      exact ren_rep hnd hbs x h6 (hr.sl t x h4)
    · show look (newsH 0 bs') i = none
      rw [look_newsH, if_pos (Nat.zero_le _), Nat.sub_zero]
      exact List.getElem?_eq_none hi
    · obtain ⟨g1, g2, g3⟩ := hr.fr p u hp hno
      refine ⟨fun k B hB hf => ?_, g2, g3⟩
      obtain ⟨i, b0, _, hi, e2, _⟩ := ren_back hbs hB
      simp only [Pl.out, hi] at hf
      exact g1 i b0 e2 hf
    · obtain ⟨j, h1, h2⟩ := ghRen_get hk
      obtain ⟨q1, q2⟩ := hr.gk k j h1
      obtain ⟨p1, p2⟩ := placeOf_spec h2
      rw [Nat.sub_zero] at p2
      have hlt : i < bs'.length := by rw [(renBs_spec hbs).1]; exact (List.getElem?_eq_some_iff.1 p2).1
      refine ⟨hlt, fun B hB => ?_⟩
      obtain ⟨i', b0, g1, g2, g3, g4⟩ := ren_back hbs hB
      rw [p2] at g1; cases g1
      obtain ⟨r1, r2⟩ := q2 b0 g3
      exact ⟨by simp only [Pl.out, g2]; exact r1, Blk.like_trans r2 (Blk.ren_like g4)⟩
inductive Co where
  | nilOwn (sh : Bool) (t : Ty)
  | ro (t : Ty)
  | drop
inductive Where where
  | slot (t : Nat)
  | cell (t j : Nat)
  | box (i j : Nat)
  /-- Into the variable that a slot's pointer leads to. -/
  | pbox (t j : Nat)
  /-- Of a block that was handed in: no more is told where it is. -/
  | gh (k : Nat)
def coV (n : Nat) (h : Heap) : Co → SV → SV × List Blk
  | .nilOwn sh t, .nilS => (.own n, [.arr (cond sh (some []) none) t []])
  | .ro t, v => match v.list h t with
    | some p => (.r p.1 (.sl t p.2), [])
    | none => (v, [])
  | .drop, _ => (.undef, [])
  | _, v => (v, [])
def coBox (st : St) (i j : Nat) (c : Co) : St :=
  match look st.heap i with
  | some (.box cs) => match cs[j]? with
    | some v => { st with heap := put (st.heap ++ newsH st.nid (coV st.nid st.heap c v).2) i (.box (cs.set j (coV st.nid st.heap c v).1)), nid := st.nid + (coV st.nid st.heap c v).2.length }
    | none => st
  | _ => st
def coOne (st : St) : Where × Co → St
  | (.slot t, c) => match look st.slots t with
    | some v => { st with slots := put st.slots t (coV st.nid st.heap c v).1, heap := st.heap ++ newsH st.nid (coV st.nid st.heap c v).2, nid := st.nid + (coV st.nid st.heap c v).2.length }
    | none => st
  | (.cell t j, c) => match look st.slots t with
    | some (.agg cs) => match cs[j]? with
      | some v => { st with slots := put st.slots t (.agg (cs.set j (coV st.nid st.heap c v).1)), heap := st.heap ++ newsH st.nid (coV st.nid st.heap c v).2, nid := st.nid + (coV st.nid st.heap c v).2.length }
      | none => st
    | _ => st
  | (.box i j, c) => coBox st i j c
  | (.pbox t j, c) => match look st.slots t with
    | some (.ptr i _ _) => coBox st i j c
    | _ => st
  | (.gh k, _) => { st with gh := st.gh.set k none }
def coAll : List (Where × Co) → St → St
  | [], st => st
  | x :: l, st => coAll l (coOne st x)
def normC (keep : List Nat) (co : List (Where × Co)) (st : St) : Option NF :=
  match co with
  | [] => norm keep st
  | _ => (norm keep st).bind fun nf => norm keep (coAll co (denorm keep st.n nf))
section
variable {w : World} {H : Heap} {pl : Pl}
theorem adopt_step (hr : HRel H pl w) {n : Nat} (hn : look H n = none) (sh : Bool) (t : Ty) :
    StepTo H (H ++ [(n, .arr (cond sh (some []) none) t [])]) ([], []) pl (pl.set n (.slice none 0 0) fun _ => False) w w :=
  new_step hr hn (Grown.refl w) (fun p u hu => ⟨hu, rfl⟩) (fun p h => h.elim) fun _ => by
    refine BlkRep.of_rowI ?_
    simp only [Pl.set, if_true]
    exact Row.nil _
theorem coV_rep (hr : HRel H pl w) {n : Nat} (hn : look H n = none) (c : Co) {v : SV} {u : Value} (hv : SVRep w H pl v u) :
    ∃ pl', StepTo H (H ++ newsH n (coV n H c v).2) ([], []) pl pl' w w ∧ SVRep w (H ++ newsH n (coV n H c v).2) pl' (coV n H c v).1 u := by
  have still : ∀ {v' : SV}, SVRep w H pl v' u → ∃ pl', StepTo H (H ++ newsH n []) ([], []) pl pl' w w ∧ SVRep w (H ++ newsH n []) pl' v' u := fun {v'} h => by
    simp only [newsH, List.append_nil]
    exact ⟨pl, StepTo.refl hr, h⟩
  cases c with
  | nilOwn sh t =>
    cases v with
    | nilS =>
      have hst := adopt_step hr hn sh t
      refine ⟨_, hst, ?_⟩
      cases hv
      have := SVRep.own (w := w) (H := H ++ [(n, .arr (cond sh (some []) none) t [])]) (pl := pl.set n (.slice none 0 0) fun _ => False) n (cond sh (some []) none) t [] (by rw [look_append, hn, look_cons]; simp)
      simpa [Pl.set, coV, newsH] using this
    | _ => exact still hv
  | ro t =>
    simp only [coV]
    cases hl : v.list H t with
    | none => exact still hv
    | some p => exact still (.r _ _ _ (list_repR hr hl hv))
  | drop => exact still (.undef _)
/-- A variable's cells told otherwise. -/
theorem recell_step (hr : HRel H pl w) {i j : Nat} {cs : List SV} {x v : SV} (hl : look H i = some (.box cs)) (hj : cs[j]? = some x) (hx : ∀ u, SVRep w H pl x u → SVRep w H pl v u) :
    StepTo H (put H i (.box (cs.set j v))) ([], []) pl pl w w := by
  have hlk : ∀ k B, look (put H i (.box (cs.set j v))) k = some B → (k = i ∧ B = .box (cs.set j v)) ∨ (k ≠ i ∧ look H k = some B) := fun k B h => by
    rw [look_put] at h
    by_cases e : i = k
    · subst e; simp only [if_true, Option.some.injEq] at h; exact .inl ⟨rfl, h.symm⟩
    · rw [if_neg e] at h; exact .inr ⟨fun h => e h.symm, h⟩
  have hk : Keeps ([], []) w H pl w (put H i (.box (cs.set j v))) pl := by
    refine ⟨fun k B hB _ => ?_, fun d p u _ h hp => ⟨⟨h.1, fun k B hB hm => ?_⟩, hp⟩⟩
    · rw [look_put]
      by_cases e : i = k
      · subst e
        rw [hl] at hB; cases hB
        exact ⟨_, by simp; rfl, by simp [Blk.like], rfl⟩
      · rw [if_neg e]; exact ⟨B, hB, B.like_refl, rfl⟩
    · rcases hlk k B hB with ⟨rfl, rfl⟩ | ⟨_, hB⟩
      · exact h.2 k _ hl fun _ => rfl
      · exact h.2 k B hB hm
  refine ⟨⟨fun k B hB => ?_, fun k k' B B' p h1 h2 => ?_, fun k B p hB => ?_, hr.nb⟩, hk, rfl, Grown.refl w, fun p u hp hno => ⟨fun k B hB => ?_, hp, rfl⟩⟩
  · rcases hlk k B hB with ⟨rfl, rfl⟩ | ⟨_, hB⟩
    · obtain ⟨b, o, q1, q2, q3⟩ := hr.blk k _ hl
      refine ⟨b, o, q1, fun p => by rw [q2, List.length_set], fun m y hy => ?_⟩
      rw [List.getElem?_set] at hy
      by_cases e : j = m
      · subst e
        obtain ⟨u, g1, g2, g3, g4⟩ := q3 j x hj
        simp only [if_true] at hy
        split at hy
        · cases hy; exact ⟨u, g1, g2, g3, (hx u g4).keep0 hk⟩
        · exact nomatch hy
      · rw [if_neg e] at hy
        obtain ⟨u, g1, g2, g3, g4⟩ := q3 m y hy
        exact ⟨u, g1, g2, g3, g4.keep0 hk⟩
    · exact (hr.blk k B hB).keep hk rfl (fun _ => Iff.rfl) (fun p u _ hu => ⟨hu, rfl⟩) B.sweep_nil
  · have f1 : ∃ B, look H k = some B := by
      rcases hlk k B h1 with ⟨rfl, rfl⟩ | ⟨_, h1⟩
      · exact ⟨_, hl⟩
      · exact ⟨_, h1⟩
    have f2 : ∃ B, look H k' = some B := by
      rcases hlk k' B' h2 with ⟨rfl, rfl⟩ | ⟨_, h2⟩
      · exact ⟨_, hl⟩
      · exact ⟨_, h2⟩
    obtain ⟨_, f1⟩ := f1
    obtain ⟨_, f2⟩ := f2
    exact hr.dis k k' _ _ p f1 f2
  · rcases hlk k B hB with ⟨rfl, rfl⟩ | ⟨_, hB⟩
    · exact hr.ob k _ p hl
    · exact hr.ob k B p hB
  · rcases hlk k B hB with ⟨rfl, rfl⟩ | ⟨_, hB⟩
    · exact hno k _ hl
    · exact hno k B hB
end
theorem StepTo.trans0 {H H' H'' : Heap} {pl pl' pl'' : Pl} {w w' w'' : World} (h : StepTo H H' ([], []) pl pl' w w') (g : StepTo H' H'' ([], []) pl' pl'' w' w'') : StepTo H H'' ([], []) pl pl'' w w'' := by
  refine ⟨g.hr, ⟨fun i B hB hm => ?_, fun d p u hd ho hp => ?_⟩, g.bs.trans h.bs, h.gr.trans g.gr, fun p u hp hno => ?_⟩
  · obtain ⟨B', q1, q2, q3⟩ := h.kp.k1 i B hB hm
    obtain ⟨B'', r1, r2, r3⟩ := g.kp.k1 i B' q1 hm
    exact ⟨B'', r1, Blk.like_trans q2 r2, r3.trans q3⟩
  · obtain ⟨q1, q2⟩ := h.kp.k2 d p u hd ho hp
    exact g.kp.k2 d p u hd q1 q2
  · obtain ⟨q1, q2, q3⟩ := h.fr p u hp hno
    obtain ⟨r1, r2, r3⟩ := g.fr p u q2 q1
    exact ⟨r1, r2, r3.trans q3⟩
theorem Rel.ghost {w0 : World} {fp0 : G0} {st : St} {pl pl' : Pl} {a : Act} {w : World} {H' : Heap} {nid' : Nat} (h : Rel w0 fp0 st pl a w) (hs : StepTo st.heap H' ([], []) pl pl' w w) (hn : st.nid ≤ nid')
    (hf : ∀ i, nid' ≤ i → look H' i = none) (hb : ∀ i B, i < st.nid → look H' i = some B → ∃ B', look st.heap i = some B') : Rel w0 fp0 { st with heap := H', nid := nid' } pl' a w :=
  ⟨hs.hr, fun t v hv => (h.sl t v hv).keep0 hs.kp, h.sz, h.df, hf, h.gr, fun p u hp hno => by
    obtain ⟨g1, g2, g3⟩ := h.fr p u hp hno
    obtain ⟨f1, f2, f3⟩ := hs.fr p u g2 g1
    exact ⟨f1, f2, f3.trans g3⟩, h.gk.step hs.kp hn fun k i B hki hB => ⟨rfl, hb i B (h.gk k i hki).1 hB⟩⟩
theorem newsH_low {n i : Nat} {bs : List Blk} (h : i < n) : look (newsH n bs) i = none := by rw [look_newsH, if_neg (by omega)]
theorem newsH_high {n i : Nat} {bs : List Blk} (h : n + bs.length ≤ i) : look (newsH n bs) i = none := by rw [look_newsH, if_pos (by omega), List.getElem?_eq_none (by omega)]
theorem coOne_rl {w0 : World} {fp0 : G0} {bs : Cell → Prop} {n : Nat} {st : St} {a : Act} {w : World} (h : Rl w0 fp0 bs n st a w) (x : Where × Co) : Rl w0 fp0 bs n (coOne st x) a w := by
  obtain ⟨pl, hr, hb, hnn⟩ := h
  have hfresh := hr.fresh st.nid (Nat.le_refl _)
  have app : ∀ (bl : List Blk) {pl' : Pl}, StepTo st.heap (st.heap ++ newsH st.nid bl) ([], []) pl pl' w w → Rel w0 fp0 { st with heap := st.heap ++ newsH st.nid bl, nid := st.nid + bl.length } pl' a w := fun bl pl' hs =>
    hr.ghost hs (by simp) (fun i hi => by rw [look_append, hr.fresh i (by omega), newsH_high hi]; rfl) fun i B hi hB => by
      rw [look_append, newsH_low hi, Option.or_none] at hB; exact ⟨B, hB⟩
  have slots : ∀ {st1 : St} {pl' : Pl} {t : Nat} {v : SV}, Rel w0 fp0 st1 pl' a w → st1.slots = st.slots → SVRep w st1.heap pl' v (a.tmps.getD t undef) → Rel w0 fp0 { st1 with slots := put st.slots t v } pl' a w := fun {st1 pl' t v} h1 e hv =>
    ⟨h1.hr, fun t' v' h' => by
      rw [look_put] at h'
      by_cases c : t = t'
      · subst c; simp at h'; subst h'; exact hv
      · rw [if_neg c] at h'; exact h1.sl t' v' (by rw [e]; exact h'), h1.sz, h1.df, h1.fresh, h1.gr, h1.fr, h1.gk⟩
  obtain ⟨wh, c⟩ := x
  have box : ∀ i j, Rl w0 fp0 bs n (coBox st i j c) a w := fun i j => by
    unfold coBox
    split
    · rename_i cs hl
      split
      · rename_i v hj
        have hi : i < st.nid := by
          by_cases c : i < st.nid
          · exact c
          · rw [hr.fresh i (by omega)] at hl; exact nomatch hl
        have hv : ∃ u, SVRep w st.heap pl v u := by
          obtain ⟨b, o, _, _, q3⟩ := hr.hr.blk i _ hl
          obtain ⟨u, _, _, _, h⟩ := q3 j v hj
          exact ⟨u, h⟩
        have key : ∃ pl', StepTo st.heap (st.heap ++ newsH st.nid (coV st.nid st.heap c v).2) ([], []) pl pl' w w ∧
            ∀ u, SVRep w (st.heap ++ newsH st.nid (coV st.nid st.heap c v).2) pl' v u → SVRep w (st.heap ++ newsH st.nid (coV st.nid st.heap c v).2) pl' (coV st.nid st.heap c v).1 u := by
          have still : (coV st.nid st.heap c v).2 = [] → (∀ u, SVRep w st.heap pl v u → SVRep w st.heap pl (coV st.nid st.heap c v).1 u) →
              ∃ pl', StepTo st.heap (st.heap ++ newsH st.nid (coV st.nid st.heap c v).2) ([], []) pl pl' w w ∧
              ∀ u, SVRep w (st.heap ++ newsH st.nid (coV st.nid st.heap c v).2) pl' v u → SVRep w (st.heap ++ newsH st.nid (coV st.nid st.heap c v).2) pl' (coV st.nid st.heap c v).1 u := fun e h => by
            rw [e]; simp only [newsH, List.append_nil]
            exact ⟨pl, StepTo.refl hr.hr, h⟩
          cases c with
          | nilOwn sh t =>
            cases v with
            | nilS =>
              obtain ⟨u, hu⟩ := hv
              refine ⟨_, adopt_step hr.hr hfresh sh t, fun u hu => ?_⟩
              cases hu
              have := SVRep.own (w := w) (H := st.heap ++ [(st.nid, .arr (cond sh (some []) none) t [])]) (pl := pl.set st.nid (.slice none 0 0) fun _ => False) st.nid (cond sh (some []) none) t [] (by rw [look_append, hfresh, look_cons]; simp)
              simpa [Pl.set, coV, newsH] using this
            | _ => exact still rfl fun u h => h
          | ro t =>
            cases hq : v.list st.heap t with
            | none => exact still (by simp only [coV, hq]) fun u h => by simp only [coV, hq]; exact h
            | some p => exact still (by simp only [coV, hq]) fun u h => by simp only [coV, hq]; exact .r _ _ _ (list_repR hr.hr hq h)
          | drop => exact still rfl fun u _ => .undef _
        obtain ⟨pl', h1, h2⟩ := key
        have hl' : look (st.heap ++ newsH st.nid (coV st.nid st.heap c v).2) i = some (.box cs) := by rw [look_append, hl]; rfl
        have h3 := h1.trans0 (recell_step h1.hr hl' hj h2)
        refine ⟨pl', hr.ghost h3 (by simp) (fun k hk => ?_) (fun k B hk hB => ?_), h1.bs.trans hb, hnn⟩
        · rw [look_put, if_neg (by omega), look_append, hr.fresh k (by omega), newsH_high hk]; rfl
        · rw [look_put] at hB
          by_cases e : i = k
          · subst e; exact ⟨_, hl⟩
          · rw [if_neg e, look_append, newsH_low hk, Option.or_none] at hB; exact ⟨B, hB⟩
      · exact ⟨pl, hr, hb, hnn⟩
    · exact ⟨pl, hr, hb, hnn⟩
  cases wh with
  | slot t =>
    simp only [coOne]
    cases hl : look st.slots t with
    | none => exact ⟨pl, hr, hb, hnn⟩
    | some v =>
      obtain ⟨pl', h1, h2⟩ := coV_rep hr.hr hfresh c (hr.sl t v hl)
      exact ⟨pl', slots (app _ h1) rfl h2, h1.bs.trans hb, hnn⟩
  | cell t j =>
    simp only [coOne]
    split
    · rename_i cs hl
      split
      · rename_i v hj
        have hv := hr.sl t _ hl
        generalize hu : a.tmps.getD t undef = u at hv
        cases hv with
        | agg _ vs hlen hone hall =>
          have hjl : j < vs.size := by rw [← hlen]; exact (List.getElem?_eq_some_iff.1 hj).1
          obtain ⟨pl', h1, h2⟩ := coV_rep hr.hr hfresh c (hall j v vs[j] hj (by simp))
          refine ⟨pl', slots (app _ h1) rfl ?_, h1.bs.trans hb, hnn⟩
          rw [hu]
          refine .agg _ _ (by simp [hlen]) hone fun m y z hy hz => ?_
          rw [List.getElem?_set] at hy
          by_cases e : j = m
          · subst e
            simp only [if_true] at hy
            split at hy
            · cases hy
              have : vs[j] = z := by have := Array.getElem?_eq_getElem hjl; rw [this] at hz; exact Option.some.inj hz
              rw [← this]; exact h2
            · exact nomatch hy
          · rw [if_neg e] at hy
            exact (hall m y z hy hz).keep0 h1.kp
      · exact ⟨pl, hr, hb, hnn⟩
    · exact ⟨pl, hr, hb, hnn⟩
  | box i j => exact box i j
  | pbox t j =>
    simp only [coOne]
    split
    · exact box _ j
    · exact ⟨pl, hr, hb, hnn⟩
  | gh k =>
    refine ⟨pl, ⟨hr.hr, hr.sl, hr.sz, hr.df, hr.fresh, hr.gr, hr.fr, fun j i hj => ?_⟩, hb, hnn⟩
    have hj : (st.gh.set k none)[j]? = some (some i) := hj
    rw [List.getElem?_set] at hj
    by_cases e : k = j
    · rw [if_pos e] at hj
      split at hj <;> exact nomatch hj
    · rw [if_neg e] at hj; exact hr.gk j i hj
theorem coAll_rl {w0 : World} {fp0 : G0} {bs : Cell → Prop} {n : Nat} {a : Act} {w : World} : ∀ (l : List (Where × Co)) {st : St}, Rl w0 fp0 bs n st a w → Rl w0 fp0 bs n (coAll l st) a w
  | [], _, h => h
  | x :: l, _, h => coAll_rl l (coOne_rl h x)
theorem normC_rl {w0 : World} {fp0 : G0} {bs : Cell → Prop} {n : Nat} {keep : List Nat} {co : List (Where × Co)} {st : St} {nf : NF} {a : Act} {w : World} (h : Rl w0 fp0 bs n st a w) (hn : normC keep co st = some nf) :
    Rl w0 fp0 bs n (denorm keep n nf) a w := by
  unfold normC at hn
  split at hn
  · exact norm_rl h hn
  · simp only [Option.bind_eq_some_iff] at hn
    obtain ⟨nf1, h1, h2⟩ := hn
    obtain ⟨_, _, _, hnn⟩ := id h
    rw [hnn] at h2
    have := coAll_rl co (norm_rl h h1)
    exact norm_rl this h2
section
variable {ρ : Type}
/-- A loop, its state made plain ahead of each round and where it is left: 'kx' tells what is kept there. -/
def loopV (body : Ev ρ) (keep : List Nat) (co : List (Where × Co)) (kx : Ex → List Nat) (cx : Ex → List (Where × Co)) : Nat → Ev ρ
  | 0, _, _ => none
  | k + 1, st, K => body st fun e st' => match e with
    | .normal => (normC keep co st').bind fun nf => loopV body keep co kx cx k (denorm keep st'.n nf) K
    | e => (normC (kx e) (cx e) st').bind fun nf => K e (denorm (kx e) st'.n nf)
theorem Rl.n_eq {w0 : World} {fp0 : G0} {bs : Cell → Prop} {n : Nat} {st : St} {a : Act} {w : World} (h : Rl w0 fp0 bs n st a w) : st.n = n := by
  obtain ⟨_, _, _, h⟩ := h; exact h
theorem loopV_sound {P : Program} {c : Code} {f : Ev ρ} (hf : Sound P c f) (keep : List Nat) (co : List (Where × Co)) (kx : Ex → List Nat) (cx : Ex → List (Where × Co)) (k : Nat) : Sound P (.loop c) (loopV f keep co kx cx k) := by
  intro w0 fp0 bs n st a w K out Q hr h hK
  refine wp_loop_rounds k ?_
  induction k generalizing st a w with
  | zero => exact nomatch h
  | succ k ih =>
    rw [rounds_succ]
    exact hf w0 fp0 bs n st a w _ out _ hr h fun e st' a' w' h' hr' => by
      have hn := hr'.n_eq
      cases e with
      | normal =>
        simp only [Option.bind_eq_some_iff] at h'
        obtain ⟨nf, h1, h2⟩ := h'
        rw [hn] at h2
        exact ih _ a' w' (normC_rl hr' h1) h2
      | exit j =>
        simp only [Option.bind_eq_some_iff] at h'
        obtain ⟨nf, h1, h2⟩ := h'
        rw [hn] at h2
        exact hK (.exit j) _ a' w' h2 (normC_rl hr' h1)
      | ret =>
        simp only [Option.bind_eq_some_iff] at h'
        obtain ⟨nf, h1, h2⟩ := h'
        rw [hn] at h2
        exact hK .ret _ a' w' h2 (normC_rl hr' h1)
/-- A loop over plain values. -/
def iter {V R : Type} (g : V → (V → Option R) → Option R) : Nat → V → Option R
  | 0, _ => none
  | k + 1, v => g v (iter g k)
/-- The loop's oracle: the state, made plain, is read as a plain value. -/
def loopOrc {V : Type} (keep : List Nat) (co : List (Where × Co)) (dec : Nat → NF → Option V) (run : V → (Ex → St → Option ρ) → Option ρ) : Ev ρ := fun st K =>
  (normC keep co st).bind fun nf => (dec st.n nf).bind fun v => run v K
/-- An oracle is right: what it reads is the state; a round from there is 'g'. -/
theorem loopOrc_sound {P : Program} {c : Code} {f : Ev ρ} {V : Type} (hf : Sound P c f) {keep : List Nat} {co : List (Where × Co)} (kx : Ex → List Nat) (cx : Ex → List (Where × Co)) {dec : Nat → NF → Option V} {run : V → (Ex → St → Option ρ) → Option ρ}
    {tm : V → St} (k : Nat) (hd : ∀ n nf v, dec n nf = some v → denorm keep n nf = tm v)
    (hrun : ∀ v K, run v K = loopV f keep co kx cx k (tm v) K) : Sound P (.loop c) (loopOrc keep co dec run) := by
  intro w0 fp0 bs n st a w K out Q hr h hK
  simp only [loopOrc, Option.bind_eq_some_iff] at h
  obtain ⟨nf, h1, v, h2, h3⟩ := h
  have hn := hr.n_eq
  rw [hn] at h2
  rw [hrun v K, ← hd n nf v h2] at h3
  exact loopV_sound hf keep co kx cx k w0 fp0 bs n _ a w K out Q (normC_rl hr h1) h3 hK
theorem iter_loopV {V : Type} {f : Ev ρ} {keep : List Nat} {co : List (Where × Co)} {kx : Ex → List Nat} {cx : Ex → List (Where × Co)} {tm : V → St} {g : V → (V → Option ρ) → (Ex → St → Option ρ) → Option ρ}
    (hg : ∀ (v : V) (K K1 : Ex → St → Option ρ) (next : V → Option ρ), (∀ v', (K1 .normal (tm v')) = next v') →
      f (tm v) (fun e st' => match e with
        | .normal => (normC keep co st').bind fun nf => K1 .normal (denorm keep st'.n nf)
        | e => (normC (kx e) (cx e) st').bind fun nf => K e (denorm (kx e) st'.n nf)) = g v next K) (K : Ex → St → Option ρ) :
    ∀ (k : Nat) (v : V), loopV f keep co kx cx k (tm v) K = iter (fun v next => g v next K) k v
  | 0, v => rfl
  | k + 1, v => by
    show f (tm v) _ = g v (iter (fun v next => g v next K) k) K
    exact hg v K (fun _ st => loopV f keep co kx cx k st K) _ fun v' => iter_loopV hg K k v'
end
end Go.Proofs.Ev

set_option linter.unusedVariables false
set_option linter.unusedSimpArgs false
namespace Go.Proofs.Ev
variable [Tok]
set_option linter.unusedSectionVars false
/-- What a function gives back: its result; the blocks that were handed in, as far as they are kept; new ones. -/
structure MOut where
  v : SV
  kept : List (Option Blk)
  news : List Blk
def keptH : Nat → List (Option Blk) → Heap
  | _, [] => []
  | n, none :: l => keptH (n + 1) l
  | n, some b :: l => (n, b) :: keptH (n + 1) l
def MOut.heap (o : MOut) : Heap := keptH 0 o.kept ++ newsH o.kept.length o.news
theorem look_keptH : ∀ (l : List (Option Blk)) (n i : Nat), look (keptH n l) i = if n ≤ i then (l[i - n]?).bind id else none
  | [], n, i => by simp [keptH, look]
  | none :: l, n, i => by
    rw [keptH, look_keptH l (n + 1) i]
    by_cases c : n + 1 ≤ i
    · rw [if_pos c, if_pos (by omega), show i - n = (i - (n + 1)) + 1 from by omega]; rfl
    · rw [if_neg c]
      by_cases c2 : n ≤ i
      · rw [if_pos c2, show i - n = 0 from by omega]; rfl
      · rw [if_neg c2]
  | some b :: l, n, i => by
    rw [keptH, look_cons, look_keptH l (n + 1) i]
    by_cases c0 : n = i
    · subst c0; simp
    · rw [if_neg c0]
      by_cases c : n + 1 ≤ i
      · rw [if_pos c, if_pos (by omega), show i - n = (i - (n + 1)) + 1 from by omega]; rfl
      · rw [if_neg c, if_neg (by omega)]
theorem MOut.look_low (o : MOut) {k : Nat} (h : k < o.kept.length) : look o.heap k = (o.kept[k]?).bind id := by
  rw [MOut.heap, look_append, look_keptH, if_pos (Nat.zero_le _), Nat.sub_zero, look_newsH, if_neg (by omega), Option.or_none]
theorem MOut.look_high (o : MOut) {k : Nat} (h : o.kept.length ≤ k) : look o.heap k = o.news[k - o.kept.length]? := by
  rw [MOut.heap, look_append, look_keptH, if_pos (Nat.zero_le _), Nat.sub_zero, look_newsH, if_pos h, List.getElem?_eq_none h]; rfl
/-- THE CONTRACT of a function that is handed blocks. -/
def MutCalls (P : Program) (g : FuncId) (args : List SV) (bs : List Blk) (o : MOut) : Prop :=
  Enters P g ∧ o.kept.length = bs.length ∧ ∀ (w : World) (us : Array Value) (pl : Pl), HRel (newsH 0 bs) pl w → args.length = us.size →
    (∀ (j : Nat) (x : SV) (u : Value), args[j]? = some x → us[j]? = some u → SVRep w (newsH 0 bs) pl x u) →
    Calls P g us w fun e w' => ∃ u pl', e = .returned u ∧ HRel o.heap pl' w' ∧ SVRep w' o.heap pl' o.v u ∧ pl'.base = pl.base ∧ Grown w w' ∧
      (∀ (k : Nat) (B : Blk), o.kept[k]? = some (some B) → pl'.hdr k = pl.hdr k ∧ ∃ B0, bs[k]? = some B0 ∧ B0.like B) ∧
      (∀ p u, w.at? p = some u → (∀ k B, look (newsH 0 bs) k = some B → ¬ pl.fp k p) → (∀ k B, look o.heap k = some B → ¬ pl'.fp k p) ∧ w'.at? p = some u ∧ w'.ice? p = w.ice? p)
abbrev MG := (ρ : Type) → List SV → List Blk → (MOut → Option ρ) → Option ρ
def MutOk (P : Program) (g : FuncId) (G : MG) : Prop :=
  ∀ (ρ : Type) args bs (K : MOut → Option ρ) (out : ρ), G ρ args bs K = some out → ∃ o, K o = some out ∧ MutCalls P g args bs o

/-- The blocks that are kept, those that are gone, those that may be other than they were. -/
def updL (f : Blk → Blk) : List Nat → List (Option Blk) → Heap
  | i :: L, some b :: l => (i, f b) :: updL f L l
  | _ :: L, none :: l => updL f L l
  | _, _ => []
def goneL : List Nat → List (Option Blk) → List Nat
  | _ :: L, some _ :: l => goneL L l
  | i :: L, none :: l => i :: goneL L l
  | _, _ => []
def dirtyL : List Nat → List (Option Blk) → List Nat
  | i :: L, some (.arr _ _ _) :: l => i :: dirtyL L l
  | _ :: L, some (.box _) :: l => dirtyL L l
  | _ :: L, none :: l => dirtyL L l
  | _, _ => []
def bk (L : List Nat) (nid m k : Nat) : Nat := cond (Nat.ble (k + 1) m) (L.getD k 0) (nid + (k - m))
def bkL (L : List Nat) (nid m : Nat) : List Nat → List Nat
  | [] => []
  | k :: l => bk L nid m k :: bkL L nid m l
mutual
/-- A result where it is called. 'D': what the arguments rest on besides. -/
def SV.back (L : List Nat) (nid m : Nat) (D : List Nat) : SV → SV
  | .r d x => mkR (bkL L nid m d ++ D) x
  | .nilS => .nilS
  | .nilP => .nilP
  | .own k => .own (bk L nid m k)
  | .ptr k 0 o => .ptr (bk L nid m k) 0 o
  | .agg cs => .agg (backL L nid m D cs)
  | .tup cs => .tup (backL L nid m D cs)
  | .fn f a b => .fn f (backL L nid m D a) (backL L nid m D b)
  | _ => .undef
def backL (L : List Nat) (nid m : Nat) (D : List Nat) : List SV → List SV
  | [] => []
  | v :: l => v.back L nid m D :: backL L nid m D l
end
def Blk.back (L : List Nat) (nid m : Nat) (D : List Nat) : Blk → Blk
  | .box cs => .box (backL L nid m D cs)
  | .arr none t xs => .arr none t xs
  | .arr (some d) t xs => .arr (some (bkL L nid m d ++ D)) t xs
def backB (L : List Nat) (nid m : Nat) (D : List Nat) : List Blk → List Blk
  | [] => []
  | b :: l => b.back L nid m D :: backB L nid m D l
def outD (L : List Nat) : List Nat → List Nat
  | [] => []
  | i :: l => cond (mem i L) (outD L l) (i :: outD L l)
mutual
def SV.deps : SV → List Nat
  | .r d _ => d
  | .rptr d _ => d
  | .agg cs => depsL cs
  | .tup cs => depsL cs
  | .fn _ a b => depsL a ++ depsL b
  | _ => []
def depsL : List SV → List Nat
  | [] => []
  | v :: l => v.deps ++ depsL l
end
def blkDeps : Blk → List Nat
  | .box cs => depsL cs
  | .arr none _ _ => []
  | .arr (some d) _ _ => d
def depsH (h : Heap) : List Nat → List Nat
  | [] => []
  | i :: l => match look h i with
    | some b => blkDeps b ++ depsH h l
    | none => depsH h l
def subD (L D : List Nat) : List Nat → Bool
  | [] => true
  | i :: l => cond (mem i L || mem i D) (subD L D l) false
/-- The caller's number of a block, as the callee's. -/
def cb (L : List Nat) (nid m c i : Nat) : Option Nat :=
  match placeOf i L 0 with
  | some k => some k
  | none => if nid ≤ i ∧ i < nid + c then some (m + (i - nid)) else none
def plIn (H : Heap) (pl : Pl) (L D : List Nat) : Pl :=
  ⟨fun k => pl.hdr (L.getD k 0), fun k => pl.fp (L.getD k 0), fun p => pl.base p ∧ ∀ i B, look H i = some B → mem i L = false → (mem i D = true → B.isBox = true) → ¬ pl.fp i p⟩
def plOut (pl pl' : Pl) (L : List Nat) (nid m c : Nat) : Pl :=
  ⟨fun i => match cb L nid m c i with | some k => pl'.hdr k | none => pl.hdr i, fun i => match cb L nid m c i with | some k => pl'.fp k | none => pl.fp i, pl.base⟩
theorem mem_outD {L D : List Nat} {i : Nat} (h : mem i (outD L D) = true) : mem i L = false := by
  induction D with
  | nil => exact nomatch h
  | cons k l ih =>
    simp only [outD] at h
    cases hk : mem k L <;> simp only [hk, cond_true, cond_false] at h
    · simp only [mem] at h
      cases hb : Nat.beq k i <;> simp only [hb, cond_true, cond_false] at h
      · exact ih h
      · rw [← Nat.eq_of_beq_eq_true hb]; exact hk
    · exact ih h
theorem subD_spec {L D : List Nat} : ∀ {d : List Nat}, subD L D d = true → ∀ i, mem i d = true → mem i L = true ∨ mem i D = true
  | [], _, i, h => nomatch h
  | k :: l, hs, i, h => by
    simp only [subD] at hs
    cases hk : (mem k L || mem k D) <;> simp only [hk, cond_true, cond_false] at hs
    · exact nomatch hs
    · simp only [mem] at h
      cases hb : Nat.beq k i <;> simp only [hb, cond_true, cond_false] at h
      · exact subD_spec hs i h
      · rw [← Nat.eq_of_beq_eq_true hb]
        simpa using hk
theorem subD_append {L D : List Nat} : ∀ {a b : List Nat}, subD L D (a ++ b) = true → subD L D a = true ∧ subD L D b = true
  | [], b, h => ⟨rfl, h⟩
  | k :: l, b, h => by
    simp only [List.cons_append, subD] at h
    cases hk : (mem k L || mem k D) <;> simp only [hk, cond_true, cond_false] at h
    · exact nomatch h
    · obtain ⟨h1, h2⟩ := subD_append h
      exact ⟨by simp only [subD, hk, cond_true]; exact h1, h2⟩
theorem placeOf_mem {L : List Nat} {i k : Nat} (h : placeOf i L 0 = some k) : mem i L = true := (mem_iff i L).2 (List.mem_of_getElem? (by have := (placeOf_spec h).2; simpa using this))
section
variable {w : World} {H : Heap} {pl : Pl} {L D : List Nat} {bs : List Blk}
theorem plIn_okd (hn : nodup L = true) (hL : renBs H L L = some bs) {d : List Nat} {p : Cell} (hd : subD L D d = true) (h : okd H pl d p) : okd (newsH 0 bs) (plIn H pl L D) (renD L d) p := by
  refine ⟨⟨h.1, fun i B hB hm hf => h.2 i B hB fun hi => ?_⟩, fun k B hB hm hf => ?_⟩
  · rcases subD_spec hd i hi with h1 | h1
    · rw [hm] at h1; exact nomatch h1
    · exact hf h1
  · obtain ⟨i, b0, h1, hi, h2, h3⟩ := ren_back hL hB
    simp only [plIn, hi] at hf
    refine h.2 i b0 h2 (fun hd => ?_) hf
    rw [← Blk.ren_box h3]
    exact hm (mem_renD (placeOf_of_get (nodup_spec hn) h1) hd)
mutual
theorem plIn_rep (hn : nodup L = true) (hL : renBs H L L = some bs) : (v : SV) → {v' : SV} → {u : Value} → subD L D v.deps = true → v.ren L = some v' → SVRep w H pl v u → SVRep w (newsH 0 bs) (plIn H pl L D) v' u
  | .r d x, v', u, hd, h, hv => by
    cases h
    cases hv with
    | r _ _ _ hx => exact .r _ _ _ (hx.frame fun p u hp hu => ⟨plIn_okd hn hL hd hp, hu⟩)
  | .nilS, v', u, hd, h, hv => by cases h; cases hv; exact .nilS
  | .nilP, v', u, hd, h, hv => by cases h; cases hv; exact .nilP
  | .own i, v', u, hd, h, hv => by
    simp only [SV.ren, Option.bind_eq_some_iff, Option.some.injEq] at h
    obtain ⟨k, hk, rfl⟩ := h
    cases hv with
    | own _ sh t xs hl =>
      obtain ⟨hi, B', g1, g2⟩ := ren_get hL hk hl
      have e : (plIn H pl L D).hdr k = pl.hdr i := by simp only [plIn, hi]
      rw [← e]
      cases sh with
      | none => cases g2; exact .own k none t xs g1
      | some d => cases g2; exact .own k _ t xs g1
  | .sub i o n, v', u, hd, h, hv => by
    simp only [SV.ren, Option.bind_eq_some_iff, Option.some.injEq] at h
    obtain ⟨k, hk, rfl⟩ := h
    cases hv with
    | sub _ _ _ sh t xs a a' cap cap' hl hh h1 h2 h3 h4 =>
      obtain ⟨hi, B', g1, g2⟩ := ren_get hL hk hl
      have e : (plIn H pl L D).hdr k = pl.hdr i := by simp only [plIn, hi]
      cases sh with
      | none => cases g2; exact .sub k o n none t xs a a' cap cap' g1 (e.trans hh) h1 h2 h3 h4
      | some d => cases g2; exact .sub k o n _ t xs a a' cap cap' g1 (e.trans hh) h1 h2 h3 h4
  | .bsl i n, v', u, hd, h, hv => by
    simp only [SV.ren, Option.bind_eq_some_iff, Option.some.injEq] at h
    obtain ⟨k, hk, rfl⟩ := h
    cases hv with
    | bsl _ _ cs a hl hh =>
      obtain ⟨hi, B', g1, g2⟩ := ren_get hL hk hl
      have e : (plIn H pl L D).hdr k = pl.hdr i := by simp only [plIn, hi]
      simp only [Blk.ren, Option.bind_eq_some_iff, Option.some.injEq] at g2
      obtain ⟨l, hl', rfl⟩ := g2
      exact .bsl k n l a g1 (e.trans hh)
  | .ptr i x o, v', u, hd, h, hv => by
    simp only [SV.ren, Option.bind_eq_some_iff, Option.some.injEq] at h
    obtain ⟨k, hk, rfl⟩ := h
    cases hv with
    | ptrB _ _ cs b m hl hh =>
      obtain ⟨hi, B', g1, g2⟩ := ren_get hL hk hl
      have e : (plIn H pl L D).hdr k = pl.hdr i := by simp only [plIn, hi]
      simp only [Blk.ren, Option.bind_eq_some_iff, Option.some.injEq] at g2
      obtain ⟨l, hl', rfl⟩ := g2
      exact .ptrB k o l b m g1 (e.trans hh)
    | ptrA _ _ _ sh t xs b m n cap hl hx hh =>
      obtain ⟨hi, B', g1, g2⟩ := ren_get hL hk hl
      have e : (plIn H pl L D).hdr k = pl.hdr i := by simp only [plIn, hi]
      cases sh with
      | none => cases g2; exact .ptrA k x o none t xs b m n cap g1 hx (e.trans hh)
      | some d => cases g2; exact .ptrA k x o _ t xs b m n cap g1 hx (e.trans hh)
  | .inn _ _ _, v', u, hd, h, hv => by cases h
  | .rptr d cs, v', u, hd, h, hv => by
    cases h
    cases hv with
    | rptr _ _ b o vs h1 h2 => exact .rptr _ _ b o vs (fun j r hj => ⟨plIn_okd hn hL hd (h1 j r hj).1, (h1 j r hj).2⟩) fun j r hj => (h2 j r hj).frame fun p u hp hu => ⟨plIn_okd hn hL hd hp, hu⟩
  | .agg cs, v', u, hd, h, hv => by
    simp only [SV.ren, Option.bind_eq_some_iff, Option.some.injEq] at h
    obtain ⟨l, hl, rfl⟩ := h
    cases hv with
    | agg _ vs h1 h2 h3 =>
      obtain ⟨g1, g2⟩ := plInL_rep hn hL cs hd hl vs.toList (by simpa using h1) fun j x u hx hu => h3 j x u hx (by simpa using hu)
      exact .agg _ _ (by simpa using g1) h2 fun j x u hx hu => g2 j x u hx (by simpa using hu)
  | .tup cs, v', u, hd, h, hv => by
    simp only [SV.ren, Option.bind_eq_some_iff, Option.some.injEq] at h
    obtain ⟨l, hl, rfl⟩ := h
    cases hv with
    | tup _ vs h1 h3 =>
      obtain ⟨g1, g2⟩ := plInL_rep hn hL cs hd hl vs.toList (by simpa using h1) fun j x u hx hu => h3 j x u hx (by simpa using hu)
      exact .tup _ _ (by simpa using g1) fun j x u hx hu => g2 j x u hx (by simpa using hu)
  | .fn f as bs', v', u, hd, h, hv => by
    simp only [SV.ren, Option.bind_eq_some_iff, Option.some.injEq] at h
    obtain ⟨l, hl, l', hl', rfl⟩ := h
    obtain ⟨hd1, hd2⟩ := subD_append (show subD L D (depsL as ++ depsL bs') = true from hd)
    cases hv with
    | fn _ _ _ us vs h1 h3 h1' h3' =>
      obtain ⟨g1, g2⟩ := plInL_rep hn hL as hd1 hl us.toList (by simpa using h1) fun j x u hx hu => h3 j x u hx (by simpa using hu)
      obtain ⟨g3, g4⟩ := plInL_rep hn hL bs' hd2 hl' vs.toList (by simpa using h1') fun j x u hx hu => h3' j x u hx (by simpa using hu)
      exact .fn _ _ _ _ _ (by simpa using g1) (fun j x u hx hu => g2 j x u hx (by simpa using hu)) (by simpa using g3) fun j x u hx hu => g4 j x u hx (by simpa using hu)
  | .undef, v', u, hd, h, hv => by cases h; exact .undef _
theorem plInL_rep (hn : nodup L = true) (hL : renBs H L L = some bs) : (cs : List SV) → {l : List SV} → subD L D (depsL cs) = true → renL L cs = some l → (us : List Value) → cs.length = us.length →
    (∀ (j : Nat) (x : SV) (u : Value), cs[j]? = some x → us[j]? = some u → SVRep w H pl x u) →
    l.length = us.length ∧ ∀ (j : Nat) (x : SV) (u : Value), l[j]? = some x → us[j]? = some u → SVRep w (newsH 0 bs) (plIn H pl L D) x u
  | [], l, hd, h, us, hl, _ => by cases h; exact ⟨hl, fun j x u hx _ => by simp at hx⟩
  | v :: cs, l, hd, h, u :: us, hl, hp => by
    simp only [renL, Option.bind_eq_some_iff, Option.some.injEq] at h
    obtain ⟨v', hv, l', hl', rfl⟩ := h
    obtain ⟨hd1, hd2⟩ := subD_append (show subD L D (v.deps ++ depsL cs) = true from hd)
    obtain ⟨g1, g2⟩ := plInL_rep hn hL cs hd2 hl' us (by simpa using hl) fun j x u hx hu => hp (j + 1) x u (by simpa using hx) (by simpa using hu)
    refine ⟨by simp [g1], fun j x u' hx hu => ?_⟩
    cases j with
    | zero => simp at hx hu; subst hx hu; exact plIn_rep hn hL v hd1 hv (hp 0 v u rfl rfl)
    | succ j => exact g2 j x u' (by simpa using hx) (by simpa using hu)
end
theorem depsL_mem {cs : List SV} {L D : List Nat} (h : subD L D (depsL cs) = true) : ∀ (j : Nat) (x : SV), cs[j]? = some x → subD L D x.deps = true := by
  induction cs with
  | nil => intro j x hx; simp at hx
  | cons v l ih =>
    obtain ⟨h1, h2⟩ := subD_append (show subD L D (v.deps ++ depsL l) = true from h)
    intro j x hx
    cases j with
    | zero => simp at hx; subst hx; exact h1
    | succ j => exact ih h2 j x (by simpa using hx)
theorem depsH_mem {l : List Nat} (h : subD L D (depsH H l) = true) : ∀ i ∈ l, ∀ B, look H i = some B → subD L D (blkDeps B) = true := by
  induction l with
  | nil => intro i hi; exact nomatch hi
  | cons k l ih =>
    intro i hi B hB
    simp only [depsH] at h
    rcases List.mem_cons.1 hi with rfl | hi
    · simp only [hB] at h; exact (subD_append h).1
    · split at h
      · exact ih (subD_append h).2 i hi B hB
      · exact ih h i hi B hB
theorem plIn_hrel (hr : HRel H pl w) (hn : nodup L = true) (hL : renBs H L L = some bs) (hd : subD L D (depsH H L) = true) : HRel (newsH 0 bs) (plIn H pl L D) w := by
  have hown := hr.own_there
  refine ⟨fun k B hB => ?_, fun k k' B B' p h1 h2 f1 f2 => ?_, fun k B p hB hf => ?_, fun p hp => ⟨hr.nb p hp, fun i B hB _ _ hf => ?_⟩⟩
  · obtain ⟨i, b0, h1, hi, h2, h3⟩ := ren_back hL hB
    have hb := hr.blk i b0 h2
    have hdb := depsH_mem hd i (List.mem_of_getElem? h1) b0 h2
    have eh : (plIn H pl L D).hdr k = pl.hdr i := by simp only [plIn, hi]
    have ef : (plIn H pl L D).fp k = pl.fp i := by simp only [plIn, hi]
    cases b0 with
    | box cs =>
      simp only [Blk.ren, Option.bind_eq_some_iff, Option.some.injEq] at h3
      obtain ⟨l, hl, rfl⟩ := h3
      obtain ⟨b, o, q1, q2, q3⟩ := hb
      refine ⟨b, o, eh.trans q1, fun p => by rw [ef, q2, renL_length hl], fun j v hv => ?_⟩
      obtain ⟨y, hy, hy2⟩ := renL_get hl j v hv
      obtain ⟨u, g1, g2, g3, g4⟩ := q3 j y hy
      exact ⟨u, g1, g2, g3, plIn_rep hn hL y (depsL_mem hdb j y hy) hy2 g4⟩
    | arr sh t xs =>
      cases sh with
      | none =>
        cases h3
        show Nonempty (Row w (RepD w) t xs ((plIn H pl L D).hdr k) ((plIn H pl L D).fp k))
        rw [eh, ef]; exact hb
      | some d =>
        cases h3
        obtain ⟨⟨a, cap, b, o, vs, fs, q1, q2, q3, q4, q5, q6, q7, q8, q9⟩⟩ := hb
        exact ⟨⟨a, cap, b, o, vs, fs, eh.trans q1, q2, q3, q4, q5, fun i j r hc => ⟨(q6 i j r hc).1.frame fun p u hp hu => ⟨plIn_okd hn hL hdb hp, hu⟩, (q6 i j r hc).2⟩, q7, q8, fun p => by rw [ef]; exact q9 p⟩⟩
  · obtain ⟨i, b0, g1, hi, g2, g3⟩ := ren_back hL h1
    obtain ⟨i', b0', g1', hi', g2', g3'⟩ := ren_back hL h2
    simp only [plIn, hi] at f1
    simp only [plIn, hi'] at f2
    have := hr.dis i i' b0 b0' p g2 g2' f1 f2
    subst this
    exact (List.getElem?_inj (List.getElem?_eq_some_iff.1 g1).1 (nodup_spec hn)).1 (g1.trans g1'.symm)
  · obtain ⟨i, b0, g1, hi, g2, g3⟩ := ren_back hL hB
    simp only [plIn, hi] at hf
    refine ⟨hr.ob i b0 p g2 hf, fun i' B' hB' hm _ hf' => ?_⟩
    have := hr.dis i i' b0 B' p g2 hB' hf hf'
    subst this
    rw [(mem_iff i L).2 (List.mem_of_getElem? g1)] at hm; exact nomatch hm
  · obtain ⟨u, hu⟩ := hown i B p hB hf
    rw [hp] at hu; exact nomatch hu
end
end Go.Proofs.Ev

set_option linter.unusedVariables false
set_option linter.unusedSimpArgs false
namespace Go.Proofs.Ev
variable [Tok]
set_option linter.unusedSectionVars false
theorem look_updL_out {f : Blk → Blk} {i : Nat} : ∀ {L : List Nat} {kept : List (Option Blk)} {H : Heap}, (∀ (k : Nat) (b : Blk), L[k]? = some i → kept[k]? = some (some b) → False) → look (upds (updL f L kept) H) i = look H i
  | [], _, H, _ => by simp [updL, upds]
  | _ :: _, [], H, _ => by simp [updL, upds]
  | i0 :: L, none :: l, H, h => by
    rw [updL]
    exact look_updL_out fun k b h1 h2 => h (k + 1) b (by simpa using h1) (by simpa using h2)
  | i0 :: L, some b0 :: l, H, h => by
    rw [updL, upds, look_updL_out fun k b h1 h2 => h (k + 1) b (by simpa using h1) (by simpa using h2), look_put, if_neg]
    intro e; subst e
    exact h 0 b0 rfl rfl
theorem look_updL_in {f : Blk → Blk} {i : Nat} {b : Blk} : ∀ {L : List Nat} {kept : List (Option Blk)} {H : Heap} {k : Nat}, L.Nodup → L[k]? = some i → kept[k]? = some (some b) → look (upds (updL f L kept) H) i = some (f b)
  | [], _, H, k, _, h, _ => by simp at h
  | _ :: _, [], H, k, _, _, h => by simp at h
  | i0 :: L, ob :: l, H, 0, hn, h1, h2 => by
    simp at h1 h2
    subst h1 h2
    rw [updL, upds, look_updL_out fun k b h1 _ => (List.nodup_cons.1 hn).1 (List.mem_of_getElem? h1), look_put, if_pos rfl]
  | i0 :: L, none :: l, H, k + 1, hn, h1, h2 => by
    rw [updL]
    exact look_updL_in (List.nodup_cons.1 hn).2 (by simpa using h1) (by simpa using h2)
  | i0 :: L, some b0 :: l, H, k + 1, hn, h1, h2 => by
    rw [updL, upds]
    exact look_updL_in (List.nodup_cons.1 hn).2 (by simpa using h1) (by simpa using h2)
theorem look_updL_dom {f : Blk → Blk} {i : Nat} {B : Blk} : ∀ {L : List Nat} {kept : List (Option Blk)}, look (updL f L kept) i = some B → i ∈ L
  | [], _, h => by simp [updL, look] at h
  | _ :: _, [], h => by simp [updL, look] at h
  | i0 :: L, none :: l, h => by rw [updL] at h; exact List.mem_cons_of_mem _ (look_updL_dom h)
  | i0 :: L, some b0 :: l, h => by
    rw [updL, look_cons] at h
    by_cases e : i0 = i
    · subst e; exact List.mem_cons_self ..
    · rw [if_neg e] at h; exact List.mem_cons_of_mem _ (look_updL_dom h)
theorem goneL_mem {i : Nat} : ∀ {L : List Nat} {kept : List (Option Blk)}, mem i (goneL L kept) = true ↔ ∃ k : Nat, L[k]? = some i ∧ kept[k]? = some none
  | [], _ => by simp [goneL, mem]
  | _ :: _, [] => by simp [goneL, mem]
  | i0 :: L, some b0 :: l => by
    rw [goneL, goneL_mem]
    exact ⟨fun ⟨k, h1, h2⟩ => ⟨k + 1, by simpa using h1, by simpa using h2⟩, fun ⟨k, h1, h2⟩ => by
      cases k with
      | zero => simp at h2
      | succ k => exact ⟨k, by simpa using h1, by simpa using h2⟩⟩
  | i0 :: L, none :: l => by
    rw [goneL, mem_iff, List.mem_cons, ← mem_iff, goneL_mem]
    exact ⟨fun h => h.elim (fun e => ⟨0, by simp [e], rfl⟩) fun ⟨k, h1, h2⟩ => ⟨k + 1, by simpa using h1, by simpa using h2⟩, fun ⟨k, h1, h2⟩ => by
      cases k with
      | zero => simp at h1; exact .inl h1.symm
      | succ k => exact .inr ⟨k, by simpa using h1, by simpa using h2⟩⟩
theorem dirtyL_mem {i : Nat} : ∀ {L : List Nat} {kept : List (Option Blk)}, mem i (dirtyL L kept) = true ↔ ∃ (k : Nat) (B : Blk), L[k]? = some i ∧ kept[k]? = some (some B) ∧ B.isBox = false
  | [], _ => by simp [dirtyL, mem]
  | _ :: _, [] => by simp [dirtyL, mem]
  | i0 :: L, some (.box cs) :: l => by
    rw [dirtyL, dirtyL_mem]
    exact ⟨fun ⟨k, B, h1, h2, h3⟩ => ⟨k + 1, B, by simpa using h1, by simpa using h2, h3⟩, fun ⟨k, B, h1, h2, h3⟩ => by
      cases k with
      | zero => simp at h2; subst h2; exact nomatch h3
      | succ k => exact ⟨k, B, by simpa using h1, by simpa using h2, h3⟩⟩
  | i0 :: L, none :: l => by
    rw [dirtyL, dirtyL_mem]
    exact ⟨fun ⟨k, B, h1, h2, h3⟩ => ⟨k + 1, B, by simpa using h1, by simpa using h2, h3⟩, fun ⟨k, B, h1, h2, h3⟩ => by
      cases k with
      | zero => simp at h2
      | succ k => exact ⟨k, B, by simpa using h1, by simpa using h2, h3⟩⟩
  | i0 :: L, some (.arr sh t xs) :: l => by
    rw [dirtyL, mem_iff, List.mem_cons, ← mem_iff, dirtyL_mem]
    exact ⟨fun h => h.elim (fun e => ⟨0, _, by simp [e], rfl, rfl⟩) fun ⟨k, B, h1, h2, h3⟩ => ⟨k + 1, B, by simpa using h1, by simpa using h2, h3⟩, fun ⟨k, B, h1, h2, h3⟩ => by
      cases k with
      | zero => simp at h1; exact .inl h1.symm
      | succ k => exact .inr ⟨k, B, by simpa using h1, by simpa using h2, h3⟩⟩
theorem backL_length {L : List Nat} {nid m : Nat} {D : List Nat} : (cs : List SV) → (backL L nid m D cs).length = cs.length
  | [] => rfl
  | _ :: l => by simp [backL, backL_length l]
theorem backB_length {L : List Nat} {nid m : Nat} {D : List Nat} : (cs : List Blk) → (backB L nid m D cs).length = cs.length
  | [] => rfl
  | _ :: l => by simp [backB, backB_length l]
theorem backB_get {L : List Nat} {nid m : Nat} {D : List Nat} : (bs : List Blk) → (j : Nat) → (backB L nid m D bs)[j]? = (bs[j]?).map (Blk.back L nid m D)
  | [], j => by simp [backB]
  | b :: l, 0 => by simp [backB]
  | b :: l, j + 1 => by simpa [backB] using backB_get l j
theorem backL_get {L : List Nat} {nid m : Nat} {D : List Nat} : (cs : List SV) → (j : Nat) → (backL L nid m D cs)[j]? = (cs[j]?).map (SV.back L nid m D)
  | [], j => by simp [backL]
  | b :: l, 0 => by simp [backL]
  | b :: l, j + 1 => by simpa [backL] using backL_get l j
theorem Blk.back_like {L : List Nat} {nid m : Nat} {D : List Nat} (b : Blk) : b.like (b.back L nid m D) := by
  cases b with
  | box cs => simp [Blk.back, Blk.like, backL_length]
  | arr sh t xs => cases sh <;> exact ⟨rfl, rfl⟩
/-- All that is asked of a call's end. -/
structure Came (w w' : World) (H H' : Heap) (pl pl' : Pl) (L D : List Nat) (bs : List Blk) (nid : Nat) (o : MOut) : Prop where
  hr : HRel H pl w
  hn : nodup L = true
  hL : renBs H L L = some bs
  hm : o.kept.length = L.length
  hfree : ∀ k, k < o.news.length → look H (nid + k) = none
  hD : ∀ i, mem i D = true → mem i L = false
  hro : HRel o.heap pl' w'
  hbase : pl'.base = (plIn H pl L D).base
  hgr : Grown w w'
  hkept : ∀ (k : Nat) (B : Blk), o.kept[k]? = some (some B) → pl'.hdr k = pl.hdr (L.getD k 0) ∧ ∃ B0, bs[k]? = some B0 ∧ B0.like B
  hfr : ∀ p u, w.at? p = some u → (∀ i B, mem i L = true → look H i = some B → ¬ pl.fp i p) → (∀ k B, look o.heap k = some B → ¬ pl'.fp k p) ∧ w'.at? p = some u ∧ w'.ice? p = w.ice? p
  ha : ∃ h1, sweepH' (goneL L o.kept, goneL L o.kept ++ dirtyL L o.kept) (upds (updL (Blk.back L nid L.length D) L o.kept) H) = some h1 ∧ H' = h1 ++ newsH nid (backB L nid L.length D o.news)
section
variable {w w' : World} {H H' : Heap} {pl pl' : Pl} {L D : List Nat} {bs : List Blk} {nid : Nat} {o : MOut}
abbrev killL (L : List Nat) (kept : List (Option Blk)) : Kil := (goneL L kept, goneL L kept ++ dirtyL L kept)
theorem kill_le {L : List Nat} {kept : List (Option Blk)} : ∀ i, mem i (killL L kept).1 = true → mem i (killL L kept).2 = true := fun i h => by
  show mem i (_ ++ _) = true
  rw [mem_append, h]; rfl
theorem Came.inH (c : Came w w' H H' pl pl' L D bs nid o) {i : Nat} (h : mem i L = true) : ∃ k B0 B, L[k]? = some i ∧ k < L.length ∧ look H i = some B0 ∧ bs[k]? = some B ∧ B0.ren L = some B := by
  obtain ⟨k, hk⟩ := List.getElem?_of_mem ((mem_iff i L).1 h)
  have hlt := (List.getElem?_eq_some_iff.1 hk).1
  have hbl : k < bs.length := by rw [(renBs_spec c.hL).1]; exact hlt
  obtain ⟨i', b0, e1, e2, e3⟩ := (renBs_spec c.hL).2 k _ (List.getElem?_eq_getElem hbl)
  rw [hk] at e1; cases e1
  exact ⟨k, b0, _, hk, hlt, e2, List.getElem?_eq_getElem hbl, e3⟩
theorem Came.cb_in (c : Came w w' H H' pl pl' L D bs nid o) {i k : Nat} (h : L[k]? = some i) : cb L nid L.length o.news.length i = some k := by
  unfold cb; rw [placeOf_of_get (nodup_spec c.hn) h]
theorem Came.cb_new (c : Came w w' H H' pl pl' L D bs nid o) {j : Nat} (h : j < o.news.length) : cb L nid L.length o.news.length (nid + j) = some (L.length + j) := by
  unfold cb
  cases hp : placeOf (nid + j) L 0 with
  | some k =>
    obtain ⟨_, B0, _, _, _, h1, _⟩ := c.inH (placeOf_mem hp)
    rw [c.hfree j h] at h1; exact nomatch h1
  | none =>
    simp only
    rw [if_pos ⟨by omega, by omega⟩]; congr 1; omega
theorem Came.cb_cases (c : Came w w' H H' pl pl' L D bs nid o) (i : Nat) : (∃ k, L[k]? = some i ∧ k < L.length ∧ cb L nid L.length o.news.length i = some k) ∨ (∃ j, j < o.news.length ∧ i = nid + j ∧ mem i L = false ∧ cb L nid L.length o.news.length i = some (L.length + j)) ∨
    (mem i L = false ∧ ¬ (nid ≤ i ∧ i < nid + o.news.length) ∧ cb L nid L.length o.news.length i = none) := by
  cases hm : mem i L with
  | true =>
    obtain ⟨k, _, _, hk, hlt, _⟩ := c.inH hm
    exact .inl ⟨k, hk, hlt, c.cb_in hk⟩
  | false =>
    have hp : placeOf i L 0 = none := by
      cases hp : placeOf i L 0 with
      | none => rfl
      | some k => rw [placeOf_mem hp] at hm; exact nomatch hm
    by_cases hr : nid ≤ i ∧ i < nid + o.news.length
    · exact .inr (.inl ⟨i - nid, by omega, by omega, rfl, by unfold cb; rw [hp]; simp only; rw [if_pos hr]⟩)
    · exact .inr (.inr ⟨rfl, hr, by unfold cb; rw [hp]; simp only; rw [if_neg hr]⟩)
theorem Came.not_gone (c : Came w w' H H' pl pl' L D bs nid o) {i : Nat} (h : mem i L = false) : mem i (goneL L o.kept) = false := by
  cases hg : mem i (goneL L o.kept) with
  | false => rfl
  | true =>
    obtain ⟨k, h1, _⟩ := goneL_mem.1 hg
    rw [(mem_iff i L).2 (List.mem_of_getElem? h1)] at h; exact nomatch h
/-- What became of one block. -/
def Held (T : Kil) (L : List Nat) (nid m : Nat) (D : List Nat) (B B' : Blk) : Prop := (B.back L nid m D).sweep T = some B' ∨ B.back L nid m D = B'
theorem Came.old (c : Came w w' H H' pl pl' L D bs nid o) {i : Nat} (h : mem i L = false) (hr : ¬ (nid ≤ i ∧ i < nid + o.news.length)) : look H' i = (look H i).bind (Blk.sweep (killL L o.kept)) := by
  obtain ⟨h1, e1, rfl⟩ := c.ha
  have hnew : look (newsH nid (backB L nid L.length D o.news)) i = none := by
    rw [look_newsH]
    by_cases q : nid ≤ i
    · rw [if_pos q, List.getElem?_eq_none]; rw [backB_length]; omega
    · rw [if_neg q]
  rw [look_append, hnew, Option.or_none, sweepH'_spec kill_le e1 i, show mem i (goneL L o.kept) = false from c.not_gone h, cond_false, look_updL_out fun k b h1 _ => by rw [(mem_iff i L).2 (List.mem_of_getElem? h1)] at h; exact nomatch h]
theorem Came.uniq (c : Came w w' H H' pl pl' L D bs nid o) {i k k' : Nat} (h : L[k]? = some i) (h' : L[k']? = some i) : k = k' :=
  (List.getElem?_inj (List.getElem?_eq_some_iff.1 h).1 (nodup_spec c.hn)).1 (h.trans h'.symm)
theorem Came.notnew (c : Came w w' H H' pl pl' L D bs nid o) {i : Nat} (h : mem i L = true) : look (newsH nid (backB L nid L.length D o.news)) i = none := by
  rw [look_newsH]
  by_cases q : nid ≤ i
  · rw [if_pos q]
    by_cases q2 : i - nid < o.news.length
    · obtain ⟨_, _, _, _, _, h1, _⟩ := c.inH h
      have := c.hfree _ q2
      rw [show nid + (i - nid) = i from by omega, h1] at this; exact nomatch this
    · rw [List.getElem?_eq_none]; rw [backB_length]; omega
  · rw [if_neg q]
theorem Came.kept (c : Came w w' H H' pl pl' L D bs nid o) {i k : Nat} {B : Blk} (h : L[k]? = some i) (hB : o.kept[k]? = some (some B)) : ∃ B', look H' i = some B' ∧ Held (killL L o.kept) L nid L.length D B B' := by
  have hng : mem i (goneL L o.kept) = false := by
    cases hg : mem i (goneL L o.kept) with
    | false => rfl
    | true =>
      obtain ⟨k', h1, h2⟩ := goneL_mem.1 hg
      have := c.uniq h h1
      subst this
      rw [hB] at h2; exact nomatch h2
  obtain ⟨h1, e1, rfl⟩ := id c.ha
  have hu : look (upds (updL (Blk.back L nid L.length D) L o.kept) H) i = some (B.back L nid L.length D) := look_updL_in (nodup_spec c.hn) h hB
  obtain ⟨B', hB'⟩ := sweepH'_all kill_le e1 i _ hu hng
  refine ⟨B', ?_, .inl hB'⟩
  rw [look_append, c.notnew ((mem_iff i L).2 (List.mem_of_getElem? h)), Option.or_none, sweepH'_spec kill_le e1 i, show mem i (goneL L o.kept) = false from hng, cond_false, hu]
  exact hB'
theorem Came.gone (c : Came w w' H H' pl pl' L D bs nid o) {i k : Nat} (h : L[k]? = some i) (hB : o.kept[k]? = some none) : look H' i = none := by
  have hg : mem i (goneL L o.kept) = true := goneL_mem.2 ⟨k, h, hB⟩
  obtain ⟨h1, e1, rfl⟩ := id c.ha
  rw [look_append, c.notnew ((mem_iff i L).2 (List.mem_of_getElem? h)), Option.or_none, sweepH'_spec kill_le e1 i, show mem i (goneL L o.kept) = true from hg, cond_true]
theorem Came.new (c : Came w w' H H' pl pl' L D bs nid o) {j : Nat} {B : Blk} (h : o.news[j]? = some B) : look H' (nid + j) = some (B.back L nid L.length D) := by
  have hj := (List.getElem?_eq_some_iff.1 h).1
  obtain ⟨h1, e1, rfl⟩ := id c.ha
  have hnm : mem (nid + j) L = false := by
    cases hm : mem (nid + j) L with
    | false => rfl
    | true =>
      obtain ⟨_, _, _, _, _, h1, _⟩ := c.inH hm
      rw [c.hfree j hj] at h1; exact nomatch h1
  have hout : look (upds (updL (Blk.back L nid L.length D) L o.kept) H) (nid + j) = look H (nid + j) := look_updL_out fun k b h1 _ => by
    rw [(mem_iff _ L).2 (List.mem_of_getElem? h1)] at hnm
    cases hnm
  rw [look_append, sweepH'_spec kill_le e1, hout, c.hfree j hj, look_newsH, if_pos (by omega), Nat.add_sub_cancel_left, backB_get, h]
  cases mem (nid + j) (killL L o.kept).1 <;> rfl
/-- The blocks of the end, each with the callee's. -/
theorem Came.look_out (c : Came w w' H H' pl pl' L D bs nid o) {i : Nat} {B' : Blk} (h : look H' i = some B') :
    (∃ k B, cb L nid L.length o.news.length i = some k ∧ look o.heap k = some B ∧ Held (killL L o.kept) L nid L.length D B B' ∧ (mem i L = false → look H i = none)) ∨
    (cb L nid L.length o.news.length i = none ∧ mem i L = false ∧ ∃ B, look H i = some B ∧ B.sweep (killL L o.kept) = some B') := by
  rcases c.cb_cases i with ⟨k, hk, hlt, hc⟩ | ⟨j, hj, rfl, hm, hc⟩ | ⟨hm, hno, hc⟩
  · have hkl : k < o.kept.length := by rw [c.hm]; exact hlt
    cases hkp : o.kept[k]? with
    | none => rw [List.getElem?_eq_getElem hkl] at hkp; exact nomatch hkp
    | some ob =>
      cases ob with
      | none => rw [c.gone hk hkp] at h; exact nomatch h
      | some B =>
        obtain ⟨B1, h1, h2⟩ := c.kept hk hkp
        rw [h] at h1; cases h1
        exact .inl ⟨k, B, hc, by rw [o.look_low hkl, hkp]; rfl, h2, fun hm => by rw [(mem_iff i L).2 (List.mem_of_getElem? hk)] at hm; exact nomatch hm⟩
  · obtain ⟨B, hB⟩ : ∃ B, o.news[j]? = some B := ⟨_, List.getElem?_eq_getElem hj⟩
    rw [c.new hB] at h; cases h
    exact .inl ⟨L.length + j, B, hc, by rw [o.look_high (by rw [c.hm]; omega), c.hm, Nat.add_sub_cancel_left]; exact hB, .inr rfl, fun _ => c.hfree j hj⟩
  · rw [c.old hm hno] at h
    obtain ⟨B, h1, h2⟩ := Option.bind_eq_some_iff.1 h
    exact .inr ⟨hc, hm, B, h1, h2⟩
theorem Came.look_in (c : Came w w' H H' pl pl' L D bs nid o) {k : Nat} {B : Blk} (h : look o.heap k = some B) :
    cb L nid L.length o.news.length (bk L nid L.length k) = some k ∧ ∃ B', look H' (bk L nid L.length k) = some B' ∧ Held (killL L o.kept) L nid L.length D B B' := by
  by_cases hk : k < L.length
  · have hkl : k < o.kept.length := by rw [c.hm]; exact hk
    rw [o.look_low hkl] at h
    obtain ⟨ob, h1, h2⟩ := Option.bind_eq_some_iff.1 h
    have h2 : ob = some B := h2
    subst h2
    have hb : bk L nid L.length k = L[k] := by
      unfold bk
      rw [show Nat.ble (k + 1) L.length = true from Nat.ble_eq_true_of_le hk, cond_true, List.getD_eq_getElem?_getD, List.getElem?_eq_getElem hk]; rfl
    rw [hb]
    have hL : L[k]? = some L[k] := List.getElem?_eq_getElem hk
    exact ⟨c.cb_in hL, c.kept hL h1⟩
  · rw [o.look_high (by rw [c.hm]; omega), c.hm] at h
    have hb : bk L nid L.length k = nid + (k - L.length) := by
      unfold bk
      cases hq : Nat.ble (k + 1) L.length with
      | false => rfl
      | true => exact (hk (Nat.le_of_ble_eq_true hq)).elim
    rw [hb]
    have hj := (List.getElem?_eq_some_iff.1 h).1
    refine ⟨?_, _, c.new h, .inr rfl⟩
    rw [c.cb_new hj]; congr 1; omega
theorem Held.box {T : Kil} {nid m : Nat} {B B' : Blk} (h : Held T L nid m D B B') : B'.isBox = B.isBox := by
  rcases h with h | h
  · rw [← Blk.like_box (Blk.sweep_like h), ← Blk.like_box (Blk.back_like B)]
  · rw [← h, ← Blk.like_box (Blk.back_like B)]
theorem Held.like {T : Kil} {nid m : Nat} {B B' : Blk} (h : Held T L nid m D B B') : B.like B' := by
  rcases h with h | h
  · exact Blk.like_trans (Blk.back_like B) (Blk.sweep_like h)
  · rw [← h]; exact Blk.back_like B
theorem mem_bkL {nid m k : Nat} : ∀ {d : List Nat}, mem k d = true → mem (bk L nid m k) (bkL L nid m d) = true
  | [], h => nomatch h
  | x :: l, h => by
    simp only [bkL]
    rw [mem_iff, List.mem_cons, ← mem_iff]
    rw [mem_iff, List.mem_cons, ← mem_iff] at h
    rcases h with rfl | h
    · exact .inl rfl
    · exact .inr (mem_bkL h)
theorem Came.bk_cb (c : Came w w' H H' pl pl' L D bs nid o) {i k : Nat} (h : cb L nid L.length o.news.length i = some k) : bk L nid L.length k = i := by
  rcases c.cb_cases i with ⟨k', hk, hlt, hc⟩ | ⟨j, hj, rfl, hm, hc⟩ | ⟨hm, hno, hc⟩ <;> rw [hc] at h <;> cases h
  · unfold bk
    rw [show Nat.ble (k + 1) L.length = true from Nat.ble_eq_true_of_le hlt, cond_true, List.getD_eq_getElem?_getD, hk]; rfl
  · unfold bk
    cases hq : Nat.ble (L.length + j + 1) L.length with
    | false => simp
    | true => have := Nat.le_of_ble_eq_true hq; omega
/-- What is read only where it is called. -/
theorem Came.okd (c : Came w w' H H' pl pl' L D bs nid o) {d : List Nat} {p : Cell} (h : okd o.heap pl' d p) : okd H' (plOut pl pl' L nid L.length o.news.length) (bkL L nid L.length d ++ D) p := by
  have hb : (plIn H pl L D).base p := by rw [← c.hbase]; exact h.1
  refine ⟨hb.1, fun i B' hB' hm hf => ?_⟩
  rcases c.look_out hB' with ⟨k, B, h1, h2, h3, _⟩ | ⟨h1, h2, B, h3, h4⟩
  · simp only [plOut, h1] at hf
    refine h.2 k B h2 (fun hk => ?_) hf
    rw [← h3.box]
    refine hm ?_
    rw [mem_append, ← c.bk_cb h1, mem_bkL hk]; rfl
  · simp only [plOut, h1] at hf
    refine hb.2 i B h3 h2 (fun hk => ?_) hf
    rw [Blk.like_box (Blk.sweep_like h4)]
    exact hm (by rw [mem_append, hk, Bool.or_true])
mutual
theorem Came.rep (c : Came w w' H H' pl pl' L D bs nid o) : (v : SV) → {u : Value} → SVRep w' o.heap pl' v u → SVRep w' H' (plOut pl pl' L nid L.length o.news.length) (v.back L nid L.length D) u
  | .r d x, u, h => by
    cases h with
    | r _ _ _ hx => exact rep_mkR (hx.frame fun p u hp hu => ⟨c.okd hp, hu⟩)
  | .nilS, u, h => by cases h; exact .nilS
  | .nilP, u, h => by cases h; exact .nilP
  | .own k, u, h => by
    cases h with
    | own _ sh t xs hl =>
      obtain ⟨h1, B', h2, h3⟩ := c.look_in hl
      have e : (plOut pl pl' L nid L.length o.news.length).hdr (bk L nid L.length k) = pl'.hdr k := by simp only [plOut, h1]
      rw [← e]
      have : ∃ sh', B' = .arr sh' t xs := by
        rcases h3 with h3 | h3
        · cases sh with
          | none => cases h3; exact ⟨_, rfl⟩
          | some d =>
            simp only [Blk.back, Blk.sweep] at h3
            cases hh : hit (killL L o.kept).2 (bkL L nid L.length d ++ D) <;> simp only [hh, cond_true, cond_false] at h3
            · cases h3; exact ⟨_, rfl⟩
            · exact nomatch h3
        · cases sh <;> exact ⟨_, h3.symm⟩
      obtain ⟨sh', rfl⟩ := this
      exact .own _ sh' t xs h2
  | .ptr k 0 off, u, h => by
    cases h with
    | ptrB _ _ cs b q hl hh =>
      obtain ⟨h1, B', h2, h3⟩ := c.look_in hl
      have e : (plOut pl pl' L nid L.length o.news.length).hdr (bk L nid L.length k) = pl'.hdr k := by simp only [plOut, h1]
      have : ∃ cs', B' = .box cs' := by
        rcases h3 with h3 | h3
        · cases h3; exact ⟨_, rfl⟩
        · exact ⟨_, h3.symm⟩
      obtain ⟨cs', rfl⟩ := this
      exact .ptrB _ off cs' b q h2 (e.trans hh)
    | ptrA _ _ _ sh t xs b q n cap hl hx hh =>
      obtain ⟨h1, B', h2, h3⟩ := c.look_in hl
      have e : (plOut pl pl' L nid L.length o.news.length).hdr (bk L nid L.length k) = pl'.hdr k := by simp only [plOut, h1]
      have : ∃ sh', B' = .arr sh' t xs := by
        rcases h3 with h3 | h3
        · cases sh with
          | none => cases h3; exact ⟨_, rfl⟩
          | some d =>
            simp only [Blk.back, Blk.sweep] at h3
            cases hh : hit (killL L o.kept).2 (bkL L nid L.length d ++ D) <;> simp only [hh, cond_true, cond_false] at h3
            · cases h3; exact ⟨_, rfl⟩
            · exact nomatch h3
        · cases sh <;> exact ⟨_, h3.symm⟩
      obtain ⟨sh', rfl⟩ := this
      exact .ptrA _ 0 off sh' t xs b q n cap h2 hx (e.trans hh)
  | .ptr k (x + 1) off, u, h => .undef _
  | .agg cs, u, h => by
    cases h with
    | agg _ vs h1 h2 h3 =>
      obtain ⟨g1, g2⟩ := c.repL cs vs.toList (by simpa using h1) fun j x u hx hu => h3 j x u hx (by simpa using hu)
      exact .agg _ _ (by simpa using g1) h2 fun j x u hx hu => g2 j x u hx (by simpa using hu)
  | .tup cs, u, h => by
    cases h with
    | tup _ vs h1 h3 =>
      obtain ⟨g1, g2⟩ := c.repL cs vs.toList (by simpa using h1) fun j x u hx hu => h3 j x u hx (by simpa using hu)
      exact .tup _ _ (by simpa using g1) fun j x u hx hu => g2 j x u hx (by simpa using hu)
  | .sub _ _ _, _, _ => .undef _
  | .bsl _ _, _, _ => .undef _
  | .inn _ _ _, _, _ => .undef _
  | .rptr _ _, _, _ => .undef _
  | .fn f a b, u, h => by
    cases h with
    | fn _ _ _ us vs h1 h3 h1' h3' =>
      obtain ⟨g1, g2⟩ := c.repL a us.toList (by simpa using h1) fun j x u hx hu => h3 j x u hx (by simpa using hu)
      obtain ⟨q1, q2⟩ := c.repL b vs.toList (by simpa using h1') fun j x u hx hu => h3' j x u hx (by simpa using hu)
      exact .fn _ _ _ _ _ (by simpa using g1) (fun j x u hx hu => g2 j x u hx (by simpa using hu)) (by simpa using q1) fun j x u hx hu => q2 j x u hx (by simpa using hu)
  | .undef, _, _ => .undef _
theorem Came.repL (c : Came w w' H H' pl pl' L D bs nid o) : (cs : List SV) → (us : List Value) → cs.length = us.length → (∀ (j : Nat) (x : SV) (u : Value), cs[j]? = some x → us[j]? = some u → SVRep w' o.heap pl' x u) →
    (backL L nid L.length D cs).length = us.length ∧ ∀ (j : Nat) (x : SV) (u : Value), (backL L nid L.length D cs)[j]? = some x → us[j]? = some u → SVRep w' H' (plOut pl pl' L nid L.length o.news.length) x u
  | [], us, hl, _ => ⟨hl, fun j x u hx _ => by simp [backL] at hx⟩
  | v :: cs, u :: us, hl, hp => by
    obtain ⟨g1, g2⟩ := c.repL cs us (by simpa using hl) fun j x u hx hu => hp (j + 1) x u (by simpa using hx) (by simpa using hu)
    refine ⟨by simp [backL, g1], fun j x u' hx hu => ?_⟩
    cases j with
    | zero => simp [backL] at hx hu; subst hx hu; exact c.rep v (hp 0 v u rfl rfl)
    | succ j => exact g2 j x u' (by simpa [backL] using hx) (by simpa using hu)
end
theorem Came.blkBack (c : Came w w' H H' pl pl' L D bs nid o) {i k : Nat} {B : Blk} (h1 : cb L nid L.length o.news.length i = some k) (h2 : look o.heap k = some B) :
    BlkRep w' H' (plOut pl pl' L nid L.length o.news.length) i (B.back L nid L.length D) := by
  have eh : (plOut pl pl' L nid L.length o.news.length).hdr i = pl'.hdr k := by simp only [plOut, h1]
  have ef : (plOut pl pl' L nid L.length o.news.length).fp i = pl'.fp k := by simp only [plOut, h1]
  have hb := c.hro.blk k B h2
  cases B with
  | box cs =>
    obtain ⟨b, q, q1, q2, q3⟩ := hb
    refine ⟨b, q, eh.trans q1, fun p => by rw [ef, q2, backL_length], fun j v hv => ?_⟩
    rw [backL_get] at hv
    obtain ⟨y, hy, rfl⟩ := Option.map_eq_some_iff.1 hv
    obtain ⟨u, g1, g2, g3, g4⟩ := q3 j y hy
    exact ⟨u, g1, g2, g3, c.rep y g4⟩
  | arr sh t xs =>
    cases sh with
    | none =>
      show Nonempty (Row w' (RepD w') t xs _ _)
      rw [eh, ef]; exact hb
    | some d =>
      obtain ⟨⟨a, cap, b, q, vs, fs, q1, q2, q3, q4, q5, q6, q7, q8, q9⟩⟩ := hb
      exact ⟨⟨a, cap, b, q, vs, fs, eh.trans q1, q2, q3, q4, q5, fun i j r hc => ⟨(q6 i j r hc).1.frame fun p u hp hu => ⟨c.okd hp, hu⟩, (q6 i j r hc).2⟩, q7, q8, fun p => by rw [ef]; exact q9 p⟩⟩
theorem keeps_refl (T : Kil) {w : World} {H : Heap} {pl : Pl} : Keeps T w H pl w H pl := ⟨fun i B hB _ => ⟨B, hB, B.like_refl, rfl⟩, fun d p u _ h hp => ⟨h, hp⟩⟩
theorem Came.not_passed (c : Came w w' H H' pl pl' L D bs nid o) {i : Nat} {B : Blk} {p : Cell} (hB : look H i = some B) (hm : mem i L = false) (hf : pl.fp i p) : ∀ i' B', mem i' L = true → look H i' = some B' → ¬ pl.fp i' p := fun i' B' hm' hB' hf' => by
  have := c.hr.dis i i' B B' p hB hB' hf hf'
  subst this
  rw [hm] at hm'; exact nomatch hm'
theorem Came.keeps (c : Came w w' H H' pl pl' L D bs nid o) : Keeps (killL L o.kept) w H pl w' H' (plOut pl pl' L nid L.length o.news.length) := by
  refine ⟨fun i B hB hg => ?_, fun d p u hd ho hp => ?_⟩
  · cases hm : mem i L with
    | true =>
      obtain ⟨k, B0, B1, hk, hlt, e1, e2, e3⟩ := c.inH hm
      rw [hB] at e1; cases e1
      have hkl : k < o.kept.length := by rw [c.hm]; exact hlt
      cases hkp : o.kept[k]? with
      | none => rw [List.getElem?_eq_getElem hkl] at hkp; exact nomatch hkp
      | some ob =>
        cases ob with
        | none => rw [show mem i (goneL L o.kept) = true from goneL_mem.2 ⟨k, hk, hkp⟩] at hg; exact nomatch hg
        | some B2 =>
          obtain ⟨B', h1, h2⟩ := c.kept hk hkp
          obtain ⟨q1, B3, q2, q3⟩ := c.hkept k B2 hkp
          rw [e2] at q2; cases q2
          refine ⟨B', h1, Blk.like_trans (Blk.ren_like e3) (Blk.like_trans q3 h2.like), ?_⟩
          simp only [plOut, c.cb_in hk]
          rw [q1, List.getD_eq_getElem?_getD, hk]; rfl
    | false =>
      rcases c.cb_cases i with ⟨k, hk, _⟩ | ⟨j, hj, rfl, _, _⟩ | ⟨_, hno, hc⟩
      · rw [(mem_iff i L).2 (List.mem_of_getElem? hk)] at hm; exact nomatch hm
      · rw [c.hfree j hj] at hB; exact nomatch hB
      · obtain ⟨h1, e1, _⟩ := id c.ha
        have hu : look (upds (updL (Blk.back L nid L.length D) L o.kept) H) i = some B := by
          rw [look_updL_out fun k b h1 _ => by rw [(mem_iff i L).2 (List.mem_of_getElem? h1)] at hm; exact nomatch hm]; exact hB
        obtain ⟨B', hB'⟩ := sweepH'_all kill_le e1 i B hu hg
        exact ⟨B', by rw [c.old hm hno, hB]; exact hB', Blk.sweep_like hB', by simp only [plOut, hc]⟩
  · have hnp : ∀ i B, mem i L = true → look H i = some B → ¬ pl.fp i p := fun i B hm hB hf => by
      refine ho.2 i B hB (fun hdi => ?_) hf
      have hT := hd i hdi
      obtain ⟨k, B0, B1, hk, hlt, e1, e2, e3⟩ := c.inH hm
      rw [hB] at e1; cases e1
      have hkl : k < o.kept.length := by rw [c.hm]; exact hlt
      cases hkp : o.kept[k]? with
      | none => rw [List.getElem?_eq_getElem hkl] at hkp; exact nomatch hkp
      | some ob =>
        cases ob with
        | none =>
          have : mem i (killL L o.kept).2 = true := kill_le i (goneL_mem.2 ⟨k, hk, hkp⟩)
          rw [hT] at this; exact nomatch this
        | some B2 =>
          obtain ⟨_, B3, q2, q3⟩ := c.hkept k B2 hkp
          rw [e2] at q2; cases q2
          have hbx : B2.isBox = true := by
            cases hx : B2.isBox with
            | true => rfl
            | false =>
              have : mem i (goneL L o.kept ++ dirtyL L o.kept) = true := by rw [mem_append, dirtyL_mem.2 ⟨k, B2, hk, hkp, hx⟩, Bool.or_true]
              rw [show mem i (goneL L o.kept ++ dirtyL L o.kept) = false from hT] at this; exact nomatch this
          rw [Blk.like_box (Blk.ren_like e3), Blk.like_box q3, hbx]
    obtain ⟨g1, g2, g3⟩ := c.hfr p u hp hnp
    refine ⟨⟨ho.1, fun i B' hB' hm hf => ?_⟩, g2⟩
    rcases c.look_out hB' with ⟨k, B, h1, h2, _, _⟩ | ⟨h1, h2, B, h3, h4⟩
    · simp only [plOut, h1] at hf
      exact g1 k B h2 hf
    · simp only [plOut, h1] at hf
      refine ho.2 i B h3 (fun hk => ?_) hf
      rw [Blk.like_box (Blk.sweep_like h4)]; exact hm hk
theorem Came.step (c : Came w w' H H' pl pl' L D bs nid o) : StepTo H H' (killL L o.kept) pl (plOut pl pl' L nid L.length o.news.length) w w' := by
  have hown := c.hr.own_there
  have hk := c.keeps
  refine ⟨⟨fun i B' hB' => ?_, fun i j B B' p h1 h2 f1 f2 => ?_, fun i B p hB hf => ?_, fun p hp => ?_⟩, hk, rfl, c.hgr, fun p u hp hno => ?_⟩
  · rcases c.look_out hB' with ⟨k, B, h1, h2, h3, _⟩ | ⟨h1, h2, B, h3, h4⟩
    · have hb := c.blkBack h1 h2
      rcases h3 with h3 | h3
      · exact hb.keep (keeps_refl _) rfl (fun _ => Iff.rfl) (fun p u _ hu => ⟨hu, rfl⟩) h3
      · rw [← h3]; exact hb
    · exact (c.hr.blk i B h3).keep hk (by simp only [plOut, h1]) (fun p => by simp only [plOut, h1]) (fun p u hf hu => (c.hfr p u hu (c.not_passed h3 h2 hf)).2) h4
  · have cross : ∀ {i j k : Nat} {B Bk : Blk}, look H i = some B → mem i L = false → pl.fp i p → look o.heap k = some Bk → pl'.fp k p → False := fun {i j k B Bk} hB hm hf hk hf' => by
      obtain ⟨u, hu⟩ := hown i B p hB hf
      exact (c.hfr p u hu (c.not_passed hB hm hf)).1 k Bk hk hf'
    rcases c.look_out h1 with ⟨k, B1, a1, a2, _, _⟩ | ⟨a1, a2, B1, a3, _⟩ <;> rcases c.look_out h2 with ⟨k', B2, b1, b2, _, _⟩ | ⟨b1, b2, B2, b3, _⟩
    · simp only [plOut, a1] at f1
      simp only [plOut, b1] at f2
      have := c.hro.dis k k' B1 B2 p a2 b2 f1 f2
      subst this
      rw [← c.bk_cb a1, ← c.bk_cb b1]
    · simp only [plOut, a1] at f1
      simp only [plOut, b1] at f2
      exact (cross (j := j) b3 b2 f2 a2 f1).elim
    · simp only [plOut, a1] at f1
      simp only [plOut, b1] at f2
      exact (cross (j := j) a3 a2 f1 b2 f2).elim
    · simp only [plOut, a1] at f1
      simp only [plOut, b1] at f2
      exact c.hr.dis i j B1 B2 p a3 b3 f1 f2
  · rcases c.look_out hB with ⟨k, B1, a1, a2, _, _⟩ | ⟨a1, a2, B1, a3, _⟩
    · simp only [plOut, a1] at hf
      have := c.hro.ob k B1 p a2 hf
      rw [c.hbase] at this
      exact this.1
    · simp only [plOut, a1] at hf
      exact c.hr.ob i B1 p a3 hf
  · have := c.hro.nb p hp
    rw [c.hbase] at this
    exact this.1
  · obtain ⟨g1, g2⟩ := c.hfr p u hp fun i B _ hB => hno i B hB
    refine ⟨fun i B hB hf => ?_, g2⟩
    rcases c.look_out hB with ⟨k, B1, a1, a2, _, _⟩ | ⟨a1, a2, B1, a3, _⟩
    · simp only [plOut, a1] at hf
      exact g1 k B1 a2 hf
    · simp only [plOut, a1] at hf
      exact hno i B1 a3 hf
end
/-- How a parameter is handed over: read only, or as it is. -/
inductive Pr where
  | one (t : Ty)
  | agg (ts : List Ty)
  | keep
def prepL (h : Heap) : List Ty → List SV → Option (List SV)
  | [], [] => some []
  | t :: ts, v :: vs => (v.asR h t).bind fun p => (prepL h ts vs).bind fun l => some (.r p.1 p.2 :: l)
  | _, _ => none
def prep1 (h : Heap) : Pr → SV → Option SV
  | .one t, v => (v.asR h t).bind fun p => some (.r p.1 p.2)
  | .agg ts, .agg cs => (prepL h ts cs).bind fun l => some (.agg l)
  | .agg _, _ => none
  | .keep, v => some v
def prep (h : Heap) : List Pr → List SV → Option (List SV)
  | [], [] => some []
  | s :: ss, v :: vs => (prep1 h s v).bind fun x => (prep h ss vs).bind fun l => some (x :: l)
  | _, _ => none
def mutOrc (pr : List Pr) (G : MG) : Orc := fun ρ nid vs h K =>
  (prep h pr vs).bind fun vs1 =>
    let L := reach h 3 (addNew [] (idsL vs1))
    let D := outD L (depsL vs1 ++ depsH h L)
    cond (nodup L) (cond (subD L D (depsL vs1 ++ depsH h L)) ((renL L vs1).bind fun args => (renBs h L L).bind fun bs =>
      G ρ args bs fun o => cond (Nat.beq o.kept.length L.length)
        (K { v := o.v.back L nid L.length D, upd := updL (Blk.back L nid L.length D) L o.kept, news := backB L nid L.length D o.news, gone := goneL L o.kept, dirty := dirtyL L o.kept }) none) none) none
theorem prepL_le {h h' : Heap} (hh : Ext h h') : (ts : List Ty) → (vs : List SV) → Le (prepL h ts vs) (prepL h' ts vs)
  | [], [] => Le.refl _
  | t :: ts, v :: vs => (asR_le hh _ _).bind fun _ => (prepL_le hh ts vs).bind fun _ => Le.refl _
  | [], _ :: _ => Le.refl _
  | _ :: _, [] => Le.refl _
theorem prep1_le {h h' : Heap} (hh : Ext h h') (s : Pr) (v : SV) : Le (prep1 h s v) (prep1 h' s v) := by
  intro p hp
  unfold prep1 at hp
  split at hp <;> simp only [prep1]
  · exact ((asR_le hh _ _).bind fun _ => Le.refl _) p hp
  · exact ((prepL_le hh _ _).bind fun _ => Le.refl _) p hp
  · exact nomatch hp
  · exact hp
theorem prep_le {h h' : Heap} (hh : Ext h h') : (ss : List Pr) → (vs : List SV) → Le (prep h ss vs) (prep h' ss vs)
  | [], [] => Le.refl _
  | s :: ss, v :: vs => (prep1_le hh s v).bind fun _ => (prep_le hh ss vs).bind fun _ => Le.refl _
  | [], _ :: _ => Le.refl _
  | _ :: _, [] => Le.refl _
theorem renBs_le {h h' : Heap} (hh : Ext h h') {L : List Nat} : (l : List Nat) → Le (renBs h L l) (renBs h' L l)
  | [] => Le.refl _
  | i :: l => fun bs hb => by
    simp only [renBs, Option.bind_eq_some_iff, Option.some.injEq] at hb ⊢
    obtain ⟨b, h1, b', h2, l', h3, rfl⟩ := hb
    exact ⟨b, hh i b h1, b', h2, l', renBs_le hh l _ h3, rfl⟩
theorem depsH_ext {h h' : Heap} (hh : Ext h h') : (l : List Nat) → (∀ i ∈ l, ∃ B, look h i = some B) → depsH h' l = depsH h l
  | [], _ => rfl
  | i :: l, hl => by
    obtain ⟨B, hB⟩ := hl i (by simp)
    simp only [depsH, hB, hh i B hB, depsH_ext hh l fun k hk => hl k (by simp [hk])]
section
variable {w : World} {H : Heap} {pl : Pl} {P : Program}
theorem prepL_rep (hr : HRel H pl w) : ∀ {ts : List Ty} {vs : List SV} {us : List Value} {l : List SV}, prepL H ts vs = some l → vs.length = us.length → (∀ (j : Nat) (x : SV) (u : Value), vs[j]? = some x → us[j]? = some u → SVRep w H pl x u) →
    l.length = us.length ∧ ∀ (j : Nat) (x : SV) (u : Value), l[j]? = some x → us[j]? = some u → SVRep w H pl x u
  | [], [], us, l, h, hl, _ => by cases h; exact ⟨hl, fun j x u hx _ => by simp at hx⟩
  | t :: ts, v :: vs, u :: us, l, h, hl, hp => by
    simp only [prepL, Option.bind_eq_some_iff, Option.some.injEq] at h
    obtain ⟨⟨d, r⟩, h1, l', h2, rfl⟩ := h
    obtain ⟨g1, g2⟩ := prepL_rep hr h2 (us := us) (by simpa using hl) fun j x u hx hu => hp (j + 1) x u (by simpa using hx) (by simpa using hu)
    refine ⟨by simp [g1], fun j x u' hx hu => ?_⟩
    cases j with
    | zero => simp at hx hu; subst hx hu; exact .r _ _ _ (asR_rep hr h1 (hp 0 v u rfl rfl))
    | succ j => exact g2 j x u' (by simpa using hx) (by simpa using hu)
  | [], _ :: _, _, _, h, _, _ => nomatch h
  | _ :: _, [], _, _, h, _, _ => nomatch h
theorem prep1_rep (hr : HRel H pl w) {s : Pr} {v x : SV} {u : Value} (h : prep1 H s v = some x) (hv : SVRep w H pl v u) : SVRep w H pl x u := by
  unfold prep1 at h
  split at h
  · simp only [Option.bind_eq_some_iff, Option.some.injEq] at h
    obtain ⟨⟨d, r⟩, h1, rfl⟩ := h
    exact .r _ _ _ (asR_rep hr h1 hv)
  · simp only [Option.bind_eq_some_iff, Option.some.injEq] at h
    obtain ⟨l, h1, rfl⟩ := h
    cases hv with
    | agg cs vs h2 h3 h4 =>
      obtain ⟨g1, g2⟩ := prepL_rep hr h1 (us := vs.toList) (by simpa using h2) fun j x u hx hu => h4 j x u hx (by simpa using hu)
      exact .agg _ _ (by simpa using g1) h3 fun j x u hx hu => g2 j x u hx (by simpa using hu)
  · exact nomatch h
  · cases h; exact hv
theorem prep_rep (hr : HRel H pl w) : ∀ {ss : List Pr} {vs : List SV} {us : List Value} {l : List SV}, prep H ss vs = some l → vs.length = us.length → (∀ (j : Nat) (x : SV) (u : Value), vs[j]? = some x → us[j]? = some u → SVRep w H pl x u) →
    l.length = us.length ∧ ∀ (j : Nat) (x : SV) (u : Value), l[j]? = some x → us[j]? = some u → SVRep w H pl x u
  | [], [], us, l, h, hl, _ => by cases h; exact ⟨hl, fun j x u hx _ => by simp at hx⟩
  | t :: ts, v :: vs, u :: us, l, h, hl, hp => by
    simp only [prep, Option.bind_eq_some_iff, Option.some.injEq] at h
    obtain ⟨x0, h1, l', h2, rfl⟩ := h
    obtain ⟨g1, g2⟩ := prep_rep hr h2 (us := us) (by simpa using hl) fun j x u hx hu => hp (j + 1) x u (by simpa using hx) (by simpa using hu)
    refine ⟨by simp [g1], fun j x u' hx hu => ?_⟩
    cases j with
    | zero => simp at hx hu; subst hx hu; exact prep1_rep hr h1 (hp 0 v u rfl rfl)
    | succ j => exact g2 j x u' (by simpa using hx) (by simpa using hu)
  | [], _ :: _, _, _, h, _, _ => nomatch h
  | _ :: _, [], _, _, h, _, _ => nomatch h
theorem mutOrc_ok {g : FuncId} {pr : List Pr} {G : MG} (h : MutOk P g G) : OrcOk P g (mutOrc pr G) := by
  intro ρ nid vs H K out hK
  simp only [mutOrc, Option.bind_eq_some_iff] at hK
  obtain ⟨vs1, hpr, hK⟩ := hK
  generalize hLe : reach H 3 (addNew [] (idsL vs1)) = L at hK
  cases hn : nodup L <;> simp only [hn, cond_true, cond_false] at hK
  · exact nomatch hK
  generalize hDe : outD L (depsL vs1 ++ depsH H L) = D at hK
  cases hsub : subD L D (depsL vs1 ++ depsH H L) <;> simp only [hsub, cond_true, cond_false, Option.bind_eq_some_iff] at hK
  · exact nomatch hK
  obtain ⟨args, hargs, bs, hbs, hG⟩ := hK
  obtain ⟨o, ho, hen, hm, hcalls⟩ := h ρ args bs _ out hG
  cases hbl : Nat.beq o.kept.length L.length <;> simp only [hbl, cond_true, cond_false] at ho
  · exact nomatch ho
  have hbl := Nat.eq_of_beq_eq_true hbl
  have hin : ∀ i ∈ L, ∃ B, look H i = some B := fun i hi => by
    obtain ⟨k, hk⟩ := List.getElem?_of_mem hi
    have hlt := (List.getElem?_eq_some_iff.1 hk).1
    obtain ⟨i', b0, e1, e2, _⟩ := (renBs_spec hbs).2 k _ (List.getElem?_eq_getElem (show k < bs.length by rw [(renBs_spec hbs).1]; exact hlt))
    rw [hk] at e1; cases e1
    exact ⟨b0, e2⟩
  refine ⟨_, ho, hen, fun i B hB => hin i (look_updL_dom hB), fun H1 pl w us he hr hnw hl hp H' ha => ?_⟩
  obtain ⟨hs1, hs2⟩ := subD_append hsub
  obtain ⟨g1, g2⟩ := prep_rep (us := us.toList) hr (prep_le he _ _ _ hpr) (by simpa using hl) fun j x u hx hu => hp j x u hx (by simpa using hu)
  have hbs1 := renBs_le he L _ hbs
  have hd1 : subD L D (depsH H1 L) = true := by rw [depsH_ext he L hin]; exact hs2
  obtain ⟨q1, q2⟩ := plInL_rep hn hbs1 vs1 hs1 hargs us.toList g1 g2
  have hfree : ∀ k, k < o.news.length → look H1 (nid + k) = none := fun k hk => hnw k (by rw [backB_length]; exact hk)
  refine (hcalls w us (plIn H1 pl L D) (plIn_hrel hr hn hbs1 hd1) (by simpa using q1) fun j x u hx hu => q2 j x u hx (by simpa using hu)).mono fun e w' ⟨u, pl', he', h1, h2, h3, h4, h5, h6⟩ => ?_
  have hc : Came w w' H1 H' pl pl' L D bs nid o := by
    refine ⟨hr, hn, hbs1, hbl, hfree, fun i hi => mem_outD (hDe ▸ hi), h1, h3, h4, h5, fun p u hu hno => h6 p u hu fun k B hB hf => ?_, ?_⟩
    · obtain ⟨i, b0, e1, e2, e3, _⟩ := ren_back hbs1 hB
      simp only [plIn, e2] at hf
      exact hno i b0 ((mem_iff i L).2 (List.mem_of_getElem? e1)) e3 hf
    · simp only [after, Option.bind_eq_some_iff, Option.some.injEq] at ha
      obtain ⟨h1', e1, e2⟩ := ha
      exact ⟨h1', e1, e2.symm⟩
  exact ⟨u, _, he', hc.step, hc.rep o.v h2⟩
end
end Go.Proofs.Ev
