/- A state made plain: the slots that are kept, the blocks that they reach, in their order. -/
import Derived.Test.YtcgeekjfbjcofaaEvOrc
set_option linter.unusedVariables false
set_option linter.unusedSimpArgs false
namespace Go.Proofs.Ev
mutual
/-- The ids in a value, in order. -/
def SV.ids : SV → List Nat
  | .own i => [i]
  | .sub i _ _ => [i]
  | .bsl i _ => [i]
  | .ptr i _ _ => [i]
  | .agg cs => idsL cs
  | .tup cs => idsL cs
  | .fn _ a b => idsL a ++ idsL b
  | _ => []
def idsL : List SV → List Nat
  | [] => []
  | v :: l => v.ids ++ idsL l
end
def addNew : List Nat → List Nat → List Nat
  | acc, [] => acc
  | acc, i :: l => cond (mem i acc) (addNew acc l) (addNew (acc ++ [i]) l)
def blkIds (h : Heap) : List Nat → List Nat
  | [] => []
  | i :: l => (match look h i with
    | some (.box cs) => idsL cs
    | _ => []) ++ blkIds h l
/-- What is reached, in 'n' steps. -/
def reach (h : Heap) : Nat → List Nat → List Nat
  | 0, L => L
  | n + 1, L => reach h n (addNew L (blkIds h L))
def renD (L : List Nat) : List Nat → List Nat
  | [] => []
  | i :: l => match placeOf i L 0 with
    | some k => k :: renD L l
    | none => renD L l
mutual
def SV.ren (L : List Nat) : SV → Option SV
  | .r d x => some (.r (renD L d) x)
  | .nilS => some .nilS
  | .nilP => some .nilP
  | .own i => (placeOf i L 0).bind fun k => some (.own k)
  | .sub i o n => (placeOf i L 0).bind fun k => some (.sub k o n)
  | .bsl i n => (placeOf i L 0).bind fun k => some (.bsl k n)
  | .ptr i x o => (placeOf i L 0).bind fun k => some (.ptr k x o)
  | .rptr d cs => some (.rptr (renD L d) cs)
  | .agg cs => (renL L cs).bind fun l => some (.agg l)
  | .tup cs => (renL L cs).bind fun l => some (.tup l)
  | .fn f a b => (renL L a).bind fun a => (renL L b).bind fun b => some (.fn f a b)
  | .undef => some .undef
def renL (L : List Nat) : List SV → Option (List SV)
  | [] => some []
  | v :: l => (v.ren L).bind fun v => (renL L l).bind fun l => some (v :: l)
end
def Blk.ren (L : List Nat) : Blk → Option Blk
  | .box cs => (renL L cs).bind fun l => some (.box l)
  | .arr none t xs => some (.arr none t xs)
  | .arr (some d) t xs => some (.arr (some (renD L d)) t xs)
def renBs (h : Heap) (L : List Nat) : List Nat → Option (List Blk)
  | [] => some []
  | i :: l => (look h i).bind fun b => (b.ren L).bind fun b => (renBs h L l).bind fun l => some (b :: l)
def getAll (s : List (Nat × SV)) : List Nat → Option (List SV)
  | [] => some []
  | t :: l => (look s t).bind fun v => (getAll s l).bind fun vs => some (v :: vs)
abbrev NF := List SV × List Blk
def norm (keep : List Nat) (st : St) : Option NF :=
  (getAll st.slots keep).bind fun vs =>
    let L := reach st.heap 3 (addNew [] (idsL vs))
    cond (nodup L) ((renL L vs).bind fun vs' => (renBs st.heap L L).bind fun bs => some (vs', bs)) none
def zipK : List Nat → List SV → List (Nat × SV)
  | t :: l, v :: vs => (t, v) :: zipK l vs
  | _, _ => []
def denorm (keep : List Nat) (n : Nat) (nf : NF) : St := { slots := zipK keep nf.1, heap := newsH 0 nf.2, nid := nf.2.length, n := n }

theorem renL_length {L : List Nat} : {cs l : List SV} → renL L cs = some l → l.length = cs.length
  | [], l, h => by cases h; rfl
  | v :: cs, l, h => by
    simp only [renL, Option.bind_eq_some_iff, Option.some.injEq] at h
    obtain ⟨v', hv, l', hl', rfl⟩ := h
    simp [renL_length hl']
section
variable {w : World} {H : Heap} {pl : Pl} {L : List Nat} {bs : List Blk}
theorem placeOf_none {i : Nat} : ∀ {L : List Nat} {n : Nat}, placeOf i L n = none → i ∉ L
  | [], _, _ => fun h => nomatch h
  | j :: l, n, h => by
    simp only [placeOf] at h
    cases hj : Nat.beq j i <;> simp only [hj, cond_true, cond_false] at h
    · intro hm
      rcases List.mem_cons.1 hm with rfl | hm
      · simp at hj
      · exact placeOf_none h hm
    · exact nomatch h
theorem renBs_spec {h : Heap} {L : List Nat} : ∀ {l : List Nat} {bs : List Blk}, renBs h L l = some bs → bs.length = l.length ∧
    (∀ (k : Nat) (b : Blk), bs[k]? = some b → ∃ i b0, l[k]? = some i ∧ look h i = some b0 ∧ b0.ren L = some b)
  | [], bs, e => by cases e; exact ⟨rfl, fun k b hb => by simp at hb⟩
  | i :: l, bs, e => by
    simp only [renBs, Option.bind_eq_some_iff, Option.some.injEq] at e
    obtain ⟨b0, h1, b, h2, l', h3, rfl⟩ := e
    obtain ⟨g1, g2⟩ := renBs_spec h3
    refine ⟨by simp [g1], fun k b' hb => ?_⟩
    cases k with
    | zero => simp at hb; subst hb; exact ⟨i, b0, rfl, h1, h2⟩
    | succ k => simpa using g2 k b' (by simpa using hb)
theorem ren_get (hL : renBs H L L = some bs) {i k : Nat} (hk : placeOf i L 0 = some k) {B : Blk} (hB : look H i = some B) :
    L.getD k 0 = i ∧ ∃ B', look (newsH 0 bs) k = some B' ∧ B.ren L = some B' := by
  obtain ⟨_, h2⟩ := placeOf_spec hk
  rw [Nat.sub_zero] at h2
  have hlt : k < bs.length := by rw [(renBs_spec hL).1]; exact (List.getElem?_eq_some_iff.1 h2).1
  obtain ⟨i', b0, e1, e2, e3⟩ := (renBs_spec hL).2 k _ (List.getElem?_eq_getElem hlt)
  rw [h2] at e1; cases e1
  rw [hB] at e2; cases e2
  exact ⟨by simp [List.getD, h2], _, by rw [look_newsH, if_pos (Nat.zero_le _), Nat.sub_zero]; exact List.getElem?_eq_getElem hlt, e3⟩
theorem ren_back (hL : renBs H L L = some bs) {k : Nat} {B : Blk} (hB : look (newsH 0 bs) k = some B) : ∃ i b0, L[k]? = some i ∧ L.getD k 0 = i ∧ look H i = some b0 ∧ b0.ren L = some B := by
  rw [look_newsH, if_pos (Nat.zero_le _), Nat.sub_zero] at hB
  obtain ⟨i, b0, h1, h2, h3⟩ := (renBs_spec hL).2 k B hB
  exact ⟨i, b0, h1, by simp [List.getD, h1], h2, h3⟩
theorem placeOf_of_get {L : List Nat} (hn : L.Nodup) {k i : Nat} (h : L[k]? = some i) : placeOf i L 0 = some k := by
  cases hp : placeOf i L 0 with
  | none => exact (placeOf_none hp (List.mem_of_getElem? h)).elim
  | some k' =>
    obtain ⟨_, h2⟩ := placeOf_spec hp
    rw [Nat.sub_zero] at h2
    have hlt := (List.getElem?_eq_some_iff.1 h).1
    rw [(List.getElem?_inj hlt hn).1 (h.trans h2.symm)]
theorem mem_renD {L d : List Nat} {k i : Nat} (h : placeOf i L 0 = some k) (hd : mem i d = true) : mem k (renD L d) = true := by
  induction d with
  | nil => exact nomatch hd
  | cons j l ih =>
    simp only [renD]
    simp only [mem] at hd
    cases hj : Nat.beq j i <;> simp only [hj, cond_true, cond_false] at hd
    · cases placeOf j L 0 with
      | none => exact ih hd
      | some m => simp only [mem]; cases Nat.beq m k <;> simp [ih hd]
    · have : j = i := Nat.eq_of_beq_eq_true hj
      subst this
      simp only [h, mem]
      simp
theorem Blk.ren_box {b b' : Blk} (h : b.ren L = some b') : b'.isBox = b.isBox := by
  cases b with
  | box cs => simp only [Blk.ren, Option.bind_eq_some_iff, Option.some.injEq] at h; obtain ⟨_, _, rfl⟩ := h; rfl
  | arr sh t xs => cases sh <;> (cases h; rfl)
theorem ren_okd (hn : nodup L = true) (hL : renBs H L L = some bs) {d : List Nat} {p : Cell} (h : okd H pl d p) : okd (newsH 0 bs) (pl.out L) (renD L d) p := by
  refine ⟨h.1, fun k B hB hm hf => ?_⟩
  obtain ⟨i, b0, h1, hi, h2, h3⟩ := ren_back hL hB
  simp only [Pl.out, hi] at hf
  refine h.2 i b0 h2 (fun hd => ?_) hf
  rw [← Blk.ren_box h3]
  exact hm (mem_renD (placeOf_of_get (nodup_spec hn) h1) hd)
mutual
theorem ren_rep (hn : nodup L = true) (hL : renBs H L L = some bs) : (v : SV) → {v' : SV} → {u : Value} → v.ren L = some v' → SVRep w H pl v u → SVRep w (newsH 0 bs) (pl.out L) v' u
  | .r d x, v', u, h, hv => by
    cases h
    cases hv with
    | r _ _ _ hx => exact .r _ _ _ (hx.frame fun p u hp hu => ⟨ren_okd hn hL hp, hu⟩)
  | .nilS, v', u, h, hv => by cases h; cases hv; exact .nilS
  | .nilP, v', u, h, hv => by cases h; cases hv; exact .nilP
  | .own i, v', u, h, hv => by
    simp only [SV.ren, Option.bind_eq_some_iff, Option.some.injEq] at h
    obtain ⟨k, hk, rfl⟩ := h
    cases hv with
    | own _ sh t xs hl =>
      obtain ⟨hi, B', g1, g2⟩ := ren_get hL hk hl
      have e : (pl.out L).hdr k = pl.hdr i := by simp only [Pl.out, hi]
      rw [← e]
      cases sh with
      | none => cases g2; exact .own k none t xs g1
      | some d => cases g2; exact .own k _ t xs g1
  | .sub i o n, v', u, h, hv => by
    simp only [SV.ren, Option.bind_eq_some_iff, Option.some.injEq] at h
    obtain ⟨k, hk, rfl⟩ := h
    cases hv with
    | sub _ _ _ sh t xs a a' cap cap' hl hh h1 h2 h3 h4 =>
      obtain ⟨hi, B', g1, g2⟩ := ren_get hL hk hl
      have e : (pl.out L).hdr k = pl.hdr i := by simp only [Pl.out, hi]
      cases sh with
      | none => cases g2; exact .sub k o n none t xs a a' cap cap' g1 (e.trans hh) h1 h2 h3 h4
      | some d => cases g2; exact .sub k o n _ t xs a a' cap cap' g1 (e.trans hh) h1 h2 h3 h4
  | .bsl i n, v', u, h, hv => by
    simp only [SV.ren, Option.bind_eq_some_iff, Option.some.injEq] at h
    obtain ⟨k, hk, rfl⟩ := h
    cases hv with
    | bsl _ _ cs a hl hh =>
      obtain ⟨hi, B', g1, g2⟩ := ren_get hL hk hl
      have e : (pl.out L).hdr k = pl.hdr i := by simp only [Pl.out, hi]
      simp only [Blk.ren, Option.bind_eq_some_iff, Option.some.injEq] at g2
      obtain ⟨l, hl', rfl⟩ := g2
      exact .bsl k n l a g1 (e.trans hh)
  | .ptr i x o, v', u, h, hv => by
    simp only [SV.ren, Option.bind_eq_some_iff, Option.some.injEq] at h
    obtain ⟨k, hk, rfl⟩ := h
    cases hv with
    | ptrB _ _ cs b m hl hh =>
      obtain ⟨hi, B', g1, g2⟩ := ren_get hL hk hl
      have e : (pl.out L).hdr k = pl.hdr i := by simp only [Pl.out, hi]
      simp only [Blk.ren, Option.bind_eq_some_iff, Option.some.injEq] at g2
      obtain ⟨l, hl', rfl⟩ := g2
      exact .ptrB k o l b m g1 (e.trans hh)
    | ptrA _ _ _ sh t xs b m n cap hl hx hh =>
      obtain ⟨hi, B', g1, g2⟩ := ren_get hL hk hl
      have e : (pl.out L).hdr k = pl.hdr i := by simp only [Pl.out, hi]
      cases sh with
      | none => cases g2; exact .ptrA k x o none t xs b m n cap g1 hx (e.trans hh)
      | some d => cases g2; exact .ptrA k x o _ t xs b m n cap g1 hx (e.trans hh)
  | .rptr d cs, v', u, h, hv => by
    cases h
    cases hv with
    | rptr _ _ b o vs h1 h2 => exact .rptr _ _ b o vs (fun j r hj => ⟨ren_okd hn hL (h1 j r hj).1, (h1 j r hj).2⟩) fun j r hj => (h2 j r hj).frame fun p u hp hu => ⟨ren_okd hn hL hp, hu⟩
  | .agg cs, v', u, h, hv => by
    simp only [SV.ren, Option.bind_eq_some_iff, Option.some.injEq] at h
    obtain ⟨l, hl, rfl⟩ := h
    cases hv with
    | agg _ vs h1 h2 h3 =>
      obtain ⟨g1, g2⟩ := renL_rep hn hL cs hl vs.toList (by simpa using h1) fun j x u hx hu => h3 j x u hx (by simpa using hu)
      exact .agg _ _ (by simpa using g1) h2 fun j x u hx hu => g2 j x u hx (by simpa using hu)
  | .tup cs, v', u, h, hv => by
    simp only [SV.ren, Option.bind_eq_some_iff, Option.some.injEq] at h
    obtain ⟨l, hl, rfl⟩ := h
    cases hv with
    | tup _ vs h1 h3 =>
      obtain ⟨g1, g2⟩ := renL_rep hn hL cs hl vs.toList (by simpa using h1) fun j x u hx hu => h3 j x u hx (by simpa using hu)
      exact .tup _ _ (by simpa using g1) fun j x u hx hu => g2 j x u hx (by simpa using hu)
  | .fn f as bs', v', u, h, hv => by
    simp only [SV.ren, Option.bind_eq_some_iff, Option.some.injEq] at h
    obtain ⟨l, hl, l', hl', rfl⟩ := h
    cases hv with
    | fn _ _ _ us vs h1 h3 h1' h3' =>
      obtain ⟨g1, g2⟩ := renL_rep hn hL as hl us.toList (by simpa using h1) fun j x u hx hu => h3 j x u hx (by simpa using hu)
      obtain ⟨g3, g4⟩ := renL_rep hn hL bs' hl' vs.toList (by simpa using h1') fun j x u hx hu => h3' j x u hx (by simpa using hu)
      exact .fn _ _ _ _ _ (by simpa using g1) (fun j x u hx hu => g2 j x u hx (by simpa using hu)) (by simpa using g3) fun j x u hx hu => g4 j x u hx (by simpa using hu)
  | .undef, v', u, h, hv => by cases h; exact .undef _
theorem renL_rep (hn : nodup L = true) (hL : renBs H L L = some bs) : (cs : List SV) → {l : List SV} → renL L cs = some l → (us : List Value) → cs.length = us.length →
    (∀ (j : Nat) (x : SV) (u : Value), cs[j]? = some x → us[j]? = some u → SVRep w H pl x u) →
    l.length = us.length ∧ ∀ (j : Nat) (x : SV) (u : Value), l[j]? = some x → us[j]? = some u → SVRep w (newsH 0 bs) (pl.out L) x u
  | [], l, h, us, hl, _ => by cases h; exact ⟨hl, fun j x u hx _ => by simp at hx⟩
  | v :: cs, l, h, u :: us, hl, hp => by
    simp only [renL, Option.bind_eq_some_iff, Option.some.injEq] at h
    obtain ⟨v', hv, l', hl', rfl⟩ := h
    obtain ⟨g1, g2⟩ := renL_rep hn hL cs hl' us (by simpa using hl) fun j x u hx hu => hp (j + 1) x u (by simpa using hx) (by simpa using hu)
    refine ⟨by simp [g1], fun j x u' hx hu => ?_⟩
    cases j with
    | zero => simp at hx hu; subst hx hu; exact ren_rep hn hL v hv (hp 0 v u rfl rfl)
    | succ j => exact g2 j x u' (by simpa using hx) (by simpa using hu)
end
theorem renL_get {cs l : List SV} (h : renL L cs = some l) : ∀ (j : Nat) (x : SV), l[j]? = some x → ∃ y, cs[j]? = some y ∧ y.ren L = some x := by
  induction cs generalizing l with
  | nil => cases h; intro j x hx; simp at hx
  | cons v cs ih =>
    simp only [renL, Option.bind_eq_some_iff, Option.some.injEq] at h
    obtain ⟨v', hv, l', hl', rfl⟩ := h
    intro j x hx
    cases j with
    | zero => simp at hx; subst hx; exact ⟨v, rfl, hv⟩
    | succ j => simpa using ih hl' j x (by simpa using hx)
theorem ren_hrel (hr : HRel H pl w) (hn : nodup L = true) (hL : renBs H L L = some bs) : HRel (newsH 0 bs) (pl.out L) w := by
  refine ⟨fun k B hB => ?_, fun k k' B B' p h1 h2 f1 f2 => ?_, fun k B p hB hf => ?_, hr.nb⟩
  · obtain ⟨i, b0, h1, hi, h2, h3⟩ := ren_back hL hB
    have hb := hr.blk i b0 h2
    have eh : (pl.out L).hdr k = pl.hdr i := by simp only [Pl.out, hi]
    have ef : (pl.out L).fp k = pl.fp i := by simp only [Pl.out, hi]
    cases b0 with
    | box cs =>
      simp only [Blk.ren, Option.bind_eq_some_iff, Option.some.injEq] at h3
      obtain ⟨l, hl, rfl⟩ := h3
      obtain ⟨b, o, q1, q2, q3⟩ := hb
      refine ⟨b, o, eh.trans q1, fun p => by rw [ef, q2, renL_length hl], fun j v hv => ?_⟩
      obtain ⟨y, hy, hy2⟩ := renL_get hl j v hv
      obtain ⟨u, g1, g2, g3, g4⟩ := q3 j y hy
      exact ⟨u, g1, g2, g3, ren_rep hn hL y hy2 g4⟩
    | arr sh t xs =>
      cases sh with
      | none =>
        cases h3
        show Nonempty (Row w (RepD w) t xs ((pl.out L).hdr k) ((pl.out L).fp k))
        rw [eh, ef]; exact hb
      | some d =>
        cases h3
        obtain ⟨⟨a, cap, b, o, vs, fs, q1, q2, q3, q4, q5, q6, q7, q8, q9⟩⟩ := hb
        exact ⟨⟨a, cap, b, o, vs, fs, eh.trans q1, q2, q3, q4, q5, fun i j r hc => ⟨(q6 i j r hc).1.frame fun p u hp hu => ⟨ren_okd hn hL hp, hu⟩, (q6 i j r hc).2⟩, q7, q8, fun p => by rw [ef]; exact q9 p⟩⟩
  · obtain ⟨i, b0, g1, hi, g2, g3⟩ := ren_back hL h1
    obtain ⟨i', b0', g1', hi', g2', g3'⟩ := ren_back hL h2
    simp only [Pl.out, hi] at f1
    simp only [Pl.out, hi'] at f2
    have := hr.dis i i' b0 b0' p g2 g2' f1 f2
    subst this
    exact (List.getElem?_inj (List.getElem?_eq_some_iff.1 g1).1 (nodup_spec hn)).1 (g1.trans g1'.symm)
  · obtain ⟨i, b0, g1, hi, g2, g3⟩ := ren_back hL hB
    simp only [Pl.out, hi] at hf
    exact hr.ob i b0 p g2 hf
theorem getAll_get {s : List (Nat × SV)} : ∀ {l : List Nat} {vs : List SV}, getAll s l = some vs → vs.length = l.length ∧ ∀ (j t : Nat), l[j]? = some t → ∃ v, vs[j]? = some v ∧ look s t = some v
  | [], vs, h => by cases h; exact ⟨rfl, fun j t ht => by simp at ht⟩
  | t :: l, vs, h => by
    simp only [getAll, Option.bind_eq_some_iff, Option.some.injEq] at h
    obtain ⟨v, hv, vs', hvs, rfl⟩ := h
    obtain ⟨g1, g2⟩ := getAll_get hvs
    refine ⟨by simp [g1], fun j t' ht => ?_⟩
    cases j with
    | zero => simp at ht; subst ht; exact ⟨v, rfl, hv⟩
    | succ j => simpa using g2 j t' (by simpa using ht)
theorem zipK_look : ∀ {l : List Nat} {vs : List SV} {t : Nat} {v : SV}, look (zipK l vs) t = some v → ∃ j : Nat, l[j]? = some t ∧ vs[j]? = some v
  | [], _, t, v, h => by simp [zipK, look] at h
  | _ :: _, [], t, v, h => by simp [zipK, look] at h
  | k :: l, x :: vs, t, v, h => by
    rw [zipK, look_cons] at h
    by_cases e : k = t
    · rw [if_pos e] at h; cases h; exact ⟨0, by simp [e], rfl⟩
    · rw [if_neg e] at h
      obtain ⟨j, h1, h2⟩ := zipK_look h
      exact ⟨j + 1, by simpa using h1, by simpa using h2⟩
end
theorem norm_rl {w0 : World} {fp0 bs : Cell → Prop} {n : Nat} {keep : List Nat} {st : St} {nf : NF} {a : Act} {w : World} (h : Rl w0 fp0 bs n st a w) (hn : norm keep st = some nf) :
    Rl w0 fp0 bs n (denorm keep n nf) a w := by
  obtain ⟨pl, hr, hb, hnn⟩ := h
  simp only [norm, Option.bind_eq_some_iff] at hn
  obtain ⟨vs, hvs, hn⟩ := hn
  generalize reach st.heap 3 (addNew [] (idsL vs)) = L at hn
  cases hnd : nodup L <;> simp only [hnd, cond_true, cond_false, Option.bind_eq_some_iff, Option.some.injEq] at hn
  · exact nomatch hn
  · obtain ⟨vs', hvs', bs', hbs, rfl⟩ := hn
    refine ⟨pl.out L, ⟨ren_hrel hr.hr hnd hbs, fun t v hv => ?_, hr.sz.trans hnn, hr.df, fun i hi => ?_, hr.gr, fun p u hp hno => ?_⟩, hb, rfl⟩
    · obtain ⟨j, h1, h2⟩ := zipK_look hv
      obtain ⟨x, h3, h4⟩ := (getAll_get hvs).2 j t h1
      obtain ⟨y, h5, h6⟩ := renL_get hvs' j v h2
      rw [h3] at h5; cases h5
      exact ren_rep hnd hbs x h6 (hr.sl t x h4)
    · show look (newsH 0 bs') i = none
      rw [look_newsH, if_pos (Nat.zero_le _), Nat.sub_zero]
      exact List.getElem?_eq_none hi
    · obtain ⟨g1, g2, g3⟩ := hr.fr p u hp hno
      refine ⟨fun k B hB hf => ?_, g2, g3⟩
      obtain ⟨i, b0, _, hi, e2, _⟩ := ren_back hbs hB
      simp only [Pl.out, hi] at hf
      exact g1 i b0 e2 hf
section
variable {ρ : Type}
/-- A loop, its state made plain ahead of each round and where it is left: 'kx' tells what is kept there. -/
def loopV (body : Ev ρ) (keep : List Nat) (kx : Ex → List Nat) : Nat → Ev ρ
  | 0, _, _ => none
  | k + 1, st, K => body st fun e st' => match e with
    | .normal => (norm keep st').bind fun nf => loopV body keep kx k (denorm keep st'.n nf) K
    | e => (norm (kx e) st').bind fun nf => K e (denorm (kx e) st'.n nf)
theorem Rl.n_eq {w0 : World} {fp0 bs : Cell → Prop} {n : Nat} {st : St} {a : Act} {w : World} (h : Rl w0 fp0 bs n st a w) : st.n = n := by
  obtain ⟨_, _, _, h⟩ := h; exact h
theorem loopV_sound {P : Program} {c : Code} {f : Ev ρ} (hf : Sound P c f) (keep : List Nat) (kx : Ex → List Nat) (k : Nat) : Sound P (.loop c) (loopV f keep kx k) := by
  intro w0 fp0 bs n st a w K out Q hr h hK
  refine wp_loop_rounds k ?_
  induction k generalizing st a w with
  | zero => exact nomatch h
  | succ k ih =>
    rw [rounds_succ]
    exact hf w0 fp0 bs n st a w _ out _ hr h fun e st' a' w' h' hr' => by
      have hn := hr'.n_eq
      cases e with
      | normal =>
        simp only [Option.bind_eq_some_iff] at h'
        obtain ⟨nf, h1, h2⟩ := h'
        rw [hn] at h2
        exact ih _ a' w' (norm_rl hr' h1) h2
      | exit j =>
        simp only [Option.bind_eq_some_iff] at h'
        obtain ⟨nf, h1, h2⟩ := h'
        rw [hn] at h2
        exact hK (.exit j) _ a' w' h2 (norm_rl hr' h1)
      | ret =>
        simp only [Option.bind_eq_some_iff] at h'
        obtain ⟨nf, h1, h2⟩ := h'
        rw [hn] at h2
        exact hK .ret _ a' w' h2 (norm_rl hr' h1)
/-- A loop over plain values. -/
def iter {V R : Type} (g : V → (V → Option R) → Option R) : Nat → V → Option R
  | 0, _ => none
  | k + 1, v => g v (iter g k)
/-- The loop's oracle: the state, made plain, is read as a plain value. -/
def loopOrc {V : Type} (keep : List Nat) (dec : Nat → NF → Option V) (run : V → (Ex → St → Option ρ) → Option ρ) : Ev ρ := fun st K =>
  (norm keep st).bind fun nf => (dec st.n nf).bind fun v => run v K
/-- An oracle is right: what it reads is the state; a round from there is 'g'. -/
theorem loopOrc_sound {P : Program} {c : Code} {f : Ev ρ} {V : Type} (hf : Sound P c f) {keep : List Nat} (kx : Ex → List Nat) {dec : Nat → NF → Option V} {run : V → (Ex → St → Option ρ) → Option ρ}
    {tm : V → St} (k : Nat) (hd : ∀ n nf v, dec n nf = some v → denorm keep n nf = tm v)
    (hrun : ∀ v K, run v K = loopV f keep kx k (tm v) K) : Sound P (.loop c) (loopOrc keep dec run) := by
  intro w0 fp0 bs n st a w K out Q hr h hK
  simp only [loopOrc, Option.bind_eq_some_iff] at h
  obtain ⟨nf, h1, v, h2, h3⟩ := h
  have hn := hr.n_eq
  rw [hn] at h2
  rw [hrun v K, ← hd n nf v h2] at h3
  exact loopV_sound hf keep kx k w0 fp0 bs n _ a w K out Q (norm_rl hr h1) h3 hK
theorem iter_loopV {V : Type} {f : Ev ρ} {keep : List Nat} {kx : Ex → List Nat} {tm : V → St} {g : V → (V → Option ρ) → (Ex → St → Option ρ) → Option ρ}
    (hg : ∀ (v : V) (K K1 : Ex → St → Option ρ) (next : V → Option ρ), (∀ v', (K1 .normal (tm v')) = next v') →
      f (tm v) (fun e st' => match e with
        | .normal => (norm keep st').bind fun nf => K1 .normal (denorm keep st'.n nf)
        | e => (norm (kx e) st').bind fun nf => K e (denorm (kx e) st'.n nf)) = g v next K) (K : Ex → St → Option ρ) :
    ∀ (k : Nat) (v : V), loopV f keep kx k (tm v) K = iter (fun v next => g v next K) k v
  | 0, v => rfl
  | k + 1, v => by
    show f (tm v) _ = g v (iter (fun v next => g v next K) k) K
    exact hg v K (fun _ st => loopV f keep kx k st K) _ fun v' => iter_loopV hg K k v'
end
end Go.Proofs.Ev
