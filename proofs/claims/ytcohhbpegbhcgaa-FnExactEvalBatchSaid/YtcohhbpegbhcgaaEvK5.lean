/- The evaluator over the model's code, and that it is sound: part 5. -/
import Derived.Test.YtcohhbpegbhcgaaEvK4
import Derived.KernelRfl
set_option linter.unusedVariables false
set_option linter.unusedSimpArgs false
set_option linter.unusedVariables false
set_option linter.unusedSimpArgs false
namespace Go.Proofs.Ev
variable [Tok]
set_option linter.unusedSectionVars false
/-- What a function gives back: its result; the blocks that were handed in, as far as they are kept; new ones. -/
structure MOut where
  v : SV
  kept : List (Option Blk)
  news : List Blk
def keptH : Nat → List (Option Blk) → Heap
  | _, [] => []
  | n, none :: l => keptH (n + 1) l
  | n, some b :: l => (n, b) :: keptH (n + 1) l
def MOut.heap (o : MOut) : Heap := keptH 0 o.kept ++ newsH o.kept.length o.news
theorem look_keptH : ∀ (l : List (Option Blk)) (n i : Nat), look (keptH n l) i = if n ≤ i then (l[i - n]?).bind id else none
  | [], n, i => by simp [keptH, look]
  | none :: l, n, i => by
    rw [keptH, look_keptH l (n + 1) i]
    by_cases c : n + 1 ≤ i
    · rw [if_pos c, if_pos (by omega), show i - n = (i - (n + 1)) + 1 from by omega]; rfl
    · rw [if_neg c]
      by_cases c2 : n ≤ i
      · rw [if_pos c2, show i - n = 0 from by omega]; rfl
      · rw [if_neg c2]
  | some b :: l, n, i => by
    rw [keptH, look_cons, look_keptH l (n + 1) i]
    by_cases c0 : n = i
    · subst c0; simp
    · rw [if_neg c0]
      by_cases c : n + 1 ≤ i
      · rw [if_pos c, if_pos (by omega), show i - n = (i - (n + 1)) + 1 from by omega]; rfl
      · rw [if_neg c, if_neg (by omega)]
theorem MOut.look_low (o : MOut) {k : Nat} (h : k < o.kept.length) : look o.heap k = (o.kept[k]?).bind id := by
  rw [MOut.heap, look_append, look_keptH, if_pos (Nat.zero_le _), Nat.sub_zero, look_newsH, if_neg (by omega), Option.or_none]
theorem MOut.look_high (o : MOut) {k : Nat} (h : o.kept.length ≤ k) : look o.heap k = o.news[k - o.kept.length]? := by
  rw [MOut.heap, look_append, look_keptH, if_pos (Nat.zero_le _), Nat.sub_zero, look_newsH, if_pos h, List.getElem?_eq_none h]; rfl
/-- THE CONTRACT of a function that is handed blocks. -/
def MutCalls (P : Program) (g : FuncId) (args : List SV) (bs : List Blk) (o : MOut) : Prop :=
  Enters P g ∧ o.kept.length = bs.length ∧ ∀ (w : World) (us : Array Value) (pl : Pl), HRel (newsH 0 bs) pl w → args.length = us.size →
    (∀ (j : Nat) (x : SV) (u : Value), args[j]? = some x → us[j]? = some u → SVRep w (newsH 0 bs) pl x u) →
    Calls P g us w fun e w' => ∃ u pl', e = .returned u ∧ HRel o.heap pl' w' ∧ SVRep w' o.heap pl' o.v u ∧ pl'.base = pl.base ∧ Grown w w' ∧
      (∀ (k : Nat) (B : Blk), o.kept[k]? = some (some B) → pl'.hdr k = pl.hdr k ∧ ∃ B0, bs[k]? = some B0 ∧ B0.like B) ∧
      (∀ p u, w.at? p = some u → (∀ k B, look (newsH 0 bs) k = some B → ¬ pl.fp k p) → (∀ k B, look o.heap k = some B → ¬ pl'.fp k p) ∧ w'.at? p = some u ∧ w'.ice? p = w.ice? p)
abbrev MG := (ρ : Type) → List SV → List Blk → (MOut → Option ρ) → Option ρ
def MutOk (P : Program) (g : FuncId) (G : MG) : Prop :=
  ∀ (ρ : Type) args bs (K : MOut → Option ρ) (out : ρ), G ρ args bs K = some out → ∃ o, K o = some out ∧ MutCalls P g args bs o

/-- The blocks that are kept, those that are gone, those that may be other than they were. -/
def updL (f : Blk → Blk) : List Nat → List (Option Blk) → Heap
  | i :: L, some b :: l => (i, f b) :: updL f L l
  | _ :: L, none :: l => updL f L l
  | _, _ => []
def goneL : List Nat → List (Option Blk) → List Nat
  | _ :: L, some _ :: l => goneL L l
  | i :: L, none :: l => i :: goneL L l
  | _, _ => []
def dirtyL : List Nat → List (Option Blk) → List Nat
  | i :: L, some (.arr _ _ _) :: l => i :: dirtyL L l
  | _ :: L, some (.box _) :: l => dirtyL L l
  | _ :: L, none :: l => dirtyL L l
  | _, _ => []
def bk (L : List Nat) (nid m k : Nat) : Nat := cond (Nat.ble (k + 1) m) (L.getD k 0) (nid + (k - m))
def bkL (L : List Nat) (nid m : Nat) : List Nat → List Nat
  | [] => []
  | k :: l => bk L nid m k :: bkL L nid m l
mutual
/-- A result where it is called. 'D': what the arguments rest on besides. -/
def SV.back (L : List Nat) (nid m : Nat) (D : List Nat) : SV → SV
  | .r d x => mkR (bkL L nid m d ++ D) x
  | .nilS => .nilS
  | .nilP => .nilP
  | .own k => .own (bk L nid m k)
  | .ptr k 0 o => .ptr (bk L nid m k) 0 o
  | .agg cs => .agg (backL L nid m D cs)
  | .tup cs => .tup (backL L nid m D cs)
  | .fn f a b => .fn f (backL L nid m D a) (backL L nid m D b)
  | _ => .undef
def backL (L : List Nat) (nid m : Nat) (D : List Nat) : List SV → List SV
  | [] => []
  | v :: l => v.back L nid m D :: backL L nid m D l
end
def Blk.back (L : List Nat) (nid m : Nat) (D : List Nat) : Blk → Blk
  | .box cs => .box (backL L nid m D cs)
  | .arr none t xs => .arr none t xs
  | .arr (some d) t xs => .arr (some (bkL L nid m d ++ D)) t xs
def backB (L : List Nat) (nid m : Nat) (D : List Nat) : List Blk → List Blk
  | [] => []
  | b :: l => b.back L nid m D :: backB L nid m D l
def outD (L : List Nat) : List Nat → List Nat
  | [] => []
  | i :: l => cond (mem i L) (outD L l) (i :: outD L l)
mutual
def SV.deps : SV → List Nat
  | .r d _ => d
  | .rptr d _ => d
  | .agg cs => depsL cs
  | .tup cs => depsL cs
  | .fn _ a b => depsL a ++ depsL b
  | _ => []
def depsL : List SV → List Nat
  | [] => []
  | v :: l => v.deps ++ depsL l
end
def blkDeps : Blk → List Nat
  | .box cs => depsL cs
  | .arr none _ _ => []
  | .arr (some d) _ _ => d
def depsH (h : Heap) : List Nat → List Nat
  | [] => []
  | i :: l => match look h i with
    | some b => blkDeps b ++ depsH h l
    | none => depsH h l
def subD (L D : List Nat) : List Nat → Bool
  | [] => true
  | i :: l => cond (mem i L || mem i D) (subD L D l) false
/-- The caller's number of a block, as the callee's. -/
def cb (L : List Nat) (nid m c i : Nat) : Option Nat :=
  match placeOf i L 0 with
  | some k => some k
  | none => if nid ≤ i ∧ i < nid + c then some (m + (i - nid)) else none
def plIn (H : Heap) (pl : Pl) (L D : List Nat) : Pl :=
  ⟨fun k => pl.hdr (L.getD k 0), fun k => pl.fp (L.getD k 0), fun p => pl.base p ∧ ∀ i B, look H i = some B → mem i L = false → (mem i D = true → B.isBox = true) → ¬ pl.fp i p⟩
def plOut (pl pl' : Pl) (L : List Nat) (nid m c : Nat) : Pl :=
  ⟨fun i => match cb L nid m c i with | some k => pl'.hdr k | none => pl.hdr i, fun i => match cb L nid m c i with | some k => pl'.fp k | none => pl.fp i, pl.base⟩
theorem mem_outD {L D : List Nat} {i : Nat} (h : mem i (outD L D) = true) : mem i L = false := by
  induction D with
  | nil => exact nomatch h
  | cons k l ih =>
    simp only [outD] at h
    cases hk : mem k L <;> simp only [hk, cond_true, cond_false] at h
    · simp only [mem] at h
      cases hb : Nat.beq k i <;> simp only [hb, cond_true, cond_false] at h
      · exact ih h
      · rw [← Nat.eq_of_beq_eq_true hb]; exact hk
    · exact ih h
theorem subD_spec {L D : List Nat} : ∀ {d : List Nat}, subD L D d = true → ∀ i, mem i d = true → mem i L = true ∨ mem i D = true
  | [], _, i, h => nomatch h
  | k :: l, hs, i, h => by
    simp only [subD] at hs
    cases hk : (mem k L || mem k D) <;> simp only [hk, cond_true, cond_false] at hs
    · exact nomatch hs
    · simp only [mem] at h
      cases hb : Nat.beq k i <;> simp only [hb, cond_true, cond_false] at h
      · exact subD_spec hs i h
      · rw [← Nat.eq_of_beq_eq_true hb]
        simpa using hk
theorem subD_append {L D : List Nat} : ∀ {a b : List Nat}, subD L D (a ++ b) = true → subD L D a = true ∧ subD L D b = true
  | [], b, h => ⟨rfl, h⟩
  | k :: l, b, h => by
    simp only [List.cons_append, subD] at h
    cases hk : (mem k L || mem k D) <;> simp only [hk, cond_true, cond_false] at h
    · exact nomatch h
    · obtain ⟨h1, h2⟩ := subD_append h
      exact ⟨by simp only [subD, hk, cond_true]; exact h1, h2⟩
theorem placeOf_mem {L : List Nat} {i k : Nat} (h : placeOf i L 0 = some k) : mem i L = true := (mem_iff i L).2 (List.mem_of_getElem? (by have := (placeOf_spec h).2; simpa using this))
section
variable {w : World} {H : Heap} {pl : Pl} {L D : List Nat} {bs : List Blk}
theorem plIn_okd (hn : nodup L = true) (hL : renBs H L L = some bs) {d : List Nat} {p : Cell} (hd : subD L D d = true) (h : okd H pl d p) : okd (newsH 0 bs) (plIn H pl L D) (renD L d) p := by
  refine ⟨⟨h.1, fun i B hB hm hf => h.2 i B hB fun hi => ?_⟩, fun k B hB hm hf => ?_⟩
  · rcases subD_spec hd i hi with h1 | h1
    · rw [hm] at h1; exact nomatch h1
    · exact hf h1
  · obtain ⟨i, b0, h1, hi, h2, h3⟩ := ren_back hL hB
    simp only [plIn, hi] at hf
    refine h.2 i b0 h2 (fun hd => ?_) hf
    rw [← Blk.ren_box h3]
    exact hm (mem_renD (placeOf_of_get (nodup_spec hn) h1) hd)
mutual
theorem plIn_rep (hn : nodup L = true) (hL : renBs H L L = some bs) : (v : SV) → {v' : SV} → {u : Value} → subD L D v.deps = true → v.ren L = some v' → SVRep w H pl v u → SVRep w (newsH 0 bs) (plIn H pl L D) v' u
  | .r d x, v', u, hd, h, hv => by
    cases h
    cases hv with
    | r _ _ _ hx => exact .r _ _ _ (hx.frame fun p u hp hu => ⟨plIn_okd hn hL hd hp, hu⟩)
  | .nilS, v', u, hd, h, hv => by cases h; cases hv; exact .nilS
  | .nilP, v', u, hd, h, hv => by cases h; cases hv; exact .nilP
  | .own i, v', u, hd, h, hv => by
    simp only [SV.ren, Option.bind_eq_some_iff, Option.some.injEq] at h
    obtain ⟨k, hk, rfl⟩ := h
    cases hv with
    | own _ sh t xs hl =>
      obtain ⟨hi, B', g1, g2⟩ := ren_get hL hk hl
      have e : (plIn H pl L D).hdr k = pl.hdr i := by simp only [plIn, hi]
      rw [← e]
      cases sh with
      | none => cases g2; exact .own k none t xs g1
      | some d => cases g2; exact .own k _ t xs g1
  | .sub i o n, v', u, hd, h, hv => by
    simp only [SV.ren, Option.bind_eq_some_iff, Option.some.injEq] at h
    obtain ⟨k, hk, rfl⟩ := h
    cases hv with
    | sub _ _ _ sh t xs a a' cap cap' hl hh h1 h2 h3 h4 =>
      obtain ⟨hi, B', g1, g2⟩ := ren_get hL hk hl
      have e : (plIn H pl L D).hdr k = pl.hdr i := by simp only [plIn, hi]
      cases sh with
      | none => cases g2; exact .sub k o n none t xs a a' cap cap' g1 (e.trans hh) h1 h2 h3 h4
      | some d => cases g2; exact .sub k o n _ t xs a a' cap cap' g1 (e.trans hh) h1 h2 h3 h4
  | .bsl i n, v', u, hd, h, hv => by
    simp only [SV.ren, Option.bind_eq_some_iff, Option.some.injEq] at h
    obtain ⟨k, hk, rfl⟩ := h
    cases hv with
    | bsl _ _ cs a hl hh =>
      obtain ⟨hi, B', g1, g2⟩ := ren_get hL hk hl
      have e : (plIn H pl L D).hdr k = pl.hdr i := by simp only [plIn, hi]
      simp only [Blk.ren, Option.bind_eq_some_iff, Option.some.injEq] at g2
      obtain ⟨l, hl', rfl⟩ := g2
      exact .bsl k n l a g1 (e.trans hh)
  | .ptr i x o, v', u, hd, h, hv => by
    simp only [SV.ren, Option.bind_eq_some_iff, Option.some.injEq] at h
    obtain ⟨k, hk, rfl⟩ := h
    cases hv with
    | ptrB _ _ cs b m hl hh =>
      obtain ⟨hi, B', g1, g2⟩ := ren_get hL hk hl
      have e : (plIn H pl L D).hdr k = pl.hdr i := by simp only [plIn, hi]
      simp only [Blk.ren, Option.bind_eq_some_iff, Option.some.injEq] at g2
      obtain ⟨l, hl', rfl⟩ := g2
      exact .ptrB k o l b m g1 (e.trans hh)
    | ptrA _ _ _ sh t xs b m n cap hl hx hh =>
      obtain ⟨hi, B', g1, g2⟩ := ren_get hL hk hl
      have e : (plIn H pl L D).hdr k = pl.hdr i := by simp only [plIn, hi]
      cases sh with
      | none => cases g2; exact .ptrA k x o none t xs b m n cap g1 hx (e.trans hh)
      | some d => cases g2; exact .ptrA k x o _ t xs b m n cap g1 hx (e.trans hh)
  | .inn _ _ _, v', u, hd, h, hv => by cases h
  | .rptr d cs, v', u, hd, h, hv => by
    cases h
    cases hv with
    | rptr _ _ b o vs h1 h2 => exact .rptr _ _ b o vs (fun j r hj => ⟨plIn_okd hn hL hd (h1 j r hj).1, (h1 j r hj).2⟩) fun j r hj => (h2 j r hj).frame fun p u hp hu => ⟨plIn_okd hn hL hd hp, hu⟩
  | .agg cs, v', u, hd, h, hv => by
    simp only [SV.ren, Option.bind_eq_some_iff, Option.some.injEq] at h
    obtain ⟨l, hl, rfl⟩ := h
    cases hv with
    | agg _ vs h1 h2 h3 =>
      obtain ⟨g1, g2⟩ := plInL_rep hn hL cs hd hl vs.toList (by simpa using h1) fun j x u hx hu => h3 j x u hx (by simpa using hu)
      exact .agg _ _ (by simpa using g1) h2 fun j x u hx hu => g2 j x u hx (by simpa using hu)
  | .tup cs, v', u, hd, h, hv => by
    simp only [SV.ren, Option.bind_eq_some_iff, Option.some.injEq] at h
    obtain ⟨l, hl, rfl⟩ := h
    cases hv with
    | tup _ vs h1 h3 =>
      obtain ⟨g1, g2⟩ := plInL_rep hn hL cs hd hl vs.toList (by simpa using h1) fun j x u hx hu => h3 j x u hx (by simpa using hu)
      exact .tup _ _ (by simpa using g1) fun j x u hx hu => g2 j x u hx (by simpa using hu)
  | .fn f as bs', v', u, hd, h, hv => by
    simp only [SV.ren, Option.bind_eq_some_iff, Option.some.injEq] at h
    obtain ⟨l, hl, l', hl', rfl⟩ := h
    obtain ⟨hd1, hd2⟩ := subD_append (show subD L D (depsL as ++ depsL bs') = true from hd)
    cases hv with
    | fn _ _ _ us vs h1 h3 h1' h3' =>
      obtain ⟨g1, g2⟩ := plInL_rep hn hL as hd1 hl us.toList (by simpa using h1) fun j x u hx hu => h3 j x u hx (by simpa using hu)
      obtain ⟨g3, g4⟩ := plInL_rep hn hL bs' hd2 hl' vs.toList (by simpa using h1') fun j x u hx hu => h3' j x u hx (by simpa using hu)
      exact .fn _ _ _ _ _ (by simpa using g1) (fun j x u hx hu => g2 j x u hx (by simpa using hu)) (by simpa using g3) fun j x u hx hu => g4 j x u hx (by simpa using hu)
  | .undef, v', u, hd, h, hv => by cases h; exact .undef _
theorem plInL_rep (hn : nodup L = true) (hL : renBs H L L = some bs) : (cs : List SV) → {l : List SV} → subD L D (depsL cs) = true → renL L cs = some l → (us : List Value) → cs.length = us.length →
    (∀ (j : Nat) (x : SV) (u : Value), cs[j]? = some x → us[j]? = some u → SVRep w H pl x u) →
    l.length = us.length ∧ ∀ (j : Nat) (x : SV) (u : Value), l[j]? = some x → us[j]? = some u → SVRep w (newsH 0 bs) (plIn H pl L D) x u
  | [], l, hd, h, us, hl, _ => by cases h; exact ⟨hl, fun j x u hx _ => by simp at hx⟩
  | v :: cs, l, hd, h, u :: us, hl, hp => by
    simp only [renL, Option.bind_eq_some_iff, Option.some.injEq] at h
    obtain ⟨v', hv, l', hl', rfl⟩ := h
    obtain ⟨hd1, hd2⟩ := subD_append (show subD L D (v.deps ++ depsL cs) = true from hd)
    obtain ⟨g1, g2⟩ := plInL_rep hn hL cs hd2 hl' us (by simpa using hl) fun j x u hx hu => hp (j + 1) x u (by simpa using hx) (by simpa using hu)
    refine ⟨by simp [g1], fun j x u' hx hu => ?_⟩
    cases j with
    | zero => simp at hx hu; subst hx hu; exact plIn_rep hn hL v hd1 hv (hp 0 v u rfl rfl)
    | succ j => exact g2 j x u' (by simpa using hx) (by simpa using hu)
end
theorem depsL_mem {cs : List SV} {L D : List Nat} (h : subD L D (depsL cs) = true) : ∀ (j : Nat) (x : SV), cs[j]? = some x → subD L D x.deps = true := by
  induction cs with
  | nil => intro j x hx; simp at hx
  | cons v l ih =>
    obtain ⟨h1, h2⟩ := subD_append (show subD L D (v.deps ++ depsL l) = true from h)
    intro j x hx
    cases j with
    | zero => simp at hx; subst hx; exact h1
    | succ j => exact ih h2 j x (by simpa using hx)
theorem depsH_mem {l : List Nat} (h : subD L D (depsH H l) = true) : ∀ i ∈ l, ∀ B, look H i = some B → subD L D (blkDeps B) = true := by
  induction l with
  | nil => intro i hi; exact nomatch hi
  | cons k l ih =>
    intro i hi B hB
    simp only [depsH] at h
    rcases List.mem_cons.1 hi with rfl | hi
    · simp only [hB] at h; exact (subD_append h).1
    · split at h
      · exact ih (subD_append h).2 i hi B hB
      · exact ih h i hi B hB
theorem plIn_hrel (hr : HRel H pl w) (hn : nodup L = true) (hL : renBs H L L = some bs) (hd : subD L D (depsH H L) = true) : HRel (newsH 0 bs) (plIn H pl L D) w := by
  have hown := hr.own_there
  refine ⟨fun k B hB => ?_, fun k k' B B' p h1 h2 f1 f2 => ?_, fun k B p hB hf => ?_, fun p hp => ⟨hr.nb p hp, fun i B hB _ _ hf => ?_⟩⟩
  · obtain ⟨i, b0, h1, hi, h2, h3⟩ := ren_back hL hB
    have hb := hr.blk i b0 h2
    have hdb := depsH_mem hd i (List.mem_of_getElem? h1) b0 h2
    have eh : (plIn H pl L D).hdr k = pl.hdr i := by simp only [plIn, hi]
    have ef : (plIn H pl L D).fp k = pl.fp i := by simp only [plIn, hi]
    cases b0 with
    | box cs =>
      simp only [Blk.ren, Option.bind_eq_some_iff, Option.some.injEq] at h3
      obtain ⟨l, hl, rfl⟩ := h3
      obtain ⟨b, o, q1, q2, q3⟩ := hb
      refine ⟨b, o, eh.trans q1, fun p => by rw [ef, q2, renL_length hl], fun j v hv => ?_⟩
      obtain ⟨y, hy, hy2⟩ := renL_get hl j v hv
      obtain ⟨u, g1, g2, g3, g4⟩ := q3 j y hy
      exact ⟨u, g1, g2, g3, plIn_rep hn hL y (depsL_mem hdb j y hy) hy2 g4⟩
    | arr sh t xs =>
      cases sh with
      | none =>
        cases h3
        show Nonempty (Row w (RepD w) t xs ((plIn H pl L D).hdr k) ((plIn H pl L D).fp k))
        rw [eh, ef]; exact hb
      | some d =>
        cases h3
        obtain ⟨⟨a, cap, b, o, vs, fs, q1, q2, q3, q4, q5, q6, q7, q8, q9⟩⟩ := hb
        exact ⟨⟨a, cap, b, o, vs, fs, eh.trans q1, q2, q3, q4, q5, fun i j r hc => ⟨(q6 i j r hc).1.frame fun p u hp hu => ⟨plIn_okd hn hL hdb hp, hu⟩, (q6 i j r hc).2⟩, q7, q8, fun p => by rw [ef]; exact q9 p⟩⟩
  · obtain ⟨i, b0, g1, hi, g2, g3⟩ := ren_back hL h1
    obtain ⟨i', b0', g1', hi', g2', g3'⟩ := ren_back hL h2
    simp only [plIn, hi] at f1
    simp only [plIn, hi'] at f2
    have := hr.dis i i' b0 b0' p g2 g2' f1 f2
    subst this
    exact (List.getElem?_inj (List.getElem?_eq_some_iff.1 g1).1 (nodup_spec hn)).1 (g1.trans g1'.symm)
  · obtain ⟨i, b0, g1, hi, g2, g3⟩ := ren_back hL hB
    simp only [plIn, hi] at hf
    refine ⟨hr.ob i b0 p g2 hf, fun i' B' hB' hm _ hf' => ?_⟩
    have := hr.dis i i' b0 B' p g2 hB' hf hf'
    subst this
    rw [(mem_iff i L).2 (List.mem_of_getElem? g1)] at hm; exact nomatch hm
  · obtain ⟨u, hu⟩ := hown i B p hB hf
    rw [hp] at hu; exact nomatch hu
end
end Go.Proofs.Ev

set_option linter.unusedVariables false
set_option linter.unusedSimpArgs false
namespace Go.Proofs.Ev
variable [Tok]
set_option linter.unusedSectionVars false
theorem look_updL_out {f : Blk → Blk} {i : Nat} : ∀ {L : List Nat} {kept : List (Option Blk)} {H : Heap}, (∀ (k : Nat) (b : Blk), L[k]? = some i → kept[k]? = some (some b) → False) → look (upds (updL f L kept) H) i = look H i
  | [], _, H, _ => by simp [updL, upds]
  | _ :: _, [], H, _ => by simp [updL, upds]
  | i0 :: L, none :: l, H, h => by
    rw [updL]
    exact look_updL_out fun k b h1 h2 => h (k + 1) b (by simpa using h1) (by simpa using h2)
  | i0 :: L, some b0 :: l, H, h => by
    rw [updL, upds, look_updL_out fun k b h1 h2 => h (k + 1) b (by simpa using h1) (by simpa using h2), look_put, if_neg]
    intro e; subst e
    exact h 0 b0 rfl rfl
theorem look_updL_in {f : Blk → Blk} {i : Nat} {b : Blk} : ∀ {L : List Nat} {kept : List (Option Blk)} {H : Heap} {k : Nat}, L.Nodup → L[k]? = some i → kept[k]? = some (some b) → look (upds (updL f L kept) H) i = some (f b)
  | [], _, H, k, _, h, _ => by simp at h
  | _ :: _, [], H, k, _, _, h => by simp at h
  | i0 :: L, ob :: l, H, 0, hn, h1, h2 => by
    simp at h1 h2
    subst h1 h2
    rw [updL, upds, look_updL_out fun k b h1 _ => (List.nodup_cons.1 hn).1 (List.mem_of_getElem? h1), look_put, if_pos rfl]
  | i0 :: L, none :: l, H, k + 1, hn, h1, h2 => by
    rw [updL]
    exact look_updL_in (List.nodup_cons.1 hn).2 (by simpa using h1) (by simpa using h2)
  | i0 :: L, some b0 :: l, H, k + 1, hn, h1, h2 => by
    rw [updL, upds]
    exact look_updL_in (List.nodup_cons.1 hn).2 (by simpa using h1) (by simpa using h2)
theorem look_updL_dom {f : Blk → Blk} {i : Nat} {B : Blk} : ∀ {L : List Nat} {kept : List (Option Blk)}, look (updL f L kept) i = some B → i ∈ L
  | [], _, h => by simp [updL, look] at h
  | _ :: _, [], h => by simp [updL, look] at h
  | i0 :: L, none :: l, h => by rw [updL] at h; exact List.mem_cons_of_mem _ (look_updL_dom h)
  | i0 :: L, some b0 :: l, h => by
    rw [updL, look_cons] at h
    by_cases e : i0 = i
    · subst e; exact List.mem_cons_self ..
    · rw [if_neg e] at h; exact List.mem_cons_of_mem _ (look_updL_dom h)
theorem goneL_mem {i : Nat} : ∀ {L : List Nat} {kept : List (Option Blk)}, mem i (goneL L kept) = true ↔ ∃ k : Nat, L[k]? = some i ∧ kept[k]? = some none
  | [], _ => by simp [goneL, mem]
  | _ :: _, [] => by simp [goneL, mem]
  | i0 :: L, some b0 :: l => by
    rw [goneL, goneL_mem]
    exact ⟨fun ⟨k, h1, h2⟩ => ⟨k + 1, by simpa using h1, by simpa using h2⟩, fun ⟨k, h1, h2⟩ => by
      cases k with
      | zero => simp at h2
      | succ k => exact ⟨k, by simpa using h1, by simpa using h2⟩⟩
  | i0 :: L, none :: l => by
    rw [goneL, mem_iff, List.mem_cons, ← mem_iff, goneL_mem]
    exact ⟨fun h => h.elim (fun e => ⟨0, by simp [e], rfl⟩) fun ⟨k, h1, h2⟩ => ⟨k + 1, by simpa using h1, by simpa using h2⟩, fun ⟨k, h1, h2⟩ => by
      cases k with
      | zero => simp at h1; exact .inl h1.symm
      | succ k => exact .inr ⟨k, by simpa using h1, by simpa using h2⟩⟩
theorem dirtyL_mem {i : Nat} : ∀ {L : List Nat} {kept : List (Option Blk)}, mem i (dirtyL L kept) = true ↔ ∃ (k : Nat) (B : Blk), L[k]? = some i ∧ kept[k]? = some (some B) ∧ B.isBox = false
  | [], _ => by simp [dirtyL, mem]
  | _ :: _, [] => by simp [dirtyL, mem]
  | i0 :: L, some (.box cs) :: l => by
    rw [dirtyL, dirtyL_mem]
    exact ⟨fun ⟨k, B, h1, h2, h3⟩ => ⟨k + 1, B, by simpa using h1, by simpa using h2, h3⟩, fun ⟨k, B, h1, h2, h3⟩ => by
      cases k with
      | zero => simp at h2; subst h2; exact nomatch h3
      | succ k => exact ⟨k, B, by simpa using h1, by simpa using h2, h3⟩⟩
  | i0 :: L, none :: l => by
    rw [dirtyL, dirtyL_mem]
    exact ⟨fun ⟨k, B, h1, h2, h3⟩ => ⟨k + 1, B, by simpa using h1, by simpa using h2, h3⟩, fun ⟨k, B, h1, h2, h3⟩ => by
      cases k with
      | zero => simp at h2
      | succ k => exact ⟨k, B, by simpa using h1, by simpa using h2, h3⟩⟩
  | i0 :: L, some (.arr sh t xs) :: l => by
    rw [dirtyL, mem_iff, List.mem_cons, ← mem_iff, dirtyL_mem]
    exact ⟨fun h => h.elim (fun e => ⟨0, _, by simp [e], rfl, rfl⟩) fun ⟨k, B, h1, h2, h3⟩ => ⟨k + 1, B, by simpa using h1, by simpa using h2, h3⟩, fun ⟨k, B, h1, h2, h3⟩ => by
      cases k with
      | zero => simp at h1; exact .inl h1.symm
      | succ k => exact .inr ⟨k, B, by simpa using h1, by simpa using h2, h3⟩⟩
theorem backL_length {L : List Nat} {nid m : Nat} {D : List Nat} : (cs : List SV) → (backL L nid m D cs).length = cs.length
  | [] => rfl
  | _ :: l => by simp [backL, backL_length l]
theorem backB_length {L : List Nat} {nid m : Nat} {D : List Nat} : (cs : List Blk) → (backB L nid m D cs).length = cs.length
  | [] => rfl
  | _ :: l => by simp [backB, backB_length l]
theorem backB_get {L : List Nat} {nid m : Nat} {D : List Nat} : (bs : List Blk) → (j : Nat) → (backB L nid m D bs)[j]? = (bs[j]?).map (Blk.back L nid m D)
  | [], j => by simp [backB]
  | b :: l, 0 => by simp [backB]
  | b :: l, j + 1 => by simpa [backB] using backB_get l j
theorem backL_get {L : List Nat} {nid m : Nat} {D : List Nat} : (cs : List SV) → (j : Nat) → (backL L nid m D cs)[j]? = (cs[j]?).map (SV.back L nid m D)
  | [], j => by simp [backL]
  | b :: l, 0 => by simp [backL]
  | b :: l, j + 1 => by simpa [backL] using backL_get l j
theorem Blk.back_like {L : List Nat} {nid m : Nat} {D : List Nat} (b : Blk) : b.like (b.back L nid m D) := by
  cases b with
  | box cs => simp [Blk.back, Blk.like, backL_length]
  | arr sh t xs => cases sh <;> exact ⟨rfl, rfl⟩
/-- All that is asked of a call's end. -/
structure Came (w w' : World) (H H' : Heap) (pl pl' : Pl) (L D : List Nat) (bs : List Blk) (nid : Nat) (o : MOut) : Prop where
  hr : HRel H pl w
  hn : nodup L = true
  hL : renBs H L L = some bs
  hm : o.kept.length = L.length
  hfree : ∀ k, k < o.news.length → look H (nid + k) = none
  hD : ∀ i, mem i D = true → mem i L = false
  hro : HRel o.heap pl' w'
  hbase : pl'.base = (plIn H pl L D).base
  hgr : Grown w w'
  hkept : ∀ (k : Nat) (B : Blk), o.kept[k]? = some (some B) → pl'.hdr k = pl.hdr (L.getD k 0) ∧ ∃ B0, bs[k]? = some B0 ∧ B0.like B
  hfr : ∀ p u, w.at? p = some u → (∀ i B, mem i L = true → look H i = some B → ¬ pl.fp i p) → (∀ k B, look o.heap k = some B → ¬ pl'.fp k p) ∧ w'.at? p = some u ∧ w'.ice? p = w.ice? p
  ha : ∃ h1, sweepH' (goneL L o.kept, goneL L o.kept ++ dirtyL L o.kept) (upds (updL (Blk.back L nid L.length D) L o.kept) H) = some h1 ∧ H' = h1 ++ newsH nid (backB L nid L.length D o.news)
section
variable {w w' : World} {H H' : Heap} {pl pl' : Pl} {L D : List Nat} {bs : List Blk} {nid : Nat} {o : MOut}
abbrev killL (L : List Nat) (kept : List (Option Blk)) : Kil := (goneL L kept, goneL L kept ++ dirtyL L kept)
theorem kill_le {L : List Nat} {kept : List (Option Blk)} : ∀ i, mem i (killL L kept).1 = true → mem i (killL L kept).2 = true := fun i h => by
  show mem i (_ ++ _) = true
  rw [mem_append, h]; rfl
theorem Came.inH (c : Came w w' H H' pl pl' L D bs nid o) {i : Nat} (h : mem i L = true) : ∃ k B0 B, L[k]? = some i ∧ k < L.length ∧ look H i = some B0 ∧ bs[k]? = some B ∧ B0.ren L = some B := by
  obtain ⟨k, hk⟩ := List.getElem?_of_mem ((mem_iff i L).1 h)
  have hlt := (List.getElem?_eq_some_iff.1 hk).1
  have hbl : k < bs.length := by rw [(renBs_spec c.hL).1]; exact hlt
  obtain ⟨i', b0, e1, e2, e3⟩ := (renBs_spec c.hL).2 k _ (List.getElem?_eq_getElem hbl)
  rw [hk] at e1; cases e1
  exact ⟨k, b0, _, hk, hlt, e2, List.getElem?_eq_getElem hbl, e3⟩
theorem Came.cb_in (c : Came w w' H H' pl pl' L D bs nid o) {i k : Nat} (h : L[k]? = some i) : cb L nid L.length o.news.length i = some k := by
  unfold cb; rw [placeOf_of_get (nodup_spec c.hn) h]
theorem Came.cb_new (c : Came w w' H H' pl pl' L D bs nid o) {j : Nat} (h : j < o.news.length) : cb L nid L.length o.news.length (nid + j) = some (L.length + j) := by
  unfold cb
  cases hp : placeOf (nid + j) L 0 with
  | some k =>
    obtain ⟨_, B0, _, _, _, h1, _⟩ := c.inH (placeOf_mem hp)
    rw [c.hfree j h] at h1; exact nomatch h1
  | none =>
    simp only
    rw [if_pos ⟨by omega, by omega⟩]; congr 1; omega
theorem Came.cb_cases (c : Came w w' H H' pl pl' L D bs nid o) (i : Nat) : (∃ k, L[k]? = some i ∧ k < L.length ∧ cb L nid L.length o.news.length i = some k) ∨ (∃ j, j < o.news.length ∧ i = nid + j ∧ mem i L = false ∧ cb L nid L.length o.news.length i = some (L.length + j)) ∨
    (mem i L = false ∧ ¬ (nid ≤ i ∧ i < nid + o.news.length) ∧ cb L nid L.length o.news.length i = none) := by
  cases hm : mem i L with
  | true =>
    obtain ⟨k, _, _, hk, hlt, _⟩ := c.inH hm
    exact .inl ⟨k, hk, hlt, c.cb_in hk⟩
  | false =>
    have hp : placeOf i L 0 = none := by
      cases hp : placeOf i L 0 with
      | none => rfl
      | some k => rw [placeOf_mem hp] at hm; exact nomatch hm
    by_cases hr : nid ≤ i ∧ i < nid + o.news.length
    · exact .inr (.inl ⟨i - nid, by omega, by omega, rfl, by unfold cb; rw [hp]; simp only; rw [if_pos hr]⟩)
    · exact .inr (.inr ⟨rfl, hr, by unfold cb; rw [hp]; simp only; rw [if_neg hr]⟩)
theorem Came.not_gone (c : Came w w' H H' pl pl' L D bs nid o) {i : Nat} (h : mem i L = false) : mem i (goneL L o.kept) = false := by
  cases hg : mem i (goneL L o.kept) with
  | false => rfl
  | true =>
    obtain ⟨k, h1, _⟩ := goneL_mem.1 hg
    rw [(mem_iff i L).2 (List.mem_of_getElem? h1)] at h; exact nomatch h
/-- What became of one block. -/
def Held (T : Kil) (L : List Nat) (nid m : Nat) (D : List Nat) (B B' : Blk) : Prop := (B.back L nid m D).sweep T = some B' ∨ B.back L nid m D = B'
theorem Came.old (c : Came w w' H H' pl pl' L D bs nid o) {i : Nat} (h : mem i L = false) (hr : ¬ (nid ≤ i ∧ i < nid + o.news.length)) : look H' i = (look H i).bind (Blk.sweep (killL L o.kept)) := by
  obtain ⟨h1, e1, rfl⟩ := c.ha
  have hnew : look (newsH nid (backB L nid L.length D o.news)) i = none := by
    rw [look_newsH]
    by_cases q : nid ≤ i
    · rw [if_pos q, List.getElem?_eq_none]; rw [backB_length]; omega
    · rw [if_neg q]
  rw [look_append, hnew, Option.or_none, sweepH'_spec kill_le e1 i, show mem i (goneL L o.kept) = false from c.not_gone h, cond_false, look_updL_out fun k b h1 _ => by rw [(mem_iff i L).2 (List.mem_of_getElem? h1)] at h; exact nomatch h]
theorem Came.uniq (c : Came w w' H H' pl pl' L D bs nid o) {i k k' : Nat} (h : L[k]? = some i) (h' : L[k']? = some i) : k = k' :=
  (List.getElem?_inj (List.getElem?_eq_some_iff.1 h).1 (nodup_spec c.hn)).1 (h.trans h'.symm)
theorem Came.notnew (c : Came w w' H H' pl pl' L D bs nid o) {i : Nat} (h : mem i L = true) : look (newsH nid (backB L nid L.length D o.news)) i = none := by
  rw [look_newsH]
  by_cases q : nid ≤ i
  · rw [if_pos q]
    by_cases q2 : i - nid < o.news.length
    · obtain ⟨_, _, _, _, _, h1, _⟩ := c.inH h
      have := c.hfree _ q2
      rw [show nid + (i - nid) = i from by omega, h1] at this; exact nomatch this
    · rw [List.getElem?_eq_none]; rw [backB_length]; omega
  · rw [if_neg q]
theorem Came.kept (c : Came w w' H H' pl pl' L D bs nid o) {i k : Nat} {B : Blk} (h : L[k]? = some i) (hB : o.kept[k]? = some (some B)) : ∃ B', look H' i = some B' ∧ Held (killL L o.kept) L nid L.length D B B' := by
  have hng : mem i (goneL L o.kept) = false := by
    cases hg : mem i (goneL L o.kept) with
    | false => rfl
    | true =>
      obtain ⟨k', h1, h2⟩ := goneL_mem.1 hg
      have := c.uniq h h1
      subst this
      rw [hB] at h2; exact nomatch h2
  obtain ⟨h1, e1, rfl⟩ := id c.ha
  have hu : look (upds (updL (Blk.back L nid L.length D) L o.kept) H) i = some (B.back L nid L.length D) := look_updL_in (nodup_spec c.hn) h hB
  obtain ⟨B', hB'⟩ := sweepH'_all kill_le e1 i _ hu hng
  refine ⟨B', ?_, .inl hB'⟩
  rw [look_append, c.notnew ((mem_iff i L).2 (List.mem_of_getElem? h)), Option.or_none, sweepH'_spec kill_le e1 i, show mem i (goneL L o.kept) = false from hng, cond_false, hu]
  exact hB'
theorem Came.gone (c : Came w w' H H' pl pl' L D bs nid o) {i k : Nat} (h : L[k]? = some i) (hB : o.kept[k]? = some none) : look H' i = none := by
  have hg : mem i (goneL L o.kept) = true := goneL_mem.2 ⟨k, h, hB⟩
  obtain ⟨h1, e1, rfl⟩ := id c.ha
  rw [look_append, c.notnew ((mem_iff i L).2 (List.mem_of_getElem? h)), Option.or_none, sweepH'_spec kill_le e1 i, show mem i (goneL L o.kept) = true from hg, cond_true]
theorem Came.new (c : Came w w' H H' pl pl' L D bs nid o) {j : Nat} {B : Blk} (h : o.news[j]? = some B) : look H' (nid + j) = some (B.back L nid L.length D) := by
  have hj := (List.getElem?_eq_some_iff.1 h).1
  obtain ⟨h1, e1, rfl⟩ := id c.ha
  have hnm : mem (nid + j) L = false := by
    cases hm : mem (nid + j) L with
    | false => rfl
    | true =>
      obtain ⟨_, _, _, _, _, h1, _⟩ := c.inH hm
      rw [c.hfree j hj] at h1; exact nomatch h1
  have hout : look (upds (updL (Blk.back L nid L.length D) L o.kept) H) (nid + j) = look H (nid + j) := look_updL_out fun k b h1 _ => by
    rw [(mem_iff _ L).2 (List.mem_of_getElem? h1)] at hnm
    cases hnm
  rw [look_append, sweepH'_spec kill_le e1, hout, c.hfree j hj, look_newsH, if_pos (by omega), Nat.add_sub_cancel_left, backB_get, h]
  cases mem (nid + j) (killL L o.kept).1 <;> rfl
/-- The blocks of the end, each with the callee's. -/
theorem Came.look_out (c : Came w w' H H' pl pl' L D bs nid o) {i : Nat} {B' : Blk} (h : look H' i = some B') :
    (∃ k B, cb L nid L.length o.news.length i = some k ∧ look o.heap k = some B ∧ Held (killL L o.kept) L nid L.length D B B' ∧ (mem i L = false → look H i = none)) ∨
    (cb L nid L.length o.news.length i = none ∧ mem i L = false ∧ ∃ B, look H i = some B ∧ B.sweep (killL L o.kept) = some B') := by
  rcases c.cb_cases i with ⟨k, hk, hlt, hc⟩ | ⟨j, hj, rfl, hm, hc⟩ | ⟨hm, hno, hc⟩
  · have hkl : k < o.kept.length := by rw [c.hm]; exact hlt
    cases hkp : o.kept[k]? with
    | none => rw [List.getElem?_eq_getElem hkl] at hkp; exact nomatch hkp
    | some ob =>
      cases ob with
      | none => rw [c.gone hk hkp] at h; exact nomatch h
      | some B =>
        obtain ⟨B1, h1, h2⟩ := c.kept hk hkp
        rw [h] at h1; cases h1
        exact .inl ⟨k, B, hc, by rw [o.look_low hkl, hkp]; rfl, h2, fun hm => by rw [(mem_iff i L).2 (List.mem_of_getElem? hk)] at hm; exact nomatch hm⟩
  · obtain ⟨B, hB⟩ : ∃ B, o.news[j]? = some B := ⟨_, List.getElem?_eq_getElem hj⟩
    rw [c.new hB] at h; cases h
    exact .inl ⟨L.length + j, B, hc, by rw [o.look_high (by rw [c.hm]; omega), c.hm, Nat.add_sub_cancel_left]; exact hB, .inr rfl, fun _ => c.hfree j hj⟩
  · rw [c.old hm hno] at h
    obtain ⟨B, h1, h2⟩ := Option.bind_eq_some_iff.1 h
    exact .inr ⟨hc, hm, B, h1, h2⟩
theorem Came.look_in (c : Came w w' H H' pl pl' L D bs nid o) {k : Nat} {B : Blk} (h : look o.heap k = some B) :
    cb L nid L.length o.news.length (bk L nid L.length k) = some k ∧ ∃ B', look H' (bk L nid L.length k) = some B' ∧ Held (killL L o.kept) L nid L.length D B B' := by
  by_cases hk : k < L.length
  · have hkl : k < o.kept.length := by rw [c.hm]; exact hk
    rw [o.look_low hkl] at h
    obtain ⟨ob, h1, h2⟩ := Option.bind_eq_some_iff.1 h
    have h2 : ob = some B := h2
    subst h2
    have hb : bk L nid L.length k = L[k] := by
      unfold bk
      rw [show Nat.ble (k + 1) L.length = true from Nat.ble_eq_true_of_le hk, cond_true, List.getD_eq_getElem?_getD, List.getElem?_eq_getElem hk]; rfl
    rw [hb]
    have hL : L[k]? = some L[k] := List.getElem?_eq_getElem hk
    exact ⟨c.cb_in hL, c.kept hL h1⟩
  · rw [o.look_high (by rw [c.hm]; omega), c.hm] at h
    have hb : bk L nid L.length k = nid + (k - L.length) := by
      unfold bk
      cases hq : Nat.ble (k + 1) L.length with
      | false => rfl
      | true => exact (hk (Nat.le_of_ble_eq_true hq)).elim
    rw [hb]
    have hj := (List.getElem?_eq_some_iff.1 h).1
    refine ⟨?_, _, c.new h, .inr rfl⟩
    rw [c.cb_new hj]; congr 1; omega
theorem Held.box {T : Kil} {nid m : Nat} {B B' : Blk} (h : Held T L nid m D B B') : B'.isBox = B.isBox := by
  rcases h with h | h
  · rw [← Blk.like_box (Blk.sweep_like h), ← Blk.like_box (Blk.back_like B)]
  · rw [← h, ← Blk.like_box (Blk.back_like B)]
theorem Held.like {T : Kil} {nid m : Nat} {B B' : Blk} (h : Held T L nid m D B B') : B.like B' := by
  rcases h with h | h
  · exact Blk.like_trans (Blk.back_like B) (Blk.sweep_like h)
  · rw [← h]; exact Blk.back_like B
theorem mem_bkL {nid m k : Nat} : ∀ {d : List Nat}, mem k d = true → mem (bk L nid m k) (bkL L nid m d) = true
  | [], h => nomatch h
  | x :: l, h => by
    simp only [bkL]
    rw [mem_iff, List.mem_cons, ← mem_iff]
    rw [mem_iff, List.mem_cons, ← mem_iff] at h
    rcases h with rfl | h
    · exact .inl rfl
    · exact .inr (mem_bkL h)
theorem Came.bk_cb (c : Came w w' H H' pl pl' L D bs nid o) {i k : Nat} (h : cb L nid L.length o.news.length i = some k) : bk L nid L.length k = i := by
  rcases c.cb_cases i with ⟨k', hk, hlt, hc⟩ | ⟨j, hj, rfl, hm, hc⟩ | ⟨hm, hno, hc⟩ <;> rw [hc] at h <;> cases h
  · unfold bk
    rw [show Nat.ble (k + 1) L.length = true from Nat.ble_eq_true_of_le hlt, cond_true, List.getD_eq_getElem?_getD, hk]; rfl
  · unfold bk
    cases hq : Nat.ble (L.length + j + 1) L.length with
    | false => simp
    | true => have := Nat.le_of_ble_eq_true hq; omega
/-- What is read only where it is called. -/
theorem Came.okd (c : Came w w' H H' pl pl' L D bs nid o) {d : List Nat} {p : Cell} (h : okd o.heap pl' d p) : okd H' (plOut pl pl' L nid L.length o.news.length) (bkL L nid L.length d ++ D) p := by
  have hb : (plIn H pl L D).base p := by rw [← c.hbase]; exact h.1
  refine ⟨hb.1, fun i B' hB' hm hf => ?_⟩
  rcases c.look_out hB' with ⟨k, B, h1, h2, h3, _⟩ | ⟨h1, h2, B, h3, h4⟩
  · simp only [plOut, h1] at hf
    refine h.2 k B h2 (fun hk => ?_) hf
    rw [← h3.box]
    refine hm ?_
    rw [mem_append, ← c.bk_cb h1, mem_bkL hk]; rfl
  · simp only [plOut, h1] at hf
    refine hb.2 i B h3 h2 (fun hk => ?_) hf
    rw [Blk.like_box (Blk.sweep_like h4)]
    exact hm (by rw [mem_append, hk, Bool.or_true])
mutual
theorem Came.rep (c : Came w w' H H' pl pl' L D bs nid o) : (v : SV) → {u : Value} → SVRep w' o.heap pl' v u → SVRep w' H' (plOut pl pl' L nid L.length o.news.length) (v.back L nid L.length D) u
  | .r d x, u, h => by
    cases h with
    | r _ _ _ hx => exact rep_mkR (hx.frame fun p u hp hu => ⟨c.okd hp, hu⟩)
  | .nilS, u, h => by cases h; exact .nilS
  | .nilP, u, h => by cases h; exact .nilP
  | .own k, u, h => by
    cases h with
    | own _ sh t xs hl =>
      obtain ⟨h1, B', h2, h3⟩ := c.look_in hl
      have e : (plOut pl pl' L nid L.length o.news.length).hdr (bk L nid L.length k) = pl'.hdr k := by simp only [plOut, h1]
      rw [← e]
      have : ∃ sh', B' = .arr sh' t xs := by
        rcases h3 with h3 | h3
        · cases sh with
          | none => cases h3; exact ⟨_, rfl⟩
          | some d =>
            simp only [Blk.back, Blk.sweep] at h3
            cases hh : hit (killL L o.kept).2 (bkL L nid L.length d ++ D) <;> simp only [hh, cond_true, cond_false] at h3
            · cases h3; exact ⟨_, rfl⟩
            · exact nomatch h3
        · cases sh <;> exact ⟨_, h3.symm⟩
      obtain ⟨sh', rfl⟩ := this
      exact .own _ sh' t xs h2
  | .ptr k 0 off, u, h => by
    cases h with
    | ptrB _ _ cs b q hl hh =>
      obtain ⟨h1, B', h2, h3⟩ := c.look_in hl
      have e : (plOut pl pl' L nid L.length o.news.length).hdr (bk L nid L.length k) = pl'.hdr k := by simp only [plOut, h1]
      have : ∃ cs', B' = .box cs' := by
        rcases h3 with h3 | h3
        · cases h3; exact ⟨_, rfl⟩
        · exact ⟨_, h3.symm⟩
      obtain ⟨cs', rfl⟩ := this
      exact .ptrB _ off cs' b q h2 (e.trans hh)
    | ptrA _ _ _ sh t xs b q n cap hl hx hh =>
      obtain ⟨h1, B', h2, h3⟩ := c.look_in hl
      have e : (plOut pl pl' L nid L.length o.news.length).hdr (bk L nid L.length k) = pl'.hdr k := by simp only [plOut, h1]
      have : ∃ sh', B' = .arr sh' t xs := by
        rcases h3 with h3 | h3
        · cases sh with
          | none => cases h3; exact ⟨_, rfl⟩
          | some d =>
            simp only [Blk.back, Blk.sweep] at h3
            cases hh : hit (killL L o.kept).2 (bkL L nid L.length d ++ D) <;> simp only [hh, cond_true, cond_false] at h3
            · cases h3; exact ⟨_, rfl⟩
            · exact nomatch h3
        · cases sh <;> exact ⟨_, h3.symm⟩
      obtain ⟨sh', rfl⟩ := this
      exact .ptrA _ 0 off sh' t xs b q n cap h2 hx (e.trans hh)
  | .ptr k (x + 1) off, u, h => .undef _
  | .agg cs, u, h => by
    cases h with
    | agg _ vs h1 h2 h3 =>
      obtain ⟨g1, g2⟩ := c.repL cs vs.toList (by simpa using h1) fun j x u hx hu => h3 j x u hx (by simpa using hu)
      exact .agg _ _ (by simpa using g1) h2 fun j x u hx hu => g2 j x u hx (by simpa using hu)
  | .tup cs, u, h => by
    cases h with
    | tup _ vs h1 h3 =>
      obtain ⟨g1, g2⟩ := c.repL cs vs.toList (by simpa using h1) fun j x u hx hu => h3 j x u hx (by simpa using hu)
      exact .tup _ _ (by simpa using g1) fun j x u hx hu => g2 j x u hx (by simpa using hu)
  | .sub _ _ _, _, _ => .undef _
  | .bsl _ _, _, _ => .undef _
  | .inn _ _ _, _, _ => .undef _
  | .rptr _ _, _, _ => .undef _
  | .fn f a b, u, h => by
    cases h with
    | fn _ _ _ us vs h1 h3 h1' h3' =>
      obtain ⟨g1, g2⟩ := c.repL a us.toList (by simpa using h1) fun j x u hx hu => h3 j x u hx (by simpa using hu)
      obtain ⟨q1, q2⟩ := c.repL b vs.toList (by simpa using h1') fun j x u hx hu => h3' j x u hx (by simpa using hu)
      exact .fn _ _ _ _ _ (by simpa using g1) (fun j x u hx hu => g2 j x u hx (by simpa using hu)) (by simpa using q1) fun j x u hx hu => q2 j x u hx (by simpa using hu)
  | .undef, _, _ => .undef _
theorem Came.repL (c : Came w w' H H' pl pl' L D bs nid o) : (cs : List SV) → (us : List Value) → cs.length = us.length → (∀ (j : Nat) (x : SV) (u : Value), cs[j]? = some x → us[j]? = some u → SVRep w' o.heap pl' x u) →
    (backL L nid L.length D cs).length = us.length ∧ ∀ (j : Nat) (x : SV) (u : Value), (backL L nid L.length D cs)[j]? = some x → us[j]? = some u → SVRep w' H' (plOut pl pl' L nid L.length o.news.length) x u
  | [], us, hl, _ => ⟨hl, fun j x u hx _ => by simp [backL] at hx⟩
  | v :: cs, u :: us, hl, hp => by
    obtain ⟨g1, g2⟩ := c.repL cs us (by simpa using hl) fun j x u hx hu => hp (j + 1) x u (by simpa using hx) (by simpa using hu)
    refine ⟨by simp [backL, g1], fun j x u' hx hu => ?_⟩
    cases j with
    | zero => simp [backL] at hx hu; subst hx hu; exact c.rep v (hp 0 v u rfl rfl)
    | succ j => exact g2 j x u' (by simpa [backL] using hx) (by simpa using hu)
end
theorem Came.blkBack (c : Came w w' H H' pl pl' L D bs nid o) {i k : Nat} {B : Blk} (h1 : cb L nid L.length o.news.length i = some k) (h2 : look o.heap k = some B) :
    BlkRep w' H' (plOut pl pl' L nid L.length o.news.length) i (B.back L nid L.length D) := by
  have eh : (plOut pl pl' L nid L.length o.news.length).hdr i = pl'.hdr k := by simp only [plOut, h1]
  have ef : (plOut pl pl' L nid L.length o.news.length).fp i = pl'.fp k := by simp only [plOut, h1]
  have hb := c.hro.blk k B h2
  cases B with
  | box cs =>
    obtain ⟨b, q, q1, q2, q3⟩ := hb
    refine ⟨b, q, eh.trans q1, fun p => by rw [ef, q2, backL_length], fun j v hv => ?_⟩
    rw [backL_get] at hv
    obtain ⟨y, hy, rfl⟩ := Option.map_eq_some_iff.1 hv
    obtain ⟨u, g1, g2, g3, g4⟩ := q3 j y hy
    exact ⟨u, g1, g2, g3, c.rep y g4⟩
  | arr sh t xs =>
    cases sh with
    | none =>
      show Nonempty (Row w' (RepD w') t xs _ _)
      rw [eh, ef]; exact hb
    | some d =>
      obtain ⟨⟨a, cap, b, q, vs, fs, q1, q2, q3, q4, q5, q6, q7, q8, q9⟩⟩ := hb
      exact ⟨⟨a, cap, b, q, vs, fs, eh.trans q1, q2, q3, q4, q5, fun i j r hc => ⟨(q6 i j r hc).1.frame fun p u hp hu => ⟨c.okd hp, hu⟩, (q6 i j r hc).2⟩, q7, q8, fun p => by rw [ef]; exact q9 p⟩⟩
theorem keeps_refl (T : Kil) {w : World} {H : Heap} {pl : Pl} : Keeps T w H pl w H pl := ⟨fun i B hB _ => ⟨B, hB, B.like_refl, rfl⟩, fun d p u _ h hp => ⟨h, hp⟩⟩
theorem Came.not_passed (c : Came w w' H H' pl pl' L D bs nid o) {i : Nat} {B : Blk} {p : Cell} (hB : look H i = some B) (hm : mem i L = false) (hf : pl.fp i p) : ∀ i' B', mem i' L = true → look H i' = some B' → ¬ pl.fp i' p := fun i' B' hm' hB' hf' => by
  have := c.hr.dis i i' B B' p hB hB' hf hf'
  subst this
  rw [hm] at hm'; exact nomatch hm'
theorem Came.keeps (c : Came w w' H H' pl pl' L D bs nid o) : Keeps (killL L o.kept) w H pl w' H' (plOut pl pl' L nid L.length o.news.length) := by
  refine ⟨fun i B hB hg => ?_, fun d p u hd ho hp => ?_⟩
  · cases hm : mem i L with
    | true =>
      obtain ⟨k, B0, B1, hk, hlt, e1, e2, e3⟩ := c.inH hm
      rw [hB] at e1; cases e1
      have hkl : k < o.kept.length := by rw [c.hm]; exact hlt
      cases hkp : o.kept[k]? with
      | none => rw [List.getElem?_eq_getElem hkl] at hkp; exact nomatch hkp
      | some ob =>
        cases ob with
        | none => rw [show mem i (goneL L o.kept) = true from goneL_mem.2 ⟨k, hk, hkp⟩] at hg; exact nomatch hg
        | some B2 =>
          obtain ⟨B', h1, h2⟩ := c.kept hk hkp
          obtain ⟨q1, B3, q2, q3⟩ := c.hkept k B2 hkp
          rw [e2] at q2; cases q2
          refine ⟨B', h1, Blk.like_trans (Blk.ren_like e3) (Blk.like_trans q3 h2.like), ?_⟩
          simp only [plOut, c.cb_in hk]
          rw [q1, List.getD_eq_getElem?_getD, hk]; rfl
    | false =>
      rcases c.cb_cases i with ⟨k, hk, _⟩ | ⟨j, hj, rfl, _, _⟩ | ⟨_, hno, hc⟩
      · rw [(mem_iff i L).2 (List.mem_of_getElem? hk)] at hm; exact nomatch hm
      · rw [c.hfree j hj] at hB; exact nomatch hB
      · obtain ⟨h1, e1, _⟩ := id c.ha
        have hu : look (upds (updL (Blk.back L nid L.length D) L o.kept) H) i = some B := by
          rw [look_updL_out fun k b h1 _ => by rw [(mem_iff i L).2 (List.mem_of_getElem? h1)] at hm; exact nomatch hm]; exact hB
        obtain ⟨B', hB'⟩ := sweepH'_all kill_le e1 i B hu hg
        exact ⟨B', by rw [c.old hm hno, hB]; exact hB', Blk.sweep_like hB', by simp only [plOut, hc]⟩
  · have hnp : ∀ i B, mem i L = true → look H i = some B → ¬ pl.fp i p := fun i B hm hB hf => by
      refine ho.2 i B hB (fun hdi => ?_) hf
      have hT := hd i hdi
      obtain ⟨k, B0, B1, hk, hlt, e1, e2, e3⟩ := c.inH hm
      rw [hB] at e1; cases e1
      have hkl : k < o.kept.length := by rw [c.hm]; exact hlt
      cases hkp : o.kept[k]? with
      | none => rw [List.getElem?_eq_getElem hkl] at hkp; exact nomatch hkp
      | some ob =>
        cases ob with
        | none =>
          have : mem i (killL L o.kept).2 = true := kill_le i (goneL_mem.2 ⟨k, hk, hkp⟩)
          rw [hT] at this; exact nomatch this
        | some B2 =>
          obtain ⟨_, B3, q2, q3⟩ := c.hkept k B2 hkp
          rw [e2] at q2; cases q2
          have hbx : B2.isBox = true := by
            cases hx : B2.isBox with
            | true => rfl
            | false =>
              have : mem i (goneL L o.kept ++ dirtyL L o.kept) = true := by rw [mem_append, dirtyL_mem.2 ⟨k, B2, hk, hkp, hx⟩, Bool.or_true]
              rw [show mem i (goneL L o.kept ++ dirtyL L o.kept) = false from hT] at this; exact nomatch this
          rw [Blk.like_box (Blk.ren_like e3), Blk.like_box q3, hbx]
    obtain ⟨g1, g2, g3⟩ := c.hfr p u hp hnp
    refine ⟨⟨ho.1, fun i B' hB' hm hf => ?_⟩, g2⟩
    rcases c.look_out hB' with ⟨k, B, h1, h2, _, _⟩ | ⟨h1, h2, B, h3, h4⟩
    · simp only [plOut, h1] at hf
      exact g1 k B h2 hf
    · simp only [plOut, h1] at hf
      refine ho.2 i B h3 (fun hk => ?_) hf
      rw [Blk.like_box (Blk.sweep_like h4)]; exact hm hk
theorem Came.step (c : Came w w' H H' pl pl' L D bs nid o) : StepTo H H' (killL L o.kept) pl (plOut pl pl' L nid L.length o.news.length) w w' := by
  have hown := c.hr.own_there
  have hk := c.keeps
  refine ⟨⟨fun i B' hB' => ?_, fun i j B B' p h1 h2 f1 f2 => ?_, fun i B p hB hf => ?_, fun p hp => ?_⟩, hk, rfl, c.hgr, fun p u hp hno => ?_⟩
  · rcases c.look_out hB' with ⟨k, B, h1, h2, h3, _⟩ | ⟨h1, h2, B, h3, h4⟩
    · have hb := c.blkBack h1 h2
      rcases h3 with h3 | h3
      · exact hb.keep (keeps_refl _) rfl (fun _ => Iff.rfl) (fun p u _ hu => ⟨hu, rfl⟩) h3
      · rw [← h3]; exact hb
    · exact (c.hr.blk i B h3).keep hk (by simp only [plOut, h1]) (fun p => by simp only [plOut, h1]) (fun p u hf hu => (c.hfr p u hu (c.not_passed h3 h2 hf)).2) h4
  · have cross : ∀ {i j k : Nat} {B Bk : Blk}, look H i = some B → mem i L = false → pl.fp i p → look o.heap k = some Bk → pl'.fp k p → False := fun {i j k B Bk} hB hm hf hk hf' => by
      obtain ⟨u, hu⟩ := hown i B p hB hf
      exact (c.hfr p u hu (c.not_passed hB hm hf)).1 k Bk hk hf'
    rcases c.look_out h1 with ⟨k, B1, a1, a2, _, _⟩ | ⟨a1, a2, B1, a3, _⟩ <;> rcases c.look_out h2 with ⟨k', B2, b1, b2, _, _⟩ | ⟨b1, b2, B2, b3, _⟩
    · simp only [plOut, a1] at f1
      simp only [plOut, b1] at f2
      have := c.hro.dis k k' B1 B2 p a2 b2 f1 f2
      subst this
      rw [← c.bk_cb a1, ← c.bk_cb b1]
    · simp only [plOut, a1] at f1
      simp only [plOut, b1] at f2
      exact (cross (j := j) b3 b2 f2 a2 f1).elim
    · simp only [plOut, a1] at f1
      simp only [plOut, b1] at f2
      exact (cross (j := j) a3 a2 f1 b2 f2).elim
    · simp only [plOut, a1] at f1
      simp only [plOut, b1] at f2
      exact c.hr.dis i j B1 B2 p a3 b3 f1 f2
  · rcases c.look_out hB with ⟨k, B1, a1, a2, _, _⟩ | ⟨a1, a2, B1, a3, _⟩
    · simp only [plOut, a1] at hf
      have := c.hro.ob k B1 p a2 hf
      rw [c.hbase] at this
      exact this.1
    · simp only [plOut, a1] at hf
      exact c.hr.ob i B1 p a3 hf
  · have := c.hro.nb p hp
    rw [c.hbase] at this
    exact this.1
  · obtain ⟨g1, g2⟩ := c.hfr p u hp fun i B _ hB => hno i B hB
    refine ⟨fun i B hB hf => ?_, g2⟩
    rcases c.look_out hB with ⟨k, B1, a1, a2, _, _⟩ | ⟨a1, a2, B1, a3, _⟩
    · simp only [plOut, a1] at hf
      exact g1 k B1 a2 hf
    · simp only [plOut, a1] at hf
      exact hno i B1 a3 hf
end
/-- How a parameter is handed over: read only, or as it is. -/
inductive Pr where
  | one (t : Ty)
  | agg (ts : List Ty)
  | keep
def prepL (h : Heap) : List Ty → List SV → Option (List SV)
  | [], [] => some []
  | t :: ts, v :: vs => (v.asR h t).bind fun p => (prepL h ts vs).bind fun l => some (.r p.1 p.2 :: l)
  | _, _ => none
def prep1 (h : Heap) : Pr → SV → Option SV
  | .one t, v => (v.asR h t).bind fun p => some (.r p.1 p.2)
  | .agg ts, .agg cs => (prepL h ts cs).bind fun l => some (.agg l)
  | .agg _, _ => none
  | .keep, v => some v
def prep (h : Heap) : List Pr → List SV → Option (List SV)
  | [], [] => some []
  | s :: ss, v :: vs => (prep1 h s v).bind fun x => (prep h ss vs).bind fun l => some (x :: l)
  | _, _ => none
def mutOrc (pr : List Pr) (G : MG) : Orc := fun ρ nid vs h K =>
  (prep h pr vs).bind fun vs1 =>
    let L := reach h 3 (addNew [] (idsL vs1))
    let D := outD L (depsL vs1 ++ depsH h L)
    cond (nodup L) (cond (subD L D (depsL vs1 ++ depsH h L)) ((renL L vs1).bind fun args => (renBs h L L).bind fun bs =>
      G ρ args bs fun o => cond (Nat.beq o.kept.length L.length)
        (K { v := o.v.back L nid L.length D, upd := updL (Blk.back L nid L.length D) L o.kept, news := backB L nid L.length D o.news, gone := goneL L o.kept, dirty := dirtyL L o.kept }) none) none) none
theorem prepL_le {h h' : Heap} (hh : Ext h h') : (ts : List Ty) → (vs : List SV) → Le (prepL h ts vs) (prepL h' ts vs)
  | [], [] => Le.refl _
  | t :: ts, v :: vs => (asR_le hh _ _).bind fun _ => (prepL_le hh ts vs).bind fun _ => Le.refl _
  | [], _ :: _ => Le.refl _
  | _ :: _, [] => Le.refl _
theorem prep1_le {h h' : Heap} (hh : Ext h h') (s : Pr) (v : SV) : Le (prep1 h s v) (prep1 h' s v) := by
  intro p hp
  unfold prep1 at hp
  split at hp <;> simp only [prep1]
  · exact ((asR_le hh _ _).bind fun _ => Le.refl _) p hp
  · exact ((prepL_le hh _ _).bind fun _ => Le.refl _) p hp
  · exact nomatch hp
  · exact hp
theorem prep_le {h h' : Heap} (hh : Ext h h') : (ss : List Pr) → (vs : List SV) → Le (prep h ss vs) (prep h' ss vs)
  | [], [] => Le.refl _
  | s :: ss, v :: vs => (prep1_le hh s v).bind fun _ => (prep_le hh ss vs).bind fun _ => Le.refl _
  | [], _ :: _ => Le.refl _
  | _ :: _, [] => Le.refl _
theorem renBs_le {h h' : Heap} (hh : Ext h h') {L : List Nat} : (l : List Nat) → Le (renBs h L l) (renBs h' L l)
  | [] => Le.refl _
  | i :: l => fun bs hb => by
    simp only [renBs, Option.bind_eq_some_iff, Option.some.injEq] at hb ⊢
    obtain ⟨b, h1, b', h2, l', h3, rfl⟩ := hb
    exact ⟨b, hh i b h1, b', h2, l', renBs_le hh l _ h3, rfl⟩
theorem depsH_ext {h h' : Heap} (hh : Ext h h') : (l : List Nat) → (∀ i ∈ l, ∃ B, look h i = some B) → depsH h' l = depsH h l
  | [], _ => rfl
  | i :: l, hl => by
    obtain ⟨B, hB⟩ := hl i (by simp)
    simp only [depsH, hB, hh i B hB, depsH_ext hh l fun k hk => hl k (by simp [hk])]
section
variable {w : World} {H : Heap} {pl : Pl} {P : Program}
theorem prepL_rep (hr : HRel H pl w) : ∀ {ts : List Ty} {vs : List SV} {us : List Value} {l : List SV}, prepL H ts vs = some l → vs.length = us.length → (∀ (j : Nat) (x : SV) (u : Value), vs[j]? = some x → us[j]? = some u → SVRep w H pl x u) →
    l.length = us.length ∧ ∀ (j : Nat) (x : SV) (u : Value), l[j]? = some x → us[j]? = some u → SVRep w H pl x u
  | [], [], us, l, h, hl, _ => by cases h; exact ⟨hl, fun j x u hx _ => by simp at hx⟩
  | t :: ts, v :: vs, u :: us, l, h, hl, hp => by
    simp only [prepL, Option.bind_eq_some_iff, Option.some.injEq] at h
    obtain ⟨⟨d, r⟩, h1, l', h2, rfl⟩ := h
    obtain ⟨g1, g2⟩ := prepL_rep hr h2 (us := us) (by simpa using hl) fun j x u hx hu => hp (j + 1) x u (by simpa using hx) (by simpa using hu)
    refine ⟨by simp [g1], fun j x u' hx hu => ?_⟩
    cases j with
    | zero => simp at hx hu; subst hx hu; exact .r _ _ _ (asR_rep hr h1 (hp 0 v u rfl rfl))
    | succ j => exact g2 j x u' (by simpa using hx) (by simpa using hu)
  | [], _ :: _, _, _, h, _, _ => nomatch h
  | _ :: _, [], _, _, h, _, _ => nomatch h
theorem prep1_rep (hr : HRel H pl w) {s : Pr} {v x : SV} {u : Value} (h : prep1 H s v = some x) (hv : SVRep w H pl v u) : SVRep w H pl x u := by
  unfold prep1 at h
  split at h
  · simp only [Option.bind_eq_some_iff, Option.some.injEq] at h
    obtain ⟨⟨d, r⟩, h1, rfl⟩ := h
    exact .r _ _ _ (asR_rep hr h1 hv)
  · simp only [Option.bind_eq_some_iff, Option.some.injEq] at h
    obtain ⟨l, h1, rfl⟩ := h
    cases hv with
    | agg cs vs h2 h3 h4 =>
      obtain ⟨g1, g2⟩ := prepL_rep hr h1 (us := vs.toList) (by simpa using h2) fun j x u hx hu => h4 j x u hx (by simpa using hu)
      exact .agg _ _ (by simpa using g1) h3 fun j x u hx hu => g2 j x u hx (by simpa using hu)
  · exact nomatch h
  · cases h; exact hv
theorem prep_rep (hr : HRel H pl w) : ∀ {ss : List Pr} {vs : List SV} {us : List Value} {l : List SV}, prep H ss vs = some l → vs.length = us.length → (∀ (j : Nat) (x : SV) (u : Value), vs[j]? = some x → us[j]? = some u → SVRep w H pl x u) →
    l.length = us.length ∧ ∀ (j : Nat) (x : SV) (u : Value), l[j]? = some x → us[j]? = some u → SVRep w H pl x u
  | [], [], us, l, h, hl, _ => by cases h; exact ⟨hl, fun j x u hx _ => by simp at hx⟩
  | t :: ts, v :: vs, u :: us, l, h, hl, hp => by
    simp only [prep, Option.bind_eq_some_iff, Option.some.injEq] at h
    obtain ⟨x0, h1, l', h2, rfl⟩ := h
    obtain ⟨g1, g2⟩ := prep_rep hr h2 (us := us) (by simpa using hl) fun j x u hx hu => hp (j + 1) x u (by simpa using hx) (by simpa using hu)
    refine ⟨by simp [g1], fun j x u' hx hu => ?_⟩
    cases j with
    | zero => simp at hx hu; subst hx hu; exact prep1_rep hr h1 (hp 0 v u rfl rfl)
    | succ j => exact g2 j x u' (by simpa using hx) (by simpa using hu)
  | [], _ :: _, _, _, h, _, _ => nomatch h
  | _ :: _, [], _, _, h, _, _ => nomatch h
theorem mutOrc_ok {g : FuncId} {pr : List Pr} {G : MG} (h : MutOk P g G) : OrcOk P g (mutOrc pr G) := by
  intro ρ nid vs H K out hK
  simp only [mutOrc, Option.bind_eq_some_iff] at hK
  obtain ⟨vs1, hpr, hK⟩ := hK
  generalize hLe : reach H 3 (addNew [] (idsL vs1)) = L at hK
  cases hn : nodup L <;> simp only [hn, cond_true, cond_false] at hK
  · exact nomatch hK
  generalize hDe : outD L (depsL vs1 ++ depsH H L) = D at hK
  cases hsub : subD L D (depsL vs1 ++ depsH H L) <;> simp only [hsub, cond_true, cond_false, Option.bind_eq_some_iff] at hK
  · exact nomatch hK
  obtain ⟨args, hargs, bs, hbs, hG⟩ := hK
  obtain ⟨o, ho, hen, hm, hcalls⟩ := h ρ args bs _ out hG
  cases hbl : Nat.beq o.kept.length L.length <;> simp only [hbl, cond_true, cond_false] at ho
  · exact nomatch ho
  have hbl := Nat.eq_of_beq_eq_true hbl
  have hin : ∀ i ∈ L, ∃ B, look H i = some B := fun i hi => by
    obtain ⟨k, hk⟩ := List.getElem?_of_mem hi
    have hlt := (List.getElem?_eq_some_iff.1 hk).1
    obtain ⟨i', b0, e1, e2, _⟩ := (renBs_spec hbs).2 k _ (List.getElem?_eq_getElem (show k < bs.length by rw [(renBs_spec hbs).1]; exact hlt))
    rw [hk] at e1; cases e1
    exact ⟨b0, e2⟩
  refine ⟨_, ho, hen, fun i B hB => hin i (look_updL_dom hB), fun H1 pl w us he hr hnw hl hp H' ha => ?_⟩
  obtain ⟨hs1, hs2⟩ := subD_append hsub
  obtain ⟨g1, g2⟩ := prep_rep (us := us.toList) hr (prep_le he _ _ _ hpr) (by simpa using hl) fun j x u hx hu => hp j x u hx (by simpa using hu)
  have hbs1 := renBs_le he L _ hbs
  have hd1 : subD L D (depsH H1 L) = true := by rw [depsH_ext he L hin]; exact hs2
  obtain ⟨q1, q2⟩ := plInL_rep hn hbs1 vs1 hs1 hargs us.toList g1 g2
  have hfree : ∀ k, k < o.news.length → look H1 (nid + k) = none := fun k hk => hnw k (by rw [backB_length]; exact hk)
  refine (hcalls w us (plIn H1 pl L D) (plIn_hrel hr hn hbs1 hd1) (by simpa using q1) fun j x u hx hu => q2 j x u hx (by simpa using hu)).mono fun e w' ⟨u, pl', he', h1, h2, h3, h4, h5, h6⟩ => ?_
  have hc : Came w w' H1 H' pl pl' L D bs nid o := by
    refine ⟨hr, hn, hbs1, hbl, hfree, fun i hi => mem_outD (hDe ▸ hi), h1, h3, h4, h5, fun p u hu hno => h6 p u hu fun k B hB hf => ?_, ?_⟩
    · obtain ⟨i, b0, e1, e2, e3, _⟩ := ren_back hbs1 hB
      simp only [plIn, e2] at hf
      exact hno i b0 ((mem_iff i L).2 (List.mem_of_getElem? e1)) e3 hf
    · simp only [after, Option.bind_eq_some_iff, Option.some.injEq] at ha
      obtain ⟨h1', e1, e2⟩ := ha
      exact ⟨h1', e1, e2.symm⟩
  exact ⟨u, _, he', hc.step, hc.rep o.v h2⟩
end
end Go.Proofs.Ev

set_option linter.unusedVariables false
set_option linter.unusedSimpArgs false
namespace Go.Proofs.Ev
variable [Tok]
set_option linter.unusedSectionVars false
/-- What becomes of a block that was handed in. -/
inductive KD where
  | gone
  | arr
  | box (l : List RT)
def keptIds : List (Option Nat) → List KD → List Nat
  | some _ :: g, .gone :: l => keptIds g l
  | some i :: g, _ :: l => i :: keptIds g l
  | none :: g, _ :: l => keptIds g l
  | _, _ => []
def boxSrcs (h : Heap) : List (Option Nat) → List KD → Option (List (Bool × Ty × Option Nat))
  | [], [] => some []
  | _ :: g, .gone :: ks => boxSrcs h g ks
  | some _ :: g, .arr :: ks => boxSrcs h g ks
  | some i :: g, .box l :: ks => match look h i with
    | some (.box cs) => (srcsL l cs).bind fun a => (boxSrcs h g ks).bind fun b => some (a ++ b)
    | _ => none
  | _, _ => none
def outArr (h : Heap) (LL : List Nat) (i : Nat) : Option Blk :=
  match look h i with
  | some (.arr none t xs) => some (.arr none t xs)
  | some (.arr (some d) t xs) => cond (hit LL d) none (some (.arr (some []) t xs))
  | _ => none
def keptOut (h : Heap) (LL : List Nat) (G : List (Option Nat)) : List (Option Nat) → List KD → Nat → Option (List (Option Blk))
  | [], [], _ => some []
  | _ :: g, .gone :: ks, k => (keptOut h LL G g ks k).bind fun q => some (none :: q)
  | some i :: g, .arr :: ks, k => (outArr h LL i).bind fun b => (keptOut h LL G g ks k).bind fun q => some (some b :: q)
  | some i :: g, .box l :: ks, k => match look h i with
    | some (.box cs) => (outL h LL G l k cs).bind fun p => (keptOut h LL G g ks p.2).bind fun q => some (some (.box p.1) :: q)
    | _ => none
  | _, _, _ => none
/-- The blocks that are kept, by their places. -/
def maskG : List (Option Nat) → List KD → List (Option Nat)
  | [], _ => []
  | _ :: g, .gone :: ks => none :: maskG g ks
  | og :: g, .arr :: ks => og :: maskG g ks
  | og :: g, .box _ :: ks => og :: maskG g ks
  | _ :: g, [] => none :: maskG g []
def canonM (rt : RT) (ks : List KD) (st : St) (v : SV) : Option MOut :=
  (rt.srcs v).bind fun s0 => (boxSrcs st.heap st.gh ks).bind fun s1 =>
    let LL := keptIds st.gh ks ++ idsOf (s0 ++ s1)
    cond (nodup LL) ((outBlks st.heap LL (s0 ++ s1)).bind fun news => (rt.out st.heap LL (maskG st.gh ks) st.gh.length v).bind fun p => (keptOut st.heap LL (maskG st.gh ks) st.gh ks p.2).bind fun q => some ⟨p.1, q, news⟩) none
/-- A result that is a part of an owned list, from its beginning on: the list is cut. -/
def truncAt (t : Nat) (st : St) : Option St :=
  match look st.slots t with
  | some (.sub i 0 n) => match look st.heap i with
    | some (.arr sh ty xs) => cond (mem i (sh.getD [])) none (st.take (some t) { v := .own st.nid, news := [.arr sh ty (xs.take n)], gone := [i] })
    | _ => some st
  | _ => some st
def truncT (fn : Func) (rt : RT) (st : St) : Option St :=
  match fn.results.toList, rt with
  | [.tmp t], .own _ => truncAt t st
  | [.tmp t], .shl _ => truncAt t st
  | _, _ => some st
def finM {ρ : Type} (P : Program) (fn : Func) (rt : RT) (ks : List KD) (dec : MOut → Option ρ) : Ex → St → Option ρ
  | .exit _, _ => none
  | .normal, st => (truncT fn rt st).bind fun st => (finV P fn st).bind fun v => (canonM rt ks st v).bind dec
  | .ret, st => (truncT fn rt st).bind fun st => (finV P fn st).bind fun v => (canonM rt ks st v).bind dec
def slotsM : Nat → List SV → List (Nat × SV)
  | _, [] => []
  | n, a :: l => (n, a) :: slotsM (n + 1) l
def rangeG : Nat → Nat → List (Option Nat)
  | _, 0 => []
  | n, k + 1 => some n :: rangeG (n + 1) k
def st0M (fn : Func) (args : List SV) (bs : List Blk) : St := { slots := slotsM 0 args, heap := newsH 0 bs, nid := bs.length, n := fn.ntmps, gh := rangeG 0 bs.length }
theorem look_slotsM (args : List SV) (n t : Nat) : look (slotsM n args) t = if n ≤ t then args[t - n]? else none := by
  induction args generalizing n with
  | nil => simp [slotsM, look]
  | cons a l ih =>
    rw [slotsM, look_cons, ih]
    by_cases h : n = t
    · subst h; simp
    · by_cases h2 : n ≤ t
      · rw [if_neg h, if_pos (by omega), if_pos h2, show t - n = (t - (n + 1)) + 1 from by omega]; rfl
      · rw [if_neg h, if_neg (by omega), if_neg h2]
theorem rangeG_get : ∀ (c n k : Nat) {i : Nat}, (rangeG n c)[k]? = some (some i) → i = n + k ∧ k < c
  | 0, n, k, i, h => by simp [rangeG] at h
  | c + 1, n, 0, i, h => by simp [rangeG] at h; omega
  | c + 1, n, k + 1, i, h => by
    have := rangeG_get c (n + 1) k (by simpa [rangeG] using h)
    omega
/-- The placing at the end: the blocks that are kept, then the slices that are made. -/
def Pl.resM (pl : Pl) (gh : List (Option Nat)) (S : List (Bool × Ty × Option Nat)) : Pl :=
  ⟨fun k => if k < gh.length then (match gh[k]? with | some (some i) => pl.hdr i | _ => undef) else (pl.res S).hdr (k - gh.length),
   fun k => if k < gh.length then (match gh[k]? with | some (some i) => pl.fp i | _ => fun _ => False) else (pl.res S).fp (k - gh.length), pl.base⟩
section
variable {w : World} {H : Heap} {pl : Pl} {gh G : List (Option Nat)} {ks : List KD} {S : List (Bool × Ty × Option Nat)} {LL : List Nat} {news : List Blk} {kept : List (Option Blk)} {v : SV}
theorem keptOut_spec : ∀ {gh : List (Option Nat)} {ks : List KD} {k0 : Nat} {kept : List (Option Blk)}, keptOut H LL G gh ks k0 = some kept → kept.length = gh.length ∧
    ∀ (k : Nat) (B : Blk), kept[k]? = some (some B) → ∃ i, gh[k]? = some (some i) ∧ mem i (keptIds gh ks) = true ∧ ((∃ l cs cs' k1 k2, ks[k]? = some (.box l) ∧ look H i = some (.box cs) ∧ outL H LL G l k1 cs = some (cs', k2) ∧ B = .box cs') ∨ (ks[k]? = some .arr ∧ outArr H LL i = some B))
  | [], [], k0, kept, h => by cases h; exact ⟨rfl, fun k B hB => by simp at hB⟩
  | og :: g, .gone :: ks, k0, kept, h => by
    simp only [keptOut, Option.bind_eq_some_iff, Option.some.injEq] at h
    obtain ⟨q, h1, rfl⟩ := h
    obtain ⟨g1, g2⟩ := keptOut_spec h1
    refine ⟨by simp [g1], fun k B hB => ?_⟩
    cases k with
    | zero => simp at hB
    | succ k =>
      obtain ⟨i, a1, a2, a3⟩ := g2 k B (by simpa using hB)
      refine ⟨i, by simpa using a1, ?_, by simpa using a3⟩
      cases og <;> simpa [keptIds] using a2
  | some i0 :: g, .arr :: ks, k0, kept, h => by
    simp only [keptOut, Option.bind_eq_some_iff, Option.some.injEq] at h
    obtain ⟨b, h0, q, h1, rfl⟩ := h
    obtain ⟨g1, g2⟩ := keptOut_spec h1
    refine ⟨by simp [g1], fun k B hB => ?_⟩
    cases k with
    | zero => simp at hB; subst hB; exact ⟨i0, rfl, by simp [keptIds, mem], .inr ⟨rfl, h0⟩⟩
    | succ k =>
      obtain ⟨i, a1, a2, a3⟩ := g2 k B (by simpa using hB)
      refine ⟨i, by simpa using a1, ?_, by simpa using a3⟩
      rw [mem_iff] at a2 ⊢; simp [keptIds, a2]
  | some i0 :: g, .box l :: ks, k0, kept, h => by
    simp only [keptOut] at h
    split at h
    · rename_i cs hl
      simp only [Option.bind_eq_some_iff, Option.some.injEq] at h
      obtain ⟨p, h0, q, h1, rfl⟩ := h
      obtain ⟨g1, g2⟩ := keptOut_spec h1
      refine ⟨by simp [g1], fun k B hB => ?_⟩
      cases k with
      | zero => simp at hB; subst hB; exact ⟨i0, rfl, by simp [keptIds, mem], .inl ⟨l, cs, p.1, k0, p.2, rfl, hl, h0, rfl⟩⟩
      | succ k =>
        obtain ⟨i, a1, a2, a3⟩ := g2 k B (by simpa using hB)
        refine ⟨i, by simpa using a1, ?_, by simpa using a3⟩
        rw [mem_iff] at a2 ⊢; simp [keptIds, a2]
    · exact nomatch h
  | [], _ :: _, _, _, h => by cases h
  | none :: _, [], _, _, h => by cases h
  | some _ :: _, [], _, _, h => by cases h
  | none :: _, .arr :: _, _, _, h => by cases h
  | none :: _, .box _ :: _, _, _, h => by cases h
/-- The boxes' slices, box by box, with the numbers that they bear. -/
theorem boxes_rep (hr : HRel H pl w) {H2 : Heap} {plR : Pl} {m : Nat} (hown : ∀ (k : Nat) (b : Bool) (t : Ty) (v : SV) (u : Value), SVRep w H pl v u → ((∃ i, v = .own i ∧ S[k]? = some (b, t, some i)) ∨ (v = .nilS ∧ S[k]? = some (b, t, none))) → SVRep w H2 plR (.own (m + k)) u)
    (hro : ∀ d p, hit LL d = false → okd H pl d p → okd H2 plR [] p) (hptr : ∀ i j o u, posOf i G 0 = some j → SVRep w H pl (.ptr i 0 o) u → SVRep w H2 plR (.ptr j 0 o) u) : ∀ {gh : List (Option Nat)} {ks : List KD} {j0 : Nat} {kept : List (Option Blk)} {s : List (Bool × Ty × Option Nat)},
    boxSrcs H gh ks = some s → (∀ (j : Nat) (x : Bool × Ty × Option Nat), s[j]? = some x → S[j0 + j]? = some x) → keptOut H LL G gh ks (m + j0) = some kept →
    ∀ (k i : Nat) (cs cs' : List SV), gh[k]? = some (some i) → look H i = some (.box cs) → kept[k]? = some (some (.box cs')) → ∀ us : List Value, cs.length = us.length → (∀ (j : Nat) (x : SV) (u : Value), cs[j]? = some x → us[j]? = some u → SVRep w H pl x u) →
      cs'.length = us.length ∧ ∀ (j : Nat) (x : SV) (u : Value), cs'[j]? = some x → us[j]? = some u → SVRep w H2 plR x u
  | [], [], j0, kept, s, hs, hS, h, k, i, cs, cs', hk, _, _, _, _, _ => by simp at hk
  | og :: g, .gone :: ks, j0, kept, s, hs, hS, h, k, i, cs, cs', hk, hl, hc, us, hu, hp => by
    simp only [keptOut, Option.bind_eq_some_iff, Option.some.injEq] at h
    obtain ⟨q, h1, rfl⟩ := h
    have hs : boxSrcs H g ks = some s := by cases og <;> exact hs
    cases k with
    | zero => simp at hc
    | succ k => exact boxes_rep hr hown hro hptr hs hS h1 k i cs cs' (by simpa using hk) hl (by simpa using hc) us hu hp
  | some i0 :: g, .arr :: ks, j0, kept, s, hs, hS, h, k, i, cs, cs', hk, hl, hc, us, hu, hp => by
    simp only [keptOut, Option.bind_eq_some_iff, Option.some.injEq] at h
    obtain ⟨b, h0, q, h1, rfl⟩ := h
    cases k with
    | zero =>
      simp at hk hc
      subst hk hc
      unfold outArr at h0
      rw [hl] at h0; exact nomatch h0
    | succ k => exact boxes_rep hr hown hro hptr (show boxSrcs H g ks = some s from hs) hS h1 k i cs cs' (by simpa using hk) hl (by simpa using hc) us hu hp
  | some i0 :: g, .box l :: ks, j0, kept, s, hs, hS, h, k, i, cs, cs', hk, hl, hc, us, hu, hp => by
    simp only [keptOut] at h
    simp only [boxSrcs] at hs
    cases hl0 : look H i0 with
    | none => rw [hl0] at h; exact nomatch h
    | some B0 =>
      cases B0 with
      | arr sh t xs => rw [hl0] at h; exact nomatch h
      | box cs0 =>
        simp only [hl0, Option.bind_eq_some_iff, Option.some.injEq] at h hs
        obtain ⟨p, h0, q, h1, rfl⟩ := h
        obtain ⟨s1, e1, s2, e2, rfl⟩ := hs
        obtain ⟨b, o, q1, q2, q3⟩ := hr.blk i0 _ hl0
        have key : ∀ us : List Value, cs0.length = us.length → (∀ (j : Nat) (x : SV) (u : Value), cs0[j]? = some x → us[j]? = some u → SVRep w H pl x u) → _ := fun us hu hp =>
          outL_repG hr hown hro hptr l e1 (fun j x hx => hS j x (by rw [List.getElem?_append_left (List.getElem?_eq_some_iff.1 hx).1]; exact hx)) (cs' := p.1) (k' := p.2) (by rw [h0]) us hu hp
        cases k with
        | zero =>
          simp at hk hc
          subst hk hc
          rw [hl0] at hl; cases hl
          obtain ⟨g1, g2, _⟩ := key us hu hp
          exact ⟨g1, g2⟩
        | succ k =>
          have hk2 : p.2 = m + (j0 + s1.length) := by
            have hus : ∃ us : List Value, cs0.length = us.length ∧ ∀ (j : Nat) (x : SV) (u : Value), cs0[j]? = some x → us[j]? = some u → SVRep w H pl x u := by
              have : ∀ n, n ≤ cs0.length → ∃ us : List Value, us.length = n ∧ ∀ (j : Nat) (x : SV) (u : Value), cs0[j]? = some x → us[j]? = some u → SVRep w H pl x u := fun n => by
                induction n with
                | zero => exact fun _ => ⟨[], rfl, fun j x u _ h => by simp at h⟩
                | succ n ih =>
                  intro hn
                  obtain ⟨us, a1, a2⟩ := ih (by omega)
                  obtain ⟨u, _, _, _, b4⟩ := q3 n cs0[n] (List.getElem?_eq_getElem (by omega))
                  refine ⟨us ++ [u], by simp [a1], fun j x u' hx hu' => ?_⟩
                  by_cases c : j < us.length
                  · rw [List.getElem?_append_left c] at hu'; exact a2 j x u' hx hu'
                  · rw [List.getElem?_append_right (by omega)] at hu'
                    have hlt := (List.getElem?_eq_some_iff.1 hu').1
                    simp at hlt
                    have : j = n := by omega
                    subst this
                    rw [show j - us.length = 0 from by omega] at hu'
                    simp at hu'; subst hu'
                    rw [List.getElem?_eq_getElem (by omega)] at hx; cases hx
                    exact b4
              obtain ⟨us, a1, a2⟩ := this cs0.length (Nat.le_refl _)
              exact ⟨us, a1.symm, a2⟩
            obtain ⟨us, a1, a2⟩ := hus
            exact (key us a1 a2).2.2
          rw [hk2] at h1
          exact boxes_rep hr hown hro hptr e2 (fun j x hx => by
            have := hS (s1.length + j) x (by rw [List.getElem?_append_right (by omega), Nat.add_sub_cancel_left]; exact hx)
            rw [Nat.add_assoc]; exact this) h1 k i cs cs' (by simpa using hk) hl (by simpa using hc) us hu hp
  | [], _ :: _, _, _, _, h, _, _, _, _, _, _, _, _, _, _, _, _ => by cases h
  | none :: _, [], _, _, _, h, _, _, _, _, _, _, _, _, _, _, _, _ => by cases h
  | some _ :: _, [], _, _, _, h, _, _, _, _, _, _, _, _, _, _, _, _ => by cases h
  | none :: _, .arr :: _, _, _, _, h, _, _, _, _, _, _, _, _, _, _, _, _ => by cases h
  | none :: _, .box _ :: _, _, _, _, h, _, _, _, _, _, _, _, _, _, _, _, _ => by cases h
theorem kept_inj : ∀ {gh : List (Option Nat)} {ks : List KD} {k0 k0' : Nat} {kept : List (Option Blk)}, keptOut H LL G gh ks k0 = some kept → (keptIds gh ks).Nodup → ∀ (k k' : Nat) (B B' : Blk) (i : Nat),
    kept[k]? = some (some B) → kept[k']? = some (some B') → gh[k]? = some (some i) → gh[k']? = some (some i) → k = k'
  | [], [], k0, k0', kept, h, hn, k, k', B, B', i, h1, h2, h3, h4 => by simp at h3
  | og :: g, .gone :: ks, k0, k0', kept, h, hn, k, k', B, B', i, h1, h2, h3, h4 => by
    simp only [keptOut, Option.bind_eq_some_iff, Option.some.injEq] at h
    obtain ⟨q, e1, rfl⟩ := h
    have hn : (keptIds g ks).Nodup := by cases og <;> simpa [keptIds] using hn
    cases k with
    | zero => simp at h1
    | succ k => cases k' with
      | zero => simp at h2
      | succ k' => rw [kept_inj (k0' := k0') e1 hn k k' B B' i (by simpa using h1) (by simpa using h2) (by simpa using h3) (by simpa using h4)]
  | some i0 :: g, .arr :: ks, k0, k0', kept, h, hn, k, k', B, B', i, h1, h2, h3, h4 => by
    simp only [keptOut, Option.bind_eq_some_iff, Option.some.injEq] at h
    obtain ⟨b, e0, q, e1, rfl⟩ := h
    have hn : i0 ∉ keptIds g ks ∧ (keptIds g ks).Nodup := by simpa [keptIds] using hn
    have sub : ∀ {k B}, q[k]? = some (some B) → g[k]? = some (some i0) → False := fun {k B} q1 q2 => by
      obtain ⟨i', a1, a2, _⟩ := (keptOut_spec e1).2 k B q1
      rw [q2] at a1; cases a1
      exact hn.1 ((mem_iff _ _).1 a2)
    cases k with
    | zero => cases k' with
      | zero => rfl
      | succ k' => simp at h3; subst h3; exact (sub (by simpa using h2) (by simpa using h4)).elim
    | succ k => cases k' with
      | zero => simp at h4; subst h4; exact (sub (by simpa using h1) (by simpa using h3)).elim
      | succ k' => rw [kept_inj (k0' := k0') e1 hn.2 k k' B B' i (by simpa using h1) (by simpa using h2) (by simpa using h3) (by simpa using h4)]
  | some i0 :: g, .box l :: ks, k0, k0', kept, h, hn, k, k', B, B', i, h1, h2, h3, h4 => by
    simp only [keptOut] at h
    split at h
    · simp only [Option.bind_eq_some_iff, Option.some.injEq] at h
      obtain ⟨b, e0, q, e1, rfl⟩ := h
      have hn : i0 ∉ keptIds g ks ∧ (keptIds g ks).Nodup := by simpa [keptIds] using hn
      have sub : ∀ {k B}, q[k]? = some (some B) → g[k]? = some (some i0) → False := fun {k B} q1 q2 => by
        obtain ⟨i', a1, a2, _⟩ := (keptOut_spec e1).2 k B q1
        rw [q2] at a1; cases a1
        exact hn.1 ((mem_iff _ _).1 a2)
      cases k with
      | zero => cases k' with
        | zero => rfl
        | succ k' => simp at h3; subst h3; exact (sub (by simpa using h2) (by simpa using h4)).elim
      | succ k => cases k' with
        | zero => simp at h4; subst h4; exact (sub (by simpa using h1) (by simpa using h3)).elim
        | succ k' => rw [kept_inj (k0' := k0') e1 hn.2 k k' B B' i (by simpa using h1) (by simpa using h2) (by simpa using h3) (by simpa using h4)]
    · exact nomatch h
  | [], _ :: _, _, _, _, h, _, _, _, _, _, _, _, _, _, _ => by cases h
  | none :: _, [], _, _, _, h, _, _, _, _, _, _, _, _, _, _ => by cases h
  | some _ :: _, [], _, _, _, h, _, _, _, _, _, _, _, _, _, _ => by cases h
  | none :: _, .arr :: _, _, _, _, h, _, _, _, _, _, _, _, _, _, _ => by cases h
  | none :: _, .box _ :: _, _, _, _, h, _, _, _, _, _, _, _, _, _, _ => by cases h
theorem keptOut_mask : ∀ {gh : List (Option Nat)} {ks : List KD} {k0 : Nat} {kept : List (Option Blk)} {j i : Nat}, keptOut H LL G gh ks k0 = some kept → (maskG gh ks)[j]? = some (some i) → ∃ B, kept[j]? = some (some B) ∧ gh[j]? = some (some i)
  | [], _, _, _, j, i, _, h => by simp [maskG] at h
  | og :: g, .gone :: ks, k0, kept, j, i, h, hj => by
    simp only [keptOut, Option.bind_eq_some_iff, Option.some.injEq] at h
    obtain ⟨q, h1, rfl⟩ := h
    cases j with
    | zero => simp [maskG] at hj
    | succ j => simpa using keptOut_mask h1 (by simpa [maskG] using hj)
  | some i0 :: g, .arr :: ks, k0, kept, j, i, h, hj => by
    simp only [keptOut, Option.bind_eq_some_iff, Option.some.injEq] at h
    obtain ⟨b, h0, q, h1, rfl⟩ := h
    cases j with
    | zero => simp [maskG] at hj; subst hj; exact ⟨b, rfl, rfl⟩
    | succ j => simpa using keptOut_mask h1 (by simpa [maskG] using hj)
  | some i0 :: g, .box l :: ks, k0, kept, j, i, h, hj => by
    simp only [keptOut] at h
    split at h
    · simp only [Option.bind_eq_some_iff, Option.some.injEq] at h
      obtain ⟨b, h0, q, h1, rfl⟩ := h
      cases j with
      | zero => simp [maskG] at hj; subst hj; exact ⟨_, rfl, rfl⟩
      | succ j => simpa using keptOut_mask h1 (by simpa [maskG] using hj)
    · exact nomatch h
  | none :: _, [], _, _, _, _, h, _ => by cases h
  | some _ :: _, [], _, _, _, _, h, _ => by cases h
  | none :: _, .arr :: _, _, _, _, _, h, _ => by cases h
  | none :: _, .box _ :: _, _, _, _, _, h, _ => by cases h
theorem posOf_spec {i : Nat} : ∀ {l : List (Option Nat)} {n k : Nat}, posOf i l n = some k → n ≤ k ∧ l[k - n]? = some (some i)
  | none :: l, n, k, h => by
    obtain ⟨h1, h2⟩ := posOf_spec (l := l) (n := n + 1) h
    exact ⟨by omega, by rw [show k - n = (k - (n + 1)) + 1 from by omega]; exact h2⟩
  | some j :: l, n, k, h => by
    simp only [posOf] at h
    cases hj : Nat.beq j i <;> simp only [hj, cond_true, cond_false, Option.some.injEq] at h
    · obtain ⟨h1, h2⟩ := posOf_spec h
      exact ⟨by omega, by rw [show k - n = (k - (n + 1)) + 1 from by omega]; exact h2⟩
    · subst h; exact ⟨Nat.le_refl _, by simp [Nat.eq_of_beq_eq_true hj]⟩
/-- What comes of the end of a function. -/
theorem canonM_sound {st : St} {rt : RT} {o : MOut} {u : Value} (hr : HRel st.heap pl w) (h : canonM rt ks st v = some o) (hv : SVRep w st.heap pl v u) :
    ∃ plM : Pl, HRel o.heap plM w ∧ SVRep w o.heap plM o.v u ∧ plM.base = pl.base ∧ o.kept.length = st.gh.length ∧
      (∀ (k : Nat) (B : Blk), o.kept[k]? = some (some B) → ∃ i B0, st.gh[k]? = some (some i) ∧ look st.heap i = some B0 ∧ plM.hdr k = pl.hdr i ∧ B0.like B) ∧
      (∀ k B p, look o.heap k = some B → plM.fp k p → ∃ i B0, look st.heap i = some B0 ∧ pl.fp i p) := by
  simp only [canonM, Option.bind_eq_some_iff] at h
  obtain ⟨s0, hs0, s1, hs1, h⟩ := h
  generalize hS : s0 ++ s1 = S at h
  generalize hLL : keptIds st.gh ks ++ idsOf S = LL at h
  cases hnd : nodup LL <;> simp only [hnd, cond_true, cond_false, Option.bind_eq_some_iff, Option.some.injEq] at h
  · exact nomatch h
  obtain ⟨news, hnews, p, hp, q, hq, rfl⟩ := h
  have hnd' := nodup_spec hnd
  rw [← hLL, List.nodup_append] at hnd'
  obtain ⟨hk1, hk2⟩ := keptOut_spec hq
  obtain ⟨hb1, hb2⟩ := outBlks_spec hnews
  let o : MOut := ⟨p.1, q, news⟩
  let plM := pl.resM st.gh S
  have hm : o.kept.length = st.gh.length := hk1
  -- the blocks of the end, each with where it comes from
  have origin : ∀ k B, look o.heap k = some B → (k < st.gh.length ∧ q[k]? = some (some B) ∧ ∃ i, st.gh[k]? = some (some i) ∧ mem i (keptIds st.gh ks) = true ∧ plM.hdr k = pl.hdr i ∧ plM.fp k = pl.fp i) ∨
      (st.gh.length ≤ k ∧ ∃ b t oi, S[k - st.gh.length]? = some (b, t, oi) ∧ outBlk st.heap LL (b, t, oi) = some B ∧ plM.hdr k = (pl.res S).hdr (k - st.gh.length) ∧ plM.fp k = (pl.res S).fp (k - st.gh.length)) := fun k B hB => by
    by_cases c : k < st.gh.length
    · rw [o.look_low (by omega)] at hB
      obtain ⟨ob, e1, e2⟩ := Option.bind_eq_some_iff.1 hB
      have e2 : ob = some B := e2
      subst e2
      obtain ⟨i, a1, a2, _⟩ := hk2 k B e1
      exact .inl ⟨c, e1, i, a1, a2, by simp only [plM, Pl.resM, if_pos c, a1], by simp only [plM, Pl.resM, if_pos c, a1]⟩
    · rw [o.look_high (by omega), hm] at hB
      obtain ⟨⟨b, t, oi⟩, e1, e2⟩ := hb2 _ _ hB
      exact .inr ⟨by omega, b, t, oi, e1, e2, by simp only [plM, Pl.resM, if_neg c], by simp only [plM, Pl.resM, if_neg c]⟩
  have srcIn : ∀ {k b t i}, S[k]? = some (b, t, some i) → mem i LL = true := fun {k b t i} h => by
    rw [← hLL, mem_append, (mem_iff i _).2 (mem_idsOf h), Bool.or_true]
  have hro : ∀ d p, hit LL d = false → okd st.heap pl d p → okd o.heap plM [] p := fun d p hd hok => by
    refine ⟨hok.1, fun k B hB _ hf => ?_⟩
    have no : ∀ {i B0}, look st.heap i = some B0 → mem i LL = true → pl.fp i p → False := fun {i B0} hl hi hf => hok.2 i B0 hl (fun hm => by
      have := hit_false LL d hd i hm; rw [hi] at this; exact nomatch this) hf
    rcases origin k B hB with ⟨c, e1, i, a1, a2, _, a4⟩ | ⟨c, b, t, oi, e1, e2, _, a4⟩
    · rw [a4] at hf
      have hi : mem i LL = true := by rw [← hLL, mem_append, a2]; rfl
      obtain ⟨i', a1', _, hor⟩ := hk2 k B e1
      rw [a1] at a1'; cases a1'
      rcases hor with ⟨l, cs, cs', k1, k2, _, hl, _⟩ | ⟨_, ho⟩
      · exact no hl hi hf
      · unfold outArr at ho
        cases hl : look st.heap i with
        | none => rw [hl] at ho; exact nomatch ho
        | some B0 => exact no hl hi hf
    · rw [a4] at hf
      cases oi with
      | none => simp [Pl.res, e1] at hf
      | some i =>
        simp only [Pl.res, e1] at hf
        obtain ⟨sh, xs, hl, _⟩ := outBlk_look e2
        exact no hl (srcIn e1) hf
  have hown : ∀ (k : Nat) (b : Bool) (t : Ty) (v : SV) (u : Value), SVRep w st.heap pl v u → ((∃ i, v = .own i ∧ S[k]? = some (b, t, some i)) ∨ (v = .nilS ∧ S[k]? = some (b, t, none))) → SVRep w o.heap plM (.own (st.gh.length + k)) u := fun k b t v u hv hc => by
    have hget : ∀ {s}, S[k]? = some s → ∃ B, look o.heap (st.gh.length + k) = some B ∧ outBlk st.heap LL s = some B := fun {s} h => by
      have hlt : k < news.length := by rw [hb1]; exact (List.getElem?_eq_some_iff.1 h).1
      obtain ⟨s', h1, h2⟩ := hb2 k _ (List.getElem?_eq_getElem hlt)
      rw [h] at h1; cases h1
      exact ⟨_, by rw [o.look_high (by omega), hm, Nat.add_sub_cancel_left]; exact List.getElem?_eq_getElem hlt, h2⟩
    have eh : plM.hdr (st.gh.length + k) = (pl.res S).hdr k := by simp only [plM, Pl.resM, if_neg (show ¬ st.gh.length + k < st.gh.length by omega), Nat.add_sub_cancel_left]
    rcases hc with ⟨i, rfl, h⟩ | ⟨rfl, h⟩
    · obtain ⟨B, h1, h2⟩ := hget h
      obtain ⟨sh, xs, hl, h3⟩ := outBlk_look h2
      have e : plM.hdr (st.gh.length + k) = pl.hdr i := by rw [eh]; simp only [Pl.res, h]
      cases hv with
      | own _ sh' t' ys hl' =>
        rw [← e]
        rcases h3 with ⟨_, rfl⟩ | ⟨d, _, _, rfl⟩
        · exact .own _ none t xs h1
        · exact .own _ (some []) t xs h1
    · obtain ⟨B, h1, h2⟩ := hget h
      have e : plM.hdr (st.gh.length + k) = .slice none 0 0 := by rw [eh]; simp only [Pl.res, h]
      cases hv with
      | nilS =>
        rw [← e]
        cases b with
        | false => cases h2; exact .own _ none t [] h1
        | true => cases h2; exact .own _ (some []) t [] h1
  have hptr : ∀ i j o' u, posOf i (maskG st.gh ks) 0 = some j → SVRep w st.heap pl (.ptr i 0 o') u → SVRep w o.heap plM (.ptr j 0 o') u := fun i j o' u hj hv => by
    obtain ⟨_, g1⟩ := posOf_spec hj
    rw [Nat.sub_zero] at g1
    obtain ⟨B, g2, g3⟩ := keptOut_mask hq g1
    have hlt : j < st.gh.length := (List.getElem?_eq_some_iff.1 g3).1
    have eh : plM.hdr j = pl.hdr i := by simp only [plM, Pl.resM, if_pos hlt, g3]
    have hl : look o.heap j = some B := by rw [o.look_low (by omega)]; show (q[j]?).bind id = some B; rw [g2]; rfl
    obtain ⟨i', a1', _, hor⟩ := hk2 j B g2
    rw [g3] at a1'; cases a1'
    cases hv with
    | ptrB _ _ cs b m0 hlb hh =>
      rcases hor with ⟨l, cs1, cs', k1, k2, _, hl1, _, rfl⟩ | ⟨_, ho⟩
      · exact .ptrB j o' cs' b m0 hl (eh.trans hh)
      · unfold outArr at ho; rw [hlb] at ho; exact nomatch ho
    | ptrA _ _ _ sh t xs b m0 n cap hlb hx hh =>
      rcases hor with ⟨l, cs1, cs', k1, k2, _, hl1, _, rfl⟩ | ⟨_, ho⟩
      · rw [hlb] at hl1; exact nomatch hl1
      · unfold outArr at ho
        rw [hlb] at ho
        cases sh with
        | none => cases ho; exact .ptrA j 0 o' none t xs b m0 n cap hl hx (eh.trans hh)
        | some d =>
          simp only at ho
          cases hd : hit LL d <;> simp only [hd, cond_true, cond_false] at ho
          · cases ho; exact .ptrA j 0 o' _ t xs b m0 n cap hl hx (eh.trans hh)
          · exact nomatch ho
  have hS0 : ∀ (j : Nat) (x : Bool × Ty × Option Nat), s0[j]? = some x → S[0 + j]? = some x := fun j x hx => by
    rw [← hS, Nat.zero_add, List.getElem?_append_left (List.getElem?_eq_some_iff.1 hx).1]; exact hx
  obtain ⟨r1, r2⟩ := out_repG (m := st.gh.length) hr hown hro hptr rt hs0 hS0 (k := 0) (by rw [Nat.add_zero]; exact hp) hv
  rw [r2, Nat.zero_add] at hq
  have hS1 : ∀ (j : Nat) (x : Bool × Ty × Option Nat), s1[j]? = some x → S[s0.length + j]? = some x := fun j x hx => by
    rw [← hS, List.getElem?_append_right (by omega), Nat.add_sub_cancel_left]; exact hx
  have hbx := boxes_rep hr hown hro hptr hs1 hS1 hq
  refine ⟨plM, ⟨fun k B hB => ?_, fun k k' B B' p h1 h2 f1 f2 => ?_, fun k B p hB hf => ?_, hr.nb⟩, r1, rfl, hk1, fun k B hB => ?_, fun k B p hB hf => ?_⟩
  · rcases origin k B hB with ⟨c, e1, i, a1, a2, ah, af⟩ | ⟨c, b, t, oi, e1, e2, ah, af⟩
    · obtain ⟨i', a1', _, hor⟩ := hk2 k B e1
      rw [a1] at a1'; cases a1'
      rcases hor with ⟨l, cs, cs', k1, k2, _, hl, hol, rfl⟩ | ⟨_, ho⟩
      · obtain ⟨b, off, q1, q2, q3⟩ := hr.blk i _ hl
        have hus : ∃ us : List Value, cs.length = us.length ∧ (∀ (j : Nat) (u : Value), us[j]? = some u → w.at? (b, off + j) = some u ∧ calm (w.ice? (b, off + j)) = true ∧ one u = true) ∧ ∀ (j : Nat) (x : SV) (u : Value), cs[j]? = some x → us[j]? = some u → SVRep w st.heap pl x u := by
          refine ⟨(List.range cs.length).map fun j => (w.at? (b, off + j)).getD undef, by simp, fun j u hu => ?_, fun j x u hx hu => ?_⟩
          · have hj : j < cs.length := by have := (List.getElem?_eq_some_iff.1 hu).1; simpa using this
            obtain ⟨u', g1, g2, g3, g4⟩ := q3 j _ (List.getElem?_eq_getElem hj)
            have : u = u' := by
              rw [List.getElem?_map, List.getElem?_eq_getElem (by simpa using hj)] at hu
              simp [g1] at hu; exact hu.symm
            subst this; exact ⟨g1, g2, g3⟩
          · obtain ⟨u', g1, g2, g3, g4⟩ := q3 j x hx
            have hj : j < cs.length := (List.getElem?_eq_some_iff.1 hx).1
            have : u = u' := by
              rw [List.getElem?_map, List.getElem?_eq_getElem (by simpa using hj)] at hu
              simp [g1] at hu; exact hu.symm
            subst this; exact g4
        obtain ⟨us, u1, u2, u3⟩ := hus
        obtain ⟨g1, g2⟩ := hbx k i cs cs' a1 hl e1 us u1 u3
        refine ⟨b, off, ah.trans q1, fun p => by rw [af, q2, g1, u1], fun j y hy => ?_⟩
        have hj : j < us.length := by rw [← g1]; exact (List.getElem?_eq_some_iff.1 hy).1
        obtain ⟨z1, z2, z3⟩ := u2 j us[j] (List.getElem?_eq_getElem hj)
        exact ⟨us[j], z1, z2, z3, g2 j y _ hy (List.getElem?_eq_getElem hj)⟩
      · unfold outArr at ho
        split at ho
        · rename_i t xs hl
          cases ho
          show Nonempty (Row w (RepD w) t xs (plM.hdr k) (plM.fp k))
          rw [ah, af]; exact hr.blk i _ hl
        · rename_i d t xs hl
          cases hd : hit LL d <;> simp only [hd, cond_true, cond_false] at ho
          · cases ho
            obtain ⟨⟨a, cap, b, q0, vs, fs, q1, q2, q3, q4, q5, q6, q7, q8, q9⟩⟩ := hr.blk i _ hl
            exact ⟨⟨a, cap, b, q0, vs, fs, ah.trans q1, q2, q3, q4, q5, fun i j r hc => ⟨(q6 i j r hc).1.frame fun p u hp hu => ⟨hro d p hd hp, hu⟩, (q6 i j r hc).2⟩, q7, q8, fun p => by rw [af]; exact q9 p⟩⟩
          · exact nomatch ho
        · exact nomatch ho
    · cases oi with
      | none =>
        have e : plM.hdr k = .slice none 0 0 := by rw [ah]; simp only [Pl.res, e1]
        have ef : plM.fp k = fun _ => False := by rw [af]; simp only [Pl.res, e1]
        have := Row.nil (w := w) (t := t) (Inner w o.heap plM (cond b (some []) none))
        rw [← e, ← ef] at this
        cases b with
        | false => cases e2; exact BlkRep.of_rowI this
        | true => cases e2; exact BlkRep.of_rowI this
      | some i =>
        have e : plM.hdr k = pl.hdr i := by rw [ah]; simp only [Pl.res, e1]
        have ef : plM.fp k = pl.fp i := by rw [af]; simp only [Pl.res, e1]
        obtain ⟨sh, xs, hl, h3⟩ := outBlk_look e2
        have hb := hr.blk i _ hl
        rcases h3 with ⟨rfl, rfl⟩ | ⟨d, rfl, hd, rfl⟩
        · show Nonempty (Row w (RepD w) t xs (plM.hdr k) (plM.fp k))
          rw [e, ef]; exact hb
        · obtain ⟨⟨a, cap, b', q0, vs, fs, q1, q2, q3, q4, q5, q6, q7, q8, q9⟩⟩ := hb
          exact ⟨⟨a, cap, b', q0, vs, fs, e.trans q1, q2, q3, q4, q5, fun i j r hc => ⟨(q6 i j r hc).1.frame fun p u hp hu => ⟨hro d p hd hp, hu⟩, (q6 i j r hc).2⟩, q7, q8, fun p => by rw [ef]; exact q9 p⟩⟩
  · have there : ∀ {i k B}, q[k]? = some (some B) → st.gh[k]? = some (some i) → ∃ B0, look st.heap i = some B0 := fun {i k B} e1 a1 => by
      obtain ⟨i', a1', _, hor⟩ := hk2 k B e1
      rw [a1] at a1'; cases a1'
      rcases hor with ⟨l, cs, cs', k1, k2, _, hl, _⟩ | ⟨_, ho⟩
      · exact ⟨_, hl⟩
      · unfold outArr at ho
        cases hl : look st.heap i with
        | none => rw [hl] at ho; exact nomatch ho
        | some B0 => exact ⟨_, rfl⟩
    rcases origin k B h1 with ⟨c, e1, i, a1, a2, _, a4⟩ | ⟨c, b, t, oi, e1, e2, _, a4⟩ <;> rcases origin k' B' h2 with ⟨c', e1', i', a1', a2', _, a4'⟩ | ⟨c', b', t', oi', e1', e2', _, a4'⟩
    · rw [a4] at f1
      rw [a4'] at f2
      obtain ⟨B0, hl⟩ := there e1 a1
      obtain ⟨B0', hl'⟩ := there e1' a1'
      have := hr.dis i i' _ _ p hl hl' f1 f2
      subst this
      exact kept_inj (k0' := 0) hq hnd'.1 k k' B B' i e1 e1' a1 a1'
    · rw [a4] at f1
      rw [a4'] at f2
      cases oi' with
      | none => simp [Pl.res, e1'] at f2
      | some i' =>
        simp only [Pl.res, e1'] at f2
        obtain ⟨B0, hl⟩ := there e1 a1
        obtain ⟨sh, xs, hl', _⟩ := outBlk_look e2'
        have := hr.dis i i' _ _ p hl hl' f1 f2
        subst this
        exact (hnd'.2.2 i ((mem_iff _ _).1 a2) i (mem_idsOf e1') rfl).elim
    · rw [a4] at f1
      rw [a4'] at f2
      cases oi with
      | none => simp [Pl.res, e1] at f1
      | some i =>
        simp only [Pl.res, e1] at f1
        obtain ⟨B0, hl⟩ := there e1' a1'
        obtain ⟨sh, xs, hl', _⟩ := outBlk_look e2
        have := hr.dis i' i _ _ p hl hl' f2 f1
        subst this
        exact (hnd'.2.2 i' ((mem_iff _ _).1 a2') i' (mem_idsOf e1) rfl).elim
    · rw [a4] at f1
      rw [a4'] at f2
      cases oi with
      | none => simp [Pl.res, e1] at f1
      | some i =>
        cases oi' with
        | none => simp [Pl.res, e1'] at f2
        | some i' =>
          simp only [Pl.res, e1] at f1
          simp only [Pl.res, e1'] at f2
          obtain ⟨_, _, hl, _⟩ := outBlk_look e2
          obtain ⟨_, _, hl', _⟩ := outBlk_look e2'
          have := hr.dis i i' _ _ p hl hl' f1 f2
          subst this
          have := idsOf_inj hnd'.2.1 e1 e1'
          omega
  · rcases origin k B hB with ⟨c, e1, i, a1, a2, _, a4⟩ | ⟨c, b, t, oi, e1, e2, _, a4⟩
    · rw [a4] at hf
      obtain ⟨i', a1', _, hor⟩ := hk2 k B e1
      rw [a1] at a1'; cases a1'
      rcases hor with ⟨l, cs, cs', k1, k2, _, hl, _⟩ | ⟨_, ho⟩
      · exact hr.ob i _ p hl hf
      · unfold outArr at ho
        cases hl : look st.heap i with
        | none => rw [hl] at ho; exact nomatch ho
        | some B0 => exact hr.ob i _ p hl hf
    · rw [a4] at hf
      cases oi with
      | none => simp [Pl.res, e1] at hf
      | some i =>
        simp only [Pl.res, e1] at hf
        obtain ⟨_, _, hl, _⟩ := outBlk_look e2
        exact hr.ob i _ p hl hf
  · have hB : q[k]? = some (some B) := hB
    obtain ⟨i, a1, a2, hor⟩ := hk2 k B hB
    have hlt : k < st.gh.length := (List.getElem?_eq_some_iff.1 a1).1
    have ah : plM.hdr k = pl.hdr i := by simp only [plM, Pl.resM, if_pos hlt, a1]
    rcases hor with ⟨l, cs, cs', k1, k2, _, hl, hol, rfl⟩ | ⟨_, ho⟩
    · obtain ⟨b, off, q1, q2, q3⟩ := hr.blk i _ hl
      refine ⟨i, _, a1, hl, ah, ?_⟩
      obtain ⟨g1, _⟩ := hbx k i cs cs' a1 hl hB ((List.range cs.length).map fun j => (w.at? (b, off + j)).getD undef) (by simp) fun j x u hx hu => by
        obtain ⟨u', g1, g2, g3, g4⟩ := q3 j x hx
        have hj : j < cs.length := (List.getElem?_eq_some_iff.1 hx).1
        have : u = u' := by
          rw [List.getElem?_map, List.getElem?_eq_getElem (by simpa using hj)] at hu
          simp [g1] at hu; exact hu.symm
        subst this; exact g4
      show cs.length = cs'.length
      rw [g1]; simp
    · unfold outArr at ho
      split at ho
      · rename_i t xs hl; cases ho; exact ⟨i, _, a1, hl, ah, ⟨rfl, rfl⟩⟩
      · rename_i d t xs hl
        cases hd : hit LL d <;> simp only [hd, cond_true, cond_false] at ho
        · cases ho; exact ⟨i, _, a1, hl, ah, ⟨rfl, rfl⟩⟩
        · exact nomatch ho
      · exact nomatch ho
  · rcases origin k B hB with ⟨c, e1, i, a1, a2, _, a4⟩ | ⟨c, b, t, oi, e1, e2, _, a4⟩
    · rw [a4] at hf
      obtain ⟨i', a1', _, hor⟩ := hk2 k B e1
      rw [a1] at a1'; cases a1'
      rcases hor with ⟨l, cs, cs', k1, k2, _, hl, _⟩ | ⟨_, ho⟩
      · exact ⟨i, _, hl, hf⟩
      · unfold outArr at ho
        cases hl : look st.heap i with
        | none => rw [hl] at ho; exact nomatch ho
        | some B0 => exact ⟨i, _, hl, hf⟩
    · rw [a4] at hf
      cases oi with
      | none => simp [Pl.res, e1] at hf
      | some i =>
        simp only [Pl.res, e1] at hf
        obtain ⟨_, _, hl, _⟩ := outBlk_look e2
        exact ⟨i, _, hl, hf⟩
end
theorem Act.put_self (a : Act) (t : Nat) : a.put (some t) (a.tmps.getD t undef) = a := by
  unfold Act.put
  have : a.tmps.setIfInBounds t (a.tmps.getD t undef) = a.tmps := by
    apply Array.ext_getElem?
    intro i
    rw [Array.getElem?_setIfInBounds]
    by_cases e : t = i
    · subst e
      rw [if_pos rfl]
      by_cases h : t < a.tmps.size
      · rw [if_pos h, Array.getD_eq_getD_getElem?, Array.getElem?_eq_getElem h]; rfl
      · rw [if_neg h, Array.getElem?_eq_none (by omega)]
    · rw [if_neg e]
  show ({ a with tmps := a.tmps.setIfInBounds t (a.tmps.getD t undef) } : Act) = a
  rw [this]
theorem truncAt_rl {w0 : World} {fp0 : G0} {bs : Cell → Prop} {m : Nat} {st st' : St} {a : Act} {w : World} {t : Nat} (h : Rl w0 fp0 bs m st a w) (ht : truncAt t st = some st') : Rl w0 fp0 bs m st' a w := by
  unfold truncAt at ht
  split at ht
  · rename_i i n hslot
    split at ht
    · rename_i sh ty xs hl
      cases hmi : mem i (sh.getD []) <;> rw [hmi] at ht
      rotate_left
      · exact nomatch ht
      rw [cond_false] at ht
      obtain ⟨pl, hR, hb, hn⟩ := h
      have hv := hR.sl t _ hslot
      obtain ⟨⟨a0, cap, b, o, vs, fs, q1, q2, q3, q4, q5, q6, q7, q8, q9⟩⟩ := (hR.hr.blk i _ hl).rowI
      have hu : ∃ a', a.tmps.getD t undef = .slice a' n cap ∧ (cap = 0 ∨ a' = some ⟨b, o, none⟩) ∧ n ≤ xs.length := by
        generalize a.tmps.getD t undef = u at hv
        cases hv with
        | sub _ _ _ sh2 t2 xs2 a1 a2 cap1 cap2 hl2 hh hn1 hc hc' ha =>
          rw [hl] at hl2; cases hl2
          rw [q1] at hh; cases hh
          have hcc : cap2 = cap := by omega
          subst hcc
          refine ⟨a2, rfl, ?_, by omega⟩
          rcases ha with h | h
          · exact .inl h
          · rcases q3 with h' | h'
            · exact .inl h'
            · exact .inr (by rw [h, h']; simp [Addr.add])
      obtain ⟨a', hu, ha', hnx⟩ := hu
      have htake := ht
      simp only [St.take, Option.bind_eq_some_iff, Option.some.injEq] at htake
      obtain ⟨h1, e1, s, h2, rfl⟩ := htake
      have hfresh : look st.heap st.nid = none := hR.fresh st.nid (Nat.le_refl _)
      have hlen : (xs.take n).length = n := by rw [List.length_take]; omega
      have hT : Turned st.heap (h1 ++ newsH st.nid [.arr sh ty (xs.take n)]) ([i], [i]) st.nid (.arr sh ty (xs.take n)) :=
        turned_new (T := ([i], [i])) (fun k hk => hk) e1 hfresh (sweepH'_all (T := ([i], [i])) (fun k hk => hk) e1)
      have hmm : mem i [i] = true := by simp [mem]
      have hin : ∀ {i' j r}, cellIn ty (xs.take n) i' j r → cellIn ty xs i' j r := fun {i' j r} hx => by
        obtain ⟨x, hx1, hx2⟩ := hx
        have hlt := (List.getElem?_eq_some_iff.1 hx1).1
        rw [hlen] at hlt
        exact ⟨x, by rw [List.getElem?_take, if_pos hlt] at hx1; exact hx1, hx2⟩
      have hst := turn_step (hdr := a.tmps.getD t undef) (fp := fun p => reg b o (cap * ty.sz) p ∨ ∃ i' j r, cellIn ty (xs.take n) i' j r ∧ fs i' j p) (Grown.refl w) hR.hr hT (fun k hk => hk) (fun k hk => .inl hk) (.inl hfresh) (fun p u hp _ => ⟨hp, rfl⟩)
        (fun p hp => hR.hr.nb p hp) (fun p hp => .inr ⟨i, _, hmm, hl, (q9 p).2 (hp.elim .inl fun ⟨i', j, r, hx, hf⟩ => .inr ⟨i', j, r, hin hx, hf⟩)⟩) (fun hk => BlkRep.of_rowI ⟨a', cap, b, o, vs, fs, by simp [Pl.set, hu, hlen], by rw [hlen]; omega, ha', q4, fun i' j r hx => q5 i' j r (hin hx), fun i' j r hx => by
          have hI := q6 i' j r (hin hx)
          cases sh with
          | none => exact hI
          | some d =>
            refine ⟨hI.1.frame fun p u hp hu => hk.k2 d p u (fun x hx => ?_) hp hu, hI.2⟩
            have hmi : mem i d = false := hmi
            show mem x [i] = false
            simp only [mem]
            cases hb : Nat.beq i x
            · rfl
            · have := Nat.eq_of_beq_eq_true hb
              subst this
              rw [hmi] at hx; exact (nomatch hx), fun i' j r p hx hf => q7 i' j r p (hin hx) hf, fun i' j r i2 j2 r2 p hx hx' hf hf' => q8 _ _ _ _ _ _ p (hin hx) (hin hx') hf hf', fun p => by simp [Pl.set]⟩)
      have hres := Rel.take hR ht (fun k B hB => by simp [look] at hB) hst (u := a.tmps.getD t undef) (by
        have := SVRep.own (w := w) (H := h1 ++ newsH st.nid [.arr sh ty (xs.take n)]) (pl := pl.set st.nid (a.tmps.getD t undef) fun p => reg b o (cap * ty.sz) p ∨ ∃ i' j r, cellIn ty (xs.take n) i' j r ∧ fs i' j p) st.nid sh ty (xs.take n) hT.at_n
        simpa [Pl.set] using this)
      rw [Act.put_self] at hres
      exact ⟨_, hres, hb, hn⟩
    · cases ht; exact h
  · cases ht; exact h
theorem truncT_rl {w0 : World} {fp0 : G0} {bs : Cell → Prop} {m : Nat} {fn : Func} {rt : RT} {st st' : St} {a : Act} {w : World} (h : Rl w0 fp0 bs m st a w) (ht : truncT fn rt st = some st') : Rl w0 fp0 bs m st' a w := by
  unfold truncT at ht
  split at ht
  · exact truncAt_rl h ht
  · exact truncAt_rl h ht
  · cases ht; exact h
/-- THE CONTRACT, out of the evaluator. -/
theorem mut_of_ev {ρ : Type} {E : Env} (hE : EnvOk E) {LP : Nat → Ev ρ → Ev ρ} {g : FuncId} {fn : Func} {c : Code} {args : List SV} {bs : List Blk} {r : ρ} {dec : MOut → Option ρ} {enc : ρ → MOut} (hd : ∀ o r, dec o = some r → o = enc r)
    (hlen : (enc r).kept.length = bs.length) (hf : E.P.funcs[g]? = some fn) (hc : fn.body = some c)
    (hnm : (fn.name == "runtime.NumGoroutine") = false) (hn : Nat.ble args.length fn.ntmps = true) (hLP : LPGood E LP 0 c) {rt : RT} {ks : List KD} (h : ev E LP 0 c (st0M fn args bs) (finM E.P fn rt ks dec) = some r) : MutCalls E.P g args bs (enc r) := by
  generalize ho : enc r = out at hlen
  refine ⟨enters_of hf (by rw [hc]; rfl) hnm, hlen, fun w us pl hrel0 hl hargs => ?_⟩
  have hn := Nat.le_of_ble_eq_true hn
  refine calls_of_wp hf hc ?_
  let g0 : G0 := ⟨fun p => ∃ k B, look (newsH 0 bs) k = some B ∧ pl.fp k p, pl.hdr, fun k => bs.getD k (.box [])⟩
  have hrel : Rl w g0 pl.base fn.ntmps (st0M fn args bs) { tmps := us ++ Array.replicate (fn.ntmps - us.size) undef, defers := [] } w := by
    refine ⟨pl, ⟨hrel0, fun t v hv => ?_, by simp [st0M]; omega, rfl, fun i hi => newsH_high (by show 0 + bs.length ≤ i; have hi : bs.length ≤ i := hi; omega), Grown.refl w, fun p u hp hno => ⟨fun i B hB hf => hno ⟨i, B, hB, hf⟩, hp, rfl⟩, fun k i hk => ?_⟩, rfl, rfl⟩
    · simp only [st0M] at hv
      rw [look_slotsM, if_pos (Nat.zero_le _), Nat.sub_zero] at hv
      have ht : t < us.size := by rw [← hl]; exact (List.getElem?_eq_some_iff.1 hv).1
      have hg : (us ++ Array.replicate (fn.ntmps - us.size) undef).getD t undef = us[t] := by
        rw [Array.getD_eq_getD_getElem?, Array.getElem?_append_left ht, Array.getElem?_eq_getElem ht]; rfl
      rw [hg]
      exact hargs t v _ hv (Array.getElem?_eq_getElem ht)
    · obtain ⟨rfl, h2⟩ := rangeG_get bs.length 0 k hk
      rw [Nat.zero_add]
      refine ⟨h2, fun B hB => ⟨rfl, ?_⟩⟩
      have hB : look (newsH 0 bs) k = some B := hB
      rw [look_newsH, if_pos (Nat.zero_le _), Nat.sub_zero] at hB
      show (bs.getD k (.box [])).like B
      rw [List.getD_eq_getElem?_getD, hB]; exact B.like_refl
  refine ev_sound hE c 0 hLP w g0 pl.base fn.ntmps _ _ w _ r _ hrel h fun e st' a' w' hK hr'' => ?_
  have key : ∀ st', Rl w g0 pl.base fn.ntmps st' a' w' → ∀ v, finV E.P fn st' = some v → canonM rt ks st' v = some out → a'.defers = [] ∧ ∃ u, (results fn a'.tmps).run E.P w' = .ok u w' ∧ ∃ u' pl', Ending.returned u = .returned u' ∧ HRel out.heap pl' w' ∧ SVRep w' out.heap pl' out.v u' ∧ pl'.base = pl.base ∧ Grown w w' ∧
      (∀ (k : Nat) (B : Blk), out.kept[k]? = some (some B) → pl'.hdr k = pl.hdr k ∧ ∃ B0, bs[k]? = some B0 ∧ B0.like B) ∧
      (∀ p u, w.at? p = some u → (∀ k B, look (newsH 0 bs) k = some B → ¬ pl.fp k p) → (∀ k B, look out.heap k = some B → ¬ pl'.fp k p) ∧ w'.at? p = some u ∧ w'.ice? p = w.ice? p) := fun st' hr' v hv hcn => by
    obtain ⟨pl1, hr, hb, _⟩ := hr'
    obtain ⟨u, hu, hvr⟩ := finV_rep (P := E.P) hr.hr hr.sl hv
    obtain ⟨plM, m1, m2, m3, m4, m5, m6⟩ := canonM_sound hr.hr hcn hvr
    refine ⟨hr.df, u, hu, u, plM, rfl, m1, m2, m3.trans hb, hr.gr, fun k B hB => ?_, fun p u hp hno => ?_⟩
    · obtain ⟨i, B0, a1, a2, a3, a4⟩ := m5 k B hB
      obtain ⟨_, t2⟩ := hr.gk k i a1
      obtain ⟨t3, t4⟩ := t2 B0 a2
      have hk : k < bs.length := by rw [← hlen]; exact (List.getElem?_eq_some_iff.1 hB).1
      refine ⟨a3.trans t3, bs[k], List.getElem?_eq_getElem hk, ?_⟩
      have t4 : (bs.getD k (.box [])).like B0 := t4
      rw [List.getD_eq_getElem?_getD, List.getElem?_eq_getElem hk] at t4
      exact Blk.like_trans t4 a4
    · obtain ⟨f1, f2, f3⟩ := hr.fr p u hp fun ⟨k, B, hB, hf⟩ => hno k B hB hf
      exact ⟨fun k B hB hf => by
        obtain ⟨i, B0, q1, q2⟩ := m6 k B p hB hf
        exact f1 i B0 q1 q2, f2, f3⟩
  cases e with
  | exit j => exact nomatch hK
  | normal =>
    simp only [finM, Option.bind_eq_some_iff] at hK
    obtain ⟨st2, hst2, v, hv, o, hcn, hdec⟩ := hK
    exact key st2 (truncT_rl hr'' hst2) v hv (hcn.trans (congrArg some ((hd o r hdec).trans ho)))
  | ret =>
    simp only [finM, Option.bind_eq_some_iff] at hK
    obtain ⟨st2, hst2, v, hv, o, hcn, hdec⟩ := hK
    exact key st2 (truncT_rl hr'' hst2) v hv (hcn.trans (congrArg some ((hd o r hdec).trans ho)))
end Go.Proofs.Ev

set_option linter.unusedVariables false
namespace Go.Proofs.Ev
variable [Tok]
set_option linter.unusedSectionVars false
def plainV : SV → Bool
  | .r _ (.int _ _) => true
  | .r _ (.bool _) => true
  | .r _ (.str _) => true
  | _ => false
def plainL : List SV → Bool
  | [] => true
  | v :: l => cond (plainV v) (plainL l) false
theorem plainL_mem : ∀ {l : List SV}, plainL l = true → ∀ v ∈ l, plainV v = true
  | [], _, v, hv => nomatch hv
  | x :: l, h, v, hv => by
    simp only [plainL] at h
    cases hx : plainV x <;> simp only [hx, cond_true, cond_false] at h
    · exact nomatch h
    · rcases List.mem_cons.1 hv with rfl | hv
      · exact hx
      · exact plainL_mem h v hv
theorem plain_rep {w w' : World} {H H' : Heap} {pl pl' : Pl} {v : SV} {u : Value} (h : plainV v = true) (hv : SVRep w H pl v u) : SVRep w' H' pl' v u := by
  cases hv with
  | r d x _ hx => cases hx with
    | int => exact .r _ _ _ (.int _ _)
    | bool => exact .r _ _ _ (.bool _)
    | str => exact .r _ _ _ (.str _)
    | tok => first | exact .r _ _ _ (.tok _) | exact nomatch h
    | sl => exact nomatch h
  | _ => exact nomatch h
/-- The call on the inner slice alone; the element is put together behind it. -/
def innOrc (o : Orc) : Orc := fun ρ nid vs h K => match vs with
  | .inn i x c :: rest => cond (plainL rest) (match look h i with
    | some (.arr none t xs) => (xs[x]?).bind fun e => match (t.cells e)[c]? with
      | some (.sl t' ys) => o ρ nid (.own i :: rest) [(i, .arr none t' ys)] fun q =>
        cond (plainV q.v && (isNil q.news && isNil q.gone)) (match q.upd with
          | [(_, .arr none t2 zs)] => if he : t2 = t' then (t.ofCells ((t.cells e).take c ++ [.sl t' (he ▸ zs)] ++ (t.cells e).drop (c + 1))).bind fun y => K { v := q.v, upd := [(i, .arr none t (xs.set x y))], dirty := [i] } else none
          | _ => none) none
      | _ => none
    | _ => none) none
  | _ => o ρ nid vs h K
section
variable {w w' : World} {H H' : Heap} {pl : Pl}
theorem inn_step {i x c cap b o : Nat} {t t' : Ty} {xs : List t.El} {e y : t.El} {ys zs : List t'.El} {vs : Nat → Nat → Value} {fs : Nat → Nat → Cell → Prop} {T2 : Kil} {pl2 pl2' : Pl}
    (hr : HRel H pl w) (hli : look H i = some (.arr none t xs)) (hx : xs[x]? = some e) (hc : (t.cells e)[c]? = some (.sl t' ys)) (hy : t.cells y = (t.cells e).take c ++ [.sl t' zs] ++ (t.cells e).drop (c + 1))
    (hh : pl.hdr i = .slice (some ⟨b, o, none⟩) xs.length cap) (h2 : xs.length ≤ cap) (h4 : ∀ j, j < cap * t.sz → (∃ v, w.at? (b, o + j) = some v) ∧ whole (w.ice? (b, o + j)) o (cap * t.sz) = true)
    (h5 : ∀ i j r, cellIn t xs i j r → w.at? (b, o + (i * t.sz + j)) = some (vs i j)) (h6 : ∀ i j r, cellIn t xs i j r → RepD w r (vs i j) (fs i j))
    (h7 : ∀ i j r p, cellIn t xs i j r → fs i j p → ¬ reg b o (cap * t.sz) p) (h8 : ∀ i j r i' j' r' p, cellIn t xs i j r → cellIn t xs i' j' r' → fs i j p → fs i' j' p → i = i' ∧ j = j')
    (h9 : ∀ p, pl.fp i p ↔ reg b o (cap * t.sz) p ∨ ∃ i j r, cellIn t xs i j r ∧ fs i j p)
    (hb2 : pl2.base = pl.base) (hf2 : pl2.fp i = fs x c) (hd2 : pl2.hdr i = vs x c) (hg2 : mem i T2.1 = false) (hst : StepTo [(i, .arr none t' ys)] [(i, .arr none t' zs)] T2 pl2 pl2' w w')
    (ht : Turned H H' ([], [i]) i (.arr none t (xs.set x y))) : ∃ pl', StepTo H H' ([], [i]) pl pl' w w' := by
  have hxl : x < xs.length := (List.getElem?_eq_some_iff.1 hx).1
  have hcl : c < t.sz := by rw [← Ty.cells_length t e]; exact (List.getElem?_eq_some_iff.1 hc).1
  have hcell : cellIn t xs x c (.sl t' ys) := ⟨e, hx, hc⟩
  have hl1 : ∀ {t' : Ty} {ys : List t'.El} {j B}, look [(i, Blk.arr none t' ys)] j = some B → j = i ∧ B = .arr none t' ys := fun {t' ys j B} h => by
    rw [look_cons] at h
    by_cases e : i = j
    · rw [if_pos e] at h; cases h; exact ⟨e.symm, rfl⟩
    · rw [if_neg e] at h; exact nomatch h
  have hout : ∀ p u, w.at? p = some u → ¬ fs x c p → ¬ pl2'.fp i p ∧ w'.at? p = some u ∧ w'.ice? p = w.ice? p := fun p u hp hn => by
    obtain ⟨g1, g2⟩ := hst.fr p u hp fun j B hB hf => by
      obtain ⟨rfl, _⟩ := hl1 hB
      rw [hf2] at hf; exact hn hf
    exact ⟨g1 i _ (by rw [look_cons, if_pos rfl]), g2⟩
  have hfsin : ∀ p, fs x c p → pl.fp i p := fun p hp => (h9 p).2 (.inr ⟨_, _, _, hcell, hp⟩)
  have hmem : ∀ j, mem j [i] = true → j = i := fun j hj => by
    simp only [mem] at hj
    cases hb : Nat.beq i j <;> simp only [hb, cond_true, cond_false] at hj
    · exact nomatch hj
    · exact (Nat.eq_of_beq_eq_true hb).symm
  have hmi : mem i [i] = true := by simp [mem]
  have hnew : ∀ p, pl2'.fp i p → ∃ u, w'.at? p = some u := fun p hp => hst.hr.own_there i _ p (by rw [look_cons, if_pos rfl]) hp
  refine ⟨_, turn_step (hdr := pl.hdr i) (fp := fun p => (pl.fp i p ∧ ¬ fs x c p) ∨ pl2'.fp i p) hst.gr hr ht (fun j hj => nomatch hj) (fun j hj => .inr (hmem j hj)) (.inr ⟨_, hli, hmi, ⟨rfl, by simp⟩, rfl⟩)
    (fun p u hp hno => (hout p u hp fun hf => hno i _ hmi hli (hfsin p hf)).2) (fun p hp => ?_) (fun p hp => ?_) fun hk => ?_⟩
  · have := hst.hr.nb p hp
    rw [hst.bs, hb2] at this; exact this
  · rcases hp with hp | hp
    · exact .inr ⟨i, _, hmi, hli, hp.1⟩
    · cases hq : w.at? p with
      | none => exact .inl rfl
      | some u =>
        by_cases hf : fs x c p
        · exact .inr ⟨i, _, hmi, hli, hfsin p hf⟩
        · exact ((hout p u hq hf).1 hp).elim
  · have hsplit : ∀ {i' j r}, cellIn t (xs.set x y) i' j r → (i' = x ∧ j = c ∧ r = .sl t' zs) ∨ (¬ (i' = x ∧ j = c) ∧ cellIn t xs i' j r) := fun {i' j r} h => by
      obtain ⟨z, hz, hzj⟩ := h
      by_cases e1 : i' = x
      · subst e1
        rw [List.getElem?_set_self hxl] at hz
        cases hz
        rw [hy] at hzj
        have hto : ((t.cells e).take c).length = c := by rw [List.length_take, Ty.cells_length]; omega
        by_cases c1 : j < c
        · rw [List.append_assoc, List.getElem?_append_left (by omega), List.getElem?_take, if_pos c1] at hzj
          exact .inr ⟨fun h => by omega, e, hx, hzj⟩
        · by_cases c2 : j = c
          · subst c2
            rw [List.append_assoc, List.getElem?_append_right (by omega), hto, Nat.sub_self] at hzj
            cases hzj
            exact .inl ⟨rfl, rfl, rfl⟩
          · rw [List.append_assoc, List.getElem?_append_right (by omega), hto, List.getElem?_append_right (by simp; omega), List.getElem?_drop] at hzj
            simp only [List.length_singleton] at hzj
            rw [show c + 1 + (j - c - 1) = j from by omega] at hzj
            exact .inr ⟨fun h => c2 h.2, e, hx, hzj⟩
      · rw [List.getElem?_set_ne (fun e => e1 e.symm)] at hz
        exact .inr ⟨fun h => e1 h.1, z, hz, hzj⟩
    have hback : ∀ {i' j r}, cellIn t xs i' j r → ∃ r', cellIn t (xs.set x y) i' j r' := fun {i' j r} h => by
      obtain ⟨a1, a2⟩ := cellIn_lt h
      exact cellIn_of (by simpa using a1) a2
    have hreg0 : ∀ p, reg b o (cap * t.sz) p → ¬ fs x c p := fun p hp hf => h7 _ _ _ p hcell hf hp
    have hsl : RepD w' (.sl t' zs) (vs x c) (pl2'.fp i) := by
      have h1 := hst.hr.blk i _ (by rw [look_cons, if_pos rfl] : look [(i, Blk.arr none t' zs)] i = some (.arr none t' zs))
      obtain ⟨_, _, _, h3⟩ := hst.kp.k1 i _ (by rw [look_cons, if_pos rfl]) hg2
      rw [← hd2, ← h3]
      obtain ⟨R⟩ := h1
      exact R.repD
    have e1 : (pl.set i (pl.hdr i) fun p => (pl.fp i p ∧ ¬ fs x c p) ∨ pl2'.fp i p).hdr i = pl.hdr i := by simp [Pl.set]
    have e2 : (pl.set i (pl.hdr i) fun p => (pl.fp i p ∧ ¬ fs x c p) ∨ pl2'.fp i p).fp i = fun p => (pl.fp i p ∧ ¬ fs x c p) ∨ pl2'.fp i p := by simp [Pl.set]
    show Nonempty (Row w' (RepD w') t (xs.set x y) ((pl.set i (pl.hdr i) fun p => (pl.fp i p ∧ ¬ fs x c p) ∨ pl2'.fp i p).hdr i) ((pl.set i (pl.hdr i) fun p => (pl.fp i p ∧ ¬ fs x c p) ∨ pl2'.fp i p).fp i))
    rw [e1, e2]
    refine ⟨⟨some ⟨b, o, none⟩, cap, b, o, vs, fun i' j => if i' = x ∧ j = c then pl2'.fp i else fs i' j, by rw [hh, List.length_set], by rw [List.length_set]; exact h2, .inr rfl, fun j hj => ?_, fun i' j r h => ?_, fun i' j r h => ?_, fun i' j r p h hf => ?_, fun i' j r i'' j' r' p h h' hf hf' => ?_, fun p => ?_⟩⟩
    · obtain ⟨⟨v, hv⟩, hi⟩ := h4 j hj
      obtain ⟨_, g1, g2⟩ := hout _ v hv (hreg0 _ ⟨rfl, by simp, by simp; omega⟩)
      exact ⟨⟨v, g1⟩, by rw [g2]; exact hi⟩
    · obtain ⟨a1, a2⟩ := cellIn_lt h
      rw [List.length_set] at a1
      obtain ⟨r0, hr0⟩ := cellIn_of a1 a2
      exact (hout _ _ (h5 _ _ _ hr0) (hreg0 _ ⟨rfl, by simp, by have := off_lt a1 a2 h2; simp; omega⟩)).2.1
    · rcases hsplit h with ⟨rfl, rfl, rfl⟩ | ⟨hne, h⟩
      · rw [if_pos ⟨rfl, rfl⟩]; exact hsl
      · rw [if_neg hne]
        refine (h6 _ _ _ h).frame fun p u hp hu => (hout p u hu fun hf => hne ?_).2
        exact h8 _ _ _ _ _ _ p h hcell hp hf
    · rcases hsplit h with ⟨rfl, rfl, rfl⟩ | ⟨hne, h⟩
      · rw [if_pos ⟨rfl, rfl⟩] at hf
        intro hre
        obtain ⟨p1, p2⟩ := p
        obtain ⟨q1, q2, q3⟩ := hre
        simp only at q1 q2 q3
        subst q1
        obtain ⟨⟨v, hv⟩, _⟩ := h4 (p2 - o) (by omega)
        rw [show o + (p2 - o) = p2 from by omega] at hv
        exact (hout _ v hv (hreg0 _ ⟨rfl, q2, q3⟩)).1 hf
      · rw [if_neg hne] at hf; exact h7 _ _ _ p h hf
    · have cross : ∀ {i' j r}, ¬ (i' = x ∧ j = c) → cellIn t xs i' j r → fs i' j p → pl2'.fp i p → False := fun {i' j r} hne h hf hf' => by
        obtain ⟨u, hu⟩ := (h6 _ _ _ h).there p hf
        exact (hout p u hu fun hq => hne (h8 _ _ _ _ _ _ p h hcell hf hq)).1 hf'
      rcases hsplit h with ⟨rfl, rfl, rfl⟩ | ⟨hne, hc1⟩ <;> rcases hsplit h' with ⟨rfl, rfl, rfl⟩ | ⟨hne', hc2⟩
      · exact ⟨rfl, rfl⟩
      · rw [if_pos ⟨rfl, rfl⟩] at hf
        rw [if_neg hne'] at hf'
        exact (cross hne' hc2 hf' hf).elim
      · rw [if_pos ⟨rfl, rfl⟩] at hf'
        rw [if_neg hne] at hf
        exact (cross hne hc1 hf hf').elim
      · rw [if_neg hne] at hf
        rw [if_neg hne'] at hf'
        exact h8 _ _ _ _ _ _ p hc1 hc2 hf hf'
    · constructor
      · rintro (⟨hp, hn⟩ | hp)
        · rcases (h9 p).1 hp with hp | ⟨i', j, r, h, hf⟩
          · exact .inl hp
          · have hne : ¬ (i' = x ∧ j = c) := fun ⟨q1, q2⟩ => by subst q1 q2; exact hn hf
            obtain ⟨r', h'⟩ := hback h
            exact .inr ⟨i', j, r', h', by rw [if_neg hne]; exact hf⟩
        · obtain ⟨r', h'⟩ := hback hcell
          exact .inr ⟨x, c, r', h', by rw [if_pos ⟨rfl, rfl⟩]; exact hp⟩
      · rintro (hp | ⟨i', j, r, h, hf⟩)
        · exact .inl ⟨(h9 p).2 (.inl hp), hreg0 p hp⟩
        · rcases hsplit h with ⟨rfl, rfl, rfl⟩ | ⟨hne, h⟩
          · rw [if_pos ⟨rfl, rfl⟩] at hf; exact .inr hf
          · rw [if_neg hne] at hf
            exact .inl ⟨(h9 p).2 (.inr ⟨_, _, _, h, hf⟩), fun hq => hne (h8 _ _ _ _ _ _ p h hcell hf hq)⟩
end
theorem innOrc_ok {P : Program} {g : FuncId} {o : Orc} (ho : OrcOk P g o) : OrcOk P g (innOrc o) := by
  intro ρ nid vs H K out hK
  unfold innOrc at hK
  split at hK
  case h_2 => exact ho ρ nid _ H K _ hK
  rename_i i x c rest
  cases hpl : plainL rest <;> simp only [hpl, cond_true, cond_false] at hK
  · exact nomatch hK
  split at hK
  case h_2 => exact nomatch hK
  rename_i t xs hli
  simp only [Option.bind_eq_some_iff] at hK
  obtain ⟨e, hx, hK⟩ := hK
  split at hK
  case h_2 => exact nomatch hK
  rename_i t' ys hc
  obtain ⟨q, hq, hen, hup, hcall⟩ := ho ρ nid _ _ _ _ hK
  cases hpv : (plainV q.v && (isNil q.news && isNil q.gone)) <;> simp only [hpv, cond_true, cond_false] at hq
  · exact nomatch hq
  simp only [Bool.and_eq_true] at hpv
  obtain ⟨hpv, hnw, hgn⟩ := hpv
  have hnw := isNil_eq hnw
  have hgn := isNil_eq hgn
  split at hq
  case h_2 => exact nomatch hq
  rename_i i' t2 zs hqu
  split at hq
  case isFalse => exact nomatch hq
  rename_i het
  subst het
  simp only [Option.bind_eq_some_iff] at hq
  obtain ⟨y, hy, hK⟩ := hq
  have hy := Ty.ofCells_spec _ _ _ hy
  have hii : i' = i := by
    obtain ⟨B', hB'⟩ := hup i' _ (by rw [hqu, look_cons, if_pos rfl])
    rw [look_cons] at hB'
    by_cases e : i = i'
    · exact e.symm
    · rw [if_neg e] at hB'; exact nomatch hB'
  subst hii
  refine ⟨_, hK, hen, fun j B hB => ?_, fun H1 pl w us he hr hn hl hp H' ha => ?_⟩
  · rw [look_cons] at hB
    by_cases e : i' = j
    · subst e; exact ⟨_, hli⟩
    · rw [if_neg e] at hB; exact nomatch hB
  have hli1 := he _ _ hli
  obtain ⟨u0, hu0⟩ : ∃ u0, us[0]? = some u0 := ⟨us[0]'(by rw [← hl]; simp), by simp⟩
  have hi0 := hp 0 _ u0 rfl hu0
  cases hi0 with
  | inn _ _ _ sh t1 xs1 b o n cap _ hl1 hx1 hc1 hh hok hat hone =>
    rw [hli1] at hl1; cases hl1
    obtain ⟨⟨a', cap', b', o', vs, fs, h1, h2, h3, h4, h5, h6, h7, h8, h9⟩⟩ := hr.blk _ _ hli1
    rw [hh] at h1; cases h1
    have h3 := h3.resolve_left (by omega)
    cases h3
    have hcell : cellIn t xs x c (.sl t2 ys) := ⟨e, hx, hc⟩
    have hu : u0 = vs x c := by rw [h5 _ _ _ hcell] at hat; cases hat; rfl
    subst hu
    let pl2 : Pl := ⟨fun _ => vs x c, fun _ => fs x c, pl.base⟩
    have hl1 : ∀ {j B}, look [(i', Blk.arr none t2 ys)] j = some B → j = i' ∧ B = .arr none t2 ys := fun {j B} h => by
      rw [look_cons] at h
      by_cases e : i' = j
      · rw [if_pos e] at h; cases h; exact ⟨e.symm, rfl⟩
      · rw [if_neg e] at h; exact nomatch h
    have hr2 : HRel [(i', .arr none t2 ys)] pl2 w := by
      refine ⟨fun j B hB => ?_, fun j k B B' p q1 q2 _ _ => ?_, fun j B p hB hf => ?_, hr.nb⟩
      · obtain ⟨rfl, rfl⟩ := hl1 hB
        exact (h6 _ _ _ hcell).row
      · rw [(hl1 q1).1, (hl1 q2).1]
      · exact hr.ob _ _ p hli1 ((h9 p).2 (.inr ⟨_, _, _, hcell, hf⟩))
    have haf : after [(i', .arr none t2 ys)] nid q = some [(i', .arr none t2 zs)] := by
      unfold after
      rw [hqu, hnw]
      have : upds [(i', Blk.arr none t2 zs)] [(i', Blk.arr none t2 ys)] = [(i', .arr none t2 zs)] := by simp [upds, put]
      rw [this]
      have : sweepH' q.kil [(i', Blk.arr none t2 zs)] = some [(i', .arr none t2 zs)] := by
        unfold sweepH'
        split
        · rfl
        · simp [sweepH, CR.kil, hgn, mem, Blk.sweep]
      rw [this]
      simp [newsH]
    refine (hcall _ pl2 w us .rfl' hr2 (fun k hk => by rw [hnw] at hk; exact nomatch hk) (by simpa using hl) (fun j v u hv hu => ?_) _ haf).mono fun e' w' ⟨u, pl2', he', hst, hv'⟩ => ?_
    · cases j with
      | zero =>
        rw [hu0] at hu; cases hu
        cases hv
        exact SVRep.own (pl := pl2) i' none t2 ys (by rw [look_cons, if_pos rfl])
      | succ j => exact plain_rep (plainL_mem hpl v (List.mem_of_getElem? (by simpa using hv))) (hp (j + 1) v u (by simpa using hv) hu)
    · obtain ⟨ht, _⟩ := after_upd (c := { v := q.v, upd := [(i', .arr none t (xs.set x y))], dirty := [i'] }) hli1 rfl rfl rfl ha
      obtain ⟨pl', hst'⟩ := inn_step hr hli1 hx hc hy hh h2 h4 h5 h6 h7 h8 h9 (pl2 := pl2) rfl rfl rfl (by show mem i' q.gone = false; rw [hgn]; rfl) hst ht
      exact ⟨u, pl', he', hst', plain_rep hpv hv'⟩
end Go.Proofs.Ev

namespace Go.Proofs.Ev
variable [Tok]
set_option linter.unusedSectionVars false
section
variable {ρ : Type}
/-- The loops of a text that lie in no other loop, each with the block around it. -/
def loopsIn : Nat → Code → List (Nat × Code)
  | cb, .seq a b => loopsIn cb a ++ loopsIn cb b
  | cb, .cond _ a b => loopsIn cb a ++ loopsIn cb b
  | _, .block id c => loopsIn id c
  | cb, .scope c => loopsIn cb c
  | cb, .loop c => [(cb, c)]
  | _, _ => []
theorem lpgood_list {E : Env} {LP : Nat → Ev ρ → Ev ρ} : ∀ (c : Code) (cb : Nat), (∀ x ∈ loopsIn cb c, Sound E.P (.loop x.2) (LP x.1 fun st K => ev E LP x.1 x.2 st K)) → LPGood E LP cb c
  | .seq a b, cb, h => ⟨lpgood_list a cb fun x hx => h x (by simp [loopsIn, hx]), lpgood_list b cb fun x hx => h x (by simp [loopsIn, hx])⟩
  | .cond _ a b, cb, h => ⟨lpgood_list a cb fun x hx => h x (by simp [loopsIn, hx]), lpgood_list b cb fun x hx => h x (by simp [loopsIn, hx])⟩
  | .block id c, _, h => lpgood_list c id h
  | .scope c, cb, h => lpgood_list c cb h
  | .loop c, cb, h => h (cb, c) (by simp [loopsIn])
  | .skip, _, _ => trivial
  | .label _, _, _ => trivial
  | .region _ _ _, _, _ => trivial
  | .exit _, _, _ => trivial
  | .ret, _, _ => trivial
  | .rangeFunc _ _ _ _, _, _ => trivial
  | .goto _, _, _ => trivial
  | .refuse _, _, _ => trivial
def AllIn (p : Nat × Code → Prop) : List (Nat × Code) → Prop
  | [] => True
  | x :: l => p x ∧ AllIn p l
theorem allIn_mem {p : Nat × Code → Prop} : ∀ {l : List (Nat × Code)}, AllIn p l → ∀ x ∈ l, p x
  | y :: l, h, x, hx => by
    rcases List.mem_cons.1 hx with rfl | hx
    · exact h.1
    · exact allIn_mem h.2 x hx
theorem lpgood_of {E : Env} {LP : Nat → Ev ρ → Ev ρ} {c : Code} {cb : Nat} {l : List (Nat × Code)} (hl : loopsIn cb c = l)
    (h : AllIn (fun x => Sound E.P (.loop x.2) (LP x.1 fun st K => ev E LP x.1 x.2 st K)) l) : LPGood E LP cb c :=
  lpgood_list c cb (by rw [hl]; exact allIn_mem h)
theorem lpgood_none {E : Env} {LP : Nat → Ev ρ → Ev ρ} {c : Code} {cb : Nat} (hl : loopsIn cb c = []) : LPGood E LP cb c := lpgood_of hl trivial
theorem orc_cond {P : Program} {n g : Nat} {o o' : Orc} (h : OrcOk P n o) (h' : OrcOk P g o') : OrcOk P g (cond (Nat.beq g n) o o') := by
  cases hb : Nat.beq g n
  · exact h'
  · have : g = n := Nat.eq_of_beq_eq_true hb
    subst this; exact h
theorem loop_ok {P : Program} {c : Code} {f : Ev ρ} {p V : Type} (hf : Sound P c f) {keep : List Nat} {co : List (Where × Co)} (kx : Ex → List Nat) (cx : Ex → List (Where × Co)) (k : Nat) {dec : Nat → NF → Option (p × V)} {tm : p × V → St}
    {g : p → V → (V → Option ρ) → (Ex → St → Option ρ) → Option ρ} (hd : ∀ n nf v, dec n nf = some v → denorm keep n nf = tm v)
    (hg : ∀ (q : p) (v : V) (K K1 : Ex → St → Option ρ), f (tm (q, v)) (fun e st' => match e with
        | .normal => (normC keep co st').bind fun nf => K1 .normal (denorm keep st'.n nf)
        | e => (normC (kx e) (cx e) st').bind fun nf => K e (denorm (kx e) st'.n nf)) = g q v (fun v' => K1 .normal (tm (q, v'))) K) :
    Sound P (.loop c) (loopOrc keep co dec fun pv K => iter (fun v next => g pv.1 v next K) k pv.2) :=
  loopOrc_sound hf kx cx k hd fun pv K => (iter_loopV (tm := fun v => tm (pv.1, v)) (g := fun v next K => g pv.1 v next K) (fun v K K1 next hn => by
    have : next = fun v' => K1 .normal (tm (pv.1, v')) := funext fun v' => (hn v').symm
    rw [this]; exact hg pv.1 v K K1) K k pv.2).symm
/-- How far a loop's first state is read: at the given number of slots alone. -/
theorem dec_at {T : Type} {keep : List Nat} {N : Nat} {d : NF → Option T} {tm : T → St} (h : ∀ nf v, d nf = some v → denorm keep N nf = tm v) (n : Nat) (nf : NF) (v : T)
    (e : cond (Nat.beq n N) (d nf) none = some v) : denorm keep n nf = tm v := by
  cases hb : Nat.beq n N <;> simp only [hb, cond_true, cond_false] at e
  · exact nomatch e
  · have : n = N := Nat.eq_of_beq_eq_true hb
    subst this; exact h nf v e
/-- A function's contract, out of the evaluator. -/
theorem pureOk_of_ev {A R : Type} {E : Env} (hE : EnvOk E) {LP : Nat → Ev R → Ev R} {g : FuncId} {fn : Func} (hf : E.P.funcs[g]? = some fn) (hc : fn.body.isSome = true)
    (hnm : (fn.name == "runtime.NumGoroutine") = false) (argsOf : A → List Arg) (argD : List Arg → Option A) (hA : ∀ l a, argD l = some a → l = argsOf a)
    (hn : ∀ a, Nat.ble (argsOf a).length fn.ntmps = true) (hLP : LPGood E LP 0 (fn.body.getD .skip)) {rt : RT} {dec : Out → Option R} {enc : R → Out} (hd : ∀ o r, dec o = some r → o = enc r)
    {F : A → Option R} (h : ∀ a, ev E LP 0 (fn.body.getD .skip) (st0 fn (argsOf a)) (fin E.P fn rt dec) = F a) :
    PureOk E.P g fun _ l K => (argD l).bind fun a => (F a).bind fun r => K (enc r) := by
  intro ρ l K out hK
  simp only [Option.bind_eq_some_iff] at hK
  obtain ⟨a, ha, r, hr, hK⟩ := hK
  obtain ⟨c, hcb⟩ := Option.isSome_iff_exists.1 hc
  have hgc : fn.body.getD .skip = c := by rw [hcb]; rfl
  rw [hA l a ha]
  exact ⟨enc r, hK, pure_of_ev hE hd hf hcb hnm (hn a) (hgc ▸ hLP) (by rw [← hgc, h a]; exact hr)⟩
/-- A contract of a function that is handed blocks, out of the evaluator. -/
theorem mutOk_of_ev {A R : Type} {E : Env} (hE : EnvOk E) {LP : Nat → Ev R → Ev R} {g : FuncId} {fn : Func} (hf : E.P.funcs[g]? = some fn) (hc : fn.body.isSome = true)
    (hnm : (fn.name == "runtime.NumGoroutine") = false) (argsOf : A → List SV) (blksOf : A → List Blk) (argD : List SV → List Blk → Option A) (hA : ∀ l b a, argD l b = some a → l = argsOf a ∧ b = blksOf a)
    (hn : ∀ a, Nat.ble (argsOf a).length fn.ntmps = true) (hLP : LPGood E LP 0 (fn.body.getD .skip)) {rt : RT} {ks : List KD} {dec : A → MOut → Option R} {enc : A → R → MOut}
    (hlen : ∀ a r, (enc a r).kept.length = (blksOf a).length) (hd : ∀ a o r, dec a o = some r → o = enc a r)
    {F : A → Option R} (h : ∀ a, ev E LP 0 (fn.body.getD .skip) (st0M fn (argsOf a) (blksOf a)) (finM E.P fn rt ks (dec a)) = F a) :
    MutOk E.P g fun _ l b K => (argD l b).bind fun a => (F a).bind fun r => K (enc a r) := by
  intro ρ l b K out hK
  simp only [Option.bind_eq_some_iff] at hK
  obtain ⟨a, ha, r, hr, hK⟩ := hK
  obtain ⟨c, hcb⟩ := Option.isSome_iff_exists.1 hc
  have hgc : fn.body.getD .skip = c := by rw [hcb]; rfl
  obtain ⟨rfl, rfl⟩ := hA l b a ha
  exact ⟨enc a r, hK, mut_of_ev hE (hd a) (hlen a r) hf hcb hnm (hn a) (hgc ▸ hLP) (by rw [← hgc, h a]; exact hr)⟩
end
end Go.Proofs.Ev

set_option linter.unusedVariables false
set_option linter.unusedSimpArgs false
namespace Go.Proofs.Ev
variable [Tok]
set_option linter.unusedSectionVars false
section
variable {ρ : Type}
def peel (f g : Ev ρ) : Ev ρ := fun st K => f st fun e st' => match e with
  | .normal => g st' K
  | e => K e st'
theorem loopV_rounds {P : Program} {c : Code} {f : Ev ρ} (hf : Sound P c f) (keep : List Nat) (co : List (Where × Co)) (kx : Ex → List Nat) (cx : Ex → List (Where × Co)) (k : Nat) {w0 : World} {fp0 : G0} {bs : Cell → Prop} {n : Nat} {st : St} {a : Act} {w : World} {K : Ex → St → Option ρ} {out : ρ} {Q : Exit → Act → World → Prop}
    (hr : Rl w0 fp0 bs n st a w) (h : loopV f keep co kx cx k st K = some out) (hK : ∀ e st' a' w', K e st' = some out → Rl w0 fp0 bs n st' a' w' → Q e.up a' w') : Code.rounds P c Q k a w := by
  induction k generalizing st a w with
  | zero => exact nomatch h
  | succ k ih =>
    rw [rounds_succ]
    exact hf w0 fp0 bs n st a w _ out _ hr h fun e st' a' w' h' hr' => by
      have hn := hr'.n_eq
      cases e with
      | normal =>
        simp only [Option.bind_eq_some_iff] at h'
        obtain ⟨nf, h1, h2⟩ := h'
        rw [hn] at h2
        exact ih (normC_rl hr' h1) h2
      | exit j =>
        simp only [Option.bind_eq_some_iff] at h'
        obtain ⟨nf, h1, h2⟩ := h'
        rw [hn] at h2
        exact hK (.exit j) _ a' w' h2 (normC_rl hr' h1)
      | ret =>
        simp only [Option.bind_eq_some_iff] at h'
        obtain ⟨nf, h1, h2⟩ := h'
        rw [hn] at h2
        exact hK .ret _ a' w' h2 (normC_rl hr' h1)
theorem peel_ok {P : Program} {c : Code} {f : Ev ρ} {p V : Type} (hf : Sound P c f) {keep : List Nat} {co : List (Where × Co)} (kx : Ex → List Nat) (cx : Ex → List (Where × Co)) (k : Nat) {dec : Nat → NF → Option (p × V)} {tm : p × V → St}
    {g : p → V → (V → Option ρ) → (Ex → St → Option ρ) → Option ρ} (hd : ∀ n nf v, dec n nf = some v → denorm keep n nf = tm v)
    (hg : ∀ (q : p) (v : V) (K K1 : Ex → St → Option ρ), f (tm (q, v)) (fun e st' => match e with
        | .normal => (normC keep co st').bind fun nf => K1 .normal (denorm keep st'.n nf)
        | e => (normC (kx e) (cx e) st').bind fun nf => K e (denorm (kx e) st'.n nf)) = g q v (fun v' => K1 .normal (tm (q, v'))) K) :
    Sound P (.loop c) (peel f (loopOrc keep co dec fun pv K => iter (fun v next => g pv.1 v next K) k pv.2)) := by
  have hrun : ∀ (pv : p × V) (K : Ex → St → Option ρ), iter (fun v next => g pv.1 v next K) k pv.2 = loopV f keep co kx cx k (tm pv) K := fun pv K => (iter_loopV (tm := fun v => tm (pv.1, v)) (g := fun v next K => g pv.1 v next K) (fun v K K1 next hn => by
    have : next = fun v' => K1 .normal (tm (pv.1, v')) := funext fun v' => (hn v').symm
    rw [this]; exact hg pv.1 v K K1) K k pv.2).symm
  intro w0 fp0 bs n st a w K out Q hr h hK
  refine wp_loop_rounds (k + 1) ?_
  rw [rounds_succ]
  refine hf w0 fp0 bs n st a w _ out _ hr h fun e st' a' w' h' hr' => ?_
  cases e with
  | normal =>
    simp only [loopOrc, Option.bind_eq_some_iff] at h'
    obtain ⟨nf, h1, v, h2, h3⟩ := h'
    have hn := hr'.n_eq
    rw [hn] at h2
    rw [hrun v K, ← hd n nf v h2] at h3
    exact loopV_rounds hf keep co kx cx k (normC_rl hr' h1) h3 hK
  | exit j => exact hK (.exit j) st' a' w' h' hr'
  | ret => exact hK .ret st' a' w' h' hr'
end
end Go.Proofs.Ev

set_option linter.unusedVariables false
set_option linter.unusedSimpArgs false
set_option linter.unusedSectionVars false
namespace Go.Proofs.Ev
def Ty.plain : Ty → Bool
  | .tok => false
  | .st .taskK | .st .requestK => false
  | .sl t => t.plain
  | _ => true
def R.plain : R → Bool
  | .tok _ => false
  | .sl t _ => t.plain
  | _ => true
def plainRs : List R → Bool
  | [] => true
  | r :: l => cond r.plain (plainRs l) false
def noneOf (i : Nat) : List Nat → Bool
  | [] => true
  | k :: l => cond (Nat.beq k i) false (noneOf i l)
mutual
/-- A value without numbers that does not rest on the block 'k'. -/
def SV.less (k : Nat) : SV → Bool
  | .r d x => x.plain && noneOf k d
  | .rptr d cs => plainRs cs && noneOf k d
  | .inn _ _ _ => false
  | .agg cs => lessL k cs
  | .tup cs => lessL k cs
  | .fn _ a b => lessL k a && lessL k b
  | _ => true
def lessL (k : Nat) : List SV → Bool
  | [] => true
  | v :: l => v.less k && lessL k l
end
def Blk.less (k : Nat) : Blk → Bool
  | .box cs => lessL k cs
  | .arr none t _ => t.plain
  | .arr (some d) t _ => t.plain && noneOf k d
variable {ρ : Type}
section
variable [Tok]
theorem noneOf_spec {k : Nat} : ∀ {d : List Nat}, noneOf k d = true → mem k d = false
  | [], _ => rfl
  | x :: l, h => by
    simp only [noneOf] at h
    cases hb : Nat.beq x k <;> simp only [hb, cond_true, cond_false] at h
    · simp only [mem, hb, cond_false]; exact noneOf_spec h
    · exact nomatch h
theorem plainRs_spec : ∀ {l : List R}, plainRs l = true → ∀ (j : Nat) (r : R), l[j]? = some r → r.plain = true
  | [], _, j, r, h => by simp at h
  | x :: l, h, j, r, hj => by
    simp only [plainRs] at h
    cases hx : x.plain <;> simp only [hx, cond_true, cond_false] at h
    · exact nomatch h
    · cases j with
      | zero => simp at hj; subst hj; exact hx
      | succ j => exact plainRs_spec h j r (by simpa using hj)
theorem cells_plain {t : Ty} (h : t.plain = true) {xs : List t.El} {i j : Nat} {r : R} (hc : cellIn t xs i j r) : r.plain = true := by
  obtain ⟨x, _, hr⟩ := hc
  have hm := List.mem_of_getElem? hr
  cases t with
  | tok => exact nomatch h
  | sl t => simp [Ty.cells] at hm; subst hm; exact h
  | int k => simp [Ty.cells] at hm; subst hm; rfl
  | bool => simp [Ty.cells] at hm; subst hm; rfl
  | str => simp [Ty.cells] at hm; subst hm; rfl
  | st s =>
    have key : ∀ l : List R, plainRs l = true → r ∈ l → r.plain = true := fun l hl hrl => by
      obtain ⟨j, hj⟩ := List.getElem?_of_mem hrl
      exact plainRs_spec hl j r hj
    cases s <;> first | (refine key _ ?_ hm; rfl) | exact nomatch h
theorem lessL_get {k : Nat} : ∀ {l : List SV}, lessL k l = true → ∀ (j : Nat) (x : SV), l[j]? = some x → x.less k = true
  | [], _, j, x, h => by simp at h
  | v :: l, h, j, x, hj => by
    simp only [lessL, Bool.and_eq_true] at h
    cases j with
    | zero => simp at hj; subst hj; exact h.1
    | succ j => exact lessL_get h.2 j x (by simpa using hj)
end
theorem RepR_other {T T' : Tok} {w : World} {ok : Cell → Prop} {r : R} {v : Value} (h : @RepR T w ok r v) : r.plain = true → @RepR T' w ok r v := by
  induction h with
  | int => exact fun _ => .int _ _
  | bool => exact fun _ => .bool _
  | str => exact fun _ => .str _
  | tok => exact fun h => nomatch h
  | sl t xs a cap b o vs hcap ha hc _ ih => exact fun h => .sl t xs a cap b o vs hcap ha hc fun i j r hr => ih i j r hr (cells_plain h hr)
theorem RepD_other {T T' : Tok} {w : World} {r : R} {v : Value} {fp : Cell → Prop} (h : @RepD T w r v fp) : r.plain = true → @RepD T' w r v fp := by
  induction h with
  | int => exact fun _ => .int _ _
  | bool => exact fun _ => .bool _
  | str => exact fun _ => .str _
  | tok => exact fun h => nomatch h
  | sl t xs a cap b o vs fs fp hcap ha hreg hc _ hd1 hd2 hfp ih => exact fun h => .sl t xs a cap b o vs fs fp hcap ha hreg hc (fun i j r hr => ih i j r hr (cells_plain h hr)) hd1 hd2 hfp
/-- Blocks that hold as many. -/
def Blk.sim : Blk → Blk → Prop
  | .box _, .box _ => True
  | .arr _ t xs, .arr _ t' ys => t.sz = t'.sz ∧ xs.length = ys.length
  | _, _ => False
theorem sim_arr {sh : Option (List Nat)} {t : Ty} {xs : List t.El} {B : Blk} (h : (Blk.arr sh t xs).sim B) : ∃ sh' t' xs', B = .arr sh' t' xs' ∧ t.sz = t'.sz ∧ xs.length = xs'.length := by
  cases B with
  | box => exact h.elim
  | arr sh' t' xs' => exact ⟨sh', t', xs', rfl, h.1, h.2⟩
theorem sim_bx {cs : List SV} {B : Blk} (h : (Blk.box cs).sim B) : ∃ cs', B = .box cs' := by
  cases B with
  | box cs' => exact ⟨cs', rfl⟩
  | arr => exact h.elim
/-- A value among blocks that hold as many, with other numbers. -/
theorem SVRep.move {T T' : Tok} {w : World} {H H' : Heap} {pl pl' : Pl} {k : Nat} (hH : ∀ i B, look H i = some B → ∃ B', look H' i = some B' ∧ B.sim B') (hh : ∀ i, pl'.hdr i = pl.hdr i)
    (ho : ∀ d p, mem k d = false → okd H pl d p → okd H' pl' d p) {v : SV} {u : Value} (h : @SVRep T w H pl v u) : v.less k = true → @SVRep T' w H' pl' v u := by
  induction h with
  | r d x v hx =>
    intro hl
    simp only [SV.less, Bool.and_eq_true] at hl
    exact .r d x v ((RepR_other hx hl.1).frame fun p u hp hu => ⟨ho d p (noneOf_spec hl.2) hp, hu⟩)
  | nilS => exact fun _ => .nilS
  | nilP => exact fun _ => .nilP
  | own i sh t xs hi =>
    intro _
    obtain ⟨B', h1, h2⟩ := hH i _ hi
    obtain ⟨sh', t', xs', rfl, h3, h4⟩ := sim_arr h2
    rw [← hh i]
    exact .own i sh' t' xs' h1
  | sub i o n sh t xs a a' cap cap' hi hhd hn hc hc' ha =>
    intro _
    obtain ⟨B', h1, h2⟩ := hH i _ hi
    obtain ⟨sh', t', xs', rfl, h3, h4⟩ := sim_arr h2
    exact .sub i o n sh' t' xs' a a' cap cap' h1 (by rw [hh i, hhd, h4]) (by omega) hc hc' (by rw [← h3]; exact ha)
  | bsl i n cs a hi hhd =>
    intro _
    obtain ⟨B', h1, h2⟩ := hH i _ hi
    obtain ⟨cs', rfl⟩ := sim_bx h2
    exact .bsl i n cs' a h1 ((hh i).trans hhd)
  | ptrB i o cs b m hi hhd =>
    intro _
    obtain ⟨B', h1, h2⟩ := hH i _ hi
    obtain ⟨cs', rfl⟩ := sim_bx h2
    exact .ptrB i o cs' b m h1 ((hh i).trans hhd)
  | ptrA i x o sh t xs b m n cap hi hx hhd =>
    intro _
    obtain ⟨B', h1, h2⟩ := hH i _ hi
    obtain ⟨sh', t', xs', rfl, h3, h4⟩ := sim_arr h2
    rw [h3]
    exact .ptrA i x o sh' t' xs' b m n cap h1 (by omega) ((hh i).trans hhd)
  | inn => exact fun h => nomatch h
  | rptr d cs b o vs hc hr =>
    intro hl
    simp only [SV.less, Bool.and_eq_true] at hl
    have hk := noneOf_spec hl.2
    exact .rptr d cs b o vs (fun j r hj => ⟨ho d _ hk (hc j r hj).1, (hc j r hj).2⟩) fun j r hj => (RepR_other (hr j r hj) (plainRs_spec hl.1 j r hj)).frame fun p u hp hu => ⟨ho d p hk hp, hu⟩
  | agg cs vs h1 h2 _ ih => exact fun hl => .agg cs vs h1 h2 fun j x v hx hv => ih j x v hx hv (lessL_get hl j x hx)
  | tup cs vs h1 _ ih => exact fun hl => .tup cs vs h1 fun j x v hx hv => ih j x v hx hv (lessL_get hl j x hx)
  | fn f as bs us vs h1 _ h2 _ ih1 ih2 =>
    intro hl
    have hl : (lessL k as && lessL k bs) = true := hl
    rw [Bool.and_eq_true] at hl
    exact .fn f as bs us vs h1 (fun j x v hx hv => ih1 j x v hx hv (lessL_get hl.1 j x hx)) h2 fun j x v hx hv => ih2 j x v hx hv (lessL_get hl.2 j x hx)
  | undef v => exact fun _ => .undef v
/-- A block that has no numbers, likewise. -/
theorem BlkRep.move {T T' : Tok} {w : World} {H H' : Heap} {pl pl' : Pl} {k i : Nat} (hH : ∀ i B, look H i = some B → ∃ B', look H' i = some B' ∧ B.sim B') (hh : ∀ i, pl'.hdr i = pl.hdr i)
    (ho : ∀ d p, mem k d = false → okd H pl d p → okd H' pl' d p) {B : Blk} (hf : pl'.fp i = pl.fp i) (h : @BlkRep T w H pl i B) (hl : B.less k = true) : @BlkRep T' w H' pl' i B := by
  cases B with
  | box cs =>
    obtain ⟨b, o, h1, h2, h3⟩ := h
    refine ⟨b, o, (hh i).trans h1, fun p => by rw [hf]; exact h2 p, fun j v hv => ?_⟩
    obtain ⟨u, g1, g2, g3, g4⟩ := h3 j v hv
    exact ⟨u, g1, g2, g3, g4.move hH hh ho (lessL_get hl j v hv)⟩
  | arr sh t xs =>
    cases sh with
    | none =>
      obtain ⟨⟨a, cap, b, o, vs, fs, q1, q2, q3, q4, q5, q6, q7, q8, q9⟩⟩ := h
      exact ⟨⟨a, cap, b, o, vs, fs, (hh i).trans q1, q2, q3, q4, q5, fun i j r hc => RepD_other (q6 i j r hc) (cells_plain hl hc), q7, q8, fun p => by rw [hf]; exact q9 p⟩⟩
    | some d =>
      simp only [Blk.less, Bool.and_eq_true] at hl
      obtain ⟨⟨a, cap, b, o, vs, fs, q1, q2, q3, q4, q5, q6, q7, q8, q9⟩⟩ := h
      exact ⟨⟨a, cap, b, o, vs, fs, (hh i).trans q1, q2, q3, q4, q5, fun i j r hc => ⟨(RepR_other (q6 i j r hc).1 (cells_plain hl.1 hc)).frame fun p u hp hu => ⟨ho d p (noneOf_spec hl.2) hp, hu⟩, (q6 i j r hc).2⟩, q7, q8, fun p => by rw [hf]; exact q9 p⟩⟩
section
variable [Tok]
end
end Go.Proofs.Ev
