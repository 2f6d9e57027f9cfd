/- The evaluator over the model's code, and that it is sound: part 6. -/
import Derived.Test.YthaamopjdieecaaEvK5
import Derived.KernelRfl
import GoSem.ClaimChange
import Derived.Deep.Slices
import Derived.DataReads
import Derived.ProofKit
import Derived.WideKeyArgs
import Derived.IntWalk
set_option linter.unusedVariables false
set_option linter.unusedSimpArgs false
set_option linter.unusedVariables false
set_option linter.unusedSimpArgs false
namespace Go.Proofs.Ev
variable [Tok]
set_option linter.unusedSectionVars false
/-- What becomes of a block that was handed in. -/
inductive KD where
  | gone
  | arr
  | box (l : List RT)
def keptIds : List (Option Nat) → List KD → List Nat
  | some _ :: g, .gone :: l => keptIds g l
  | some i :: g, _ :: l => i :: keptIds g l
  | none :: g, _ :: l => keptIds g l
  | _, _ => []
def boxSrcs (h : Heap) : List (Option Nat) → List KD → Option (List (Bool × Ty × Option Nat))
  | [], [] => some []
  | _ :: g, .gone :: ks => boxSrcs h g ks
  | some _ :: g, .arr :: ks => boxSrcs h g ks
  | some i :: g, .box l :: ks => match look h i with
    | some (.box cs) => (srcsL l cs).bind fun a => (boxSrcs h g ks).bind fun b => some (a ++ b)
    | _ => none
  | _, _ => none
def outArr (h : Heap) (LL : List Nat) (i : Nat) : Option Blk :=
  match look h i with
  | some (.arr none t xs) => some (.arr none t xs)
  | some (.arr (some d) t xs) => cond (hit LL d) none (some (.arr (some []) t xs))
  | _ => none
def keptOut (h : Heap) (LL : List Nat) (G : List (Option Nat)) : List (Option Nat) → List KD → Nat → Option (List (Option Blk))
  | [], [], _ => some []
  | _ :: g, .gone :: ks, k => (keptOut h LL G g ks k).bind fun q => some (none :: q)
  | some i :: g, .arr :: ks, k => (outArr h LL i).bind fun b => (keptOut h LL G g ks k).bind fun q => some (some b :: q)
  | some i :: g, .box l :: ks, k => match look h i with
    | some (.box cs) => (outL h LL G l k cs).bind fun p => (keptOut h LL G g ks p.2).bind fun q => some (some (.box p.1) :: q)
    | _ => none
  | _, _, _ => none
/-- The blocks that are kept, by their places. -/
def maskG : List (Option Nat) → List KD → List (Option Nat)
  | [], _ => []
  | _ :: g, .gone :: ks => none :: maskG g ks
  | og :: g, .arr :: ks => og :: maskG g ks
  | og :: g, .box _ :: ks => og :: maskG g ks
  | _ :: g, [] => none :: maskG g []
def canonM (rt : RT) (ks : List KD) (st : St) (v : SV) : Option MOut :=
  (rt.srcs v).bind fun s0 => (boxSrcs st.heap st.gh ks).bind fun s1 =>
    let LL := keptIds st.gh ks ++ idsOf (s0 ++ s1)
    cond (nodup LL) ((outBlks st.heap LL (s0 ++ s1)).bind fun news => (rt.out st.heap LL (maskG st.gh ks) st.gh.length v).bind fun p => (keptOut st.heap LL (maskG st.gh ks) st.gh ks p.2).bind fun q => some ⟨p.1, q, news⟩) none
/-- A box that was made here, and that the result points to, is told behind those that were handed in. -/
def adopt (ks : List KD) (v : SV) (gh : List (Option Nat)) : List (Option Nat) :=
  cond (Nat.beq ks.length (gh.length + 1)) (match v with
    | .ptr i 0 _ => gh ++ [some i]
    | .tup (.ptr i 0 _ :: _) => gh ++ [some i]
    | _ => gh) gh
def shiftOut (m : Nat) (o : MOut) : Option MOut := match o.kept.drop m with
  | [] => some o
  | [some b] => some ⟨o.v, o.kept.take m, b :: o.news⟩
  | _ => none
def canonX (rt : RT) (ks : List KD) (st : St) (v : SV) : Option MOut :=
  (canonM rt ks { st with gh := adopt ks v st.gh } v).bind (shiftOut st.gh.length)
/-- A result that is a part of an owned list, from its beginning on: the list is cut. -/
def truncAt (t : Nat) (st : St) : Option St :=
  match look st.slots t with
  | some (.sub i 0 n) => match look st.heap i with
    | some (.arr sh ty xs) => cond (mem i (sh.getD [])) none (st.take (some t) { v := .own st.nid, news := [.arr sh ty (xs.take n)], gone := [i] })
    | _ => some st
  | _ => some st
def truncT (fn : Func) (rt : RT) (st : St) : Option St :=
  match fn.results.toList, rt with
  | [.tmp t], .own _ => truncAt t st
  | [.tmp t], .shl _ => truncAt t st
  | _, _ => some st
def finM {ρ : Type} (P : Program) (fn : Func) (rt : RT) (ks : List KD) (dec : MOut → Option ρ) : Ex → St → Option ρ
  | .exit _, _ => none
  | .normal, st => (truncT fn rt st).bind fun st => (finV P fn st).bind fun v => (canonX rt ks st v).bind dec
  | .ret, st => (truncT fn rt st).bind fun st => (finV P fn st).bind fun v => (canonX rt ks st v).bind dec
def slotsM : Nat → List SV → List (Nat × SV)
  | _, [] => []
  | n, a :: l => (n, a) :: slotsM (n + 1) l
def rangeG : Nat → Nat → List (Option Nat)
  | _, 0 => []
  | n, k + 1 => some n :: rangeG (n + 1) k
def st0M (fn : Func) (args : List SV) (bs : List Blk) : St := { slots := slotsM 0 args, heap := newsH 0 bs, nid := bs.length, n := fn.ntmps, gh := rangeG 0 bs.length }
theorem look_slotsM (args : List SV) (n t : Nat) : look (slotsM n args) t = if n ≤ t then args[t - n]? else none := by
  induction args generalizing n with
  | nil => simp [slotsM, look]
  | cons a l ih =>
    rw [slotsM, look_cons, ih]
    by_cases h : n = t
    · subst h; simp
    · by_cases h2 : n ≤ t
      · rw [if_neg h, if_pos (by omega), if_pos h2, show t - n = (t - (n + 1)) + 1 from by omega]; rfl
      · rw [if_neg h, if_neg (by omega), if_neg h2]
theorem rangeG_get : ∀ (c n k : Nat) {i : Nat}, (rangeG n c)[k]? = some (some i) → i = n + k ∧ k < c
  | 0, n, k, i, h => by simp [rangeG] at h
  | c + 1, n, 0, i, h => by simp [rangeG] at h; omega
  | c + 1, n, k + 1, i, h => by
    have := rangeG_get c (n + 1) k (by simpa [rangeG] using h)
    omega
/-- The placing at the end: the blocks that are kept, then the slices that are made. -/
def Pl.resM (pl : Pl) (gh : List (Option Nat)) (S : List (Bool × Ty × Option Nat)) : Pl :=
  ⟨fun k => if k < gh.length then (match gh[k]? with | some (some i) => pl.hdr i | _ => undef) else (pl.res S).hdr (k - gh.length),
   fun k => if k < gh.length then (match gh[k]? with | some (some i) => pl.fp i | _ => fun _ => False) else (pl.res S).fp (k - gh.length), pl.base⟩
section
variable {w : World} {H : Heap} {pl : Pl} {gh G : List (Option Nat)} {ks : List KD} {S : List (Bool × Ty × Option Nat)} {LL : List Nat} {news : List Blk} {kept : List (Option Blk)} {v : SV}
theorem keptOut_spec : ∀ {gh : List (Option Nat)} {ks : List KD} {k0 : Nat} {kept : List (Option Blk)}, keptOut H LL G gh ks k0 = some kept → kept.length = gh.length ∧
    ∀ (k : Nat) (B : Blk), kept[k]? = some (some B) → ∃ i, gh[k]? = some (some i) ∧ mem i (keptIds gh ks) = true ∧ ((∃ l cs cs' k1 k2, ks[k]? = some (.box l) ∧ look H i = some (.box cs) ∧ outL H LL G l k1 cs = some (cs', k2) ∧ B = .box cs') ∨ (ks[k]? = some .arr ∧ outArr H LL i = some B))
  | [], [], k0, kept, h => by cases h; exact ⟨rfl, fun k B hB => by simp at hB⟩
  | og :: g, .gone :: ks, k0, kept, h => by
    simp only [keptOut, Option.bind_eq_some_iff, Option.some.injEq] at h
    obtain ⟨q, h1, rfl⟩ := h
    obtain ⟨g1, g2⟩ := keptOut_spec h1
    refine ⟨by simp [g1], fun k B hB => ?_⟩
    cases k with
    | zero => simp at hB
    | succ k =>
      obtain ⟨i, a1, a2, a3⟩ := g2 k B (by simpa using hB)
      refine ⟨i, by simpa using a1, ?_, by simpa using a3⟩
      cases og <;> simpa [keptIds] using a2
  | some i0 :: g, .arr :: ks, k0, kept, h => by
    simp only [keptOut, Option.bind_eq_some_iff, Option.some.injEq] at h
    obtain ⟨b, h0, q, h1, rfl⟩ := h
    obtain ⟨g1, g2⟩ := keptOut_spec h1
    refine ⟨by simp [g1], fun k B hB => ?_⟩
    cases k with
    | zero => simp at hB; subst hB; exact ⟨i0, rfl, by simp [keptIds, mem], .inr ⟨rfl, h0⟩⟩
    | succ k =>
      obtain ⟨i, a1, a2, a3⟩ := g2 k B (by simpa using hB)
      refine ⟨i, by simpa using a1, ?_, by simpa using a3⟩
      rw [mem_iff] at a2 ⊢; simp [keptIds, a2]
  | some i0 :: g, .box l :: ks, k0, kept, h => by
    simp only [keptOut] at h
    split at h
    · rename_i cs hl
      simp only [Option.bind_eq_some_iff, Option.some.injEq] at h
      obtain ⟨p, h0, q, h1, rfl⟩ := h
      obtain ⟨g1, g2⟩ := keptOut_spec h1
      refine ⟨by simp [g1], fun k B hB => ?_⟩
      cases k with
      | zero => simp at hB; subst hB; exact ⟨i0, rfl, by simp [keptIds, mem], .inl ⟨l, cs, p.1, k0, p.2, rfl, hl, h0, rfl⟩⟩
      | succ k =>
        obtain ⟨i, a1, a2, a3⟩ := g2 k B (by simpa using hB)
        refine ⟨i, by simpa using a1, ?_, by simpa using a3⟩
        rw [mem_iff] at a2 ⊢; simp [keptIds, a2]
    · exact nomatch h
  | [], _ :: _, _, _, h => by cases h
  | none :: _, [], _, _, h => by cases h
  | some _ :: _, [], _, _, h => by cases h
  | none :: _, .arr :: _, _, _, h => by cases h
  | none :: _, .box _ :: _, _, _, h => by cases h
/-- The boxes' slices, box by box, with the numbers that they bear. -/
theorem boxes_rep (hr : HRel H pl w) {H2 : Heap} {plR : Pl} {m : Nat} (hown : ∀ (k : Nat) (b : Bool) (t : Ty) (v : SV) (u : Value), SVRep w H pl v u → ((∃ i, v = .own i ∧ S[k]? = some (b, t, some i)) ∨ (v = .nilS ∧ S[k]? = some (b, t, none))) → SVRep w H2 plR (.own (m + k)) u)
    (hro : ∀ d p, hit LL d = false → okd H pl d p → okd H2 plR [] p) (hptr : ∀ i j o u, posOf i G 0 = some j → SVRep w H pl (.ptr i 0 o) u → SVRep w H2 plR (.ptr j 0 o) u) : ∀ {gh : List (Option Nat)} {ks : List KD} {j0 : Nat} {kept : List (Option Blk)} {s : List (Bool × Ty × Option Nat)},
    boxSrcs H gh ks = some s → (∀ (j : Nat) (x : Bool × Ty × Option Nat), s[j]? = some x → S[j0 + j]? = some x) → keptOut H LL G gh ks (m + j0) = some kept →
    ∀ (k i : Nat) (cs cs' : List SV), gh[k]? = some (some i) → look H i = some (.box cs) → kept[k]? = some (some (.box cs')) → ∀ us : List Value, cs.length = us.length → (∀ (j : Nat) (x : SV) (u : Value), cs[j]? = some x → us[j]? = some u → SVRep w H pl x u) →
      cs'.length = us.length ∧ ∀ (j : Nat) (x : SV) (u : Value), cs'[j]? = some x → us[j]? = some u → SVRep w H2 plR x u
  | [], [], j0, kept, s, hs, hS, h, k, i, cs, cs', hk, _, _, _, _, _ => by simp at hk
  | og :: g, .gone :: ks, j0, kept, s, hs, hS, h, k, i, cs, cs', hk, hl, hc, us, hu, hp => by
    simp only [keptOut, Option.bind_eq_some_iff, Option.some.injEq] at h
    obtain ⟨q, h1, rfl⟩ := h
    have hs : boxSrcs H g ks = some s := by cases og <;> exact hs
    cases k with
    | zero => simp at hc
    | succ k => exact boxes_rep hr hown hro hptr hs hS h1 k i cs cs' (by simpa using hk) hl (by simpa using hc) us hu hp
  | some i0 :: g, .arr :: ks, j0, kept, s, hs, hS, h, k, i, cs, cs', hk, hl, hc, us, hu, hp => by
    simp only [keptOut, Option.bind_eq_some_iff, Option.some.injEq] at h
    obtain ⟨b, h0, q, h1, rfl⟩ := h
    cases k with
    | zero =>
      simp at hk hc
      subst hk hc
      unfold outArr at h0
      rw [hl] at h0; exact nomatch h0
    | succ k => exact boxes_rep hr hown hro hptr (show boxSrcs H g ks = some s from hs) hS h1 k i cs cs' (by simpa using hk) hl (by simpa using hc) us hu hp
  | some i0 :: g, .box l :: ks, j0, kept, s, hs, hS, h, k, i, cs, cs', hk, hl, hc, us, hu, hp => by
    simp only [keptOut] at h
    simp only [boxSrcs] at hs
    cases hl0 : look H i0 with
    | none => rw [hl0] at h; exact nomatch h
    | some B0 =>
      cases B0 with
      | arr sh t xs => rw [hl0] at h; exact nomatch h
      | box cs0 =>
        simp only [hl0, Option.bind_eq_some_iff, Option.some.injEq] at h hs
        obtain ⟨p, h0, q, h1, rfl⟩ := h
        obtain ⟨s1, e1, s2, e2, rfl⟩ := hs
        obtain ⟨b, o, q1, q2, q3⟩ := hr.blk i0 _ hl0
        have key : ∀ us : List Value, cs0.length = us.length → (∀ (j : Nat) (x : SV) (u : Value), cs0[j]? = some x → us[j]? = some u → SVRep w H pl x u) → _ := fun us hu hp =>
          outL_repG hr hown hro hptr l e1 (fun j x hx => hS j x (by rw [List.getElem?_append_left (List.getElem?_eq_some_iff.1 hx).1]; exact hx)) (cs' := p.1) (k' := p.2) (by rw [h0]) us hu hp
        cases k with
        | zero =>
          simp at hk hc
          subst hk hc
          rw [hl0] at hl; cases hl
          obtain ⟨g1, g2, _⟩ := key us hu hp
          exact ⟨g1, g2⟩
        | succ k =>
          have hk2 : p.2 = m + (j0 + s1.length) := by
            have hus : ∃ us : List Value, cs0.length = us.length ∧ ∀ (j : Nat) (x : SV) (u : Value), cs0[j]? = some x → us[j]? = some u → SVRep w H pl x u := by
              have : ∀ n, n ≤ cs0.length → ∃ us : List Value, us.length = n ∧ ∀ (j : Nat) (x : SV) (u : Value), cs0[j]? = some x → us[j]? = some u → SVRep w H pl x u := fun n => by
                induction n with
                | zero => exact fun _ => ⟨[], rfl, fun j x u _ h => by simp at h⟩
                | succ n ih =>
                  intro hn
                  obtain ⟨us, a1, a2⟩ := ih (by omega)
                  obtain ⟨u, _, _, _, b4⟩ := q3 n cs0[n] (List.getElem?_eq_getElem (by omega))
                  refine ⟨us ++ [u], by simp [a1], fun j x u' hx hu' => ?_⟩
                  by_cases c : j < us.length
                  · rw [List.getElem?_append_left c] at hu'; exact a2 j x u' hx hu'
                  · rw [List.getElem?_append_right (by omega)] at hu'
                    have hlt := (List.getElem?_eq_some_iff.1 hu').1
                    simp at hlt
                    have : j = n := by omega
                    subst this
                    rw [show j - us.length = 0 from by omega] at hu'
                    simp at hu'; subst hu'
                    rw [List.getElem?_eq_getElem (by omega)] at hx; cases hx
                    exact b4
              obtain ⟨us, a1, a2⟩ := this cs0.length (Nat.le_refl _)
              exact ⟨us, a1.symm, a2⟩
            obtain ⟨us, a1, a2⟩ := hus
            exact (key us a1 a2).2.2
          rw [hk2] at h1
          exact boxes_rep hr hown hro hptr e2 (fun j x hx => by
            have := hS (s1.length + j) x (by rw [List.getElem?_append_right (by omega), Nat.add_sub_cancel_left]; exact hx)
            rw [Nat.add_assoc]; exact this) h1 k i cs cs' (by simpa using hk) hl (by simpa using hc) us hu hp
  | [], _ :: _, _, _, _, h, _, _, _, _, _, _, _, _, _, _, _, _ => by cases h
  | none :: _, [], _, _, _, h, _, _, _, _, _, _, _, _, _, _, _, _ => by cases h
  | some _ :: _, [], _, _, _, h, _, _, _, _, _, _, _, _, _, _, _, _ => by cases h
  | none :: _, .arr :: _, _, _, _, h, _, _, _, _, _, _, _, _, _, _, _, _ => by cases h
  | none :: _, .box _ :: _, _, _, _, h, _, _, _, _, _, _, _, _, _, _, _, _ => by cases h
theorem kept_inj : ∀ {gh : List (Option Nat)} {ks : List KD} {k0 k0' : Nat} {kept : List (Option Blk)}, keptOut H LL G gh ks k0 = some kept → (keptIds gh ks).Nodup → ∀ (k k' : Nat) (B B' : Blk) (i : Nat),
    kept[k]? = some (some B) → kept[k']? = some (some B') → gh[k]? = some (some i) → gh[k']? = some (some i) → k = k'
  | [], [], k0, k0', kept, h, hn, k, k', B, B', i, h1, h2, h3, h4 => by simp at h3
  | og :: g, .gone :: ks, k0, k0', kept, h, hn, k, k', B, B', i, h1, h2, h3, h4 => by
    simp only [keptOut, Option.bind_eq_some_iff, Option.some.injEq] at h
    obtain ⟨q, e1, rfl⟩ := h
    have hn : (keptIds g ks).Nodup := by cases og <;> simpa [keptIds] using hn
    cases k with
    | zero => simp at h1
    | succ k => cases k' with
      | zero => simp at h2
      | succ k' => rw [kept_inj (k0' := k0') e1 hn k k' B B' i (by simpa using h1) (by simpa using h2) (by simpa using h3) (by simpa using h4)]
  | some i0 :: g, .arr :: ks, k0, k0', kept, h, hn, k, k', B, B', i, h1, h2, h3, h4 => by
    simp only [keptOut, Option.bind_eq_some_iff, Option.some.injEq] at h
    obtain ⟨b, e0, q, e1, rfl⟩ := h
    have hn : i0 ∉ keptIds g ks ∧ (keptIds g ks).Nodup := by simpa [keptIds] using hn
    have sub : ∀ {k B}, q[k]? = some (some B) → g[k]? = some (some i0) → False := fun {k B} q1 q2 => by
      obtain ⟨i', a1, a2, _⟩ := (keptOut_spec e1).2 k B q1
      rw [q2] at a1; cases a1
      exact hn.1 ((mem_iff _ _).1 a2)
    cases k with
    | zero => cases k' with
      | zero => rfl
      | succ k' => simp at h3; subst h3; exact (sub (by simpa using h2) (by simpa using h4)).elim
    | succ k => cases k' with
      | zero => simp at h4; subst h4; exact (sub (by simpa using h1) (by simpa using h3)).elim
      | succ k' => rw [kept_inj (k0' := k0') e1 hn.2 k k' B B' i (by simpa using h1) (by simpa using h2) (by simpa using h3) (by simpa using h4)]
  | some i0 :: g, .box l :: ks, k0, k0', kept, h, hn, k, k', B, B', i, h1, h2, h3, h4 => by
    simp only [keptOut] at h
    split at h
    · simp only [Option.bind_eq_some_iff, Option.some.injEq] at h
      obtain ⟨b, e0, q, e1, rfl⟩ := h
      have hn : i0 ∉ keptIds g ks ∧ (keptIds g ks).Nodup := by simpa [keptIds] using hn
      have sub : ∀ {k B}, q[k]? = some (some B) → g[k]? = some (some i0) → False := fun {k B} q1 q2 => by
        obtain ⟨i', a1, a2, _⟩ := (keptOut_spec e1).2 k B q1
        rw [q2] at a1; cases a1
        exact hn.1 ((mem_iff _ _).1 a2)
      cases k with
      | zero => cases k' with
        | zero => rfl
        | succ k' => simp at h3; subst h3; exact (sub (by simpa using h2) (by simpa using h4)).elim
      | succ k => cases k' with
        | zero => simp at h4; subst h4; exact (sub (by simpa using h1) (by simpa using h3)).elim
        | succ k' => rw [kept_inj (k0' := k0') e1 hn.2 k k' B B' i (by simpa using h1) (by simpa using h2) (by simpa using h3) (by simpa using h4)]
    · exact nomatch h
  | [], _ :: _, _, _, _, h, _, _, _, _, _, _, _, _, _, _ => by cases h
  | none :: _, [], _, _, _, h, _, _, _, _, _, _, _, _, _, _ => by cases h
  | some _ :: _, [], _, _, _, h, _, _, _, _, _, _, _, _, _, _ => by cases h
  | none :: _, .arr :: _, _, _, _, h, _, _, _, _, _, _, _, _, _, _ => by cases h
  | none :: _, .box _ :: _, _, _, _, h, _, _, _, _, _, _, _, _, _, _ => by cases h
theorem keptOut_mask : ∀ {gh : List (Option Nat)} {ks : List KD} {k0 : Nat} {kept : List (Option Blk)} {j i : Nat}, keptOut H LL G gh ks k0 = some kept → (maskG gh ks)[j]? = some (some i) → ∃ B, kept[j]? = some (some B) ∧ gh[j]? = some (some i)
  | [], _, _, _, j, i, _, h => by simp [maskG] at h
  | og :: g, .gone :: ks, k0, kept, j, i, h, hj => by
    simp only [keptOut, Option.bind_eq_some_iff, Option.some.injEq] at h
    obtain ⟨q, h1, rfl⟩ := h
    cases j with
    | zero => simp [maskG] at hj
    | succ j => simpa using keptOut_mask h1 (by simpa [maskG] using hj)
  | some i0 :: g, .arr :: ks, k0, kept, j, i, h, hj => by
    simp only [keptOut, Option.bind_eq_some_iff, Option.some.injEq] at h
    obtain ⟨b, h0, q, h1, rfl⟩ := h
    cases j with
    | zero => simp [maskG] at hj; subst hj; exact ⟨b, rfl, rfl⟩
    | succ j => simpa using keptOut_mask h1 (by simpa [maskG] using hj)
  | some i0 :: g, .box l :: ks, k0, kept, j, i, h, hj => by
    simp only [keptOut] at h
    split at h
    · simp only [Option.bind_eq_some_iff, Option.some.injEq] at h
      obtain ⟨b, h0, q, h1, rfl⟩ := h
      cases j with
      | zero => simp [maskG] at hj; subst hj; exact ⟨_, rfl, rfl⟩
      | succ j => simpa using keptOut_mask h1 (by simpa [maskG] using hj)
    · exact nomatch h
  | none :: _, [], _, _, _, _, h, _ => by cases h
  | some _ :: _, [], _, _, _, _, h, _ => by cases h
  | none :: _, .arr :: _, _, _, _, _, h, _ => by cases h
  | none :: _, .box _ :: _, _, _, _, _, h, _ => by cases h
theorem posOf_spec {i : Nat} : ∀ {l : List (Option Nat)} {n k : Nat}, posOf i l n = some k → n ≤ k ∧ l[k - n]? = some (some i)
  | none :: l, n, k, h => by
    obtain ⟨h1, h2⟩ := posOf_spec (l := l) (n := n + 1) h
    exact ⟨by omega, by rw [show k - n = (k - (n + 1)) + 1 from by omega]; exact h2⟩
  | some j :: l, n, k, h => by
    simp only [posOf] at h
    cases hj : Nat.beq j i <;> simp only [hj, cond_true, cond_false, Option.some.injEq] at h
    · obtain ⟨h1, h2⟩ := posOf_spec h
      exact ⟨by omega, by rw [show k - n = (k - (n + 1)) + 1 from by omega]; exact h2⟩
    · subst h; exact ⟨Nat.le_refl _, by simp [Nat.eq_of_beq_eq_true hj]⟩
/-- What comes of the end of a function. -/
theorem canonM_sound {st : St} {rt : RT} {o : MOut} {u : Value} (hr : HRel st.heap pl w) (h : canonM rt ks st v = some o) (hv : SVRep w st.heap pl v u) :
    ∃ plM : Pl, HRel o.heap plM w ∧ SVRep w o.heap plM o.v u ∧ plM.base = pl.base ∧ o.kept.length = st.gh.length ∧
      (∀ (k : Nat) (B : Blk), o.kept[k]? = some (some B) → ∃ i B0, st.gh[k]? = some (some i) ∧ look st.heap i = some B0 ∧ plM.hdr k = pl.hdr i ∧ B0.like B) ∧
      (∀ k B p, look o.heap k = some B → plM.fp k p → ∃ i B0, look st.heap i = some B0 ∧ pl.fp i p) := by
  simp only [canonM, Option.bind_eq_some_iff] at h
  obtain ⟨s0, hs0, s1, hs1, h⟩ := h
  generalize hS : s0 ++ s1 = S at h
  generalize hLL : keptIds st.gh ks ++ idsOf S = LL at h
  cases hnd : nodup LL <;> simp only [hnd, cond_true, cond_false, Option.bind_eq_some_iff, Option.some.injEq] at h
  · exact nomatch h
  obtain ⟨news, hnews, p, hp, q, hq, rfl⟩ := h
  have hnd' := nodup_spec hnd
  rw [← hLL, List.nodup_append] at hnd'
  obtain ⟨hk1, hk2⟩ := keptOut_spec hq
  obtain ⟨hb1, hb2⟩ := outBlks_spec hnews
  let o : MOut := ⟨p.1, q, news⟩
  let plM := pl.resM st.gh S
  have hm : o.kept.length = st.gh.length := hk1
  -- the blocks of the end, each with where it comes from
  have origin : ∀ k B, look o.heap k = some B → (k < st.gh.length ∧ q[k]? = some (some B) ∧ ∃ i, st.gh[k]? = some (some i) ∧ mem i (keptIds st.gh ks) = true ∧ plM.hdr k = pl.hdr i ∧ plM.fp k = pl.fp i) ∨
      (st.gh.length ≤ k ∧ ∃ b t oi, S[k - st.gh.length]? = some (b, t, oi) ∧ outBlk st.heap LL (b, t, oi) = some B ∧ plM.hdr k = (pl.res S).hdr (k - st.gh.length) ∧ plM.fp k = (pl.res S).fp (k - st.gh.length)) := fun k B hB => by
    by_cases c : k < st.gh.length
    · rw [o.look_low (by omega)] at hB
      obtain ⟨ob, e1, e2⟩ := Option.bind_eq_some_iff.1 hB
      have e2 : ob = some B := e2
      subst e2
      obtain ⟨i, a1, a2, _⟩ := hk2 k B e1
      exact .inl ⟨c, e1, i, a1, a2, by simp only [plM, Pl.resM, if_pos c, a1], by simp only [plM, Pl.resM, if_pos c, a1]⟩
    · rw [o.look_high (by omega), hm] at hB
      obtain ⟨⟨b, t, oi⟩, e1, e2⟩ := hb2 _ _ hB
      exact .inr ⟨by omega, b, t, oi, e1, e2, by simp only [plM, Pl.resM, if_neg c], by simp only [plM, Pl.resM, if_neg c]⟩
  have srcIn : ∀ {k b t i}, S[k]? = some (b, t, some i) → mem i LL = true := fun {k b t i} h => by
    rw [← hLL, mem_append, (mem_iff i _).2 (mem_idsOf h), Bool.or_true]
  have hro : ∀ d p, hit LL d = false → okd st.heap pl d p → okd o.heap plM [] p := fun d p hd hok => by
    refine ⟨hok.1, fun k B hB _ hf => ?_⟩
    have no : ∀ {i B0}, look st.heap i = some B0 → mem i LL = true → pl.fp i p → False := fun {i B0} hl hi hf => hok.2 i B0 hl (fun hm => by
      have := hit_false LL d hd i hm; rw [hi] at this; exact nomatch this) hf
    rcases origin k B hB with ⟨c, e1, i, a1, a2, _, a4⟩ | ⟨c, b, t, oi, e1, e2, _, a4⟩
    · rw [a4] at hf
      have hi : mem i LL = true := by rw [← hLL, mem_append, a2]; rfl
      obtain ⟨i', a1', _, hor⟩ := hk2 k B e1
      rw [a1] at a1'; cases a1'
      rcases hor with ⟨l, cs, cs', k1, k2, _, hl, _⟩ | ⟨_, ho⟩
      · exact no hl hi hf
      · unfold outArr at ho
        cases hl : look st.heap i with
        | none => rw [hl] at ho; exact nomatch ho
        | some B0 => exact no hl hi hf
    · rw [a4] at hf
      cases oi with
      | none => simp [Pl.res, e1] at hf
      | some i =>
        simp only [Pl.res, e1] at hf
        obtain ⟨sh, xs, hl, _⟩ := outBlk_look e2
        exact no hl (srcIn e1) hf
  have hown : ∀ (k : Nat) (b : Bool) (t : Ty) (v : SV) (u : Value), SVRep w st.heap pl v u → ((∃ i, v = .own i ∧ S[k]? = some (b, t, some i)) ∨ (v = .nilS ∧ S[k]? = some (b, t, none))) → SVRep w o.heap plM (.own (st.gh.length + k)) u := fun k b t v u hv hc => by
    have hget : ∀ {s}, S[k]? = some s → ∃ B, look o.heap (st.gh.length + k) = some B ∧ outBlk st.heap LL s = some B := fun {s} h => by
      have hlt : k < news.length := by rw [hb1]; exact (List.getElem?_eq_some_iff.1 h).1
      obtain ⟨s', h1, h2⟩ := hb2 k _ (List.getElem?_eq_getElem hlt)
      rw [h] at h1; cases h1
      exact ⟨_, by rw [o.look_high (by omega), hm, Nat.add_sub_cancel_left]; exact List.getElem?_eq_getElem hlt, h2⟩
    have eh : plM.hdr (st.gh.length + k) = (pl.res S).hdr k := by simp only [plM, Pl.resM, if_neg (show ¬ st.gh.length + k < st.gh.length by omega), Nat.add_sub_cancel_left]
    rcases hc with ⟨i, rfl, h⟩ | ⟨rfl, h⟩
    · obtain ⟨B, h1, h2⟩ := hget h
      obtain ⟨sh, xs, hl, h3⟩ := outBlk_look h2
      have e : plM.hdr (st.gh.length + k) = pl.hdr i := by rw [eh]; simp only [Pl.res, h]
      cases hv with
      | own _ sh' t' ys hl' =>
        rw [← e]
        rcases h3 with ⟨_, rfl⟩ | ⟨d, _, _, rfl⟩
        · exact .own _ none t xs h1
        · exact .own _ (some []) t xs h1
    · obtain ⟨B, h1, h2⟩ := hget h
      have e : plM.hdr (st.gh.length + k) = .slice none 0 0 := by rw [eh]; simp only [Pl.res, h]
      cases hv with
      | nilS =>
        rw [← e]
        cases b with
        | false => cases h2; exact .own _ none t [] h1
        | true => cases h2; exact .own _ (some []) t [] h1
  have hptr : ∀ i j o' u, posOf i (maskG st.gh ks) 0 = some j → SVRep w st.heap pl (.ptr i 0 o') u → SVRep w o.heap plM (.ptr j 0 o') u := fun i j o' u hj hv => by
    obtain ⟨_, g1⟩ := posOf_spec hj
    rw [Nat.sub_zero] at g1
    obtain ⟨B, g2, g3⟩ := keptOut_mask hq g1
    have hlt : j < st.gh.length := (List.getElem?_eq_some_iff.1 g3).1
    have eh : plM.hdr j = pl.hdr i := by simp only [plM, Pl.resM, if_pos hlt, g3]
    have hl : look o.heap j = some B := by rw [o.look_low (by omega)]; show (q[j]?).bind id = some B; rw [g2]; rfl
    obtain ⟨i', a1', _, hor⟩ := hk2 j B g2
    rw [g3] at a1'; cases a1'
    cases hv with
    | ptrB _ _ cs b m0 hlb hh =>
      rcases hor with ⟨l, cs1, cs', k1, k2, _, hl1, _, rfl⟩ | ⟨_, ho⟩
      · exact .ptrB j o' cs' b m0 hl (eh.trans hh)
      · unfold outArr at ho; rw [hlb] at ho; exact nomatch ho
    | ptrA _ _ _ sh t xs b m0 n cap hlb hx hh =>
      rcases hor with ⟨l, cs1, cs', k1, k2, _, hl1, _, rfl⟩ | ⟨_, ho⟩
      · rw [hlb] at hl1; exact nomatch hl1
      · unfold outArr at ho
        rw [hlb] at ho
        cases sh with
        | none => cases ho; exact .ptrA j 0 o' none t xs b m0 n cap hl hx (eh.trans hh)
        | some d =>
          simp only at ho
          cases hd : hit LL d <;> simp only [hd, cond_true, cond_false] at ho
          · cases ho; exact .ptrA j 0 o' _ t xs b m0 n cap hl hx (eh.trans hh)
          · exact nomatch ho
  have hS0 : ∀ (j : Nat) (x : Bool × Ty × Option Nat), s0[j]? = some x → S[0 + j]? = some x := fun j x hx => by
    rw [← hS, Nat.zero_add, List.getElem?_append_left (List.getElem?_eq_some_iff.1 hx).1]; exact hx
  obtain ⟨r1, r2⟩ := out_repG (m := st.gh.length) hr hown hro hptr rt hs0 hS0 (k := 0) (by rw [Nat.add_zero]; exact hp) hv
  rw [r2, Nat.zero_add] at hq
  have hS1 : ∀ (j : Nat) (x : Bool × Ty × Option Nat), s1[j]? = some x → S[s0.length + j]? = some x := fun j x hx => by
    rw [← hS, List.getElem?_append_right (by omega), Nat.add_sub_cancel_left]; exact hx
  have hbx := boxes_rep hr hown hro hptr hs1 hS1 hq
  refine ⟨plM, ⟨fun k B hB => ?_, fun k k' B B' p h1 h2 f1 f2 => ?_, fun k B p hB hf => ?_, hr.nb⟩, r1, rfl, hk1, fun k B hB => ?_, fun k B p hB hf => ?_⟩
  · rcases origin k B hB with ⟨c, e1, i, a1, a2, ah, af⟩ | ⟨c, b, t, oi, e1, e2, ah, af⟩
    · obtain ⟨i', a1', _, hor⟩ := hk2 k B e1
      rw [a1] at a1'; cases a1'
      rcases hor with ⟨l, cs, cs', k1, k2, _, hl, hol, rfl⟩ | ⟨_, ho⟩
      · obtain ⟨b, off, q1, q2, q3⟩ := hr.blk i _ hl
        have hus : ∃ us : List Value, cs.length = us.length ∧ (∀ (j : Nat) (u : Value), us[j]? = some u → w.at? (b, off + j) = some u ∧ calm (w.ice? (b, off + j)) = true ∧ one u = true) ∧ ∀ (j : Nat) (x : SV) (u : Value), cs[j]? = some x → us[j]? = some u → SVRep w st.heap pl x u := by
          refine ⟨(List.range cs.length).map fun j => (w.at? (b, off + j)).getD undef, by simp, fun j u hu => ?_, fun j x u hx hu => ?_⟩
          · have hj : j < cs.length := by have := (List.getElem?_eq_some_iff.1 hu).1; simpa using this
            obtain ⟨u', g1, g2, g3, g4⟩ := q3 j _ (List.getElem?_eq_getElem hj)
            have : u = u' := by
              rw [List.getElem?_map, List.getElem?_eq_getElem (by simpa using hj)] at hu
              simp [g1] at hu; exact hu.symm
            subst this; exact ⟨g1, g2, g3⟩
          · obtain ⟨u', g1, g2, g3, g4⟩ := q3 j x hx
            have hj : j < cs.length := (List.getElem?_eq_some_iff.1 hx).1
            have : u = u' := by
              rw [List.getElem?_map, List.getElem?_eq_getElem (by simpa using hj)] at hu
              simp [g1] at hu; exact hu.symm
            subst this; exact g4
        obtain ⟨us, u1, u2, u3⟩ := hus
        obtain ⟨g1, g2⟩ := hbx k i cs cs' a1 hl e1 us u1 u3
        refine ⟨b, off, ah.trans q1, fun p => by rw [af, q2, g1, u1], fun j y hy => ?_⟩
        have hj : j < us.length := by rw [← g1]; exact (List.getElem?_eq_some_iff.1 hy).1
        obtain ⟨z1, z2, z3⟩ := u2 j us[j] (List.getElem?_eq_getElem hj)
        exact ⟨us[j], z1, z2, z3, g2 j y _ hy (List.getElem?_eq_getElem hj)⟩
      · unfold outArr at ho
        split at ho
        · rename_i t xs hl
          cases ho
          show Nonempty (Row w (RepD w) t xs (plM.hdr k) (plM.fp k))
          rw [ah, af]; exact hr.blk i _ hl
        · rename_i d t xs hl
          cases hd : hit LL d <;> simp only [hd, cond_true, cond_false] at ho
          · cases ho
            obtain ⟨⟨a, cap, b, q0, vs, fs, q1, q2, q3, q4, q5, q6, q7, q8, q9⟩⟩ := hr.blk i _ hl
            exact ⟨⟨a, cap, b, q0, vs, fs, ah.trans q1, q2, q3, q4, q5, fun i j r hc => ⟨(q6 i j r hc).1.frame fun p u hp hu => ⟨hro d p hd hp, hu⟩, (q6 i j r hc).2⟩, q7, q8, fun p => by rw [af]; exact q9 p⟩⟩
          · exact nomatch ho
        · exact nomatch ho
    · cases oi with
      | none =>
        have e : plM.hdr k = .slice none 0 0 := by rw [ah]; simp only [Pl.res, e1]
        have ef : plM.fp k = fun _ => False := by rw [af]; simp only [Pl.res, e1]
        have := Row.nil (w := w) (t := t) (Inner w o.heap plM (cond b (some []) none))
        rw [← e, ← ef] at this
        cases b with
        | false => cases e2; exact BlkRep.of_rowI this
        | true => cases e2; exact BlkRep.of_rowI this
      | some i =>
        have e : plM.hdr k = pl.hdr i := by rw [ah]; simp only [Pl.res, e1]
        have ef : plM.fp k = pl.fp i := by rw [af]; simp only [Pl.res, e1]
        obtain ⟨sh, xs, hl, h3⟩ := outBlk_look e2
        have hb := hr.blk i _ hl
        rcases h3 with ⟨rfl, rfl⟩ | ⟨d, rfl, hd, rfl⟩
        · show Nonempty (Row w (RepD w) t xs (plM.hdr k) (plM.fp k))
          rw [e, ef]; exact hb
        · obtain ⟨⟨a, cap, b', q0, vs, fs, q1, q2, q3, q4, q5, q6, q7, q8, q9⟩⟩ := hb
          exact ⟨⟨a, cap, b', q0, vs, fs, e.trans q1, q2, q3, q4, q5, fun i j r hc => ⟨(q6 i j r hc).1.frame fun p u hp hu => ⟨hro d p hd hp, hu⟩, (q6 i j r hc).2⟩, q7, q8, fun p => by rw [ef]; exact q9 p⟩⟩
  · have there : ∀ {i k B}, q[k]? = some (some B) → st.gh[k]? = some (some i) → ∃ B0, look st.heap i = some B0 := fun {i k B} e1 a1 => by
      obtain ⟨i', a1', _, hor⟩ := hk2 k B e1
      rw [a1] at a1'; cases a1'
      rcases hor with ⟨l, cs, cs', k1, k2, _, hl, _⟩ | ⟨_, ho⟩
      · exact ⟨_, hl⟩
      · unfold outArr at ho
        cases hl : look st.heap i with
        | none => rw [hl] at ho; exact nomatch ho
        | some B0 => exact ⟨_, rfl⟩
    rcases origin k B h1 with ⟨c, e1, i, a1, a2, _, a4⟩ | ⟨c, b, t, oi, e1, e2, _, a4⟩ <;> rcases origin k' B' h2 with ⟨c', e1', i', a1', a2', _, a4'⟩ | ⟨c', b', t', oi', e1', e2', _, a4'⟩
    · rw [a4] at f1
      rw [a4'] at f2
      obtain ⟨B0, hl⟩ := there e1 a1
      obtain ⟨B0', hl'⟩ := there e1' a1'
      have := hr.dis i i' _ _ p hl hl' f1 f2
      subst this
      exact kept_inj (k0' := 0) hq hnd'.1 k k' B B' i e1 e1' a1 a1'
    · rw [a4] at f1
      rw [a4'] at f2
      cases oi' with
      | none => simp [Pl.res, e1'] at f2
      | some i' =>
        simp only [Pl.res, e1'] at f2
        obtain ⟨B0, hl⟩ := there e1 a1
        obtain ⟨sh, xs, hl', _⟩ := outBlk_look e2'
        have := hr.dis i i' _ _ p hl hl' f1 f2
        subst this
        exact (hnd'.2.2 i ((mem_iff _ _).1 a2) i (mem_idsOf e1') rfl).elim
    · rw [a4] at f1
      rw [a4'] at f2
      cases oi with
      | none => simp [Pl.res, e1] at f1
      | some i =>
        simp only [Pl.res, e1] at f1
        obtain ⟨B0, hl⟩ := there e1' a1'
        obtain ⟨sh, xs, hl', _⟩ := outBlk_look e2
        have := hr.dis i' i _ _ p hl hl' f2 f1
        subst this
        exact (hnd'.2.2 i' ((mem_iff _ _).1 a2') i' (mem_idsOf e1) rfl).elim
    · rw [a4] at f1
      rw [a4'] at f2
      cases oi with
      | none => simp [Pl.res, e1] at f1
      | some i =>
        cases oi' with
        | none => simp [Pl.res, e1'] at f2
        | some i' =>
          simp only [Pl.res, e1] at f1
          simp only [Pl.res, e1'] at f2
          obtain ⟨_, _, hl, _⟩ := outBlk_look e2
          obtain ⟨_, _, hl', _⟩ := outBlk_look e2'
          have := hr.dis i i' _ _ p hl hl' f1 f2
          subst this
          have := idsOf_inj hnd'.2.1 e1 e1'
          omega
  · rcases origin k B hB with ⟨c, e1, i, a1, a2, _, a4⟩ | ⟨c, b, t, oi, e1, e2, _, a4⟩
    · rw [a4] at hf
      obtain ⟨i', a1', _, hor⟩ := hk2 k B e1
      rw [a1] at a1'; cases a1'
      rcases hor with ⟨l, cs, cs', k1, k2, _, hl, _⟩ | ⟨_, ho⟩
      · exact hr.ob i _ p hl hf
      · unfold outArr at ho
        cases hl : look st.heap i with
        | none => rw [hl] at ho; exact nomatch ho
        | some B0 => exact hr.ob i _ p hl hf
    · rw [a4] at hf
      cases oi with
      | none => simp [Pl.res, e1] at hf
      | some i =>
        simp only [Pl.res, e1] at hf
        obtain ⟨_, _, hl, _⟩ := outBlk_look e2
        exact hr.ob i _ p hl hf
  · have hB : q[k]? = some (some B) := hB
    obtain ⟨i, a1, a2, hor⟩ := hk2 k B hB
    have hlt : k < st.gh.length := (List.getElem?_eq_some_iff.1 a1).1
    have ah : plM.hdr k = pl.hdr i := by simp only [plM, Pl.resM, if_pos hlt, a1]
    rcases hor with ⟨l, cs, cs', k1, k2, _, hl, hol, rfl⟩ | ⟨_, ho⟩
    · obtain ⟨b, off, q1, q2, q3⟩ := hr.blk i _ hl
      refine ⟨i, _, a1, hl, ah, ?_⟩
      obtain ⟨g1, _⟩ := hbx k i cs cs' a1 hl hB ((List.range cs.length).map fun j => (w.at? (b, off + j)).getD undef) (by simp) fun j x u hx hu => by
        obtain ⟨u', g1, g2, g3, g4⟩ := q3 j x hx
        have hj : j < cs.length := (List.getElem?_eq_some_iff.1 hx).1
        have : u = u' := by
          rw [List.getElem?_map, List.getElem?_eq_getElem (by simpa using hj)] at hu
          simp [g1] at hu; exact hu.symm
        subst this; exact g4
      show cs.length = cs'.length
      rw [g1]; simp
    · unfold outArr at ho
      split at ho
      · rename_i t xs hl; cases ho; exact ⟨i, _, a1, hl, ah, ⟨rfl, rfl⟩⟩
      · rename_i d t xs hl
        cases hd : hit LL d <;> simp only [hd, cond_true, cond_false] at ho
        · cases ho; exact ⟨i, _, a1, hl, ah, ⟨rfl, rfl⟩⟩
        · exact nomatch ho
      · exact nomatch ho
  · rcases origin k B hB with ⟨c, e1, i, a1, a2, _, a4⟩ | ⟨c, b, t, oi, e1, e2, _, a4⟩
    · rw [a4] at hf
      obtain ⟨i', a1', _, hor⟩ := hk2 k B e1
      rw [a1] at a1'; cases a1'
      rcases hor with ⟨l, cs, cs', k1, k2, _, hl, _⟩ | ⟨_, ho⟩
      · exact ⟨i, _, hl, hf⟩
      · unfold outArr at ho
        cases hl : look st.heap i with
        | none => rw [hl] at ho; exact nomatch ho
        | some B0 => exact ⟨i, _, hl, hf⟩
    · rw [a4] at hf
      cases oi with
      | none => simp [Pl.res, e1] at hf
      | some i =>
        simp only [Pl.res, e1] at hf
        obtain ⟨_, _, hl, _⟩ := outBlk_look e2
        exact ⟨i, _, hl, hf⟩
end
theorem Act.put_self (a : Act) (t : Nat) : a.put (some t) (a.tmps.getD t undef) = a := by
  unfold Act.put
  have : a.tmps.setIfInBounds t (a.tmps.getD t undef) = a.tmps := by
    apply Array.ext_getElem?
    intro i
    rw [Array.getElem?_setIfInBounds]
    by_cases e : t = i
    · subst e
      rw [if_pos rfl]
      by_cases h : t < a.tmps.size
      · rw [if_pos h, Array.getD_eq_getD_getElem?, Array.getElem?_eq_getElem h]; rfl
      · rw [if_neg h, Array.getElem?_eq_none (by omega)]
    · rw [if_neg e]
  show ({ a with tmps := a.tmps.setIfInBounds t (a.tmps.getD t undef) } : Act) = a
  rw [this]
theorem truncAt_rl {w0 : World} {fp0 : G0} {bs : Cell → Prop} {m : Nat} {st st' : St} {a : Act} {w : World} {t : Nat} (h : Rl w0 fp0 bs m st a w) (ht : truncAt t st = some st') : Rl w0 fp0 bs m st' a w := by
  unfold truncAt at ht
  split at ht
  · rename_i i n hslot
    split at ht
    · rename_i sh ty xs hl
      cases hmi : mem i (sh.getD []) <;> rw [hmi] at ht
      rotate_left
      · exact nomatch ht
      rw [cond_false] at ht
      obtain ⟨pl, hR, hb, hn⟩ := h
      have hv := hR.sl t _ hslot
      obtain ⟨⟨a0, cap, b, o, vs, fs, q1, q2, q3, q4, q5, q6, q7, q8, q9⟩⟩ := (hR.hr.blk i _ hl).rowI
      have hu : ∃ a', a.tmps.getD t undef = .slice a' n cap ∧ (cap = 0 ∨ a' = some ⟨b, o, none⟩) ∧ n ≤ xs.length := by
        generalize a.tmps.getD t undef = u at hv
        cases hv with
        | sub _ _ _ sh2 t2 xs2 a1 a2 cap1 cap2 hl2 hh hn1 hc hc' ha =>
          rw [hl] at hl2; cases hl2
          rw [q1] at hh; cases hh
          have hcc : cap2 = cap := by omega
          subst hcc
          refine ⟨a2, rfl, ?_, by omega⟩
          rcases ha with h | h
          · exact .inl h
          · rcases q3 with h' | h'
            · exact .inl h'
            · exact .inr (by rw [h, h']; simp [Addr.add])
      obtain ⟨a', hu, ha', hnx⟩ := hu
      have htake := ht
      simp only [St.take, Option.bind_eq_some_iff, Option.some.injEq] at htake
      obtain ⟨h1, e1, s, h2, rfl⟩ := htake
      have hfresh : look st.heap st.nid = none := hR.fresh st.nid (Nat.le_refl _)
      have hlen : (xs.take n).length = n := by rw [List.length_take]; omega
      have hT : Turned st.heap (h1 ++ newsH st.nid [.arr sh ty (xs.take n)]) ([i], [i]) st.nid (.arr sh ty (xs.take n)) :=
        turned_new (T := ([i], [i])) (fun k hk => hk) e1 hfresh (sweepH'_all (T := ([i], [i])) (fun k hk => hk) e1)
      have hmm : mem i [i] = true := by simp [mem]
      have hin : ∀ {i' j r}, cellIn ty (xs.take n) i' j r → cellIn ty xs i' j r := fun {i' j r} hx => by
        obtain ⟨x, hx1, hx2⟩ := hx
        have hlt := (List.getElem?_eq_some_iff.1 hx1).1
        rw [hlen] at hlt
        exact ⟨x, by rw [List.getElem?_take, if_pos hlt] at hx1; exact hx1, hx2⟩
      have hst := turn_step (hdr := a.tmps.getD t undef) (fp := fun p => reg b o (cap * ty.sz) p ∨ ∃ i' j r, cellIn ty (xs.take n) i' j r ∧ fs i' j p) (Grown.refl w) hR.hr hT (fun k hk => hk) (fun k hk => .inl hk) (.inl hfresh) (fun p u hp _ => ⟨hp, rfl⟩)
        (fun p hp => hR.hr.nb p hp) (fun p hp => .inr ⟨i, _, hmm, hl, (q9 p).2 (hp.elim .inl fun ⟨i', j, r, hx, hf⟩ => .inr ⟨i', j, r, hin hx, hf⟩)⟩) (fun hk => BlkRep.of_rowI ⟨a', cap, b, o, vs, fs, by simp [Pl.set, hu, hlen], by rw [hlen]; omega, ha', q4, fun i' j r hx => q5 i' j r (hin hx), fun i' j r hx => by
          have hI := q6 i' j r (hin hx)
          cases sh with
          | none => exact hI
          | some d =>
            refine ⟨hI.1.frame fun p u hp hu => hk.k2 d p u (fun x hx => ?_) hp hu, hI.2⟩
            have hmi : mem i d = false := hmi
            show mem x [i] = false
            simp only [mem]
            cases hb : Nat.beq i x
            · rfl
            · have := Nat.eq_of_beq_eq_true hb
              subst this
              rw [hmi] at hx; exact (nomatch hx), fun i' j r p hx hf => q7 i' j r p (hin hx) hf, fun i' j r i2 j2 r2 p hx hx' hf hf' => q8 _ _ _ _ _ _ p (hin hx) (hin hx') hf hf', fun p => by simp [Pl.set]⟩)
      have hres := Rel.take hR ht (fun k B hB => by simp [look] at hB) hst (u := a.tmps.getD t undef) (by
        have := SVRep.own (w := w) (H := h1 ++ newsH st.nid [.arr sh ty (xs.take n)]) (pl := pl.set st.nid (a.tmps.getD t undef) fun p => reg b o (cap * ty.sz) p ∨ ∃ i' j r, cellIn ty (xs.take n) i' j r ∧ fs i' j p) st.nid sh ty (xs.take n) hT.at_n
        simpa [Pl.set] using this)
      rw [Act.put_self] at hres
      exact ⟨_, hres, hb, hn⟩
    · cases ht; exact h
  · cases ht; exact h
theorem truncT_rl {w0 : World} {fp0 : G0} {bs : Cell → Prop} {m : Nat} {fn : Func} {rt : RT} {st st' : St} {a : Act} {w : World} (h : Rl w0 fp0 bs m st a w) (ht : truncT fn rt st = some st') : Rl w0 fp0 bs m st' a w := by
  unfold truncT at ht
  split at ht
  · exact truncAt_rl h ht
  · exact truncAt_rl h ht
  · cases ht; exact h
theorem adopt_get (ks : List KD) (v : SV) (gh : List (Option Nat)) (k : Nat) (h : k < gh.length) : (adopt ks v gh)[k]? = gh[k]? := by
  unfold adopt
  cases Nat.beq ks.length (gh.length + 1)
  · rfl
  · simp only [cond_true]
    split
    · rw [List.getElem?_append_left h]
    · rw [List.getElem?_append_left h]
    · rfl
theorem adopt_len (ks : List KD) (v : SV) (gh : List (Option Nat)) : gh.length ≤ (adopt ks v gh).length := by
  unfold adopt
  cases Nat.beq ks.length (gh.length + 1)
  · exact Nat.le_refl _
  · simp only [cond_true]
    split
    · simp
    · simp
    · exact Nat.le_refl _
theorem keptH_append : ∀ (a b : List (Option Blk)) (n : Nat), keptH n (a ++ b) = keptH n a ++ keptH (n + a.length) b
  | [], b, n => rfl
  | none :: a, b, n => by
    rw [List.cons_append, keptH, keptH, keptH_append a b (n + 1), List.length_cons]
    congr 2; omega
  | some x :: a, b, n => by
    rw [List.cons_append, keptH, keptH, keptH_append a b (n + 1), List.length_cons, List.cons_append]
    congr 3; omega
theorem canonX_sound {w : World} {pl : Pl} {ks : List KD} {v : SV} {st : St} {rt : RT} {o : MOut} {u : Value} (hr : HRel st.heap pl w) (h : canonX rt ks st v = some o) (hv : SVRep w st.heap pl v u) :
    ∃ plM : Pl, HRel o.heap plM w ∧ SVRep w o.heap plM o.v u ∧ plM.base = pl.base ∧ o.kept.length = st.gh.length ∧
      (∀ (k : Nat) (B : Blk), o.kept[k]? = some (some B) → ∃ i B0, st.gh[k]? = some (some i) ∧ look st.heap i = some B0 ∧ plM.hdr k = pl.hdr i ∧ B0.like B) ∧
      (∀ k B p, look o.heap k = some B → plM.fp k p → ∃ i B0, look st.heap i = some B0 ∧ pl.fp i p) := by
  simp only [canonX, Option.bind_eq_some_iff] at h
  obtain ⟨o1, h1, h2⟩ := h
  obtain ⟨plM, m1, m2, m3, m4, m5, m6⟩ := canonM_sound (st := { st with gh := adopt ks v st.gh }) hr h1 hv
  have hal := adopt_len ks v st.gh
  have m4 : o1.kept.length = (adopt ks v st.gh).length := m4
  unfold shiftOut at h2
  split at h2
  · rename_i hd
    have h2 := Option.some.inj h2
    subst h2
    have hl : o1.kept.length ≤ st.gh.length := by
      have := congrArg List.length hd
      simp at this; omega
    exact ⟨plM, m1, m2, m3, by omega, fun k B hB => by
      obtain ⟨i, B0, a1, a2⟩ := m5 k B hB
      have hk : k < o1.kept.length := (List.getElem?_eq_some_iff.1 hB).1
      have a1 : (adopt ks v st.gh)[k]? = some (some i) := a1
      rw [adopt_get ks v st.gh k (by omega)] at a1
      exact ⟨i, B0, a1, a2⟩, m6⟩
  · rename_i b hd
    have h2 := Option.some.inj h2
    subst h2
    have hlen : o1.kept.length = st.gh.length + 1 := by
      have := congrArg List.length hd
      simp at this; omega
    have hk : o1.kept = o1.kept.take st.gh.length ++ [some b] := by
      rw [← hd, List.take_append_drop]
    have htl : (o1.kept.take st.gh.length).length = st.gh.length := by simp; omega
    have hheap : (MOut.heap ⟨o1.v, o1.kept.take st.gh.length, b :: o1.news⟩) = o1.heap := by
      unfold MOut.heap
      show keptH 0 (o1.kept.take st.gh.length) ++ newsH (o1.kept.take st.gh.length).length (b :: o1.news) = keptH 0 o1.kept ++ newsH o1.kept.length o1.news
      have e : keptH 0 o1.kept = keptH 0 (o1.kept.take st.gh.length) ++ keptH (0 + (o1.kept.take st.gh.length).length) [some b] := by
        rw [← keptH_append, ← hk]
      rw [e, htl, hlen, List.append_assoc, Nat.zero_add]
      rfl
    refine ⟨plM, by rw [hheap]; exact m1, by rw [hheap]; exact m2, m3, htl, fun k B hB => ?_, fun k B p hB hf => ?_⟩
    · have hB : (o1.kept.take st.gh.length)[k]? = some (some B) := hB
      have hkl : k < st.gh.length := by have := (List.getElem?_eq_some_iff.1 hB).1; omega
      rw [List.getElem?_take, if_pos hkl] at hB
      obtain ⟨i, B0, a1, a2⟩ := m5 k B hB
      have a1 : (adopt ks v st.gh)[k]? = some (some i) := a1
      rw [adopt_get ks v st.gh k hkl] at a1
      exact ⟨i, B0, a1, a2⟩
    · rw [hheap] at hB
      exact m6 k B p hB hf
  · exact nomatch h2
/-- THE CONTRACT, out of the evaluator. -/
theorem mut_of_ev {ρ : Type} {E : Env} (hE : EnvOk E) {LP : Nat → Ev ρ → Ev ρ} {g : FuncId} {fn : Func} {c : Code} {args : List SV} {bs : List Blk} {r : ρ} {dec : MOut → Option ρ} {enc : ρ → MOut} (hd : ∀ o r, dec o = some r → o = enc r)
    (hlen : (enc r).kept.length = bs.length) (hf : E.P.funcs[g]? = some fn) (hc : fn.body = some c)
    (hnm : (fn.name == "runtime.NumGoroutine") = false) (hn : Nat.ble args.length fn.ntmps = true) (hLP : LPGood E LP 0 c) {rt : RT} {ks : List KD} (h : ev E LP 0 c (st0M fn args bs) (finM E.P fn rt ks dec) = some r) : MutCalls E.P g args bs (enc r) := by
  generalize ho : enc r = out at hlen
  refine ⟨enters_of hf (by rw [hc]; rfl) hnm, hlen, fun w us pl hrel0 hl hargs => ?_⟩
  have hn := Nat.le_of_ble_eq_true hn
  refine calls_of_wp hf hc ?_
  let g0 : G0 := ⟨fun p => ∃ k B, look (newsH 0 bs) k = some B ∧ pl.fp k p, pl.hdr, fun k => bs.getD k (.box [])⟩
  have hrel : Rl w g0 pl.base fn.ntmps (st0M fn args bs) { tmps := us ++ Array.replicate (fn.ntmps - us.size) undef, defers := [] } w := by
    refine ⟨pl, ⟨hrel0, fun t v hv => ?_, by simp [st0M]; omega, rfl, fun i hi => newsH_high (by show 0 + bs.length ≤ i; have hi : bs.length ≤ i := hi; omega), Grown.refl w, fun p u hp hno => ⟨fun i B hB hf => hno ⟨i, B, hB, hf⟩, hp, rfl⟩, fun k i hk => ?_⟩, rfl, rfl⟩
    · simp only [st0M] at hv
      rw [look_slotsM, if_pos (Nat.zero_le _), Nat.sub_zero] at hv
      have ht : t < us.size := by rw [← hl]; exact (List.getElem?_eq_some_iff.1 hv).1
      have hg : (us ++ Array.replicate (fn.ntmps - us.size) undef).getD t undef = us[t] := by
        rw [Array.getD_eq_getD_getElem?, Array.getElem?_append_left ht, Array.getElem?_eq_getElem ht]; rfl
      rw [hg]
      exact hargs t v _ hv (Array.getElem?_eq_getElem ht)
    · obtain ⟨rfl, h2⟩ := rangeG_get bs.length 0 k hk
      rw [Nat.zero_add]
      refine ⟨h2, fun B hB => ⟨rfl, ?_⟩⟩
      have hB : look (newsH 0 bs) k = some B := hB
      rw [look_newsH, if_pos (Nat.zero_le _), Nat.sub_zero] at hB
      show (bs.getD k (.box [])).like B
      rw [List.getD_eq_getElem?_getD, hB]; exact B.like_refl
  refine ev_sound hE c 0 hLP w g0 pl.base fn.ntmps _ _ w _ r _ hrel h fun e st' a' w' hK hr'' => ?_
  have key : ∀ st', Rl w g0 pl.base fn.ntmps st' a' w' → ∀ v, finV E.P fn st' = some v → canonX rt ks st' v = some out → a'.defers = [] ∧ ∃ u, (results fn a'.tmps).run E.P w' = .ok u w' ∧ ∃ u' pl', Ending.returned u = .returned u' ∧ HRel out.heap pl' w' ∧ SVRep w' out.heap pl' out.v u' ∧ pl'.base = pl.base ∧ Grown w w' ∧
      (∀ (k : Nat) (B : Blk), out.kept[k]? = some (some B) → pl'.hdr k = pl.hdr k ∧ ∃ B0, bs[k]? = some B0 ∧ B0.like B) ∧
      (∀ p u, w.at? p = some u → (∀ k B, look (newsH 0 bs) k = some B → ¬ pl.fp k p) → (∀ k B, look out.heap k = some B → ¬ pl'.fp k p) ∧ w'.at? p = some u ∧ w'.ice? p = w.ice? p) := fun st' hr' v hv hcn => by
    obtain ⟨pl1, hr, hb, _⟩ := hr'
    obtain ⟨u, hu, hvr⟩ := finV_rep (P := E.P) hr.hr hr.sl hv
    obtain ⟨plM, m1, m2, m3, m4, m5, m6⟩ := canonX_sound hr.hr hcn hvr
    refine ⟨hr.df, u, hu, u, plM, rfl, m1, m2, m3.trans hb, hr.gr, fun k B hB => ?_, fun p u hp hno => ?_⟩
    · obtain ⟨i, B0, a1, a2, a3, a4⟩ := m5 k B hB
      obtain ⟨_, t2⟩ := hr.gk k i a1
      obtain ⟨t3, t4⟩ := t2 B0 a2
      have hk : k < bs.length := by rw [← hlen]; exact (List.getElem?_eq_some_iff.1 hB).1
      refine ⟨a3.trans t3, bs[k], List.getElem?_eq_getElem hk, ?_⟩
      have t4 : (bs.getD k (.box [])).like B0 := t4
      rw [List.getD_eq_getElem?_getD, List.getElem?_eq_getElem hk] at t4
      exact Blk.like_trans t4 a4
    · obtain ⟨f1, f2, f3⟩ := hr.fr p u hp fun ⟨k, B, hB, hf⟩ => hno k B hB hf
      exact ⟨fun k B hB hf => by
        obtain ⟨i, B0, q1, q2⟩ := m6 k B p hB hf
        exact f1 i B0 q1 q2, f2, f3⟩
  cases e with
  | exit j => exact nomatch hK
  | normal =>
    simp only [finM, Option.bind_eq_some_iff] at hK
    obtain ⟨st2, hst2, v, hv, o, hcn, hdec⟩ := hK
    exact key st2 (truncT_rl hr'' hst2) v hv (hcn.trans (congrArg some ((hd o r hdec).trans ho)))
  | ret =>
    simp only [finM, Option.bind_eq_some_iff] at hK
    obtain ⟨st2, hst2, v, hv, o, hcn, hdec⟩ := hK
    exact key st2 (truncT_rl hr'' hst2) v hv (hcn.trans (congrArg some ((hd o r hdec).trans ho)))
end Go.Proofs.Ev

set_option linter.unusedVariables false
namespace Go.Proofs.Ev
variable [Tok]
set_option linter.unusedSectionVars false
def plainV : SV → Bool
  | .r _ (.int _ _) => true
  | .r _ (.bool _) => true
  | .r _ (.str _) => true
  | _ => false
def plainL : List SV → Bool
  | [] => true
  | v :: l => cond (plainV v) (plainL l) false
theorem plainL_mem : ∀ {l : List SV}, plainL l = true → ∀ v ∈ l, plainV v = true
  | [], _, v, hv => nomatch hv
  | x :: l, h, v, hv => by
    simp only [plainL] at h
    cases hx : plainV x <;> simp only [hx, cond_true, cond_false] at h
    · exact nomatch h
    · rcases List.mem_cons.1 hv with rfl | hv
      · exact hx
      · exact plainL_mem h v hv
theorem plain_rep {w w' : World} {H H' : Heap} {pl pl' : Pl} {v : SV} {u : Value} (h : plainV v = true) (hv : SVRep w H pl v u) : SVRep w' H' pl' v u := by
  cases hv with
  | r d x _ hx => cases hx with
    | int => exact .r _ _ _ (.int _ _)
    | bool => exact .r _ _ _ (.bool _)
    | str => exact .r _ _ _ (.str _)
    | tok => first | exact .r _ _ _ (.tok _) | exact nomatch h
    | sl => exact nomatch h
  | _ => exact nomatch h
/-- The call on the inner slice alone; the element is put together behind it. -/
def innOrc (o : Orc) : Orc := fun ρ nid vs h K => match vs with
  | .inn i x c :: rest => cond (plainL rest) (match look h i with
    | some (.arr none t xs) => (xs[x]?).bind fun e => match (t.cells e)[c]? with
      | some (.sl t' ys) => o ρ nid (.own i :: rest) [(i, .arr none t' ys)] fun q =>
        cond (plainV q.v && (isNil q.news && isNil q.gone)) (match q.upd with
          | [(_, .arr none t2 zs)] => if he : t2 = t' then (t.ofCells ((t.cells e).take c ++ [.sl t' (he ▸ zs)] ++ (t.cells e).drop (c + 1))).bind fun y => K { v := q.v, upd := [(i, .arr none t (xs.set x y))], dirty := [i] } else none
          | _ => none) none
      | _ => none
    | _ => none) none
  | _ => o ρ nid vs h K
section
variable {w w' : World} {H H' : Heap} {pl : Pl}
theorem inn_step {i x c cap b o : Nat} {t t' : Ty} {xs : List t.El} {e y : t.El} {ys zs : List t'.El} {vs : Nat → Nat → Value} {fs : Nat → Nat → Cell → Prop} {T2 : Kil} {pl2 pl2' : Pl}
    (hr : HRel H pl w) (hli : look H i = some (.arr none t xs)) (hx : xs[x]? = some e) (hc : (t.cells e)[c]? = some (.sl t' ys)) (hy : t.cells y = (t.cells e).take c ++ [.sl t' zs] ++ (t.cells e).drop (c + 1))
    (hh : pl.hdr i = .slice (some ⟨b, o, none⟩) xs.length cap) (h2 : xs.length ≤ cap) (h4 : ∀ j, j < cap * t.sz → (∃ v, w.at? (b, o + j) = some v) ∧ whole (w.ice? (b, o + j)) o (cap * t.sz) = true)
    (h5 : ∀ i j r, cellIn t xs i j r → w.at? (b, o + (i * t.sz + j)) = some (vs i j)) (h6 : ∀ i j r, cellIn t xs i j r → RepD w r (vs i j) (fs i j))
    (h7 : ∀ i j r p, cellIn t xs i j r → fs i j p → ¬ reg b o (cap * t.sz) p) (h8 : ∀ i j r i' j' r' p, cellIn t xs i j r → cellIn t xs i' j' r' → fs i j p → fs i' j' p → i = i' ∧ j = j')
    (h9 : ∀ p, pl.fp i p ↔ reg b o (cap * t.sz) p ∨ ∃ i j r, cellIn t xs i j r ∧ fs i j p)
    (hb2 : pl2.base = pl.base) (hf2 : pl2.fp i = fs x c) (hd2 : pl2.hdr i = vs x c) (hg2 : mem i T2.1 = false) (hst : StepTo [(i, .arr none t' ys)] [(i, .arr none t' zs)] T2 pl2 pl2' w w')
    (ht : Turned H H' ([], [i]) i (.arr none t (xs.set x y))) : ∃ pl', StepTo H H' ([], [i]) pl pl' w w' := by
  have hxl : x < xs.length := (List.getElem?_eq_some_iff.1 hx).1
  have hcl : c < t.sz := by rw [← Ty.cells_length t e]; exact (List.getElem?_eq_some_iff.1 hc).1
  have hcell : cellIn t xs x c (.sl t' ys) := ⟨e, hx, hc⟩
  have hl1 : ∀ {t' : Ty} {ys : List t'.El} {j B}, look [(i, Blk.arr none t' ys)] j = some B → j = i ∧ B = .arr none t' ys := fun {t' ys j B} h => by
    rw [look_cons] at h
    by_cases e : i = j
    · rw [if_pos e] at h; cases h; exact ⟨e.symm, rfl⟩
    · rw [if_neg e] at h; exact nomatch h
  have hout : ∀ p u, w.at? p = some u → ¬ fs x c p → ¬ pl2'.fp i p ∧ w'.at? p = some u ∧ w'.ice? p = w.ice? p := fun p u hp hn => by
    obtain ⟨g1, g2⟩ := hst.fr p u hp fun j B hB hf => by
      obtain ⟨rfl, _⟩ := hl1 hB
      rw [hf2] at hf; exact hn hf
    exact ⟨g1 i _ (by rw [look_cons, if_pos rfl]), g2⟩
  have hfsin : ∀ p, fs x c p → pl.fp i p := fun p hp => (h9 p).2 (.inr ⟨_, _, _, hcell, hp⟩)
  have hmem : ∀ j, mem j [i] = true → j = i := fun j hj => by
    simp only [mem] at hj
    cases hb : Nat.beq i j <;> simp only [hb, cond_true, cond_false] at hj
    · exact nomatch hj
    · exact (Nat.eq_of_beq_eq_true hb).symm
  have hmi : mem i [i] = true := by simp [mem]
  have hnew : ∀ p, pl2'.fp i p → ∃ u, w'.at? p = some u := fun p hp => hst.hr.own_there i _ p (by rw [look_cons, if_pos rfl]) hp
  refine ⟨_, turn_step (hdr := pl.hdr i) (fp := fun p => (pl.fp i p ∧ ¬ fs x c p) ∨ pl2'.fp i p) hst.gr hr ht (fun j hj => nomatch hj) (fun j hj => .inr (hmem j hj)) (.inr ⟨_, hli, hmi, ⟨rfl, by simp⟩, rfl⟩)
    (fun p u hp hno => (hout p u hp fun hf => hno i _ hmi hli (hfsin p hf)).2) (fun p hp => ?_) (fun p hp => ?_) fun hk => ?_⟩
  · have := hst.hr.nb p hp
    rw [hst.bs, hb2] at this; exact this
  · rcases hp with hp | hp
    · exact .inr ⟨i, _, hmi, hli, hp.1⟩
    · cases hq : w.at? p with
      | none => exact .inl rfl
      | some u =>
        by_cases hf : fs x c p
        · exact .inr ⟨i, _, hmi, hli, hfsin p hf⟩
        · exact ((hout p u hq hf).1 hp).elim
  · have hsplit : ∀ {i' j r}, cellIn t (xs.set x y) i' j r → (i' = x ∧ j = c ∧ r = .sl t' zs) ∨ (¬ (i' = x ∧ j = c) ∧ cellIn t xs i' j r) := fun {i' j r} h => by
      obtain ⟨z, hz, hzj⟩ := h
      by_cases e1 : i' = x
      · subst e1
        rw [List.getElem?_set_self hxl] at hz
        cases hz
        rw [hy] at hzj
        have hto : ((t.cells e).take c).length = c := by rw [List.length_take, Ty.cells_length]; omega
        by_cases c1 : j < c
        · rw [List.append_assoc, List.getElem?_append_left (by omega), List.getElem?_take, if_pos c1] at hzj
          exact .inr ⟨fun h => by omega, e, hx, hzj⟩
        · by_cases c2 : j = c
          · subst c2
            rw [List.append_assoc, List.getElem?_append_right (by omega), hto, Nat.sub_self] at hzj
            cases hzj
            exact .inl ⟨rfl, rfl, rfl⟩
          · rw [List.append_assoc, List.getElem?_append_right (by omega), hto, List.getElem?_append_right (by simp; omega), List.getElem?_drop] at hzj
            simp only [List.length_singleton] at hzj
            rw [show c + 1 + (j - c - 1) = j from by omega] at hzj
            exact .inr ⟨fun h => c2 h.2, e, hx, hzj⟩
      · rw [List.getElem?_set_ne (fun e => e1 e.symm)] at hz
        exact .inr ⟨fun h => e1 h.1, z, hz, hzj⟩
    have hback : ∀ {i' j r}, cellIn t xs i' j r → ∃ r', cellIn t (xs.set x y) i' j r' := fun {i' j r} h => by
      obtain ⟨a1, a2⟩ := cellIn_lt h
      exact cellIn_of (by simpa using a1) a2
    have hreg0 : ∀ p, reg b o (cap * t.sz) p → ¬ fs x c p := fun p hp hf => h7 _ _ _ p hcell hf hp
    have hsl : RepD w' (.sl t' zs) (vs x c) (pl2'.fp i) := by
      have h1 := hst.hr.blk i _ (by rw [look_cons, if_pos rfl] : look [(i, Blk.arr none t' zs)] i = some (.arr none t' zs))
      obtain ⟨_, _, _, h3⟩ := hst.kp.k1 i _ (by rw [look_cons, if_pos rfl]) hg2
      rw [← hd2, ← h3]
      obtain ⟨R⟩ := h1
      exact R.repD
    have e1 : (pl.set i (pl.hdr i) fun p => (pl.fp i p ∧ ¬ fs x c p) ∨ pl2'.fp i p).hdr i = pl.hdr i := by simp [Pl.set]
    have e2 : (pl.set i (pl.hdr i) fun p => (pl.fp i p ∧ ¬ fs x c p) ∨ pl2'.fp i p).fp i = fun p => (pl.fp i p ∧ ¬ fs x c p) ∨ pl2'.fp i p := by simp [Pl.set]
    show Nonempty (Row w' (RepD w') t (xs.set x y) ((pl.set i (pl.hdr i) fun p => (pl.fp i p ∧ ¬ fs x c p) ∨ pl2'.fp i p).hdr i) ((pl.set i (pl.hdr i) fun p => (pl.fp i p ∧ ¬ fs x c p) ∨ pl2'.fp i p).fp i))
    rw [e1, e2]
    refine ⟨⟨some ⟨b, o, none⟩, cap, b, o, vs, fun i' j => if i' = x ∧ j = c then pl2'.fp i else fs i' j, by rw [hh, List.length_set], by rw [List.length_set]; exact h2, .inr rfl, fun j hj => ?_, fun i' j r h => ?_, fun i' j r h => ?_, fun i' j r p h hf => ?_, fun i' j r i'' j' r' p h h' hf hf' => ?_, fun p => ?_⟩⟩
    · obtain ⟨⟨v, hv⟩, hi⟩ := h4 j hj
      obtain ⟨_, g1, g2⟩ := hout _ v hv (hreg0 _ ⟨rfl, by simp, by simp; omega⟩)
      exact ⟨⟨v, g1⟩, by rw [g2]; exact hi⟩
    · obtain ⟨a1, a2⟩ := cellIn_lt h
      rw [List.length_set] at a1
      obtain ⟨r0, hr0⟩ := cellIn_of a1 a2
      exact (hout _ _ (h5 _ _ _ hr0) (hreg0 _ ⟨rfl, by simp, by have := off_lt a1 a2 h2; simp; omega⟩)).2.1
    · rcases hsplit h with ⟨rfl, rfl, rfl⟩ | ⟨hne, h⟩
      · rw [if_pos ⟨rfl, rfl⟩]; exact hsl
      · rw [if_neg hne]
        refine (h6 _ _ _ h).frame fun p u hp hu => (hout p u hu fun hf => hne ?_).2
        exact h8 _ _ _ _ _ _ p h hcell hp hf
    · rcases hsplit h with ⟨rfl, rfl, rfl⟩ | ⟨hne, h⟩
      · rw [if_pos ⟨rfl, rfl⟩] at hf
        intro hre
        obtain ⟨p1, p2⟩ := p
        obtain ⟨q1, q2, q3⟩ := hre
        simp only at q1 q2 q3
        subst q1
        obtain ⟨⟨v, hv⟩, _⟩ := h4 (p2 - o) (by omega)
        rw [show o + (p2 - o) = p2 from by omega] at hv
        exact (hout _ v hv (hreg0 _ ⟨rfl, q2, q3⟩)).1 hf
      · rw [if_neg hne] at hf; exact h7 _ _ _ p h hf
    · have cross : ∀ {i' j r}, ¬ (i' = x ∧ j = c) → cellIn t xs i' j r → fs i' j p → pl2'.fp i p → False := fun {i' j r} hne h hf hf' => by
        obtain ⟨u, hu⟩ := (h6 _ _ _ h).there p hf
        exact (hout p u hu fun hq => hne (h8 _ _ _ _ _ _ p h hcell hf hq)).1 hf'
      rcases hsplit h with ⟨rfl, rfl, rfl⟩ | ⟨hne, hc1⟩ <;> rcases hsplit h' with ⟨rfl, rfl, rfl⟩ | ⟨hne', hc2⟩
      · exact ⟨rfl, rfl⟩
      · rw [if_pos ⟨rfl, rfl⟩] at hf
        rw [if_neg hne'] at hf'
        exact (cross hne' hc2 hf' hf).elim
      · rw [if_pos ⟨rfl, rfl⟩] at hf'
        rw [if_neg hne] at hf
        exact (cross hne hc1 hf hf').elim
      · rw [if_neg hne] at hf
        rw [if_neg hne'] at hf'
        exact h8 _ _ _ _ _ _ p hc1 hc2 hf hf'
    · constructor
      · rintro (⟨hp, hn⟩ | hp)
        · rcases (h9 p).1 hp with hp | ⟨i', j, r, h, hf⟩
          · exact .inl hp
          · have hne : ¬ (i' = x ∧ j = c) := fun ⟨q1, q2⟩ => by subst q1 q2; exact hn hf
            obtain ⟨r', h'⟩ := hback h
            exact .inr ⟨i', j, r', h', by rw [if_neg hne]; exact hf⟩
        · obtain ⟨r', h'⟩ := hback hcell
          exact .inr ⟨x, c, r', h', by rw [if_pos ⟨rfl, rfl⟩]; exact hp⟩
      · rintro (hp | ⟨i', j, r, h, hf⟩)
        · exact .inl ⟨(h9 p).2 (.inl hp), hreg0 p hp⟩
        · rcases hsplit h with ⟨rfl, rfl, rfl⟩ | ⟨hne, h⟩
          · rw [if_pos ⟨rfl, rfl⟩] at hf; exact .inr hf
          · rw [if_neg hne] at hf
            exact .inl ⟨(h9 p).2 (.inr ⟨_, _, _, h, hf⟩), fun hq => hne (h8 _ _ _ _ _ _ p h hcell hf hq)⟩
end
theorem innOrc_ok {P : Program} {g : FuncId} {o : Orc} (ho : OrcOk P g o) : OrcOk P g (innOrc o) := by
  intro ρ nid vs H K out hK
  unfold innOrc at hK
  split at hK
  case h_2 => exact ho ρ nid _ H K _ hK
  rename_i i x c rest
  cases hpl : plainL rest <;> simp only [hpl, cond_true, cond_false] at hK
  · exact nomatch hK
  split at hK
  case h_2 => exact nomatch hK
  rename_i t xs hli
  simp only [Option.bind_eq_some_iff] at hK
  obtain ⟨e, hx, hK⟩ := hK
  split at hK
  case h_2 => exact nomatch hK
  rename_i t' ys hc
  obtain ⟨q, hq, hen, hup, hcall⟩ := ho ρ nid _ _ _ _ hK
  cases hpv : (plainV q.v && (isNil q.news && isNil q.gone)) <;> simp only [hpv, cond_true, cond_false] at hq
  · exact nomatch hq
  simp only [Bool.and_eq_true] at hpv
  obtain ⟨hpv, hnw, hgn⟩ := hpv
  have hnw := isNil_eq hnw
  have hgn := isNil_eq hgn
  split at hq
  case h_2 => exact nomatch hq
  rename_i i' t2 zs hqu
  split at hq
  case isFalse => exact nomatch hq
  rename_i het
  subst het
  simp only [Option.bind_eq_some_iff] at hq
  obtain ⟨y, hy, hK⟩ := hq
  have hy := Ty.ofCells_spec _ _ _ hy
  have hii : i' = i := by
    obtain ⟨B', hB'⟩ := hup i' _ (by rw [hqu, look_cons, if_pos rfl])
    rw [look_cons] at hB'
    by_cases e : i = i'
    · exact e.symm
    · rw [if_neg e] at hB'; exact nomatch hB'
  subst hii
  refine ⟨_, hK, hen, fun j B hB => ?_, fun H1 pl w us he hr hn hl hp H' ha => ?_⟩
  · rw [look_cons] at hB
    by_cases e : i' = j
    · subst e; exact ⟨_, hli⟩
    · rw [if_neg e] at hB; exact nomatch hB
  have hli1 := he _ _ hli
  obtain ⟨u0, hu0⟩ : ∃ u0, us[0]? = some u0 := ⟨us[0]'(by rw [← hl]; simp), by simp⟩
  have hi0 := hp 0 _ u0 rfl hu0
  cases hi0 with
  | inn _ _ _ sh t1 xs1 b o n cap _ hl1 hx1 hc1 hh hok hat hone =>
    rw [hli1] at hl1; cases hl1
    obtain ⟨⟨a', cap', b', o', vs, fs, h1, h2, h3, h4, h5, h6, h7, h8, h9⟩⟩ := hr.blk _ _ hli1
    rw [hh] at h1; cases h1
    have h3 := h3.resolve_left (by omega)
    cases h3
    have hcell : cellIn t xs x c (.sl t2 ys) := ⟨e, hx, hc⟩
    have hu : u0 = vs x c := by rw [h5 _ _ _ hcell] at hat; cases hat; rfl
    subst hu
    let pl2 : Pl := ⟨fun _ => vs x c, fun _ => fs x c, pl.base⟩
    have hl1 : ∀ {j B}, look [(i', Blk.arr none t2 ys)] j = some B → j = i' ∧ B = .arr none t2 ys := fun {j B} h => by
      rw [look_cons] at h
      by_cases e : i' = j
      · rw [if_pos e] at h; cases h; exact ⟨e.symm, rfl⟩
      · rw [if_neg e] at h; exact nomatch h
    have hr2 : HRel [(i', .arr none t2 ys)] pl2 w := by
      refine ⟨fun j B hB => ?_, fun j k B B' p q1 q2 _ _ => ?_, fun j B p hB hf => ?_, hr.nb⟩
      · obtain ⟨rfl, rfl⟩ := hl1 hB
        exact (h6 _ _ _ hcell).row
      · rw [(hl1 q1).1, (hl1 q2).1]
      · exact hr.ob _ _ p hli1 ((h9 p).2 (.inr ⟨_, _, _, hcell, hf⟩))
    have haf : after [(i', .arr none t2 ys)] nid q = some [(i', .arr none t2 zs)] := by
      unfold after
      rw [hqu, hnw]
      have : upds [(i', Blk.arr none t2 zs)] [(i', Blk.arr none t2 ys)] = [(i', .arr none t2 zs)] := by simp [upds, put]
      rw [this]
      have : sweepH' q.kil [(i', Blk.arr none t2 zs)] = some [(i', .arr none t2 zs)] := by
        unfold sweepH'
        split
        · rfl
        · simp [sweepH, CR.kil, hgn, mem, Blk.sweep]
      rw [this]
      simp [newsH]
    refine (hcall _ pl2 w us .rfl' hr2 (fun k hk => by rw [hnw] at hk; exact nomatch hk) (by simpa using hl) (fun j v u hv hu => ?_) _ haf).mono fun e' w' ⟨u, pl2', he', hst, hv'⟩ => ?_
    · cases j with
      | zero =>
        rw [hu0] at hu; cases hu
        cases hv
        exact SVRep.own (pl := pl2) i' none t2 ys (by rw [look_cons, if_pos rfl])
      | succ j => exact plain_rep (plainL_mem hpl v (List.mem_of_getElem? (by simpa using hv))) (hp (j + 1) v u (by simpa using hv) hu)
    · obtain ⟨ht, _⟩ := after_upd (c := { v := q.v, upd := [(i', .arr none t (xs.set x y))], dirty := [i'] }) hli1 rfl rfl rfl ha
      obtain ⟨pl', hst'⟩ := inn_step hr hli1 hx hc hy hh h2 h4 h5 h6 h7 h8 h9 (pl2 := pl2) rfl rfl rfl (by show mem i' q.gone = false; rw [hgn]; rfl) hst ht
      exact ⟨u, pl', he', hst', plain_rep hpv hv'⟩
end Go.Proofs.Ev

namespace Go.Proofs.Ev
variable [Tok]
set_option linter.unusedSectionVars false
section
variable {ρ : Type}
/-- The loops of a text that lie in no other loop, each with the block around it. -/
def loopsIn : Nat → Code → List (Nat × Code)
  | cb, .seq a b => loopsIn cb a ++ loopsIn cb b
  | cb, .cond _ a b => loopsIn cb a ++ loopsIn cb b
  | _, .block id c => loopsIn id c
  | cb, .scope c => loopsIn cb c
  | cb, .loop c => [(cb, c)]
  | _, _ => []
theorem lpgood_list {E : Env} {LP : Nat → Ev ρ → Ev ρ} : ∀ (c : Code) (cb : Nat), (∀ x ∈ loopsIn cb c, Sound E.P (.loop x.2) (LP x.1 fun st K => ev E LP x.1 x.2 st K)) → LPGood E LP cb c
  | .seq a b, cb, h => ⟨lpgood_list a cb fun x hx => h x (by simp [loopsIn, hx]), lpgood_list b cb fun x hx => h x (by simp [loopsIn, hx])⟩
  | .cond _ a b, cb, h => ⟨lpgood_list a cb fun x hx => h x (by simp [loopsIn, hx]), lpgood_list b cb fun x hx => h x (by simp [loopsIn, hx])⟩
  | .block id c, _, h => lpgood_list c id h
  | .scope c, cb, h => lpgood_list c cb h
  | .loop c, cb, h => h (cb, c) (by simp [loopsIn])
  | .skip, _, _ => trivial
  | .label _, _, _ => trivial
  | .region _ _ _, _, _ => trivial
  | .exit _, _, _ => trivial
  | .ret, _, _ => trivial
  | .rangeFunc _ _ _ _, _, _ => trivial
  | .goto _, _, _ => trivial
  | .refuse _, _, _ => trivial
def AllIn (p : Nat × Code → Prop) : List (Nat × Code) → Prop
  | [] => True
  | x :: l => p x ∧ AllIn p l
theorem allIn_mem {p : Nat × Code → Prop} : ∀ {l : List (Nat × Code)}, AllIn p l → ∀ x ∈ l, p x
  | y :: l, h, x, hx => by
    rcases List.mem_cons.1 hx with rfl | hx
    · exact h.1
    · exact allIn_mem h.2 x hx
theorem lpgood_of {E : Env} {LP : Nat → Ev ρ → Ev ρ} {c : Code} {cb : Nat} {l : List (Nat × Code)} (hl : loopsIn cb c = l)
    (h : AllIn (fun x => Sound E.P (.loop x.2) (LP x.1 fun st K => ev E LP x.1 x.2 st K)) l) : LPGood E LP cb c :=
  lpgood_list c cb (by rw [hl]; exact allIn_mem h)
theorem lpgood_none {E : Env} {LP : Nat → Ev ρ → Ev ρ} {c : Code} {cb : Nat} (hl : loopsIn cb c = []) : LPGood E LP cb c := lpgood_of hl trivial
theorem orc_cond {P : Program} {n g : Nat} {o o' : Orc} (h : OrcOk P n o) (h' : OrcOk P g o') : OrcOk P g (cond (Nat.beq g n) o o') := by
  cases hb : Nat.beq g n
  · exact h'
  · have : g = n := Nat.eq_of_beq_eq_true hb
    subst this; exact h
theorem loop_ok {P : Program} {c : Code} {f : Ev ρ} {p V : Type} (hf : Sound P c f) {keep : List Nat} {co : List (Where × Co)} (kx : Ex → List Nat) (cx : Ex → List (Where × Co)) (k : Nat) {dec : Nat → NF → Option (p × V)} {tm : p × V → St}
    {g : p → V → (V → Option ρ) → (Ex → St → Option ρ) → Option ρ} (hd : ∀ n nf v, dec n nf = some v → denorm keep n nf = tm v)
    (hg : ∀ (q : p) (v : V) (K K1 : Ex → St → Option ρ), f (tm (q, v)) (fun e st' => match e with
        | .normal => (normC keep co st').bind fun nf => K1 .normal (denorm keep st'.n nf)
        | e => (normC (kx e) (cx e) st').bind fun nf => K e (denorm (kx e) st'.n nf)) = g q v (fun v' => K1 .normal (tm (q, v'))) K) :
    Sound P (.loop c) (loopOrc keep co dec fun pv K => iter (fun v next => g pv.1 v next K) k pv.2) :=
  loopOrc_sound hf kx cx k hd fun pv K => (iter_loopV (tm := fun v => tm (pv.1, v)) (g := fun v next K => g pv.1 v next K) (fun v K K1 next hn => by
    have : next = fun v' => K1 .normal (tm (pv.1, v')) := funext fun v' => (hn v').symm
    rw [this]; exact hg pv.1 v K K1) K k pv.2).symm
/-- How far a loop's first state is read: at the given number of slots alone. -/
theorem dec_at {T : Type} {keep : List Nat} {N : Nat} {d : NF → Option T} {tm : T → St} (h : ∀ nf v, d nf = some v → denorm keep N nf = tm v) (n : Nat) (nf : NF) (v : T)
    (e : cond (Nat.beq n N) (d nf) none = some v) : denorm keep n nf = tm v := by
  cases hb : Nat.beq n N <;> simp only [hb, cond_true, cond_false] at e
  · exact nomatch e
  · have : n = N := Nat.eq_of_beq_eq_true hb
    subst this; exact h nf v e
/-- A function's contract, out of the evaluator. -/
theorem pureOk_of_ev {A R : Type} {E : Env} (hE : EnvOk E) {LP : Nat → Ev R → Ev R} {g : FuncId} {fn : Func} (hf : E.P.funcs[g]? = some fn) (hc : fn.body.isSome = true)
    (hnm : (fn.name == "runtime.NumGoroutine") = false) (argsOf : A → List Arg) (argD : List Arg → Option A) (hA : ∀ l a, argD l = some a → l = argsOf a)
    (hn : ∀ a, Nat.ble (argsOf a).length fn.ntmps = true) (hLP : LPGood E LP 0 (fn.body.getD .skip)) {rt : RT} {dec : Out → Option R} {enc : R → Out} (hd : ∀ o r, dec o = some r → o = enc r)
    {F : A → Option R} (h : ∀ a, ev E LP 0 (fn.body.getD .skip) (st0 fn (argsOf a)) (fin E.P fn rt dec) = F a) :
    PureOk E.P g fun _ l K => (argD l).bind fun a => (F a).bind fun r => K (enc r) := by
  intro ρ l K out hK
  simp only [Option.bind_eq_some_iff] at hK
  obtain ⟨a, ha, r, hr, hK⟩ := hK
  obtain ⟨c, hcb⟩ := Option.isSome_iff_exists.1 hc
  have hgc : fn.body.getD .skip = c := by rw [hcb]; rfl
  rw [hA l a ha]
  exact ⟨enc r, hK, pure_of_ev hE hd hf hcb hnm (hn a) (hgc ▸ hLP) (by rw [← hgc, h a]; exact hr)⟩
/-- A contract of a function that is handed blocks, out of the evaluator. -/
theorem mutOk_of_ev {A R : Type} {E : Env} (hE : EnvOk E) {LP : Nat → Ev R → Ev R} {g : FuncId} {fn : Func} (hf : E.P.funcs[g]? = some fn) (hc : fn.body.isSome = true)
    (hnm : (fn.name == "runtime.NumGoroutine") = false) (argsOf : A → List SV) (blksOf : A → List Blk) (argD : List SV → List Blk → Option A) (hA : ∀ l b a, argD l b = some a → l = argsOf a ∧ b = blksOf a)
    (hn : ∀ a, Nat.ble (argsOf a).length fn.ntmps = true) (hLP : LPGood E LP 0 (fn.body.getD .skip)) {rt : RT} {ks : List KD} {dec : A → MOut → Option R} {enc : A → R → MOut}
    (hlen : ∀ a r, (enc a r).kept.length = (blksOf a).length) (hd : ∀ a o r, dec a o = some r → o = enc a r)
    {F : A → Option R} (h : ∀ a, ev E LP 0 (fn.body.getD .skip) (st0M fn (argsOf a) (blksOf a)) (finM E.P fn rt ks (dec a)) = F a) :
    MutOk E.P g fun _ l b K => (argD l b).bind fun a => (F a).bind fun r => K (enc a r) := by
  intro ρ l b K out hK
  simp only [Option.bind_eq_some_iff] at hK
  obtain ⟨a, ha, r, hr, hK⟩ := hK
  obtain ⟨c, hcb⟩ := Option.isSome_iff_exists.1 hc
  have hgc : fn.body.getD .skip = c := by rw [hcb]; rfl
  obtain ⟨rfl, rfl⟩ := hA l b a ha
  exact ⟨enc a r, hK, mut_of_ev hE (hd a) (hlen a r) hf hcb hnm (hn a) (hgc ▸ hLP) (by rw [← hgc, h a]; exact hr)⟩
/-- What is not turned is as it was. -/
def sameL {α : Type} [DecidableEq α] (x y : α) : Bool := decide (x = y)
theorem dec_chk1 {α R : Type} [DecidableEq α] {z e : α} {x r : R} (h : cond (sameL z e) (some x) none = some r) : z = e ∧ some x = some r := by
  unfold sameL at h
  by_cases c : z = e
  · rw [decide_eq_true c] at h; exact ⟨c, h⟩
  · rw [decide_eq_false c] at h; exact nomatch h
theorem dec_chk2 {α β R : Type} [DecidableEq α] [DecidableEq β] {z e : α} {z2 e2 : β} {x r : R} (h : cond (sameL z e) (cond (sameL z2 e2) (some x) none) none = some r) : z = e ∧ z2 = e2 ∧ some x = some r := by
  unfold sameL at h
  by_cases c : z = e
  · rw [decide_eq_true c] at h; exact ⟨c, dec_chk1 h⟩
  · rw [decide_eq_false c] at h; exact nomatch h
end
end Go.Proofs.Ev

set_option linter.unusedVariables false
set_option linter.unusedSimpArgs false
set_option linter.unusedSectionVars false
namespace Go.Proofs.Ev
def Ty.plain : Ty → Bool
  | .tok => false
  | .st .taskK | .st .requestK => false
  | .sl t => t.plain
  | _ => true
def R.plain : R → Bool
  | .tok _ => false
  | .sl t _ => t.plain
  | _ => true
def plainRs : List R → Bool
  | [] => true
  | r :: l => cond r.plain (plainRs l) false
def noneOf (i : Nat) : List Nat → Bool
  | [] => true
  | k :: l => cond (Nat.beq k i) false (noneOf i l)
mutual
/-- A value without numbers that does not rest on the block 'k'. -/
def SV.less (k : Nat) : SV → Bool
  | .r d x => x.plain && noneOf k d
  | .rptr d cs => plainRs cs && noneOf k d
  | .inn _ _ _ => false
  | .agg cs => lessL k cs
  | .tup cs => lessL k cs
  | .fn _ a b => lessL k a && lessL k b
  | _ => true
def lessL (k : Nat) : List SV → Bool
  | [] => true
  | v :: l => v.less k && lessL k l
end
def Blk.less (k : Nat) : Blk → Bool
  | .box cs => lessL k cs
  | .arr none t _ => t.plain
  | .arr (some d) t _ => t.plain && noneOf k d
variable {ρ : Type}
section
variable [Tok]
theorem noneOf_spec {k : Nat} : ∀ {d : List Nat}, noneOf k d = true → mem k d = false
  | [], _ => rfl
  | x :: l, h => by
    simp only [noneOf] at h
    cases hb : Nat.beq x k <;> simp only [hb, cond_true, cond_false] at h
    · simp only [mem, hb, cond_false]; exact noneOf_spec h
    · exact nomatch h
theorem plainRs_spec : ∀ {l : List R}, plainRs l = true → ∀ (j : Nat) (r : R), l[j]? = some r → r.plain = true
  | [], _, j, r, h => by simp at h
  | x :: l, h, j, r, hj => by
    simp only [plainRs] at h
    cases hx : x.plain <;> simp only [hx, cond_true, cond_false] at h
    · exact nomatch h
    · cases j with
      | zero => simp at hj; subst hj; exact hx
      | succ j => exact plainRs_spec h j r (by simpa using hj)
theorem cells_plain {t : Ty} (h : t.plain = true) {xs : List t.El} {i j : Nat} {r : R} (hc : cellIn t xs i j r) : r.plain = true := by
  obtain ⟨x, _, hr⟩ := hc
  have hm := List.mem_of_getElem? hr
  cases t with
  | tok => exact nomatch h
  | sl t => simp [Ty.cells] at hm; subst hm; exact h
  | int k => simp [Ty.cells] at hm; subst hm; rfl
  | bool => simp [Ty.cells] at hm; subst hm; rfl
  | str => simp [Ty.cells] at hm; subst hm; rfl
  | st s =>
    have key : ∀ l : List R, plainRs l = true → r ∈ l → r.plain = true := fun l hl hrl => by
      obtain ⟨j, hj⟩ := List.getElem?_of_mem hrl
      exact plainRs_spec hl j r hj
    cases s <;> first | (refine key _ ?_ hm; rfl) | exact nomatch h
theorem lessL_get {k : Nat} : ∀ {l : List SV}, lessL k l = true → ∀ (j : Nat) (x : SV), l[j]? = some x → x.less k = true
  | [], _, j, x, h => by simp at h
  | v :: l, h, j, x, hj => by
    simp only [lessL, Bool.and_eq_true] at h
    cases j with
    | zero => simp at hj; subst hj; exact h.1
    | succ j => exact lessL_get h.2 j x (by simpa using hj)
end
theorem RepR_other {T T' : Tok} {w : World} {ok : Cell → Prop} {r : R} {v : Value} (h : @RepR T w ok r v) : r.plain = true → @RepR T' w ok r v := by
  induction h with
  | int => exact fun _ => .int _ _
  | bool => exact fun _ => .bool _
  | str => exact fun _ => .str _
  | tok => exact fun h => nomatch h
  | sl t xs a cap b o vs hcap ha hc _ ih => exact fun h => .sl t xs a cap b o vs hcap ha hc fun i j r hr => ih i j r hr (cells_plain h hr)
theorem RepD_other {T T' : Tok} {w : World} {r : R} {v : Value} {fp : Cell → Prop} (h : @RepD T w r v fp) : r.plain = true → @RepD T' w r v fp := by
  induction h with
  | int => exact fun _ => .int _ _
  | bool => exact fun _ => .bool _
  | str => exact fun _ => .str _
  | tok => exact fun h => nomatch h
  | sl t xs a cap b o vs fs fp hcap ha hreg hc _ hd1 hd2 hfp ih => exact fun h => .sl t xs a cap b o vs fs fp hcap ha hreg hc (fun i j r hr => ih i j r hr (cells_plain h hr)) hd1 hd2 hfp
/-- Blocks that hold as many. -/
def Blk.sim : Blk → Blk → Prop
  | .box _, .box _ => True
  | .arr _ t xs, .arr _ t' ys => t.sz = t'.sz ∧ xs.length = ys.length
  | _, _ => False
theorem sim_arr {sh : Option (List Nat)} {t : Ty} {xs : List t.El} {B : Blk} (h : (Blk.arr sh t xs).sim B) : ∃ sh' t' xs', B = .arr sh' t' xs' ∧ t.sz = t'.sz ∧ xs.length = xs'.length := by
  cases B with
  | box => exact h.elim
  | arr sh' t' xs' => exact ⟨sh', t', xs', rfl, h.1, h.2⟩
theorem sim_bx {cs : List SV} {B : Blk} (h : (Blk.box cs).sim B) : ∃ cs', B = .box cs' := by
  cases B with
  | box cs' => exact ⟨cs', rfl⟩
  | arr => exact h.elim
/-- A value among blocks that hold as many, with other numbers. -/
theorem SVRep.move {T T' : Tok} {w : World} {H H' : Heap} {pl pl' : Pl} {k : Nat} (hH : ∀ i B, look H i = some B → ∃ B', look H' i = some B' ∧ B.sim B') (hh : ∀ i, pl'.hdr i = pl.hdr i)
    (ho : ∀ d p, mem k d = false → okd H pl d p → okd H' pl' d p) {v : SV} {u : Value} (h : @SVRep T w H pl v u) : v.less k = true → @SVRep T' w H' pl' v u := by
  induction h with
  | r d x v hx =>
    intro hl
    simp only [SV.less, Bool.and_eq_true] at hl
    exact .r d x v ((RepR_other hx hl.1).frame fun p u hp hu => ⟨ho d p (noneOf_spec hl.2) hp, hu⟩)
  | nilS => exact fun _ => .nilS
  | nilP => exact fun _ => .nilP
  | own i sh t xs hi =>
    intro _
    obtain ⟨B', h1, h2⟩ := hH i _ hi
    obtain ⟨sh', t', xs', rfl, h3, h4⟩ := sim_arr h2
    rw [← hh i]
    exact .own i sh' t' xs' h1
  | sub i o n sh t xs a a' cap cap' hi hhd hn hc hc' ha =>
    intro _
    obtain ⟨B', h1, h2⟩ := hH i _ hi
    obtain ⟨sh', t', xs', rfl, h3, h4⟩ := sim_arr h2
    exact .sub i o n sh' t' xs' a a' cap cap' h1 (by rw [hh i, hhd, h4]) (by omega) hc hc' (by rw [← h3]; exact ha)
  | bsl i n cs a hi hhd =>
    intro _
    obtain ⟨B', h1, h2⟩ := hH i _ hi
    obtain ⟨cs', rfl⟩ := sim_bx h2
    exact .bsl i n cs' a h1 ((hh i).trans hhd)
  | ptrB i o cs b m hi hhd =>
    intro _
    obtain ⟨B', h1, h2⟩ := hH i _ hi
    obtain ⟨cs', rfl⟩ := sim_bx h2
    exact .ptrB i o cs' b m h1 ((hh i).trans hhd)
  | ptrA i x o sh t xs b m n cap hi hx hhd =>
    intro _
    obtain ⟨B', h1, h2⟩ := hH i _ hi
    obtain ⟨sh', t', xs', rfl, h3, h4⟩ := sim_arr h2
    rw [h3]
    exact .ptrA i x o sh' t' xs' b m n cap h1 (by omega) ((hh i).trans hhd)
  | inn => exact fun h => nomatch h
  | rptr d cs b o vs hc hr =>
    intro hl
    simp only [SV.less, Bool.and_eq_true] at hl
    have hk := noneOf_spec hl.2
    exact .rptr d cs b o vs (fun j r hj => ⟨ho d _ hk (hc j r hj).1, (hc j r hj).2⟩) fun j r hj => (RepR_other (hr j r hj) (plainRs_spec hl.1 j r hj)).frame fun p u hp hu => ⟨ho d p hk hp, hu⟩
  | agg cs vs h1 h2 _ ih => exact fun hl => .agg cs vs h1 h2 fun j x v hx hv => ih j x v hx hv (lessL_get hl j x hx)
  | tup cs vs h1 _ ih => exact fun hl => .tup cs vs h1 fun j x v hx hv => ih j x v hx hv (lessL_get hl j x hx)
  | fn f as bs us vs h1 _ h2 _ ih1 ih2 =>
    intro hl
    have hl : (lessL k as && lessL k bs) = true := hl
    rw [Bool.and_eq_true] at hl
    exact .fn f as bs us vs h1 (fun j x v hx hv => ih1 j x v hx hv (lessL_get hl.1 j x hx)) h2 fun j x v hx hv => ih2 j x v hx hv (lessL_get hl.2 j x hx)
  | undef v => exact fun _ => .undef v
/-- A block that has no numbers, likewise. -/
theorem BlkRep.move {T T' : Tok} {w : World} {H H' : Heap} {pl pl' : Pl} {k i : Nat} (hH : ∀ i B, look H i = some B → ∃ B', look H' i = some B' ∧ B.sim B') (hh : ∀ i, pl'.hdr i = pl.hdr i)
    (ho : ∀ d p, mem k d = false → okd H pl d p → okd H' pl' d p) {B : Blk} (hf : pl'.fp i = pl.fp i) (h : @BlkRep T w H pl i B) (hl : B.less k = true) : @BlkRep T' w H' pl' i B := by
  cases B with
  | box cs =>
    obtain ⟨b, o, h1, h2, h3⟩ := h
    refine ⟨b, o, (hh i).trans h1, fun p => by rw [hf]; exact h2 p, fun j v hv => ?_⟩
    obtain ⟨u, g1, g2, g3, g4⟩ := h3 j v hv
    exact ⟨u, g1, g2, g3, g4.move hH hh ho (lessL_get hl j v hv)⟩
  | arr sh t xs =>
    cases sh with
    | none =>
      obtain ⟨⟨a, cap, b, o, vs, fs, q1, q2, q3, q4, q5, q6, q7, q8, q9⟩⟩ := h
      exact ⟨⟨a, cap, b, o, vs, fs, (hh i).trans q1, q2, q3, q4, q5, fun i j r hc => RepD_other (q6 i j r hc) (cells_plain hl hc), q7, q8, fun p => by rw [hf]; exact q9 p⟩⟩
    | some d =>
      simp only [Blk.less, Bool.and_eq_true] at hl
      obtain ⟨⟨a, cap, b, o, vs, fs, q1, q2, q3, q4, q5, q6, q7, q8, q9⟩⟩ := h
      exact ⟨⟨a, cap, b, o, vs, fs, (hh i).trans q1, q2, q3, q4, q5, fun i j r hc => ⟨(RepR_other (q6 i j r hc).1 (cells_plain hl.1 hc)).frame fun p u hp hu => ⟨ho d p (noneOf_spec hl.2) hp, hu⟩, (q6 i j r hc).2⟩, q7, q8, fun p => by rw [hf]; exact q9 p⟩⟩
section
variable [Tok]
end
end Go.Proofs.Ev

set_option linter.unusedVariables false
set_option linter.unusedSimpArgs false
namespace Go.Proofs.Ev
variable [Tok]
set_option linter.unusedSectionVars false
def R.ty : R → Ty
  | .int k _ => .int k
  | .bool _ => .bool
  | .str _ => .str
  | .sl t _ => .sl t
  | .tok _ => .tok
/-- All numbers lie in their kind's range. -/
inductive R.Wf : R → Prop
  | int (k : IntKind) (n : Int) (h : (Lit.int k n).wf = true) : R.Wf (.int k n)
  | bool (b : Bool) : R.Wf (.bool b)
  | str (l : List UInt8) (h : l.length ≤ maxLen) : R.Wf (.str l)
  | sl (t : Ty) (xs : List t.El) (h : ∀ i j r, cellIn t xs i j r → R.Wf r) (hl : xs.length ≤ maxLen) : R.Wf (.sl t xs)
theorem ofCell_total (t : Ty) (r : R) (h : r.ty = t) (hs : ∀ s, t ≠ .st s) : ∃ x, t.ofCell r = some x := by
  subst h
  cases r with
  | int k n => exact ⟨n, by simp [Ty.ofCell, R.ty]⟩
  | bool b => exact ⟨b, by simp [Ty.ofCell, R.ty]⟩
  | str l => exact ⟨l, by simp [Ty.ofCell, R.ty]⟩
  | sl t xs => exact ⟨xs, by simp [Ty.ofCell, R.ty]⟩
  | tok n => exact ⟨n, by simp [Ty.ofCell, R.ty]⟩
theorem inv_t {r : R} (h : r.ty = .tok) : ∃ n, r = .tok n := by cases r <;> simp_all [R.ty]
theorem inv_i {r : R} {k : IntKind} (h : r.ty = .int k) : ∃ n, r = .int k n := by cases r <;> simp_all [R.ty]
theorem inv_b {r : R} (h : r.ty = .bool) : ∃ n, r = .bool n := by cases r <;> simp_all [R.ty]
theorem inv_s {r : R} {t : Ty} (h : r.ty = .sl t) : ∃ xs, r = .sl t xs := by
  cases r with
  | sl t' xs => cases h; exact ⟨xs, rfl⟩
  | _ => exact nomatch h
theorem shape_total : (rs : List R) → rs.map R.ty = S.tys .shape → ∃ x, shapeU rs = some x
  | [x0, x1, x2], h => by
    simp only [S.tys, List.map_cons, List.map_nil, List.cons.injEq, and_true] at h
    obtain ⟨h0, h1, h2⟩ := h
    obtain ⟨_, rfl⟩ := inv_i h0
    obtain ⟨_, rfl⟩ := inv_i h1
    obtain ⟨_, rfl⟩ := inv_i h2
    simp [shapeU, R.asI, R.asB, R.asL]
  | [], h => by have := congrArg List.length h; simp [S.tys] at this
  | [_], h => by have := congrArg List.length h; simp [S.tys] at this
  | [_, _], h => by have := congrArg List.length h; simp [S.tys] at this
  | _ :: _ :: _ :: _ :: _, h => by have := congrArg List.length h; simp [S.tys] at this
theorem tensor_total : (rs : List R) → rs.map R.ty = S.tys .tensor → ∃ x, tensorU rs = some x
  | [x0, x1, x2, x3], h => by
    simp only [S.tys, List.map_cons, List.map_nil, List.cons.injEq, and_true] at h
    obtain ⟨h0, h1, h2, h3⟩ := h
    obtain ⟨_, rfl⟩ := inv_i h0
    obtain ⟨_, rfl⟩ := inv_i h1
    obtain ⟨_, rfl⟩ := inv_i h2
    obtain ⟨_, rfl⟩ := inv_s h3
    simp [tensorU, R.asI, R.asB, R.asL]
  | [], h => by have := congrArg List.length h; simp [S.tys] at this
  | [_], h => by have := congrArg List.length h; simp [S.tys] at this
  | [_, _], h => by have := congrArg List.length h; simp [S.tys] at this
  | [_, _, _], h => by have := congrArg List.length h; simp [S.tys] at this
  | _ :: _ :: _ :: _ :: _ :: _, h => by have := congrArg List.length h; simp [S.tys] at this
theorem layer_total : (rs : List R) → rs.map R.ty = S.tys .layer → ∃ x, layerU rs = some x
  | [x0, x1, x2, x3, x4, x5, x6, x7, x8], h => by
    simp only [S.tys, List.map_cons, List.map_nil, List.cons.injEq, and_true] at h
    obtain ⟨h0, h1, h2, h3, h4, h5, h6, h7, h8⟩ := h
    obtain ⟨_, rfl⟩ := inv_i h0
    obtain ⟨_, rfl⟩ := inv_i h1
    obtain ⟨_, rfl⟩ := inv_i h2
    obtain ⟨_, rfl⟩ := inv_i h3
    obtain ⟨_, rfl⟩ := inv_i h4
    obtain ⟨_, rfl⟩ := inv_i h5
    obtain ⟨_, rfl⟩ := inv_i h6
    obtain ⟨_, rfl⟩ := inv_s h7
    obtain ⟨_, rfl⟩ := inv_s h8
    simp [layerU, R.asI, R.asB, R.asL]
  | [], h => by have := congrArg List.length h; simp [S.tys] at this
  | [_], h => by have := congrArg List.length h; simp [S.tys] at this
  | [_, _], h => by have := congrArg List.length h; simp [S.tys] at this
  | [_, _, _], h => by have := congrArg List.length h; simp [S.tys] at this
  | [_, _, _, _], h => by have := congrArg List.length h; simp [S.tys] at this
  | [_, _, _, _, _], h => by have := congrArg List.length h; simp [S.tys] at this
  | [_, _, _, _, _, _], h => by have := congrArg List.length h; simp [S.tys] at this
  | [_, _, _, _, _, _, _], h => by have := congrArg List.length h; simp [S.tys] at this
  | [_, _, _, _, _, _, _, _], h => by have := congrArg List.length h; simp [S.tys] at this
  | _ :: _ :: _ :: _ :: _ :: _ :: _ :: _ :: _ :: _ :: _, h => by have := congrArg List.length h; simp [S.tys] at this
theorem model_total : (rs : List R) → rs.map R.ty = S.tys .model → ∃ x, modelU rs = some x
  | [x0, x1, x2, x3], h => by
    simp only [S.tys, List.map_cons, List.map_nil, List.cons.injEq, and_true] at h
    obtain ⟨h0, h1, h2, h3⟩ := h
    obtain ⟨_, rfl⟩ := inv_i h0
    obtain ⟨_, rfl⟩ := inv_i h1
    obtain ⟨_, rfl⟩ := inv_i h2
    obtain ⟨_, rfl⟩ := inv_s h3
    simp [modelU, R.asI, R.asB, R.asL]
  | [], h => by have := congrArg List.length h; simp [S.tys] at this
  | [_], h => by have := congrArg List.length h; simp [S.tys] at this
  | [_, _], h => by have := congrArg List.length h; simp [S.tys] at this
  | [_, _, _], h => by have := congrArg List.length h; simp [S.tys] at this
  | _ :: _ :: _ :: _ :: _ :: _, h => by have := congrArg List.length h; simp [S.tys] at this
theorem task_total : (rs : List R) → rs.map R.ty = S.tys .task → ∃ x, taskU rs = some x
  | [x0, x1, x2, x3, x4], h => by
    simp only [S.tys, List.map_cons, List.map_nil, List.cons.injEq, and_true] at h
    obtain ⟨h0, h1, h2, h3, h4⟩ := h
    obtain ⟨_, rfl⟩ := inv_i h0
    obtain ⟨_, rfl⟩ := inv_s h1
    obtain ⟨_, rfl⟩ := inv_i h2
    obtain ⟨_, rfl⟩ := inv_i h3
    obtain ⟨_, rfl⟩ := inv_i h4
    simp [taskU, R.asI, R.asB, R.asL]
  | [], h => by have := congrArg List.length h; simp [S.tys] at this
  | [_], h => by have := congrArg List.length h; simp [S.tys] at this
  | [_, _], h => by have := congrArg List.length h; simp [S.tys] at this
  | [_, _, _], h => by have := congrArg List.length h; simp [S.tys] at this
  | [_, _, _, _], h => by have := congrArg List.length h; simp [S.tys] at this
  | _ :: _ :: _ :: _ :: _ :: _ :: _, h => by have := congrArg List.length h; simp [S.tys] at this
theorem request_total : (rs : List R) → rs.map R.ty = S.tys .request → ∃ x, requestU rs = some x
  | [x0, x1, x2, x3, x4, x5, x6, x7, x8, x9, x10, x11, x12], h => by
    simp only [S.tys, List.map_cons, List.map_nil, List.cons.injEq, and_true] at h
    obtain ⟨h0, h1, h2, h3, h4, h5, h6, h7, h8, h9, h10, h11, h12⟩ := h
    obtain ⟨_, rfl⟩ := inv_i h0
    obtain ⟨_, rfl⟩ := inv_i h1
    obtain ⟨_, rfl⟩ := inv_i h2
    obtain ⟨_, rfl⟩ := inv_i h3
    obtain ⟨_, rfl⟩ := inv_i h4
    obtain ⟨_, rfl⟩ := inv_s h5
    obtain ⟨_, rfl⟩ := inv_i h6
    obtain ⟨_, rfl⟩ := inv_i h7
    obtain ⟨_, rfl⟩ := inv_i h8
    obtain ⟨_, rfl⟩ := inv_i h9
    obtain ⟨_, rfl⟩ := inv_s h10
    obtain ⟨_, rfl⟩ := inv_i h11
    obtain ⟨_, rfl⟩ := inv_i h12
    simp [requestU, R.asI, R.asB, R.asL]
  | [], h => by have := congrArg List.length h; simp [S.tys] at this
  | [_], h => by have := congrArg List.length h; simp [S.tys] at this
  | [_, _], h => by have := congrArg List.length h; simp [S.tys] at this
  | [_, _, _], h => by have := congrArg List.length h; simp [S.tys] at this
  | [_, _, _, _], h => by have := congrArg List.length h; simp [S.tys] at this
  | [_, _, _, _, _], h => by have := congrArg List.length h; simp [S.tys] at this
  | [_, _, _, _, _, _], h => by have := congrArg List.length h; simp [S.tys] at this
  | [_, _, _, _, _, _, _], h => by have := congrArg List.length h; simp [S.tys] at this
  | [_, _, _, _, _, _, _, _], h => by have := congrArg List.length h; simp [S.tys] at this
  | [_, _, _, _, _, _, _, _, _], h => by have := congrArg List.length h; simp [S.tys] at this
  | [_, _, _, _, _, _, _, _, _, _], h => by have := congrArg List.length h; simp [S.tys] at this
  | [_, _, _, _, _, _, _, _, _, _, _], h => by have := congrArg List.length h; simp [S.tys] at this
  | [_, _, _, _, _, _, _, _, _, _, _, _], h => by have := congrArg List.length h; simp [S.tys] at this
  | _ :: _ :: _ :: _ :: _ :: _ :: _ :: _ :: _ :: _ :: _ :: _ :: _ :: _ :: _, h => by have := congrArg List.length h; simp [S.tys] at this
theorem step_total : (rs : List R) → rs.map R.ty = S.tys .step → ∃ x, stepU rs = some x
  | [x0, x1, x2, x3, x4, x5, x6, x7], h => by
    simp only [S.tys, List.map_cons, List.map_nil, List.cons.injEq, and_true] at h
    obtain ⟨h0, h1, h2, h3, h4, h5, h6, h7⟩ := h
    obtain ⟨_, rfl⟩ := inv_i h0
    obtain ⟨_, rfl⟩ := inv_i h1
    obtain ⟨_, rfl⟩ := inv_i h2
    obtain ⟨_, rfl⟩ := inv_s h3
    obtain ⟨_, rfl⟩ := inv_i h4
    obtain ⟨_, rfl⟩ := inv_i h5
    obtain ⟨_, rfl⟩ := inv_i h6
    obtain ⟨_, rfl⟩ := inv_s h7
    simp [stepU, R.asI, R.asB, R.asL]
  | [], h => by have := congrArg List.length h; simp [S.tys] at this
  | [_], h => by have := congrArg List.length h; simp [S.tys] at this
  | [_, _], h => by have := congrArg List.length h; simp [S.tys] at this
  | [_, _, _], h => by have := congrArg List.length h; simp [S.tys] at this
  | [_, _, _, _], h => by have := congrArg List.length h; simp [S.tys] at this
  | [_, _, _, _, _], h => by have := congrArg List.length h; simp [S.tys] at this
  | [_, _, _, _, _, _], h => by have := congrArg List.length h; simp [S.tys] at this
  | [_, _, _, _, _, _, _], h => by have := congrArg List.length h; simp [S.tys] at this
  | _ :: _ :: _ :: _ :: _ :: _ :: _ :: _ :: _ :: _, h => by have := congrArg List.length h; simp [S.tys] at this
theorem event_total : (rs : List R) → rs.map R.ty = S.tys .event → ∃ x, eventU rs = some x
  | [x0, x1, x2, x3, x4, x5, x6], h => by
    simp only [S.tys, List.map_cons, List.map_nil, List.cons.injEq, and_true] at h
    obtain ⟨h0, h1, h2, h3, h4, h5, h6⟩ := h
    obtain ⟨_, rfl⟩ := inv_i h0
    obtain ⟨_, rfl⟩ := inv_i h1
    obtain ⟨_, rfl⟩ := inv_i h2
    obtain ⟨_, rfl⟩ := inv_i h3
    obtain ⟨_, rfl⟩ := inv_i h4
    obtain ⟨_, rfl⟩ := inv_i h5
    obtain ⟨_, rfl⟩ := inv_s h6
    simp [eventU, R.asI, R.asB, R.asL]
  | [], h => by have := congrArg List.length h; simp [S.tys] at this
  | [_], h => by have := congrArg List.length h; simp [S.tys] at this
  | [_, _], h => by have := congrArg List.length h; simp [S.tys] at this
  | [_, _, _], h => by have := congrArg List.length h; simp [S.tys] at this
  | [_, _, _, _], h => by have := congrArg List.length h; simp [S.tys] at this
  | [_, _, _, _, _], h => by have := congrArg List.length h; simp [S.tys] at this
  | [_, _, _, _, _, _], h => by have := congrArg List.length h; simp [S.tys] at this
  | _ :: _ :: _ :: _ :: _ :: _ :: _ :: _ :: _, h => by have := congrArg List.length h; simp [S.tys] at this
theorem entry_total : (rs : List R) → rs.map R.ty = S.tys .entry → ∃ x, entryU rs = some x
  | [x0, x1, x2, x3, x4, x5, x6, x7, x8, x9, x10, x11, x12], h => by
    simp only [S.tys, List.map_cons, List.map_nil, List.cons.injEq, and_true] at h
    obtain ⟨h0, h1, h2, h3, h4, h5, h6, h7, h8, h9, h10, h11, h12⟩ := h
    obtain ⟨_, rfl⟩ := inv_i h0
    obtain ⟨_, rfl⟩ := inv_i h1
    obtain ⟨_, rfl⟩ := inv_i h2
    obtain ⟨_, rfl⟩ := inv_i h3
    obtain ⟨_, rfl⟩ := inv_s h4
    obtain ⟨_, rfl⟩ := inv_i h5
    obtain ⟨_, rfl⟩ := inv_i h6
    obtain ⟨_, rfl⟩ := inv_i h7
    obtain ⟨_, rfl⟩ := inv_s h8
    obtain ⟨_, rfl⟩ := inv_i h9
    obtain ⟨_, rfl⟩ := inv_i h10
    obtain ⟨_, rfl⟩ := inv_i h11
    obtain ⟨_, rfl⟩ := inv_b h12
    simp [entryU, R.asI, R.asB, R.asL]
  | [], h => by have := congrArg List.length h; simp [S.tys] at this
  | [_], h => by have := congrArg List.length h; simp [S.tys] at this
  | [_, _], h => by have := congrArg List.length h; simp [S.tys] at this
  | [_, _, _], h => by have := congrArg List.length h; simp [S.tys] at this
  | [_, _, _, _], h => by have := congrArg List.length h; simp [S.tys] at this
  | [_, _, _, _, _], h => by have := congrArg List.length h; simp [S.tys] at this
  | [_, _, _, _, _, _], h => by have := congrArg List.length h; simp [S.tys] at this
  | [_, _, _, _, _, _, _], h => by have := congrArg List.length h; simp [S.tys] at this
  | [_, _, _, _, _, _, _, _], h => by have := congrArg List.length h; simp [S.tys] at this
  | [_, _, _, _, _, _, _, _, _], h => by have := congrArg List.length h; simp [S.tys] at this
  | [_, _, _, _, _, _, _, _, _, _], h => by have := congrArg List.length h; simp [S.tys] at this
  | [_, _, _, _, _, _, _, _, _, _, _], h => by have := congrArg List.length h; simp [S.tys] at this
  | [_, _, _, _, _, _, _, _, _, _, _, _], h => by have := congrArg List.length h; simp [S.tys] at this
  | _ :: _ :: _ :: _ :: _ :: _ :: _ :: _ :: _ :: _ :: _ :: _ :: _ :: _ :: _, h => by have := congrArg List.length h; simp [S.tys] at this
theorem wish_total : (rs : List R) → rs.map R.ty = S.tys .wish → ∃ x, wishU rs = some x
  | [x0, x1, x2], h => by
    simp only [S.tys, List.map_cons, List.map_nil, List.cons.injEq, and_true] at h
    obtain ⟨h0, h1, h2⟩ := h
    obtain ⟨_, rfl⟩ := inv_i h0
    obtain ⟨_, rfl⟩ := inv_i h1
    obtain ⟨_, rfl⟩ := inv_i h2
    simp [wishU, R.asI, R.asB, R.asL]
  | [], h => by have := congrArg List.length h; simp [S.tys] at this
  | [_], h => by have := congrArg List.length h; simp [S.tys] at this
  | [_, _], h => by have := congrArg List.length h; simp [S.tys] at this
  | _ :: _ :: _ :: _ :: _, h => by have := congrArg List.length h; simp [S.tys] at this
theorem map_cons_inv {α β : Type} {f : α → β} {rs : List α} {t : β} {ts : List β} (h : rs.map f = t :: ts) : ∃ r rs', rs = r :: rs' ∧ f r = t ∧ rs'.map f = ts := by
  cases rs with
  | nil => exact nomatch h
  | cons r rs => rw [List.map_cons, List.cons.injEq] at h; exact ⟨r, rs, rfl, h.1, h.2⟩
theorem taskK_total (rs : List R) (h : rs.map R.ty = S.tys .taskK) : ∃ x, taskKU rs = some x := by
  obtain ⟨a0, rs, rfl, g0, h⟩ := map_cons_inv h
  obtain ⟨a1, rs, rfl, g1, h⟩ := map_cons_inv h
  obtain ⟨a2, rs, rfl, g2, h⟩ := map_cons_inv h
  obtain ⟨a3, rs, rfl, g3, h⟩ := map_cons_inv h
  obtain ⟨a4, rs, rfl, g4, h⟩ := map_cons_inv h
  rw [List.map_eq_nil_iff] at h
  subst h
  obtain ⟨x0, rfl⟩ := inv_i g0
  obtain ⟨x1, rfl⟩ := inv_t g1
  obtain ⟨x2, rfl⟩ := inv_i g2
  obtain ⟨x3, rfl⟩ := inv_i g3
  obtain ⟨x4, rfl⟩ := inv_i g4
  exact ⟨_, rfl⟩
theorem requestK_total (rs : List R) (h : rs.map R.ty = S.tys .requestK) : ∃ x, requestKU rs = some x := by
  obtain ⟨a0, rs, rfl, g0, h⟩ := map_cons_inv h
  obtain ⟨a1, rs, rfl, g1, h⟩ := map_cons_inv h
  obtain ⟨a2, rs, rfl, g2, h⟩ := map_cons_inv h
  obtain ⟨a3, rs, rfl, g3, h⟩ := map_cons_inv h
  obtain ⟨a4, rs, rfl, g4, h⟩ := map_cons_inv h
  obtain ⟨a5, rs, rfl, g5, h⟩ := map_cons_inv h
  obtain ⟨a6, rs, rfl, g6, h⟩ := map_cons_inv h
  obtain ⟨a7, rs, rfl, g7, h⟩ := map_cons_inv h
  obtain ⟨a8, rs, rfl, g8, h⟩ := map_cons_inv h
  obtain ⟨a9, rs, rfl, g9, h⟩ := map_cons_inv h
  obtain ⟨a10, rs, rfl, g10, h⟩ := map_cons_inv h
  obtain ⟨a11, rs, rfl, g11, h⟩ := map_cons_inv h
  obtain ⟨a12, rs, rfl, g12, h⟩ := map_cons_inv h
  rw [List.map_eq_nil_iff] at h
  subst h
  obtain ⟨x0, rfl⟩ := inv_i g0
  obtain ⟨x1, rfl⟩ := inv_i g1
  obtain ⟨x2, rfl⟩ := inv_i g2
  obtain ⟨x3, rfl⟩ := inv_i g3
  obtain ⟨x4, rfl⟩ := inv_i g4
  obtain ⟨x5, rfl⟩ := inv_t g5
  obtain ⟨x6, rfl⟩ := inv_i g6
  obtain ⟨x7, rfl⟩ := inv_i g7
  obtain ⟨x8, rfl⟩ := inv_i g8
  obtain ⟨x9, rfl⟩ := inv_i g9
  obtain ⟨x10, rfl⟩ := inv_t g10
  obtain ⟨x11, rfl⟩ := inv_i g11
  obtain ⟨x12, rfl⟩ := inv_i g12
  exact ⟨_, rfl⟩
theorem ofCells_total (t : Ty) (rs : List R) (h : rs.map R.ty = t.tys) : ∃ x, t.ofCells rs = some x := by
  have single : ∀ {t : Ty}, (∀ s, t ≠ .st s) → t.tys = [t] → rs.map R.ty = t.tys → ∃ r, rs = [r] ∧ r.ty = t := fun {t} _ e h => by
    rw [e] at h
    match rs, h with
    | [r], h => simp at h; exact ⟨r, rfl, h⟩
  cases t with
  | st s => cases s with
    | shape => exact shape_total rs h
    | tensor => exact tensor_total rs h
    | layer => exact layer_total rs h
    | model => exact model_total rs h
    | task => exact task_total rs h
    | request => exact request_total rs h
    | step => exact step_total rs h
    | event => exact event_total rs h
    | entry => exact entry_total rs h
    | wish => exact wish_total rs h
    | taskK => exact taskK_total rs h
    | requestK => exact requestK_total rs h
  | tok => obtain ⟨r, rfl, e⟩ := single (t := .tok) (fun s h => nomatch h) rfl h; exact ofCell_total _ r e (fun s h => nomatch h)
  | int k => obtain ⟨r, rfl, e⟩ := single (t := .int k) (fun s h => nomatch h) rfl h; exact ofCell_total _ r e (fun s h => nomatch h)
  | bool => obtain ⟨r, rfl, e⟩ := single (t := .bool) (fun s h => nomatch h) rfl h; exact ofCell_total _ r e (fun s h => nomatch h)
  | str => obtain ⟨r, rfl, e⟩ := single (t := .str) (fun s h => nomatch h) rfl h; exact ofCell_total _ r e (fun s h => nomatch h)
  | sl t => obtain ⟨r, rfl, e⟩ := single (t := .sl t) (fun s h => nomatch h) rfl h; exact ofCell_total _ r e (fun s h => nomatch h)
/-- The fields' cells, one after the other. -/
def flatFs (P : Program) (g : TypeId → Option (List Ty)) : Nat → List Field → Option (List Ty)
  | _, [] => some []
  | off, f :: l => cond (Nat.beq f.offset off) ((g f.type).bind fun ts => cond (Nat.beq (P.cellsOf f.type) ts.length) ((flatFs P g (off + ts.length) l).bind fun us => some (ts ++ us)) none) none
/-- A type's cells. -/
def flatT (P : Program) (tt : TT) : Nat → TypeId → Option (List Ty)
  | 0, _ => none
  | n + 1, T => match P.underlying T with
    | some (.int k) => some [.int k]
    | some .bool => some [.bool]
    | some .string => some [.str]
    | some (.slice e) => (tt e).bind fun t => (flatT P tt n e).bind fun ts => if ts = t.tys ∧ P.cellsOf e = ts.length then some [.sl t] else none
    | some (.struct fs) => (flatFs P (flatT P tt n) 0 fs.toList).bind fun ts => cond (Nat.beq (P.cellsOf T) ts.length) (some ts) none
    | _ => none
/-- What stands behind a list of cells. -/
def Opened (w : World) (ts : List Ty) (cs : List Value) : Prop :=
  ∃ rs : List R, rs.map R.ty = ts ∧ rs.length = cs.length ∧ ∀ (j : Nat) (r : R) (v : Value), rs[j]? = some r → cs[j]? = some v → RepR w (fun _ => True) r v ∧ r.Wf
theorem Opened.one {w : World} {r : R} {v : Value} (h : RepR w (fun _ => True) r v) (hw : r.Wf) : Opened w [r.ty] [v] :=
  ⟨[r], rfl, rfl, fun j r' v' h1 h2 => by
    cases j with
    | zero => simp at h1 h2; subst h1 h2; exact ⟨h, hw⟩
    | succ j => simp at h1⟩
theorem Opened.append {w : World} {ts us : List Ty} {cs ds : List Value} (h : Opened w ts cs) (g : Opened w us ds) : Opened w (ts ++ us) (cs ++ ds) := by
  obtain ⟨rs, h1, h2, h3⟩ := h
  obtain ⟨qs, g1, g2, g3⟩ := g
  refine ⟨rs ++ qs, by simp [h1, g1], by simp [h2, g2], fun j r v hr hv => ?_⟩
  by_cases c : j < rs.length
  · rw [List.getElem?_append_left c] at hr
    rw [List.getElem?_append_left (by omega)] at hv
    exact h3 j r v hr hv
  · rw [List.getElem?_append_right (by omega)] at hr
    rw [List.getElem?_append_right (by omega), ← h2] at hv
    exact g3 _ r v hr hv
section
variable {H : Type} {enc : TypeId × Value → H} {P : Program} {tt : TT} {w : World} {base : Nat} {sp : Nat → Bool} {held : Bool}
theorem open_fields {g : TypeId → Option (List Ty)} {F : TypeId → List Value → Option (DataW H × List MemPlace)} (hg : ∀ T cs x ts, F T cs = some x → g T = some ts → cs.length = P.cellsOf T → Opened w ts cs) (cs : List Value) :
    ∀ (fs : List Field) (off : Nat) (ts : List Ty) (xs : List (DataW H × List MemPlace)), flatFs P g off fs = some ts → fs.mapM (fun f => F f.type ((cs.drop f.offset).take (P.cellsOf f.type))) = some xs → off + ts.length = cs.length → Opened w ts (cs.drop off)
  | [], off, ts, xs, h, _, hl => by
    cases h
    have : cs.drop off = [] := List.drop_eq_nil_of_le (by simp at hl; omega)
    rw [this]; exact ⟨[], rfl, rfl, fun j r v hr _ => by simp at hr⟩
  | f :: fs, off, ts, xs, h, hm, hl => by
    simp only [flatFs] at h
    cases ho : Nat.beq f.offset off <;> simp only [ho, cond_true, cond_false, Option.bind_eq_some_iff] at h
    · exact nomatch h
    have ho := Nat.eq_of_beq_eq_true ho
    obtain ⟨us, hu, h⟩ := h
    cases hc : Nat.beq (P.cellsOf f.type) us.length <;> simp only [hc, cond_true, cond_false, Option.bind_eq_some_iff, Option.some.injEq] at h
    · exact nomatch h
    have hc := Nat.eq_of_beq_eq_true hc
    obtain ⟨vs, hv, rfl⟩ := h
    rw [List.mapM_cons] at hm
    cases hF : F f.type ((cs.drop f.offset).take (P.cellsOf f.type)) with
    | none => rw [hF] at hm; exact nomatch hm
    | some y =>
      cases hR : fs.mapM (fun f => F f.type ((cs.drop f.offset).take (P.cellsOf f.type))) with
      | none => rw [hF, hR] at hm; exact nomatch hm
      | some ys =>
        rw [List.length_append] at hl
        have h1 := hg _ _ _ _ hF hu (by rw [List.length_take, List.length_drop]; omega)
        have h2 := open_fields hg cs fs (off + us.length) vs ys hv hR (by omega)
        rw [ho, hc] at h1
        have := h1.append h2
        rwa [← List.drop_drop, List.take_append_drop] at this
theorem trod_int {fuel : Nat} {T : TypeId} {cs : List Value} {x : DataW H × List MemPlace} {k : IntKind} (hu : P.underlying T = some (.int k)) (h : DataW.trod enc P w base sp held fuel T cs = some x) : ∃ n, cs = [.int k n] ∧ (Lit.int k n).wf = true := by
  cases fuel with
  | zero => exact nomatch h
  | succ fuel =>
    unfold DataW.trod at h
    simp only [hu] at h
    match cs, h with
    | [.int k' n], h =>
      simp only at h
      split at h
      · rename_i hc; obtain ⟨rfl, hw⟩ := hc; exact ⟨n, rfl, hw⟩
      · exact nomatch h
theorem trod_bool {fuel : Nat} {T : TypeId} {cs : List Value} {x : DataW H × List MemPlace} (hu : P.underlying T = some .bool) (h : DataW.trod enc P w base sp held fuel T cs = some x) : ∃ b, cs = [.bool b] := by
  cases fuel with
  | zero => exact nomatch h
  | succ fuel =>
    unfold DataW.trod at h
    simp only [hu] at h
    match cs, h with
    | [.bool b], h => exact ⟨b, rfl⟩
theorem trod_str {fuel : Nat} {T : TypeId} {cs : List Value} {x : DataW H × List MemPlace} (hu : P.underlying T = some .string) (h : DataW.trod enc P w base sp held fuel T cs = some x) : ∃ s, cs = [.string s] ∧ s.size ≤ maxLen := by
  cases fuel with
  | zero => exact nomatch h
  | succ fuel =>
    unfold DataW.trod at h
    simp only [hu] at h
    match cs, h with
    | [.string s], h =>
      simp only at h
      split at h
      · rename_i hc; exact ⟨s, rfl, hc⟩
      · exact nomatch h
theorem trod_fields {fuel : Nat} {T : TypeId} {cs : List Value} {x : DataW H × List MemPlace} {fs : Array Field} (hu : P.underlying T = some (.struct fs)) (h : DataW.trod enc P w base sp held fuel T cs = some x) :
    ∃ fuel' xs, cs.length = P.cellsOf T ∧ fs.toList.mapM (fun f => DataW.trod enc P w base sp held fuel' f.type ((cs.drop f.offset).take (P.cellsOf f.type))) = some xs := by
  cases fuel with
  | zero => exact nomatch h
  | succ fuel =>
    unfold DataW.trod at h
    simp only [hu] at h
    split at h
    · rename_i hl
      obtain ⟨xs, hx, _⟩ := Option.map_eq_some_iff.1 h
      exact ⟨fuel, xs, hl, hx⟩
    · exact nomatch h
theorem exists_list {α : Type} {Q : Nat → α → Prop} : ∀ (n : Nat), (∀ i, i < n → ∃ x, Q i x) → ∃ l : List α, l.length = n ∧ ∀ (i : Nat) (x : α), l[i]? = some x → Q i x
  | 0, _ => ⟨[], rfl, fun i x h => by simp at h⟩
  | n + 1, h => by
    obtain ⟨l, h1, h2⟩ := exists_list n fun i hi => h i (by omega)
    obtain ⟨x, hx⟩ := h n (by omega)
    refine ⟨l ++ [x], by simp [h1], fun i y hy => ?_⟩
    by_cases c : i < l.length
    · rw [List.getElem?_append_left c] at hy; exact h2 i y hy
    · rw [List.getElem?_append_right (by omega)] at hy
      have hi : i - l.length < 1 := by have := (List.getElem?_eq_some_iff.1 hy).1; simpa using this
      have : i = n := by omega
      subst this
      have : i - l.length = 0 := by omega
      rw [this] at hy; simp at hy; subst hy; exact hx
theorem spot_none {a : Addr} {v : Value} (h : w.cell? a = some v) : a.spot = none := by
  unfold World.cell? at h
  cases hs : a.spot with
  | none => rfl
  | some s => simp [hs] at h; split at h <;> simp_all
theorem range_getN {n j : Nat} (h : j < n) : (List.range n)[j]? = some j := by rw [List.getElem?_eq_getElem (by simpa using h)]; simp
theorem open_cells : ∀ (n fuel : Nat) (T : TypeId) (cs : List Value) (x : DataW H × List MemPlace) (ts : List Ty), DataW.trod enc P w base sp held fuel T cs = some x → flatT P tt n T = some ts → Opened w ts cs
  | 0, _, _, _, _, _, _, h => nomatch h
  | n + 1, fuel, T, cs, x, ts, h, hf => by
    unfold flatT at hf
    split at hf
    · rename_i k hu
      cases hf
      obtain ⟨m, rfl, hw⟩ := trod_int hu h
      exact Opened.one (.int k m) (.int k m hw)
    · rename_i hu
      cases hf
      obtain ⟨b, rfl⟩ := trod_bool hu h
      exact Opened.one (.bool b) (.bool b)
    · rename_i hu
      cases hf
      obtain ⟨s, rfl, hsl⟩ := trod_str hu h
      have : s = ⟨s.data.toList.toArray⟩ := by simp
      rw [this]
      exact Opened.one (.str s.data.toList) (.str _ (by simpa using hsl))
    · rename_i e hu
      simp only [Option.bind_eq_some_iff] at hf
      obtain ⟨t, ht, us, hus, hf⟩ := hf
      split at hf
      · rename_i hc
        obtain ⟨rfl, hsz⟩ := hc
        cases hf
        rw [Ty.tys_length] at hsz
        rcases DataW.trod_slice hu h with ⟨rfl, _⟩ | ⟨a, len, cap, elems, rest, n', _, rfl, _, hb, hlc, hcap, hlen, hel, _⟩
        · exact Opened.one (.sl t [] none 0 0 0 (fun _ _ => undef) (Nat.le_refl _) (.inl rfl) (fun i j r ⟨x, hx, _⟩ => by simp at hx) (fun i j r ⟨x, hx, _⟩ => by simp at hx)) (.sl t [] (fun i j r ⟨x, hx, _⟩ => by simp at hx) (Nat.zero_le _))
        · subst hlen
          have hel' : ∀ i, i < elems.length → ∃ x : t.El, ∃ ds, w.cells? base (a.add (i * P.cellsOf e)) (P.cellsOf e) = some ds ∧ (t.cells x).length = ds.length ∧
              ∀ (j : Nat) (r : R) (v : Value), (t.cells x)[j]? = some r → ds[j]? = some v → RepR w (fun _ => True) r v ∧ r.Wf := fun i hi => by
            have := hel i hi
            rw [List.getElem?_eq_getElem hi] at this
            obtain ⟨ds, h1, h2⟩ := Option.bind_eq_some_iff.1 this
            obtain ⟨rs, g1, g2, g3⟩ := open_cells n n' e ds _ _ h2 hus
            obtain ⟨x, hx⟩ := ofCells_total t rs g1
            have hc := Ty.ofCells_spec t rs x hx
            exact ⟨x, ds, h1, by rw [hc]; exact g2, by rw [hc]; exact g3⟩
          obtain ⟨xs, hxl, hxs⟩ := exists_list elems.length hel'
          have key : ∀ i j r, cellIn t xs i j r → a.spot = none ∧ ∃ v, w.at? (a.block, a.off + (i * t.sz + j)) = some v ∧ RepR w (fun _ => True) r v ∧ r.Wf := fun i j r ⟨x, hx, hr⟩ => by
            obtain ⟨ds, h1, h2, h3⟩ := hxs i x hx
            have hj : j < ds.length := by rw [← h2]; exact (List.getElem?_eq_some_iff.1 hr).1
            unfold World.cells? at h1
            rw [if_pos (by unfold Addr.add; split <;> exact hb)] at h1
            have hl := mapM_some_length h1
            rw [List.length_range] at hl
            have hg := mapM_some_get h1 j j (range_getN (by omega))
            rw [List.getElem?_eq_getElem hj] at hg
            have hsp : a.spot = none := by
              have hi : i < xs.length := (List.getElem?_eq_some_iff.1 hx).1
              obtain ⟨es, q1, q2, _⟩ := hxs 0 _ (List.getElem?_eq_getElem (by omega))
              have hpos := t.sz_pos
              rw [Ty.cells_length] at q2
              unfold World.cells? at q1
              rw [if_pos (by unfold Addr.add; split <;> exact hb)] at q1
              have h0 := mapM_some_get q1 0 0 (range_getN (by omega))
              rw [List.getElem?_eq_getElem (by omega)] at h0
              have hs := spot_none h0
              simpa [Addr.add] using hs
            refine ⟨hsp, ds[j], ?_, h3 j r _ hr (List.getElem?_eq_getElem hj)⟩
            have : (a.add (i * P.cellsOf e)).add j = ⟨a.block, a.off + (i * t.sz + j), none⟩ := by
              obtain ⟨b0, o0, s0⟩ := a
              simp only at hsp; subst hsp
              rw [hsz]
              simp only [Addr.add]
              split <;> split <;> simp <;> omega
            rw [this] at hg
            exact hg
          rw [← hxl]
          have hrep : RepR w (fun _ => True) (.sl t xs) (.slice (some a) xs.length cap) := by
            refine .sl t xs (some a) cap a.block a.off (fun i j => (w.at? (a.block, a.off + (i * t.sz + j))).getD undef) (by omega) ?_ (fun i j r hc => ?_) (fun i j r hc => ?_)
            · cases xs with
              | nil => exact .inl rfl
              | cons x l =>
                right
                obtain ⟨r, hr⟩ := cellIn_of (t := t) (xs := x :: l) (i := 0) (j := 0) (by simp) t.sz_pos
                have := (key 0 0 r hr).1
                obtain ⟨b0, o0, s0⟩ := a
                simp only at this; subst this; rfl
            · obtain ⟨_, v, hv, _⟩ := key i j r hc
              exact ⟨trivial, by rw [hv]; rfl⟩
            · obtain ⟨_, v, hv, hr, _⟩ := key i j r hc
              rw [hv]; exact hr
          exact Opened.one hrep (.sl t xs (fun i j r hc => by obtain ⟨_, v, _, _, hw⟩ := key i j r hc; exact hw) (by omega))
      · exact nomatch hf
    · rename_i fs hu
      simp only [Option.bind_eq_some_iff] at hf
      obtain ⟨us, hus, hf⟩ := hf
      cases hc : Nat.beq (P.cellsOf T) us.length <;> simp only [hc, cond_true, cond_false] at hf
      · exact nomatch hf
      cases hf
      have hc := Nat.eq_of_beq_eq_true hc
      obtain ⟨fuel', xs, hl, hx⟩ := trod_fields hu h
      have := open_fields (F := DataW.trod enc P w base sp held fuel') (fun T cs x ts h1 h2 _ => open_cells n fuel' T cs x ts h1 h2) cs fs.toList 0 _ xs hus hx (by omega)
      simpa using this
    · exact nomatch hf
end
end Go.Proofs.Ev

set_option linter.unusedVariables false
set_option linter.unusedSimpArgs false
namespace Go.Proofs.Ev
variable [Tok]
set_option linter.unusedSectionVars false
open Go.ChangeShapes Go.WideShapes Go.ChangeAt Go.RowKit
/-- What an argument of type T reads as. -/
def ArgIs (P : Program) (tt : TT) (T : TypeId) (a : Arg) : Prop :=
  ∃ ts, flatT P tt 8 T = some ts ∧ ((∃ fs, P.underlying T = some (.struct fs)) → ∃ rs : List R, a = .agg rs ∧ rs.map R.ty = ts ∧ ∀ r ∈ rs, r.Wf) ∧
    ((∀ fs, P.underlying T ≠ some (.struct fs)) → ∃ r : R, a = .one r ∧ [r.ty] = ts ∧ r.Wf)
def ArgsAre (P : Program) (tt : TT) : List TypeId → List Arg → Prop
  | [], [] => True
  | T :: Ts, a :: as => ArgIs P tt T a ∧ ArgsAre P tt Ts as
  | _, _ => False
section
variable {H : Type} {enc : TypeId × Value → H} {P : Program} {tt : TT} {w : World} {base : Nat} {sp : Nat → Bool} {held : Bool}
theorem arg_open {b0 : Nat} {T : TypeId} {v : Value} {d : DataW H} {p : List MemPlace} {ts : List Ty} (hd : DataW.Trod enc P w base sp held T v d p) (hv : Value.okWide P w .any b0 T v) (hf : flatT P tt 8 T = some ts) :
    ∃ a, ArgIs P tt T a ∧ RepArg w (fun _ => True) a v := by
  obtain ⟨fuel, hd⟩ := hd
  obtain ⟨rs, h1, h2, h3⟩ := open_cells 8 fuel T _ _ ts hd hf
  by_cases hs : ∃ fs, P.underlying T = some (.struct fs)
  · obtain ⟨fs, hfs⟩ := hs
    simp only [Value.okWide, hfs] at hv
    obtain ⟨cs, rfl, hsz, _⟩ := hv
    refine ⟨.agg rs, ⟨ts, hf, fun _ => ⟨rs, rfl, h1, fun r hr => ?_⟩, fun h => (h fs hfs).elim⟩, cs, rfl, by simpa [Value.cells] using h2, fun j r u hr hu => ?_⟩
    · obtain ⟨j, hj⟩ := List.getElem?_of_mem hr
      have hlt : j < cs.size := by
        have := (List.getElem?_eq_some_iff.1 hj).1
        simp [Value.cells] at h2; omega
      exact (h3 j r cs[j] hj (by simp [Value.cells, hlt])).2
    · exact (h3 j r u hr (by simpa [Value.cells] using hu)).1
  · have one1 : ∀ {t}, rs.map R.ty = [t] → ∃ r, rs = [r] := fun h => List.length_eq_one_iff.1 (by simpa using congrArg List.length h)
    have hone : ∃ r, rs = [r] := by
      unfold flatT at hf
      split at hf
      · cases hf; exact one1 h1
      · cases hf; exact one1 h1
      · cases hf; exact one1 h1
      · simp only [Option.bind_eq_some_iff] at hf
        obtain ⟨t, _, us, _, hf⟩ := hf
        split at hf
        · cases hf; exact one1 h1
        · exact nomatch hf
      · rename_i fs hu; exact (hs ⟨fs, hu⟩).elim
      · exact nomatch hf
    obtain ⟨r, rfl⟩ := hone
    have hcells : v.cells.toList = [v] := by
      have hnag : ∀ cs, v ≠ .agg cs := fun cs e => by
        subst e
        unfold flatT at hf
        split at hf
        · rename_i k hu; obtain ⟨n, e⟩ := okWide_int hu hv; exact nomatch e
        · rename_i hu; obtain ⟨n, e⟩ := okWide_bool hu hv; exact nomatch e
        · rename_i hu; obtain ⟨n, e⟩ := okWide_string hu hv; exact nomatch e
        · rename_i e hu; obtain ⟨a, l, c, e⟩ := okWide_slice hu hv; exact nomatch e
        · rename_i fs hu; exact (hs ⟨fs, hu⟩).elim
        · exact nomatch hf
      cases v <;> first | rfl | exact (hnag _ rfl).elim
    rw [hcells] at h3
    have := h3 0 r v rfl rfl
    exact ⟨.one r, ⟨ts, hf, fun h => (hs h).elim, fun _ => ⟨r, rfl, by simpa using h1, this.2⟩⟩, this.1⟩
theorem args_open {b0 : Nat} : ∀ {Ts : List TypeId} {vs : List Value} {ds : List (DataW H)} {ps : List MemPlace}, DataW.TrodAll enc P w base sp held Ts vs ds ps →
    (∀ (j : Nat) t v, Ts[j]? = some t → vs[j]? = some v → Value.okWide P w .any b0 t v) → (Ts.all fun T => (flatT P tt 8 T).isSome) = true →
    ∃ as, ArgsAre P tt Ts as ∧ as.length = vs.length ∧ ds.length = Ts.length ∧ ∀ (j : Nat) (x : Arg) (u : Value), as[j]? = some x → vs[j]? = some u → RepArg w (fun _ => True) x u
  | [], [], [], _, _, _, _ => ⟨[], trivial, rfl, rfl, fun j x u h => by simp at h⟩
  | T :: Ts, v :: vs, d :: ds, ps, ⟨p, q, h1, h2, _⟩, hv, hf => by
    simp only [List.all_cons, Bool.and_eq_true] at hf
    obtain ⟨ts, hts⟩ := Option.isSome_iff_exists.1 hf.1
    obtain ⟨a, g1, g2⟩ := arg_open h1 (hv 0 T v rfl rfl) hts
    obtain ⟨as, g3, g4, g5, g6⟩ := args_open h2 (fun j t v ht hw => hv (j + 1) t v (by simpa using ht) (by simpa using hw)) hf.2
    refine ⟨a :: as, ⟨g1, g3⟩, by simp [g4], by simp [g5], fun j x u hx hu => ?_⟩
    cases j with
    | zero => simp at hx hu; subst hx hu; exact g2
    | succ j => exact g6 j x u (by simpa using hx) (by simpa using hu)
  | [], _ :: _, _, _, h, _, _ => nomatch h
  | [], [], _ :: _, _, h, _, _ => nomatch h
  | _ :: _, [], _, _, h, _, _ => nomatch h
  | _ :: _, _ :: _, [], _, h, _, _ => nomatch h
variable {w' : World}
theorem kept_of (hg : Grown w w') (hc : ∀ (p : Cell) x, w.at? p = some x → w'.at? p = some x ∧ w'.ice? p = w.ice? p) (may : MemPlace → Prop) : w.keptBut w' may := by
  obtain ⟨h1, h2, h3⟩ := hg
  refine ⟨h1, h2, fun i hi => ?_⟩
  have := h3 i hi
  split at this
  · rename_i c t fr c' t' fr' e1 e2
    obtain ⟨q1, q2, q3⟩ := this
    rw [e1, e2]
    refine ⟨q1, ?_, q3, fun j _ => ?_⟩
    · rcases q2 with q2 | q2
      · exact q2
      · have h0 : w.at? (i, 0) = some c[0] := by simp [World.at?, World.cell?, e1, q2]
        have := (hc _ _ h0).2
        simp only [World.ice?, e1, e2, Prod.mk.injEq] at this
        exact Prod.ext this.1 this.2.1
    · by_cases hj : j < c.size
      · have : w.at? (i, j) = some c[j] := by simp [World.at?, World.cell?, e1, hj]
        have := (hc _ _ this).1
        simp only [World.at?, World.cell?, e2, Option.isSome_none, Bool.false_eq_true, if_false] at this
        rw [this, Array.getElem?_eq_getElem hj]
      · rw [Array.getElem?_eq_none (by omega), Array.getElem?_eq_none (by omega)]
  · rename_i x y h4
    rw [this]
    split
    · rename_i e1 e2
      rw [e1] at e2; cases e2
      exact ⟨rfl, rfl, rfl, fun _ _ => rfl⟩
    · rename_i e1 e2
      rw [e1] at e2; cases e2
      exact .inr ⟨rfl, rfl⟩
    · rfl
theorem frozen_of {may : MemPlace → Prop} (h : w.keptBut w' may) {a : Addr} (ha : a.block < w.heap.size) : w'.frozen? a = w.frozen? a := by
  have := h.2.2 a.block ha
  unfold World.frozen?
  split at this
  · rename_i e1 e2
    obtain ⟨_, q2, _⟩ := this
    rw [e1, e2, q2]
  · rename_i e1 e2
    rw [e1, e2]
  · rw [this]
theorem same_of (hg : Grown w w') (hc : ∀ (p : Cell) x, w.at? p = some x → w'.at? p = some x ∧ w'.ice? p = w.ice? p) {p : MemPlace} (hp : p.block < w.heap.size) : w.sameAt w' p := by
  obtain ⟨_, _, h3⟩ := kept_of hg hc fun _ => False
  cases p with
  | cell b o =>
    have := h3 b hp
    show w'.cell? ⟨b, o, none⟩ = w.cell? ⟨b, o, none⟩
    split at this
    · rename_i c t fr c' t' fr' e1 e2
      obtain ⟨q1, q2, q3, q4⟩ := this
      simp only [World.cell?, e1, e2, Option.isSome_none, Bool.false_eq_true, if_false]
      exact q4 o (fun h => h)
    · rename_i es ck es' ck' e1 e2
      simp [World.cell?, e1, e2]
    · simp only [World.cell?, this]
  | map b =>
    have := h3 b hp
    show w'.heap[b]? = w.heap[b]?
    split at this
    · rename_i c t fr c' t' fr' e1 e2
      obtain ⟨rfl, rfl, q3, q4⟩ := this
      rw [e1, e2]
      have : c' = c := Array.ext_getElem? fun j => q4 j (fun h => h)
      rw [this]
    · rename_i es ck es' ck' e1 e2
      rcases this with h | ⟨rfl, rfl⟩
      · exact h.elim
      · rw [e1, e2]
    · exact this
theorem trodAll_stays (hl : laidOutB P = true) : ∀ {Ts : List TypeId} {vs : List Value} {ds : List (DataW H)} {ps : List MemPlace}, (∀ t ∈ Ts, P.readableRec t = true ∧ t < P.types.size) →
    DataW.TrodAll enc P w 0 (fun _ => true) true Ts vs ds ps → (∀ p ∈ ps, w.sameAt w' p) → (∀ p ∈ ps, sp p.block = true) → DataW.TrodAll enc P w' 0 sp true Ts vs ds ps
  | [], [], [], _, _, h, _, _ => h
  | T :: Ts, v :: vs, d :: ds, ps, hT, ⟨p, q, h1, h2, e⟩, hs, hp =>
    ⟨p, q, WideElems.Trod_stays hl (hT T (by simp)).1 (hT T (by simp)).2 h1 (fun x hx => hs x (by rw [e]; exact List.mem_append_left _ hx)) (fun x hx => hp x (by rw [e]; exact List.mem_append_left _ hx)),
      trodAll_stays hl (fun t ht => hT t (by simp [ht])) h2 (fun x hx => hs x (by rw [e]; exact List.mem_append_right _ hx)) (fun x hx => hp x (by rw [e]; exact List.mem_append_right _ hx)), e⟩
  | [], _ :: _, _, _, _, h, _, _ => nomatch h
  | [], [], _ :: _, _, _, h, _, _ => nomatch h
  | _ :: _, [], _, _, _, h, _, _ => nomatch h
  | _ :: _, _ :: _, [], _, _, h, _, _ => nomatch h
end
theorem post_same {H : Type} {enc : TypeId × Value → H} {P : Program} {f : Func} {s : ChangeSpec} {apart fresh handsOn again : Bool} {W W' : World} {args : Array Value} {v : Value} {ds gs : List (DataW H)} {before pa pv : List MemPlace}
    (hW : DataW.Whole enc P f.params.toList s.vars apart W args.toList ds gs before)
    (hres : ∀ (b : Nat) (sp : Nat → Bool) (hd : Bool), DataW.TrodAll enc P W' b sp hd f.resultTypes.toList (v.resultList f.resultTypes.size) (s.fn H (ds ++ gs)).results [])
    (hargs : ∀ sp : Nat → Bool, (∀ p ∈ before, sp p.block = true) → DataW.TrodAll enc P W' 0 sp true f.params.toList args.toList (s.fn H (ds ++ gs)).args pa)
    (hvars : ∀ sp : Nat → Bool, (∀ p ∈ before, sp p.block = true) → DataW.TrodVars enc P W' sp s.vars (s.fn H (ds ++ gs)).vars pv)
    (hps : before = pa ++ pv) (hk : W.keptBut W' (· ∈ before)) (hfz : ∀ b off, MemPlace.cell b off ∈ before → W'.frozen? ⟨b, off, none⟩ = W.frozen? ⟨b, off, none⟩)
    (hok : ∀ (j : Nat) (t : TypeId) (r : Value), f.resultTypes[j]? = some t → (v.resultList f.resultTypes.size)[j]? = some r → Value.okWide P W' .any 0 t r) : s.post enc P f apart fresh handsOn again W args v W' := by
  have hin : ∀ p ∈ before, (decide (p.block < W.heap.size)) = true := fun p hp => decide_eq_true (hW.lt p hp)
  subst hps
  refine ⟨ds, gs, _, [], pa, pv, hW, hres _ _ _, hargs (fun b => decide (b < W.heap.size)) hin, hvars _ hin, World.keptBut_mono (fun p hp => ⟨hp, .inr (List.mem_append.1 hp)⟩) hk, fun _ => ?_⟩
  obtain ⟨_, _, _, _, _, hz, hn⟩ := id hW
  refine ⟨hok, _, _, ([] ++ pa) ++ pv, ⟨[] ++ pa, pv, trodAll_append (hargs _ fun _ _ => rfl) (hres _ _ _), hvars _ fun _ _ => rfl, rfl, fun b off hp => ?_, fun ha => ?_⟩, fun p hp _ => ?_⟩
  · have hp : MemPlace.cell b off ∈ pa ++ pv := by simpa using hp
    rw [hfz b off hp]; exact hz b off hp
  · simpa using hn ha
  · simpa using hp
/-- A LAW: what it is called with is typed; it answers true; nothing has turned. -/
theorem law_lifted {C : Checked} {os : Os} {g : FuncId} {fn : Func} {s : ChangeSpec} {tt : TT} {H : Type} {enc : TypeId × Value → H} {conds : List PathCond} {apart fresh handsOn again : Bool}
    (own : ownKnob C.prog.godebug = none) (started : os.Started) (noInit : C.prog.inits.idxOf? g = none) (hfn : C.prog.funcs[g]? = some fn)
    (witness : ∃ (w : World) (tape : Tape) (i : Input), w.os = os ∧ (w.forCall tape i).Shaped C.prog ∧ i.vars = [] ∧ Input.okWide C.prog (w.forCall tape i) .any w.heap.size g i ∧
      s.pre6 enc C.prog fn conds apart (w.forCall tape i).memory i.args ∧ Assume.holds {} C.prog (lone (Frame.enter C.prog g i.args .normal) [] (w.forCall tape i)))
    (hlaid : laidOutB C.prog = true) (hread : ∀ t ∈ fn.params.toList, C.prog.readableRec t = true ∧ t < C.prog.types.size) (hflat : (fn.params.toList.all fun T => (flatT C.prog tt 8 T).isSome) = true)
    (hvars : s.vars = []) (hspec : ∀ ds : List (DataW H), ds.length = fn.params.toList.length → s.fn H (ds ++ []) = { results := [.lit (.bool true)], args := ds, vars := [] })
    {bt : TypeId} (hres : fn.resultTypes = #[bt]) (hbt : C.prog.underlying bt = some .bool)
    (hcon : ∀ as : List Arg, ArgsAre C.prog tt fn.params.toList as → PureCalls C.prog g as (.b true, [])) :
    ReturnsInHanded {} C os g .any (s.pre6 enc C.prog fn conds apart) (s.post enc C.prog fn apart fresh handsOn again) := by
  refine returnsInHanded_of_change (C := C) own started noInit hfn witness ?_
  intro W base args ds gs before hval hW _ _
  have hW' := hW
  obtain ⟨p, q, hA, hV, rfl, hfz, _⟩ := hW
  rw [hvars] at hV
  obtain ⟨rfl, rfl⟩ := trodVars_none hV
  obtain ⟨as, g1, g2, g3, g4⟩ := args_open hA (fun j t v ht hv => hval j t v (by simpa using ht) (by simpa using hv)) hflat
  obtain ⟨_, hc⟩ := hcon as g1
  refine (hc W args (fun _ => True) (by simpa using g2) (fun j x u hx hu => g4 j x u hx (by simpa using hu))).mono fun e W' ⟨u, pl, he, _, hu, _, hkeep, _, hgr⟩ => ?_
  have hu : u = .bool true := by
    cases hu with
    | r _ _ _ h => cases h; rfl
  subst hu he
  have hc' : ∀ (p : Cell) x, W.at? p = some x → W'.at? p = some x ∧ W'.ice? p = W.ice? p := hkeep
  have hlt : ∀ x ∈ p, x.block < W.heap.size := fun x hx => hW'.lt x (by simpa using hx)
  refine ⟨_, rfl, post_same (pa := p) (pv := []) hW' (fun _ _ _ => ?_) (fun sp hsp => ?_) (fun _ _ => ?_) rfl (kept_of hgr hc' _) (fun b off hp => frozen_of (kept_of hgr hc' fun _ => False) (hW'.lt _ hp)) (ok_one hres rfl (okWide_bool_mk hbt true))⟩
  · rw [hspec ds g3, hres]
    exact trodAll_mk1 (shut_bool hbt true)
  · rw [hspec ds g3]
    exact trodAll_stays hlaid hread hA (fun x hx => same_of hgr hc' (hlt x hx)) (fun x hx => hsp x (by simpa using hx))
  · rw [hspec ds g3, hvars]
    exact rfl
end Go.Proofs.Ev

namespace Go.Proofs.Ev
instance plainTok : Tok := ⟨fun _ => .slice none 0 0, fun _ => rfl, rfl⟩
def okI (n : Int) : Prop := -9223372036854775808 ≤ n ∧ n ≤ 9223372036854775807
theorem wrapI {n : Int} (h1 : -9223372036854775808 ≤ n) (h2 : n ≤ 9223372036854775807) : IntKind.i64.wrap n = n := Go.IntWalk.i64_in n ⟨h1, h2⟩
theorem wrapNat1 {n m : Nat} (h : n < m) (hm : m ≤ 9223372036854775807) : IntKind.i64.wrap ((n : Int) + 1) = ((n + 1 : Nat) : Int) := by
  rw [wrapI (by omega) (by omega)]; omega
@[simp] theorem idx_nat {α : Type} (xs : List α) (i : Nat) : idx xs (i : Int) = xs[i]? := by
  have : (0 : Int) ≤ (i : Int) := by omega
  simp [idx, this]
section
variable {R V : Type} {g : V → (V → Option R) → Option R}
theorem iter_succ (k : Nat) (v : V) : iter g (k + 1) v = g v (iter g k) := rfl
/-- A loop that goes through known states, with what comes of each. -/
theorem iter_rec {st : Nat → V} {n : Nat} {P : Nat → Option R} (h : ∀ i, i < n → ∀ next : V → Option R, next (st (i + 1)) = P (i + 1) → g (st i) next = P i)
    (hn : ∀ next, g (st n) next = P n) : ∀ (k i : Nat), i ≤ n → n - i < k → iter g k (st i) = P i
  | 0, i, hi, hk => by omega
  | k + 1, i, hi, hk => by
    rw [iter_succ]
    by_cases c : i < n
    · exact h i c _ (iter_rec h hn k (i + 1) (by omega) (by omega))
    · have : i = n := by omega
      subst this; exact hn _
/-- .. whose end is one. -/
theorem iter_run {st : Nat → V} {n : Nat} {r : Option R} (h : ∀ i, i < n → ∀ next : V → Option R, g (st i) next = next (st (i + 1))) (hn : ∀ next, g (st n) next = r) {k : Nat} (hk : n < k) :
    iter g k (st 0) = r := iter_rec (P := fun _ => r) (fun i hi next e => (h i hi next).trans e) hn k 0 (Nat.zero_le _) (by omega)
/-- .. from a state on, by a measure. -/
theorem iter_ind {Inv : V → Prop} {m : V → Nat} {P : V → Option R} (h : ∀ v, Inv v → ∀ next : V → Option R, (∀ u, Inv u → m u < m v → next u = P u) → g v next = P v) :
    ∀ (k : Nat) (v : V), Inv v → m v < k → iter g k v = P v
  | 0, _, _, hk => by omega
  | k + 1, v, hv, hk => by
    rw [iter_succ]
    exact h v hv _ fun u hu hm => iter_ind h k u hu (by omega)
end
theorem cond_dec {α : Type} {p : Prop} [Decidable p] (x y : α) : cond (decide p) x y = if p then x else y := by by_cases h : p <;> simp [h]
theorem cond_bne {α : Type} (a b : Int) (x y : α) : cond (a != b) x y = if a = b then y else x := by
  by_cases h : a = b
  · simp [h]
  · have : (a != b) = true := by simpa using h
    rw [this, if_neg h]; rfl
theorem cond_not {α : Type} (b : Bool) (x y : α) : cond (!b) x y = cond b y x := by cases b <;> rfl
theorem beq_dec (a b : Int) : (a == b) = decide (a = b) := by
  by_cases h : a = b
  · simp [h]
  · rw [decide_eq_false h]; simpa using h
theorem bne_dec (a b : Int) : (a != b) = decide (a ≠ b) := by
  by_cases h : a = b
  · simp [h]
  · rw [decide_eq_true h]; simpa using h
theorem getD_get {α : Type} {xs : List α} {i : Nat} (h : i < xs.length) : xs[i]? = some xs[i] := List.getElem?_eq_getElem h
theorem drop_step {α : Type} {xs : List α} {i : Nat} (h : i < xs.length) : xs.drop i = xs[i] :: xs.drop (i + 1) := (List.getElem_cons_drop h).symm
theorem take_step {α : Type} {xs : List α} {i : Nat} (h : i < xs.length) : xs.take (i + 1) = xs.take i ++ [xs[i]] := (List.take_append_getElem h).symm
/-- A list that is filled place by place. -/
theorem set_fill {α : Type} (xs : List α) (z : α) {i : Nat} (h : i < xs.length) : (xs.take i ++ List.replicate (xs.length - i) z).set i xs[i] = xs.take (i + 1) ++ List.replicate (xs.length - (i + 1)) z := by
  rw [List.set_append_right _ _ (by simp; omega)]
  have e : i - (xs.take i).length = 0 := by simp; omega
  rw [e, show xs.length - i = (xs.length - (i + 1)) + 1 from by omega, List.replicate_succ, List.set_cons_zero, take_step h, List.append_assoc]
  rfl
/-- How a loop copies a list. -/
theorem copy_loop {α R : Type} (xs : List α) (z : α) {g : Int × List α → (Int × List α → Option R) → Option R} {fin : List α → Option R}
    (h : ∀ (i : Nat) (ys : List α) (hi : i < xs.length) (next : Int × List α → Option R), ys.length = xs.length → g ((i : Int), ys) next = next (((i + 1 : Nat) : Int), ys.set i xs[i]))
    (hn : ∀ ys next, g ((xs.length : Int), ys) next = fin ys) {k : Nat} (hk : xs.length < k) : iter g k (0, List.replicate xs.length z) = fin xs := by
  have := iter_run (g := g) (st := fun i => ((i : Int), xs.take i ++ List.replicate (xs.length - i) z)) (n := xs.length) (r := fin xs) (fun i hi next => by
    rw [h i _ hi next (by simp; omega), set_fill xs z hi]) (fun next => by
    simp only [List.take_length, Nat.sub_self, List.replicate_zero, List.append_nil]; exact hn _ _) hk
  simpa using this
/-- How a loop compares two lists. -/
theorem same_loop {α R : Type} [DecidableEq α] (xs ys : List α) (hl : xs.length = ys.length) {g : Int → (Int → Option R) → Option R} {yes no : Option R}
    (h : ∀ (i : Nat) (hi : i < xs.length) (hi' : i < ys.length) (next : Int → Option R), g (i : Int) next = if xs[i] = ys[i] then next ((i + 1 : Nat) : Int) else no)
    (hn : ∀ next, g (xs.length : Int) next = yes) {k : Nat} (hk : xs.length < k) : iter g k 0 = if xs = ys then yes else no := by
  have := iter_rec (g := g) (st := fun i => (i : Int)) (n := xs.length) (P := fun i => if xs.drop i = ys.drop i then yes else no) (fun i hi next e => by
    have hi' : i < ys.length := by omega
    rw [h i hi hi' next]
    have he : (xs.drop i = ys.drop i) ↔ (xs[i] = ys[i] ∧ xs.drop (i + 1) = ys.drop (i + 1)) := by rw [drop_step hi, drop_step hi', List.cons.injEq]
    by_cases c : xs[i] = ys[i]
    · rw [if_pos c, e]; simp only [he, c, true_and]
    · rw [if_neg c, if_neg (fun q => c (he.1 q).1)]) (fun next => by
    rw [List.drop_length, List.drop_of_length_le (by omega)]; simp; exact hn next) k 0 (Nat.zero_le _) (by omega)
  simpa using this
end Go.Proofs.Ev

set_option linter.unusedVariables false
namespace Go.Proofs.Ev
theorem bind_some' {α β : Type} (a : α) (f : α → Option β) : (some a).bind f = f a := rfl
/-- A loop that looks for the first element that fails. -/
theorem all_loop {α R : Type} (xs : List α) (p : α → Bool) {g : Int → (Int → Option R) → Option R} {yes no : Option R}
    (h : ∀ (i : Nat) (hi : i < xs.length) (next : Int → Option R), g (i : Int) next = cond (p xs[i]) (next ((i + 1 : Nat) : Int)) no)
    (hn : ∀ next, g (xs.length : Int) next = yes) {k : Nat} (hk : xs.length < k) : iter g k 0 = cond (xs.all p) yes no := by
  have := iter_rec (g := g) (st := fun i => (i : Int)) (n := xs.length) (P := fun i => cond ((xs.drop i).all p) yes no) (fun i hi next e => by
    rw [h i hi next, drop_step hi, List.all_cons]
    cases hp : p xs[i]
    · rfl
    · simp only [cond_true, Bool.true_and]; exact e) (fun next => by rw [List.drop_length]; exact hn next) k 0 (Nat.zero_le _) (by omega)
  simpa using this
/-- .. its place. -/
theorem find_loop {α R : Type} (xs : List α) (p : α → Bool) {g : Int → (Int → Option R) → Option R} {yes : Option R} {no : Int → Option R}
    (h : ∀ (i : Nat) (hi : i < xs.length) (next : Int → Option R), g (i : Int) next = cond (p xs[i]) (no (i : Int)) (next ((i + 1 : Nat) : Int)))
    (hn : ∀ next, g (xs.length : Int) next = yes) {k : Nat} (hk : xs.length < k) : iter g k 0 = (xs.findIdx? p).elim yes fun i => no (i : Int) := by
  have := iter_rec (g := g) (st := fun i => (i : Int)) (n := xs.length) (P := fun i => ((xs.drop i).findIdx? p).elim yes fun j => no ((i + j : Nat) : Int)) (fun i hi next e => by
    rw [h i hi next, drop_step hi, List.findIdx?_cons]
    cases hp : p xs[i]
    · simp only [cond_false, Bool.false_eq_true, if_false]
      rw [e]
      cases (xs.drop (i + 1)).findIdx? p with
      | none => rfl
      | some j => simp only [Option.map_some, Option.elim_some]; congr 2; omega
    · simp) (fun next => by rw [List.drop_length]; simpa using hn next) k 0 (Nat.zero_le _) (by omega)
  simpa using this
/-- A loop that appends what comes of each element. -/
theorem app_loop {α β R : Type} (xs : List α) (f : α → β) {g : Int × List β → (Int × List β → Option R) → Option R} {fin : List β → Option R}
    (h : ∀ (i : Nat) (ys : List β) (hi : i < xs.length) (next : Int × List β → Option R), ys.length = i → g ((i : Int), ys) next = next (((i + 1 : Nat) : Int), ys ++ [f xs[i]]))
    (hn : ∀ ys next, g ((xs.length : Int), ys) next = fin ys) {k : Nat} (hk : xs.length < k) : iter g k (0, []) = fin (xs.map f) := by
  have := iter_run (g := g) (st := fun i => ((i : Int), (xs.take i).map f)) (n := xs.length) (r := fin (xs.map f)) (fun i hi next => by
    rw [h i _ hi next (by simp; omega), take_step hi, List.map_append]; rfl) (fun next => by rw [List.take_length]; exact hn _ _) hk
  simpa using this
theorem mul_bd {a b A B : Int} (h1 : 0 ≤ a) (h2 : a ≤ A) (h3 : 0 ≤ b) (h4 : b ≤ B) : 0 ≤ a * b ∧ a * b ≤ A * B :=
  ⟨Int.mul_nonneg h1 h3, Int.mul_le_mul h2 h4 h3 (by omega)⟩
end Go.Proofs.Ev
