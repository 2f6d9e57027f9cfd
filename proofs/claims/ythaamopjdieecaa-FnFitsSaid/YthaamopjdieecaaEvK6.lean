/- The evaluator over the model's code, and that it is sound: part 6. -/
import Derived.Test.YthaamopjdieecaaEvK5
import Derived.KernelRfl
set_option linter.unusedVariables false
set_option linter.unusedSimpArgs false
set_option linter.unusedVariables false
set_option linter.unusedSimpArgs false
namespace Go.Proofs.Ev
variable [Tok]
set_option linter.unusedSectionVars false
/-- What becomes of a block that was handed in. -/
inductive KD where
  | gone
  | arr
  | box (l : List RT)
def keptIds : List (Option Nat) → List KD → List Nat
  | some _ :: g, .gone :: l => keptIds g l
  | some i :: g, _ :: l => i :: keptIds g l
  | none :: g, _ :: l => keptIds g l
  | _, _ => []
def boxSrcs (h : Heap) : List (Option Nat) → List KD → Option (List (Bool × Ty × Option Nat))
  | [], [] => some []
  | _ :: g, .gone :: ks => boxSrcs h g ks
  | some _ :: g, .arr :: ks => boxSrcs h g ks
  | some i :: g, .box l :: ks => match look h i with
    | some (.box cs) => (srcsL l cs).bind fun a => (boxSrcs h g ks).bind fun b => some (a ++ b)
    | _ => none
  | _, _ => none
def outArr (h : Heap) (LL : List Nat) (i : Nat) : Option Blk :=
  match look h i with
  | some (.arr none t xs) => some (.arr none t xs)
  | some (.arr (some d) t xs) => cond (hit LL d) none (some (.arr (some []) t xs))
  | _ => none
def keptOut (h : Heap) (LL : List Nat) (G : List (Option Nat)) : List (Option Nat) → List KD → Nat → Option (List (Option Blk))
  | [], [], _ => some []
  | _ :: g, .gone :: ks, k => (keptOut h LL G g ks k).bind fun q => some (none :: q)
  | some i :: g, .arr :: ks, k => (outArr h LL i).bind fun b => (keptOut h LL G g ks k).bind fun q => some (some b :: q)
  | some i :: g, .box l :: ks, k => match look h i with
    | some (.box cs) => (outL h LL G l k cs).bind fun p => (keptOut h LL G g ks p.2).bind fun q => some (some (.box p.1) :: q)
    | _ => none
  | _, _, _ => none
/-- The blocks that are kept, by their places. -/
def maskG : List (Option Nat) → List KD → List (Option Nat)
  | [], _ => []
  | _ :: g, .gone :: ks => none :: maskG g ks
  | og :: g, .arr :: ks => og :: maskG g ks
  | og :: g, .box _ :: ks => og :: maskG g ks
  | _ :: g, [] => none :: maskG g []
def canonM (rt : RT) (ks : List KD) (st : St) (v : SV) : Option MOut :=
  (rt.srcs v).bind fun s0 => (boxSrcs st.heap st.gh ks).bind fun s1 =>
    let LL := keptIds st.gh ks ++ idsOf (s0 ++ s1)
    cond (nodup LL) ((outBlks st.heap LL (s0 ++ s1)).bind fun news => (rt.out st.heap LL (maskG st.gh ks) st.gh.length v).bind fun p => (keptOut st.heap LL (maskG st.gh ks) st.gh ks p.2).bind fun q => some ⟨p.1, q, news⟩) none
/-- A box that was made here, and that the result points to, is told behind those that were handed in. -/
def adopt (ks : List KD) (v : SV) (gh : List (Option Nat)) : List (Option Nat) :=
  cond (Nat.beq ks.length (gh.length + 1)) (match v with
    | .ptr i 0 _ => gh ++ [some i]
    | .tup (.ptr i 0 _ :: _) => gh ++ [some i]
    | _ => gh) gh
def shiftOut (m : Nat) (o : MOut) : Option MOut := match o.kept.drop m with
  | [] => some o
  | [some b] => some ⟨o.v, o.kept.take m, b :: o.news⟩
  | _ => none
def canonX (rt : RT) (ks : List KD) (st : St) (v : SV) : Option MOut :=
  (canonM rt ks { st with gh := adopt ks v st.gh } v).bind (shiftOut st.gh.length)
/-- A result that is a part of an owned list, from its beginning on: the list is cut. -/
def truncAt (t : Nat) (st : St) : Option St :=
  match look st.slots t with
  | some (.sub i 0 n) => match look st.heap i with
    | some (.arr sh ty xs) => cond (mem i (sh.getD [])) none (st.take (some t) { v := .own st.nid, news := [.arr sh ty (xs.take n)], gone := [i] })
    | _ => some st
  | _ => some st
def truncT (fn : Func) (rt : RT) (st : St) : Option St :=
  match fn.results.toList, rt with
  | [.tmp t], .own _ => truncAt t st
  | [.tmp t], .shl _ => truncAt t st
  | _, _ => some st
def finM {ρ : Type} (P : Program) (fn : Func) (rt : RT) (ks : List KD) (dec : MOut → Option ρ) : Ex → St → Option ρ
  | .exit _, _ => none
  | .normal, st => (truncT fn rt st).bind fun st => (finV P fn st).bind fun v => (canonX rt ks st v).bind dec
  | .ret, st => (truncT fn rt st).bind fun st => (finV P fn st).bind fun v => (canonX rt ks st v).bind dec
def slotsM : Nat → List SV → List (Nat × SV)
  | _, [] => []
  | n, a :: l => (n, a) :: slotsM (n + 1) l
def rangeG : Nat → Nat → List (Option Nat)
  | _, 0 => []
  | n, k + 1 => some n :: rangeG (n + 1) k
def st0M (fn : Func) (args : List SV) (bs : List Blk) : St := { slots := slotsM 0 args, heap := newsH 0 bs, nid := bs.length, n := fn.ntmps, gh := rangeG 0 bs.length }
theorem look_slotsM (args : List SV) (n t : Nat) : look (slotsM n args) t = if n ≤ t then args[t - n]? else none := by
  induction args generalizing n with
  | nil => simp [slotsM, look]
  | cons a l ih =>
    rw [slotsM, look_cons, ih]
    by_cases h : n = t
    · subst h; simp
    · by_cases h2 : n ≤ t
      · rw [if_neg h, if_pos (by omega), if_pos h2, show t - n = (t - (n + 1)) + 1 from by omega]; rfl
      · rw [if_neg h, if_neg (by omega), if_neg h2]
theorem rangeG_get : ∀ (c n k : Nat) {i : Nat}, (rangeG n c)[k]? = some (some i) → i = n + k ∧ k < c
  | 0, n, k, i, h => by simp [rangeG] at h
  | c + 1, n, 0, i, h => by simp [rangeG] at h; omega
  | c + 1, n, k + 1, i, h => by
    have := rangeG_get c (n + 1) k (by simpa [rangeG] using h)
    omega
/-- The placing at the end: the blocks that are kept, then the slices that are made. -/
def Pl.resM (pl : Pl) (gh : List (Option Nat)) (S : List (Bool × Ty × Option Nat)) : Pl :=
  ⟨fun k => if k < gh.length then (match gh[k]? with | some (some i) => pl.hdr i | _ => undef) else (pl.res S).hdr (k - gh.length),
   fun k => if k < gh.length then (match gh[k]? with | some (some i) => pl.fp i | _ => fun _ => False) else (pl.res S).fp (k - gh.length), pl.base⟩
section
variable {w : World} {H : Heap} {pl : Pl} {gh G : List (Option Nat)} {ks : List KD} {S : List (Bool × Ty × Option Nat)} {LL : List Nat} {news : List Blk} {kept : List (Option Blk)} {v : SV}
theorem keptOut_spec : ∀ {gh : List (Option Nat)} {ks : List KD} {k0 : Nat} {kept : List (Option Blk)}, keptOut H LL G gh ks k0 = some kept → kept.length = gh.length ∧
    ∀ (k : Nat) (B : Blk), kept[k]? = some (some B) → ∃ i, gh[k]? = some (some i) ∧ mem i (keptIds gh ks) = true ∧ ((∃ l cs cs' k1 k2, ks[k]? = some (.box l) ∧ look H i = some (.box cs) ∧ outL H LL G l k1 cs = some (cs', k2) ∧ B = .box cs') ∨ (ks[k]? = some .arr ∧ outArr H LL i = some B))
  | [], [], k0, kept, h => by cases h; exact ⟨rfl, fun k B hB => by simp at hB⟩
  | og :: g, .gone :: ks, k0, kept, h => by
    simp only [keptOut, Option.bind_eq_some_iff, Option.some.injEq] at h
    obtain ⟨q, h1, rfl⟩ := h
    obtain ⟨g1, g2⟩ := keptOut_spec h1
    refine ⟨by simp [g1], fun k B hB => ?_⟩
    cases k with
    | zero => simp at hB
    | succ k =>
      obtain ⟨i, a1, a2, a3⟩ := g2 k B (by simpa using hB)
      refine ⟨i, by simpa using a1, ?_, by simpa using a3⟩
      cases og <;> simpa [keptIds] using a2
  | some i0 :: g, .arr :: ks, k0, kept, h => by
    simp only [keptOut, Option.bind_eq_some_iff, Option.some.injEq] at h
    obtain ⟨b, h0, q, h1, rfl⟩ := h
    obtain ⟨g1, g2⟩ := keptOut_spec h1
    refine ⟨by simp [g1], fun k B hB => ?_⟩
    cases k with
    | zero => simp at hB; subst hB; exact ⟨i0, rfl, by simp [keptIds, mem], .inr ⟨rfl, h0⟩⟩
    | succ k =>
      obtain ⟨i, a1, a2, a3⟩ := g2 k B (by simpa using hB)
      refine ⟨i, by simpa using a1, ?_, by simpa using a3⟩
      rw [mem_iff] at a2 ⊢; simp [keptIds, a2]
  | some i0 :: g, .box l :: ks, k0, kept, h => by
    simp only [keptOut] at h
    split at h
    · rename_i cs hl
      simp only [Option.bind_eq_some_iff, Option.some.injEq] at h
      obtain ⟨p, h0, q, h1, rfl⟩ := h
      obtain ⟨g1, g2⟩ := keptOut_spec h1
      refine ⟨by simp [g1], fun k B hB => ?_⟩
      cases k with
      | zero => simp at hB; subst hB; exact ⟨i0, rfl, by simp [keptIds, mem], .inl ⟨l, cs, p.1, k0, p.2, rfl, hl, h0, rfl⟩⟩
      | succ k =>
        obtain ⟨i, a1, a2, a3⟩ := g2 k B (by simpa using hB)
        refine ⟨i, by simpa using a1, ?_, by simpa using a3⟩
        rw [mem_iff] at a2 ⊢; simp [keptIds, a2]
    · exact nomatch h
  | [], _ :: _, _, _, h => by cases h
  | none :: _, [], _, _, h => by cases h
  | some _ :: _, [], _, _, h => by cases h
  | none :: _, .arr :: _, _, _, h => by cases h
  | none :: _, .box _ :: _, _, _, h => by cases h
/-- The boxes' slices, box by box, with the numbers that they bear. -/
theorem boxes_rep (hr : HRel H pl w) {H2 : Heap} {plR : Pl} {m : Nat} (hown : ∀ (k : Nat) (b : Bool) (t : Ty) (v : SV) (u : Value), SVRep w H pl v u → ((∃ i, v = .own i ∧ S[k]? = some (b, t, some i)) ∨ (v = .nilS ∧ S[k]? = some (b, t, none))) → SVRep w H2 plR (.own (m + k)) u)
    (hro : ∀ d p, hit LL d = false → okd H pl d p → okd H2 plR [] p) (hptr : ∀ i j o u, posOf i G 0 = some j → SVRep w H pl (.ptr i 0 o) u → SVRep w H2 plR (.ptr j 0 o) u) : ∀ {gh : List (Option Nat)} {ks : List KD} {j0 : Nat} {kept : List (Option Blk)} {s : List (Bool × Ty × Option Nat)},
    boxSrcs H gh ks = some s → (∀ (j : Nat) (x : Bool × Ty × Option Nat), s[j]? = some x → S[j0 + j]? = some x) → keptOut H LL G gh ks (m + j0) = some kept →
    ∀ (k i : Nat) (cs cs' : List SV), gh[k]? = some (some i) → look H i = some (.box cs) → kept[k]? = some (some (.box cs')) → ∀ us : List Value, cs.length = us.length → (∀ (j : Nat) (x : SV) (u : Value), cs[j]? = some x → us[j]? = some u → SVRep w H pl x u) →
      cs'.length = us.length ∧ ∀ (j : Nat) (x : SV) (u : Value), cs'[j]? = some x → us[j]? = some u → SVRep w H2 plR x u
  | [], [], j0, kept, s, hs, hS, h, k, i, cs, cs', hk, _, _, _, _, _ => by simp at hk
  | og :: g, .gone :: ks, j0, kept, s, hs, hS, h, k, i, cs, cs', hk, hl, hc, us, hu, hp => by
    simp only [keptOut, Option.bind_eq_some_iff, Option.some.injEq] at h
    obtain ⟨q, h1, rfl⟩ := h
    have hs : boxSrcs H g ks = some s := by cases og <;> exact hs
    cases k with
    | zero => simp at hc
    | succ k => exact boxes_rep hr hown hro hptr hs hS h1 k i cs cs' (by simpa using hk) hl (by simpa using hc) us hu hp
  | some i0 :: g, .arr :: ks, j0, kept, s, hs, hS, h, k, i, cs, cs', hk, hl, hc, us, hu, hp => by
    simp only [keptOut, Option.bind_eq_some_iff, Option.some.injEq] at h
    obtain ⟨b, h0, q, h1, rfl⟩ := h
    cases k with
    | zero =>
      simp at hk hc
      subst hk hc
      unfold outArr at h0
      rw [hl] at h0; exact nomatch h0
    | succ k => exact boxes_rep hr hown hro hptr (show boxSrcs H g ks = some s from hs) hS h1 k i cs cs' (by simpa using hk) hl (by simpa using hc) us hu hp
  | some i0 :: g, .box l :: ks, j0, kept, s, hs, hS, h, k, i, cs, cs', hk, hl, hc, us, hu, hp => by
    simp only [keptOut] at h
    simp only [boxSrcs] at hs
    cases hl0 : look H i0 with
    | none => rw [hl0] at h; exact nomatch h
    | some B0 =>
      cases B0 with
      | arr sh t xs => rw [hl0] at h; exact nomatch h
      | box cs0 =>
        simp only [hl0, Option.bind_eq_some_iff, Option.some.injEq] at h hs
        obtain ⟨p, h0, q, h1, rfl⟩ := h
        obtain ⟨s1, e1, s2, e2, rfl⟩ := hs
        obtain ⟨b, o, q1, q2, q3⟩ := hr.blk i0 _ hl0
        have key : ∀ us : List Value, cs0.length = us.length → (∀ (j : Nat) (x : SV) (u : Value), cs0[j]? = some x → us[j]? = some u → SVRep w H pl x u) → _ := fun us hu hp =>
          outL_repG hr hown hro hptr l e1 (fun j x hx => hS j x (by rw [List.getElem?_append_left (List.getElem?_eq_some_iff.1 hx).1]; exact hx)) (cs' := p.1) (k' := p.2) (by rw [h0]) us hu hp
        cases k with
        | zero =>
          simp at hk hc
          subst hk hc
          rw [hl0] at hl; cases hl
          obtain ⟨g1, g2, _⟩ := key us hu hp
          exact ⟨g1, g2⟩
        | succ k =>
          have hk2 : p.2 = m + (j0 + s1.length) := by
            have hus : ∃ us : List Value, cs0.length = us.length ∧ ∀ (j : Nat) (x : SV) (u : Value), cs0[j]? = some x → us[j]? = some u → SVRep w H pl x u := by
              have : ∀ n, n ≤ cs0.length → ∃ us : List Value, us.length = n ∧ ∀ (j : Nat) (x : SV) (u : Value), cs0[j]? = some x → us[j]? = some u → SVRep w H pl x u := fun n => by
                induction n with
                | zero => exact fun _ => ⟨[], rfl, fun j x u _ h => by simp at h⟩
                | succ n ih =>
                  intro hn
                  obtain ⟨us, a1, a2⟩ := ih (by omega)
                  obtain ⟨u, _, _, _, b4⟩ := q3 n cs0[n] (List.getElem?_eq_getElem (by omega))
                  refine ⟨us ++ [u], by simp [a1], fun j x u' hx hu' => ?_⟩
                  by_cases c : j < us.length
                  · rw [List.getElem?_append_left c] at hu'; exact a2 j x u' hx hu'
                  · rw [List.getElem?_append_right (by omega)] at hu'
                    have hlt := (List.getElem?_eq_some_iff.1 hu').1
                    simp at hlt
                    have : j = n := by omega
                    subst this
                    rw [show j - us.length = 0 from by omega] at hu'
                    simp at hu'; subst hu'
                    rw [List.getElem?_eq_getElem (by omega)] at hx; cases hx
                    exact b4
              obtain ⟨us, a1, a2⟩ := this cs0.length (Nat.le_refl _)
              exact ⟨us, a1.symm, a2⟩
            obtain ⟨us, a1, a2⟩ := hus
            exact (key us a1 a2).2.2
          rw [hk2] at h1
          exact boxes_rep hr hown hro hptr e2 (fun j x hx => by
            have := hS (s1.length + j) x (by rw [List.getElem?_append_right (by omega), Nat.add_sub_cancel_left]; exact hx)
            rw [Nat.add_assoc]; exact this) h1 k i cs cs' (by simpa using hk) hl (by simpa using hc) us hu hp
  | [], _ :: _, _, _, _, h, _, _, _, _, _, _, _, _, _, _, _, _ => by cases h
  | none :: _, [], _, _, _, h, _, _, _, _, _, _, _, _, _, _, _, _ => by cases h
  | some _ :: _, [], _, _, _, h, _, _, _, _, _, _, _, _, _, _, _, _ => by cases h
  | none :: _, .arr :: _, _, _, _, h, _, _, _, _, _, _, _, _, _, _, _, _ => by cases h
  | none :: _, .box _ :: _, _, _, _, h, _, _, _, _, _, _, _, _, _, _, _, _ => by cases h
theorem kept_inj : ∀ {gh : List (Option Nat)} {ks : List KD} {k0 k0' : Nat} {kept : List (Option Blk)}, keptOut H LL G gh ks k0 = some kept → (keptIds gh ks).Nodup → ∀ (k k' : Nat) (B B' : Blk) (i : Nat),
    kept[k]? = some (some B) → kept[k']? = some (some B') → gh[k]? = some (some i) → gh[k']? = some (some i) → k = k'
  | [], [], k0, k0', kept, h, hn, k, k', B, B', i, h1, h2, h3, h4 => by simp at h3
  | og :: g, .gone :: ks, k0, k0', kept, h, hn, k, k', B, B', i, h1, h2, h3, h4 => by
    simp only [keptOut, Option.bind_eq_some_iff, Option.some.injEq] at h
    obtain ⟨q, e1, rfl⟩ := h
    have hn : (keptIds g ks).Nodup := by cases og <;> simpa [keptIds] using hn
    cases k with
    | zero => simp at h1
    | succ k => cases k' with
      | zero => simp at h2
      | succ k' => rw [kept_inj (k0' := k0') e1 hn k k' B B' i (by simpa using h1) (by simpa using h2) (by simpa using h3) (by simpa using h4)]
  | some i0 :: g, .arr :: ks, k0, k0', kept, h, hn, k, k', B, B', i, h1, h2, h3, h4 => by
    simp only [keptOut, Option.bind_eq_some_iff, Option.some.injEq] at h
    obtain ⟨b, e0, q, e1, rfl⟩ := h
    have hn : i0 ∉ keptIds g ks ∧ (keptIds g ks).Nodup := by simpa [keptIds] using hn
    have sub : ∀ {k B}, q[k]? = some (some B) → g[k]? = some (some i0) → False := fun {k B} q1 q2 => by
      obtain ⟨i', a1, a2, _⟩ := (keptOut_spec e1).2 k B q1
      rw [q2] at a1; cases a1
      exact hn.1 ((mem_iff _ _).1 a2)
    cases k with
    | zero => cases k' with
      | zero => rfl
      | succ k' => simp at h3; subst h3; exact (sub (by simpa using h2) (by simpa using h4)).elim
    | succ k => cases k' with
      | zero => simp at h4; subst h4; exact (sub (by simpa using h1) (by simpa using h3)).elim
      | succ k' => rw [kept_inj (k0' := k0') e1 hn.2 k k' B B' i (by simpa using h1) (by simpa using h2) (by simpa using h3) (by simpa using h4)]
  | some i0 :: g, .box l :: ks, k0, k0', kept, h, hn, k, k', B, B', i, h1, h2, h3, h4 => by
    simp only [keptOut] at h
    split at h
    · simp only [Option.bind_eq_some_iff, Option.some.injEq] at h
      obtain ⟨b, e0, q, e1, rfl⟩ := h
      have hn : i0 ∉ keptIds g ks ∧ (keptIds g ks).Nodup := by simpa [keptIds] using hn
      have sub : ∀ {k B}, q[k]? = some (some B) → g[k]? = some (some i0) → False := fun {k B} q1 q2 => by
        obtain ⟨i', a1, a2, _⟩ := (keptOut_spec e1).2 k B q1
        rw [q2] at a1; cases a1
        exact hn.1 ((mem_iff _ _).1 a2)
      cases k with
      | zero => cases k' with
        | zero => rfl
        | succ k' => simp at h3; subst h3; exact (sub (by simpa using h2) (by simpa using h4)).elim
      | succ k => cases k' with
        | zero => simp at h4; subst h4; exact (sub (by simpa using h1) (by simpa using h3)).elim
        | succ k' => rw [kept_inj (k0' := k0') e1 hn.2 k k' B B' i (by simpa using h1) (by simpa using h2) (by simpa using h3) (by simpa using h4)]
    · exact nomatch h
  | [], _ :: _, _, _, _, h, _, _, _, _, _, _, _, _, _, _ => by cases h
  | none :: _, [], _, _, _, h, _, _, _, _, _, _, _, _, _, _ => by cases h
  | some _ :: _, [], _, _, _, h, _, _, _, _, _, _, _, _, _, _ => by cases h
  | none :: _, .arr :: _, _, _, _, h, _, _, _, _, _, _, _, _, _, _ => by cases h
  | none :: _, .box _ :: _, _, _, _, h, _, _, _, _, _, _, _, _, _, _ => by cases h
theorem keptOut_mask : ∀ {gh : List (Option Nat)} {ks : List KD} {k0 : Nat} {kept : List (Option Blk)} {j i : Nat}, keptOut H LL G gh ks k0 = some kept → (maskG gh ks)[j]? = some (some i) → ∃ B, kept[j]? = some (some B) ∧ gh[j]? = some (some i)
  | [], _, _, _, j, i, _, h => by simp [maskG] at h
  | og :: g, .gone :: ks, k0, kept, j, i, h, hj => by
    simp only [keptOut, Option.bind_eq_some_iff, Option.some.injEq] at h
    obtain ⟨q, h1, rfl⟩ := h
    cases j with
    | zero => simp [maskG] at hj
    | succ j => simpa using keptOut_mask h1 (by simpa [maskG] using hj)
  | some i0 :: g, .arr :: ks, k0, kept, j, i, h, hj => by
    simp only [keptOut, Option.bind_eq_some_iff, Option.some.injEq] at h
    obtain ⟨b, h0, q, h1, rfl⟩ := h
    cases j with
    | zero => simp [maskG] at hj; subst hj; exact ⟨b, rfl, rfl⟩
    | succ j => simpa using keptOut_mask h1 (by simpa [maskG] using hj)
  | some i0 :: g, .box l :: ks, k0, kept, j, i, h, hj => by
    simp only [keptOut] at h
    split at h
    · simp only [Option.bind_eq_some_iff, Option.some.injEq] at h
      obtain ⟨b, h0, q, h1, rfl⟩ := h
      cases j with
      | zero => simp [maskG] at hj; subst hj; exact ⟨_, rfl, rfl⟩
      | succ j => simpa using keptOut_mask h1 (by simpa [maskG] using hj)
    · exact nomatch h
  | none :: _, [], _, _, _, _, h, _ => by cases h
  | some _ :: _, [], _, _, _, _, h, _ => by cases h
  | none :: _, .arr :: _, _, _, _, _, h, _ => by cases h
  | none :: _, .box _ :: _, _, _, _, _, h, _ => by cases h
theorem posOf_spec {i : Nat} : ∀ {l : List (Option Nat)} {n k : Nat}, posOf i l n = some k → n ≤ k ∧ l[k - n]? = some (some i)
  | none :: l, n, k, h => by
    obtain ⟨h1, h2⟩ := posOf_spec (l := l) (n := n + 1) h
    exact ⟨by omega, by rw [show k - n = (k - (n + 1)) + 1 from by omega]; exact h2⟩
  | some j :: l, n, k, h => by
    simp only [posOf] at h
    cases hj : Nat.beq j i <;> simp only [hj, cond_true, cond_false, Option.some.injEq] at h
    · obtain ⟨h1, h2⟩ := posOf_spec h
      exact ⟨by omega, by rw [show k - n = (k - (n + 1)) + 1 from by omega]; exact h2⟩
    · subst h; exact ⟨Nat.le_refl _, by simp [Nat.eq_of_beq_eq_true hj]⟩
/-- What comes of the end of a function. -/
theorem canonM_sound {st : St} {rt : RT} {o : MOut} {u : Value} (hr : HRel st.heap pl w) (h : canonM rt ks st v = some o) (hv : SVRep w st.heap pl v u) :
    ∃ plM : Pl, HRel o.heap plM w ∧ SVRep w o.heap plM o.v u ∧ plM.base = pl.base ∧ o.kept.length = st.gh.length ∧
      (∀ (k : Nat) (B : Blk), o.kept[k]? = some (some B) → ∃ i B0, st.gh[k]? = some (some i) ∧ look st.heap i = some B0 ∧ plM.hdr k = pl.hdr i ∧ B0.like B) ∧
      (∀ k B p, look o.heap k = some B → plM.fp k p → ∃ i B0, look st.heap i = some B0 ∧ pl.fp i p) := by
  simp only [canonM, Option.bind_eq_some_iff] at h
  obtain ⟨s0, hs0, s1, hs1, h⟩ := h
  generalize hS : s0 ++ s1 = S at h
  generalize hLL : keptIds st.gh ks ++ idsOf S = LL at h
  cases hnd : nodup LL <;> simp only [hnd, cond_true, cond_false, Option.bind_eq_some_iff, Option.some.injEq] at h
  · exact nomatch h
  obtain ⟨news, hnews, p, hp, q, hq, rfl⟩ := h
  have hnd' := nodup_spec hnd
  rw [← hLL, List.nodup_append] at hnd'
  obtain ⟨hk1, hk2⟩ := keptOut_spec hq
  obtain ⟨hb1, hb2⟩ := outBlks_spec hnews
  let o : MOut := ⟨p.1, q, news⟩
  let plM := pl.resM st.gh S
  have hm : o.kept.length = st.gh.length := hk1
  -- the blocks of the end, each with where it comes from
  have origin : ∀ k B, look o.heap k = some B → (k < st.gh.length ∧ q[k]? = some (some B) ∧ ∃ i, st.gh[k]? = some (some i) ∧ mem i (keptIds st.gh ks) = true ∧ plM.hdr k = pl.hdr i ∧ plM.fp k = pl.fp i) ∨
      (st.gh.length ≤ k ∧ ∃ b t oi, S[k - st.gh.length]? = some (b, t, oi) ∧ outBlk st.heap LL (b, t, oi) = some B ∧ plM.hdr k = (pl.res S).hdr (k - st.gh.length) ∧ plM.fp k = (pl.res S).fp (k - st.gh.length)) := fun k B hB => by
    by_cases c : k < st.gh.length
    · rw [o.look_low (by omega)] at hB
      obtain ⟨ob, e1, e2⟩ := Option.bind_eq_some_iff.1 hB
      have e2 : ob = some B := e2
      subst e2
      obtain ⟨i, a1, a2, _⟩ := hk2 k B e1
      exact .inl ⟨c, e1, i, a1, a2, by simp only [plM, Pl.resM, if_pos c, a1], by simp only [plM, Pl.resM, if_pos c, a1]⟩
    · rw [o.look_high (by omega), hm] at hB
      obtain ⟨⟨b, t, oi⟩, e1, e2⟩ := hb2 _ _ hB
      exact .inr ⟨by omega, b, t, oi, e1, e2, by simp only [plM, Pl.resM, if_neg c], by simp only [plM, Pl.resM, if_neg c]⟩
  have srcIn : ∀ {k b t i}, S[k]? = some (b, t, some i) → mem i LL = true := fun {k b t i} h => by
    rw [← hLL, mem_append, (mem_iff i _).2 (mem_idsOf h), Bool.or_true]
  have hro : ∀ d p, hit LL d = false → okd st.heap pl d p → okd o.heap plM [] p := fun d p hd hok => by
    refine ⟨hok.1, fun k B hB _ hf => ?_⟩
    have no : ∀ {i B0}, look st.heap i = some B0 → mem i LL = true → pl.fp i p → False := fun {i B0} hl hi hf => hok.2 i B0 hl (fun hm => by
      have := hit_false LL d hd i hm; rw [hi] at this; exact nomatch this) hf
    rcases origin k B hB with ⟨c, e1, i, a1, a2, _, a4⟩ | ⟨c, b, t, oi, e1, e2, _, a4⟩
    · rw [a4] at hf
      have hi : mem i LL = true := by rw [← hLL, mem_append, a2]; rfl
      obtain ⟨i', a1', _, hor⟩ := hk2 k B e1
      rw [a1] at a1'; cases a1'
      rcases hor with ⟨l, cs, cs', k1, k2, _, hl, _⟩ | ⟨_, ho⟩
      · exact no hl hi hf
      · unfold outArr at ho
        cases hl : look st.heap i with
        | none => rw [hl] at ho; exact nomatch ho
        | some B0 => exact no hl hi hf
    · rw [a4] at hf
      cases oi with
      | none => simp [Pl.res, e1] at hf
      | some i =>
        simp only [Pl.res, e1] at hf
        obtain ⟨sh, xs, hl, _⟩ := outBlk_look e2
        exact no hl (srcIn e1) hf
  have hown : ∀ (k : Nat) (b : Bool) (t : Ty) (v : SV) (u : Value), SVRep w st.heap pl v u → ((∃ i, v = .own i ∧ S[k]? = some (b, t, some i)) ∨ (v = .nilS ∧ S[k]? = some (b, t, none))) → SVRep w o.heap plM (.own (st.gh.length + k)) u := fun k b t v u hv hc => by
    have hget : ∀ {s}, S[k]? = some s → ∃ B, look o.heap (st.gh.length + k) = some B ∧ outBlk st.heap LL s = some B := fun {s} h => by
      have hlt : k < news.length := by rw [hb1]; exact (List.getElem?_eq_some_iff.1 h).1
      obtain ⟨s', h1, h2⟩ := hb2 k _ (List.getElem?_eq_getElem hlt)
      rw [h] at h1; cases h1
      exact ⟨_, by rw [o.look_high (by omega), hm, Nat.add_sub_cancel_left]; exact List.getElem?_eq_getElem hlt, h2⟩
    have eh : plM.hdr (st.gh.length + k) = (pl.res S).hdr k := by simp only [plM, Pl.resM, if_neg (show ¬ st.gh.length + k < st.gh.length by omega), Nat.add_sub_cancel_left]
    rcases hc with ⟨i, rfl, h⟩ | ⟨rfl, h⟩
    · obtain ⟨B, h1, h2⟩ := hget h
      obtain ⟨sh, xs, hl, h3⟩ := outBlk_look h2
      have e : plM.hdr (st.gh.length + k) = pl.hdr i := by rw [eh]; simp only [Pl.res, h]
      cases hv with
      | own _ sh' t' ys hl' =>
        rw [← e]
        rcases h3 with ⟨_, rfl⟩ | ⟨d, _, _, rfl⟩
        · exact .own _ none t xs h1
        · exact .own _ (some []) t xs h1
    · obtain ⟨B, h1, h2⟩ := hget h
      have e : plM.hdr (st.gh.length + k) = .slice none 0 0 := by rw [eh]; simp only [Pl.res, h]
      cases hv with
      | nilS =>
        rw [← e]
        cases b with
        | false => cases h2; exact .own _ none t [] h1
        | true => cases h2; exact .own _ (some []) t [] h1
  have hptr : ∀ i j o' u, posOf i (maskG st.gh ks) 0 = some j → SVRep w st.heap pl (.ptr i 0 o') u → SVRep w o.heap plM (.ptr j 0 o') u := fun i j o' u hj hv => by
    obtain ⟨_, g1⟩ := posOf_spec hj
    rw [Nat.sub_zero] at g1
    obtain ⟨B, g2, g3⟩ := keptOut_mask hq g1
    have hlt : j < st.gh.length := (List.getElem?_eq_some_iff.1 g3).1
    have eh : plM.hdr j = pl.hdr i := by simp only [plM, Pl.resM, if_pos hlt, g3]
    have hl : look o.heap j = some B := by rw [o.look_low (by omega)]; show (q[j]?).bind id = some B; rw [g2]; rfl
    obtain ⟨i', a1', _, hor⟩ := hk2 j B g2
    rw [g3] at a1'; cases a1'
    cases hv with
    | ptrB _ _ cs b m0 hlb hh =>
      rcases hor with ⟨l, cs1, cs', k1, k2, _, hl1, _, rfl⟩ | ⟨_, ho⟩
      · exact .ptrB j o' cs' b m0 hl (eh.trans hh)
      · unfold outArr at ho; rw [hlb] at ho; exact nomatch ho
    | ptrA _ _ _ sh t xs b m0 n cap hlb hx hh =>
      rcases hor with ⟨l, cs1, cs', k1, k2, _, hl1, _, rfl⟩ | ⟨_, ho⟩
      · rw [hlb] at hl1; exact nomatch hl1
      · unfold outArr at ho
        rw [hlb] at ho
        cases sh with
        | none => cases ho; exact .ptrA j 0 o' none t xs b m0 n cap hl hx (eh.trans hh)
        | some d =>
          simp only at ho
          cases hd : hit LL d <;> simp only [hd, cond_true, cond_false] at ho
          · cases ho; exact .ptrA j 0 o' _ t xs b m0 n cap hl hx (eh.trans hh)
          · exact nomatch ho
  have hS0 : ∀ (j : Nat) (x : Bool × Ty × Option Nat), s0[j]? = some x → S[0 + j]? = some x := fun j x hx => by
    rw [← hS, Nat.zero_add, List.getElem?_append_left (List.getElem?_eq_some_iff.1 hx).1]; exact hx
  obtain ⟨r1, r2⟩ := out_repG (m := st.gh.length) hr hown hro hptr rt hs0 hS0 (k := 0) (by rw [Nat.add_zero]; exact hp) hv
  rw [r2, Nat.zero_add] at hq
  have hS1 : ∀ (j : Nat) (x : Bool × Ty × Option Nat), s1[j]? = some x → S[s0.length + j]? = some x := fun j x hx => by
    rw [← hS, List.getElem?_append_right (by omega), Nat.add_sub_cancel_left]; exact hx
  have hbx := boxes_rep hr hown hro hptr hs1 hS1 hq
  refine ⟨plM, ⟨fun k B hB => ?_, fun k k' B B' p h1 h2 f1 f2 => ?_, fun k B p hB hf => ?_, hr.nb⟩, r1, rfl, hk1, fun k B hB => ?_, fun k B p hB hf => ?_⟩
  · rcases origin k B hB with ⟨c, e1, i, a1, a2, ah, af⟩ | ⟨c, b, t, oi, e1, e2, ah, af⟩
    · obtain ⟨i', a1', _, hor⟩ := hk2 k B e1
      rw [a1] at a1'; cases a1'
      rcases hor with ⟨l, cs, cs', k1, k2, _, hl, hol, rfl⟩ | ⟨_, ho⟩
      · obtain ⟨b, off, q1, q2, q3⟩ := hr.blk i _ hl
        have hus : ∃ us : List Value, cs.length = us.length ∧ (∀ (j : Nat) (u : Value), us[j]? = some u → w.at? (b, off + j) = some u ∧ calm (w.ice? (b, off + j)) = true ∧ one u = true) ∧ ∀ (j : Nat) (x : SV) (u : Value), cs[j]? = some x → us[j]? = some u → SVRep w st.heap pl x u := by
          refine ⟨(List.range cs.length).map fun j => (w.at? (b, off + j)).getD undef, by simp, fun j u hu => ?_, fun j x u hx hu => ?_⟩
          · have hj : j < cs.length := by have := (List.getElem?_eq_some_iff.1 hu).1; simpa using this
            obtain ⟨u', g1, g2, g3, g4⟩ := q3 j _ (List.getElem?_eq_getElem hj)
            have : u = u' := by
              rw [List.getElem?_map, List.getElem?_eq_getElem (by simpa using hj)] at hu
              simp [g1] at hu; exact hu.symm
            subst this; exact ⟨g1, g2, g3⟩
          · obtain ⟨u', g1, g2, g3, g4⟩ := q3 j x hx
            have hj : j < cs.length := (List.getElem?_eq_some_iff.1 hx).1
            have : u = u' := by
              rw [List.getElem?_map, List.getElem?_eq_getElem (by simpa using hj)] at hu
              simp [g1] at hu; exact hu.symm
            subst this; exact g4
        obtain ⟨us, u1, u2, u3⟩ := hus
        obtain ⟨g1, g2⟩ := hbx k i cs cs' a1 hl e1 us u1 u3
        refine ⟨b, off, ah.trans q1, fun p => by rw [af, q2, g1, u1], fun j y hy => ?_⟩
        have hj : j < us.length := by rw [← g1]; exact (List.getElem?_eq_some_iff.1 hy).1
        obtain ⟨z1, z2, z3⟩ := u2 j us[j] (List.getElem?_eq_getElem hj)
        exact ⟨us[j], z1, z2, z3, g2 j y _ hy (List.getElem?_eq_getElem hj)⟩
      · unfold outArr at ho
        split at ho
        · rename_i t xs hl
          cases ho
          show Nonempty (Row w (RepD w) t xs (plM.hdr k) (plM.fp k))
          rw [ah, af]; exact hr.blk i _ hl
        · rename_i d t xs hl
          cases hd : hit LL d <;> simp only [hd, cond_true, cond_false] at ho
          · cases ho
            obtain ⟨⟨a, cap, b, q0, vs, fs, q1, q2, q3, q4, q5, q6, q7, q8, q9⟩⟩ := hr.blk i _ hl
            exact ⟨⟨a, cap, b, q0, vs, fs, ah.trans q1, q2, q3, q4, q5, fun i j r hc => ⟨(q6 i j r hc).1.frame fun p u hp hu => ⟨hro d p hd hp, hu⟩, (q6 i j r hc).2⟩, q7, q8, fun p => by rw [af]; exact q9 p⟩⟩
          · exact nomatch ho
        · exact nomatch ho
    · cases oi with
      | none =>
        have e : plM.hdr k = .slice none 0 0 := by rw [ah]; simp only [Pl.res, e1]
        have ef : plM.fp k = fun _ => False := by rw [af]; simp only [Pl.res, e1]
        have := Row.nil (w := w) (t := t) (Inner w o.heap plM (cond b (some []) none))
        rw [← e, ← ef] at this
        cases b with
        | false => cases e2; exact BlkRep.of_rowI this
        | true => cases e2; exact BlkRep.of_rowI this
      | some i =>
        have e : plM.hdr k = pl.hdr i := by rw [ah]; simp only [Pl.res, e1]
        have ef : plM.fp k = pl.fp i := by rw [af]; simp only [Pl.res, e1]
        obtain ⟨sh, xs, hl, h3⟩ := outBlk_look e2
        have hb := hr.blk i _ hl
        rcases h3 with ⟨rfl, rfl⟩ | ⟨d, rfl, hd, rfl⟩
        · show Nonempty (Row w (RepD w) t xs (plM.hdr k) (plM.fp k))
          rw [e, ef]; exact hb
        · obtain ⟨⟨a, cap, b', q0, vs, fs, q1, q2, q3, q4, q5, q6, q7, q8, q9⟩⟩ := hb
          exact ⟨⟨a, cap, b', q0, vs, fs, e.trans q1, q2, q3, q4, q5, fun i j r hc => ⟨(q6 i j r hc).1.frame fun p u hp hu => ⟨hro d p hd hp, hu⟩, (q6 i j r hc).2⟩, q7, q8, fun p => by rw [ef]; exact q9 p⟩⟩
  · have there : ∀ {i k B}, q[k]? = some (some B) → st.gh[k]? = some (some i) → ∃ B0, look st.heap i = some B0 := fun {i k B} e1 a1 => by
      obtain ⟨i', a1', _, hor⟩ := hk2 k B e1
      rw [a1] at a1'; cases a1'
      rcases hor with ⟨l, cs, cs', k1, k2, _, hl, _⟩ | ⟨_, ho⟩
      · exact ⟨_, hl⟩
      · unfold outArr at ho
        cases hl : look st.heap i with
        | none => rw [hl] at ho; exact nomatch ho
        | some B0 => exact ⟨_, rfl⟩
    rcases origin k B h1 with ⟨c, e1, i, a1, a2, _, a4⟩ | ⟨c, b, t, oi, e1, e2, _, a4⟩ <;> rcases origin k' B' h2 with ⟨c', e1', i', a1', a2', _, a4'⟩ | ⟨c', b', t', oi', e1', e2', _, a4'⟩
    · rw [a4] at f1
      rw [a4'] at f2
      obtain ⟨B0, hl⟩ := there e1 a1
      obtain ⟨B0', hl'⟩ := there e1' a1'
      have := hr.dis i i' _ _ p hl hl' f1 f2
      subst this
      exact kept_inj (k0' := 0) hq hnd'.1 k k' B B' i e1 e1' a1 a1'
    · rw [a4] at f1
      rw [a4'] at f2
      cases oi' with
      | none => simp [Pl.res, e1'] at f2
      | some i' =>
        simp only [Pl.res, e1'] at f2
        obtain ⟨B0, hl⟩ := there e1 a1
        obtain ⟨sh, xs, hl', _⟩ := outBlk_look e2'
        have := hr.dis i i' _ _ p hl hl' f1 f2
        subst this
        exact (hnd'.2.2 i ((mem_iff _ _).1 a2) i (mem_idsOf e1') rfl).elim
    · rw [a4] at f1
      rw [a4'] at f2
      cases oi with
      | none => simp [Pl.res, e1] at f1
      | some i =>
        simp only [Pl.res, e1] at f1
        obtain ⟨B0, hl⟩ := there e1' a1'
        obtain ⟨sh, xs, hl', _⟩ := outBlk_look e2
        have := hr.dis i' i _ _ p hl hl' f2 f1
        subst this
        exact (hnd'.2.2 i' ((mem_iff _ _).1 a2') i' (mem_idsOf e1) rfl).elim
    · rw [a4] at f1
      rw [a4'] at f2
      cases oi with
      | none => simp [Pl.res, e1] at f1
      | some i =>
        cases oi' with
        | none => simp [Pl.res, e1'] at f2
        | some i' =>
          simp only [Pl.res, e1] at f1
          simp only [Pl.res, e1'] at f2
          obtain ⟨_, _, hl, _⟩ := outBlk_look e2
          obtain ⟨_, _, hl', _⟩ := outBlk_look e2'
          have := hr.dis i i' _ _ p hl hl' f1 f2
          subst this
          have := idsOf_inj hnd'.2.1 e1 e1'
          omega
  · rcases origin k B hB with ⟨c, e1, i, a1, a2, _, a4⟩ | ⟨c, b, t, oi, e1, e2, _, a4⟩
    · rw [a4] at hf
      obtain ⟨i', a1', _, hor⟩ := hk2 k B e1
      rw [a1] at a1'; cases a1'
      rcases hor with ⟨l, cs, cs', k1, k2, _, hl, _⟩ | ⟨_, ho⟩
      · exact hr.ob i _ p hl hf
      · unfold outArr at ho
        cases hl : look st.heap i with
        | none => rw [hl] at ho; exact nomatch ho
        | some B0 => exact hr.ob i _ p hl hf
    · rw [a4] at hf
      cases oi with
      | none => simp [Pl.res, e1] at hf
      | some i =>
        simp only [Pl.res, e1] at hf
        obtain ⟨_, _, hl, _⟩ := outBlk_look e2
        exact hr.ob i _ p hl hf
  · have hB : q[k]? = some (some B) := hB
    obtain ⟨i, a1, a2, hor⟩ := hk2 k B hB
    have hlt : k < st.gh.length := (List.getElem?_eq_some_iff.1 a1).1
    have ah : plM.hdr k = pl.hdr i := by simp only [plM, Pl.resM, if_pos hlt, a1]
    rcases hor with ⟨l, cs, cs', k1, k2, _, hl, hol, rfl⟩ | ⟨_, ho⟩
    · obtain ⟨b, off, q1, q2, q3⟩ := hr.blk i _ hl
      refine ⟨i, _, a1, hl, ah, ?_⟩
      obtain ⟨g1, _⟩ := hbx k i cs cs' a1 hl hB ((List.range cs.length).map fun j => (w.at? (b, off + j)).getD undef) (by simp) fun j x u hx hu => by
        obtain ⟨u', g1, g2, g3, g4⟩ := q3 j x hx
        have hj : j < cs.length := (List.getElem?_eq_some_iff.1 hx).1
        have : u = u' := by
          rw [List.getElem?_map, List.getElem?_eq_getElem (by simpa using hj)] at hu
          simp [g1] at hu; exact hu.symm
        subst this; exact g4
      show cs.length = cs'.length
      rw [g1]; simp
    · unfold outArr at ho
      split at ho
      · rename_i t xs hl; cases ho; exact ⟨i, _, a1, hl, ah, ⟨rfl, rfl⟩⟩
      · rename_i d t xs hl
        cases hd : hit LL d <;> simp only [hd, cond_true, cond_false] at ho
        · cases ho; exact ⟨i, _, a1, hl, ah, ⟨rfl, rfl⟩⟩
        · exact nomatch ho
      · exact nomatch ho
  · rcases origin k B hB with ⟨c, e1, i, a1, a2, _, a4⟩ | ⟨c, b, t, oi, e1, e2, _, a4⟩
    · rw [a4] at hf
      obtain ⟨i', a1', _, hor⟩ := hk2 k B e1
      rw [a1] at a1'; cases a1'
      rcases hor with ⟨l, cs, cs', k1, k2, _, hl, _⟩ | ⟨_, ho⟩
      · exact ⟨i, _, hl, hf⟩
      · unfold outArr at ho
        cases hl : look st.heap i with
        | none => rw [hl] at ho; exact nomatch ho
        | some B0 => exact ⟨i, _, hl, hf⟩
    · rw [a4] at hf
      cases oi with
      | none => simp [Pl.res, e1] at hf
      | some i =>
        simp only [Pl.res, e1] at hf
        obtain ⟨_, _, hl, _⟩ := outBlk_look e2
        exact ⟨i, _, hl, hf⟩
end
theorem Act.put_self (a : Act) (t : Nat) : a.put (some t) (a.tmps.getD t undef) = a := by
  unfold Act.put
  have : a.tmps.setIfInBounds t (a.tmps.getD t undef) = a.tmps := by
    apply Array.ext_getElem?
    intro i
    rw [Array.getElem?_setIfInBounds]
    by_cases e : t = i
    · subst e
      rw [if_pos rfl]
      by_cases h : t < a.tmps.size
      · rw [if_pos h, Array.getD_eq_getD_getElem?, Array.getElem?_eq_getElem h]; rfl
      · rw [if_neg h, Array.getElem?_eq_none (by omega)]
    · rw [if_neg e]
  show ({ a with tmps := a.tmps.setIfInBounds t (a.tmps.getD t undef) } : Act) = a
  rw [this]
theorem truncAt_rl {w0 : World} {fp0 : G0} {bs : Cell → Prop} {m : Nat} {st st' : St} {a : Act} {w : World} {t : Nat} (h : Rl w0 fp0 bs m st a w) (ht : truncAt t st = some st') : Rl w0 fp0 bs m st' a w := by
  unfold truncAt at ht
  split at ht
  · rename_i i n hslot
    split at ht
    · rename_i sh ty xs hl
      cases hmi : mem i (sh.getD []) <;> rw [hmi] at ht
      rotate_left
      · exact nomatch ht
      rw [cond_false] at ht
      obtain ⟨pl, hR, hb, hn⟩ := h
      have hv := hR.sl t _ hslot
      obtain ⟨⟨a0, cap, b, o, vs, fs, q1, q2, q3, q4, q5, q6, q7, q8, q9⟩⟩ := (hR.hr.blk i _ hl).rowI
      have hu : ∃ a', a.tmps.getD t undef = .slice a' n cap ∧ (cap = 0 ∨ a' = some ⟨b, o, none⟩) ∧ n ≤ xs.length := by
        generalize a.tmps.getD t undef = u at hv
        cases hv with
        | sub _ _ _ sh2 t2 xs2 a1 a2 cap1 cap2 hl2 hh hn1 hc hc' ha =>
          rw [hl] at hl2; cases hl2
          rw [q1] at hh; cases hh
          have hcc : cap2 = cap := by omega
          subst hcc
          refine ⟨a2, rfl, ?_, by omega⟩
          rcases ha with h | h
          · exact .inl h
          · rcases q3 with h' | h'
            · exact .inl h'
            · exact .inr (by rw [h, h']; simp [Addr.add])
      obtain ⟨a', hu, ha', hnx⟩ := hu
      have htake := ht
      simp only [St.take, Option.bind_eq_some_iff, Option.some.injEq] at htake
      obtain ⟨h1, e1, s, h2, rfl⟩ := htake
      have hfresh : look st.heap st.nid = none := hR.fresh st.nid (Nat.le_refl _)
      have hlen : (xs.take n).length = n := by rw [List.length_take]; omega
      have hT : Turned st.heap (h1 ++ newsH st.nid [.arr sh ty (xs.take n)]) ([i], [i]) st.nid (.arr sh ty (xs.take n)) :=
        turned_new (T := ([i], [i])) (fun k hk => hk) e1 hfresh (sweepH'_all (T := ([i], [i])) (fun k hk => hk) e1)
      have hmm : mem i [i] = true := by simp [mem]
      have hin : ∀ {i' j r}, cellIn ty (xs.take n) i' j r → cellIn ty xs i' j r := fun {i' j r} hx => by
        obtain ⟨x, hx1, hx2⟩ := hx
        have hlt := (List.getElem?_eq_some_iff.1 hx1).1
        rw [hlen] at hlt
        exact ⟨x, by rw [List.getElem?_take, if_pos hlt] at hx1; exact hx1, hx2⟩
      have hst := turn_step (hdr := a.tmps.getD t undef) (fp := fun p => reg b o (cap * ty.sz) p ∨ ∃ i' j r, cellIn ty (xs.take n) i' j r ∧ fs i' j p) (Grown.refl w) hR.hr hT (fun k hk => hk) (fun k hk => .inl hk) (.inl hfresh) (fun p u hp _ => ⟨hp, rfl⟩)
        (fun p hp => hR.hr.nb p hp) (fun p hp => .inr ⟨i, _, hmm, hl, (q9 p).2 (hp.elim .inl fun ⟨i', j, r, hx, hf⟩ => .inr ⟨i', j, r, hin hx, hf⟩)⟩) (fun hk => BlkRep.of_rowI ⟨a', cap, b, o, vs, fs, by simp [Pl.set, hu, hlen], by rw [hlen]; omega, ha', q4, fun i' j r hx => q5 i' j r (hin hx), fun i' j r hx => by
          have hI := q6 i' j r (hin hx)
          cases sh with
          | none => exact hI
          | some d =>
            refine ⟨hI.1.frame fun p u hp hu => hk.k2 d p u (fun x hx => ?_) hp hu, hI.2⟩
            have hmi : mem i d = false := hmi
            show mem x [i] = false
            simp only [mem]
            cases hb : Nat.beq i x
            · rfl
            · have := Nat.eq_of_beq_eq_true hb
              subst this
              rw [hmi] at hx; exact (nomatch hx), fun i' j r p hx hf => q7 i' j r p (hin hx) hf, fun i' j r i2 j2 r2 p hx hx' hf hf' => q8 _ _ _ _ _ _ p (hin hx) (hin hx') hf hf', fun p => by simp [Pl.set]⟩)
      have hres := Rel.take hR ht (fun k B hB => by simp [look] at hB) hst (u := a.tmps.getD t undef) (by
        have := SVRep.own (w := w) (H := h1 ++ newsH st.nid [.arr sh ty (xs.take n)]) (pl := pl.set st.nid (a.tmps.getD t undef) fun p => reg b o (cap * ty.sz) p ∨ ∃ i' j r, cellIn ty (xs.take n) i' j r ∧ fs i' j p) st.nid sh ty (xs.take n) hT.at_n
        simpa [Pl.set] using this)
      rw [Act.put_self] at hres
      exact ⟨_, hres, hb, hn⟩
    · cases ht; exact h
  · cases ht; exact h
theorem truncT_rl {w0 : World} {fp0 : G0} {bs : Cell → Prop} {m : Nat} {fn : Func} {rt : RT} {st st' : St} {a : Act} {w : World} (h : Rl w0 fp0 bs m st a w) (ht : truncT fn rt st = some st') : Rl w0 fp0 bs m st' a w := by
  unfold truncT at ht
  split at ht
  · exact truncAt_rl h ht
  · exact truncAt_rl h ht
  · cases ht; exact h
theorem adopt_get (ks : List KD) (v : SV) (gh : List (Option Nat)) (k : Nat) (h : k < gh.length) : (adopt ks v gh)[k]? = gh[k]? := by
  unfold adopt
  cases Nat.beq ks.length (gh.length + 1)
  · rfl
  · simp only [cond_true]
    split
    · rw [List.getElem?_append_left h]
    · rw [List.getElem?_append_left h]
    · rfl
theorem adopt_len (ks : List KD) (v : SV) (gh : List (Option Nat)) : gh.length ≤ (adopt ks v gh).length := by
  unfold adopt
  cases Nat.beq ks.length (gh.length + 1)
  · exact Nat.le_refl _
  · simp only [cond_true]
    split
    · simp
    · simp
    · exact Nat.le_refl _
theorem keptH_append : ∀ (a b : List (Option Blk)) (n : Nat), keptH n (a ++ b) = keptH n a ++ keptH (n + a.length) b
  | [], b, n => rfl
  | none :: a, b, n => by
    rw [List.cons_append, keptH, keptH, keptH_append a b (n + 1), List.length_cons]
    congr 2; omega
  | some x :: a, b, n => by
    rw [List.cons_append, keptH, keptH, keptH_append a b (n + 1), List.length_cons, List.cons_append]
    congr 3; omega
theorem canonX_sound {w : World} {pl : Pl} {ks : List KD} {v : SV} {st : St} {rt : RT} {o : MOut} {u : Value} (hr : HRel st.heap pl w) (h : canonX rt ks st v = some o) (hv : SVRep w st.heap pl v u) :
    ∃ plM : Pl, HRel o.heap plM w ∧ SVRep w o.heap plM o.v u ∧ plM.base = pl.base ∧ o.kept.length = st.gh.length ∧
      (∀ (k : Nat) (B : Blk), o.kept[k]? = some (some B) → ∃ i B0, st.gh[k]? = some (some i) ∧ look st.heap i = some B0 ∧ plM.hdr k = pl.hdr i ∧ B0.like B) ∧
      (∀ k B p, look o.heap k = some B → plM.fp k p → ∃ i B0, look st.heap i = some B0 ∧ pl.fp i p) := by
  simp only [canonX, Option.bind_eq_some_iff] at h
  obtain ⟨o1, h1, h2⟩ := h
  obtain ⟨plM, m1, m2, m3, m4, m5, m6⟩ := canonM_sound (st := { st with gh := adopt ks v st.gh }) hr h1 hv
  have hal := adopt_len ks v st.gh
  have m4 : o1.kept.length = (adopt ks v st.gh).length := m4
  unfold shiftOut at h2
  split at h2
  · rename_i hd
    have h2 := Option.some.inj h2
    subst h2
    have hl : o1.kept.length ≤ st.gh.length := by
      have := congrArg List.length hd
      simp at this; omega
    exact ⟨plM, m1, m2, m3, by omega, fun k B hB => by
      obtain ⟨i, B0, a1, a2⟩ := m5 k B hB
      have hk : k < o1.kept.length := (List.getElem?_eq_some_iff.1 hB).1
      have a1 : (adopt ks v st.gh)[k]? = some (some i) := a1
      rw [adopt_get ks v st.gh k (by omega)] at a1
      exact ⟨i, B0, a1, a2⟩, m6⟩
  · rename_i b hd
    have h2 := Option.some.inj h2
    subst h2
    have hlen : o1.kept.length = st.gh.length + 1 := by
      have := congrArg List.length hd
      simp at this; omega
    have hk : o1.kept = o1.kept.take st.gh.length ++ [some b] := by
      rw [← hd, List.take_append_drop]
    have htl : (o1.kept.take st.gh.length).length = st.gh.length := by simp; omega
    have hheap : (MOut.heap ⟨o1.v, o1.kept.take st.gh.length, b :: o1.news⟩) = o1.heap := by
      unfold MOut.heap
      show keptH 0 (o1.kept.take st.gh.length) ++ newsH (o1.kept.take st.gh.length).length (b :: o1.news) = keptH 0 o1.kept ++ newsH o1.kept.length o1.news
      have e : keptH 0 o1.kept = keptH 0 (o1.kept.take st.gh.length) ++ keptH (0 + (o1.kept.take st.gh.length).length) [some b] := by
        rw [← keptH_append, ← hk]
      rw [e, htl, hlen, List.append_assoc, Nat.zero_add]
      rfl
    refine ⟨plM, by rw [hheap]; exact m1, by rw [hheap]; exact m2, m3, htl, fun k B hB => ?_, fun k B p hB hf => ?_⟩
    · have hB : (o1.kept.take st.gh.length)[k]? = some (some B) := hB
      have hkl : k < st.gh.length := by have := (List.getElem?_eq_some_iff.1 hB).1; omega
      rw [List.getElem?_take, if_pos hkl] at hB
      obtain ⟨i, B0, a1, a2⟩ := m5 k B hB
      have a1 : (adopt ks v st.gh)[k]? = some (some i) := a1
      rw [adopt_get ks v st.gh k hkl] at a1
      exact ⟨i, B0, a1, a2⟩
    · rw [hheap] at hB
      exact m6 k B p hB hf
  · exact nomatch h2
/-- THE CONTRACT, out of the evaluator. -/
theorem mut_of_ev {ρ : Type} {E : Env} (hE : EnvOk E) {LP : Nat → Ev ρ → Ev ρ} {g : FuncId} {fn : Func} {c : Code} {args : List SV} {bs : List Blk} {r : ρ} {dec : MOut → Option ρ} {enc : ρ → MOut} (hd : ∀ o r, dec o = some r → o = enc r)
    (hlen : (enc r).kept.length = bs.length) (hf : E.P.funcs[g]? = some fn) (hc : fn.body = some c)
    (hnm : (fn.name == "runtime.NumGoroutine") = false) (hn : Nat.ble args.length fn.ntmps = true) (hLP : LPGood E LP 0 c) {rt : RT} {ks : List KD} (h : ev E LP 0 c (st0M fn args bs) (finM E.P fn rt ks dec) = some r) : MutCalls E.P g args bs (enc r) := by
  generalize ho : enc r = out at hlen
  refine ⟨enters_of hf (by rw [hc]; rfl) hnm, hlen, fun w us pl hrel0 hl hargs => ?_⟩
  have hn := Nat.le_of_ble_eq_true hn
  refine calls_of_wp hf hc ?_
  let g0 : G0 := ⟨fun p => ∃ k B, look (newsH 0 bs) k = some B ∧ pl.fp k p, pl.hdr, fun k => bs.getD k (.box [])⟩
  have hrel : Rl w g0 pl.base fn.ntmps (st0M fn args bs) { tmps := us ++ Array.replicate (fn.ntmps - us.size) undef, defers := [] } w := by
    refine ⟨pl, ⟨hrel0, fun t v hv => ?_, by simp [st0M]; omega, rfl, fun i hi => newsH_high (by show 0 + bs.length ≤ i; have hi : bs.length ≤ i := hi; omega), Grown.refl w, fun p u hp hno => ⟨fun i B hB hf => hno ⟨i, B, hB, hf⟩, hp, rfl⟩, fun k i hk => ?_⟩, rfl, rfl⟩
    · simp only [st0M] at hv
      rw [look_slotsM, if_pos (Nat.zero_le _), Nat.sub_zero] at hv
      have ht : t < us.size := by rw [← hl]; exact (List.getElem?_eq_some_iff.1 hv).1
      have hg : (us ++ Array.replicate (fn.ntmps - us.size) undef).getD t undef = us[t] := by
        rw [Array.getD_eq_getD_getElem?, Array.getElem?_append_left ht, Array.getElem?_eq_getElem ht]; rfl
      rw [hg]
      exact hargs t v _ hv (Array.getElem?_eq_getElem ht)
    · obtain ⟨rfl, h2⟩ := rangeG_get bs.length 0 k hk
      rw [Nat.zero_add]
      refine ⟨h2, fun B hB => ⟨rfl, ?_⟩⟩
      have hB : look (newsH 0 bs) k = some B := hB
      rw [look_newsH, if_pos (Nat.zero_le _), Nat.sub_zero] at hB
      show (bs.getD k (.box [])).like B
      rw [List.getD_eq_getElem?_getD, hB]; exact B.like_refl
  refine ev_sound hE c 0 hLP w g0 pl.base fn.ntmps _ _ w _ r _ hrel h fun e st' a' w' hK hr'' => ?_
  have key : ∀ st', Rl w g0 pl.base fn.ntmps st' a' w' → ∀ v, finV E.P fn st' = some v → canonX rt ks st' v = some out → a'.defers = [] ∧ ∃ u, (results fn a'.tmps).run E.P w' = .ok u w' ∧ ∃ u' pl', Ending.returned u = .returned u' ∧ HRel out.heap pl' w' ∧ SVRep w' out.heap pl' out.v u' ∧ pl'.base = pl.base ∧ Grown w w' ∧
      (∀ (k : Nat) (B : Blk), out.kept[k]? = some (some B) → pl'.hdr k = pl.hdr k ∧ ∃ B0, bs[k]? = some B0 ∧ B0.like B) ∧
      (∀ p u, w.at? p = some u → (∀ k B, look (newsH 0 bs) k = some B → ¬ pl.fp k p) → (∀ k B, look out.heap k = some B → ¬ pl'.fp k p) ∧ w'.at? p = some u ∧ w'.ice? p = w.ice? p) := fun st' hr' v hv hcn => by
    obtain ⟨pl1, hr, hb, _⟩ := hr'
    obtain ⟨u, hu, hvr⟩ := finV_rep (P := E.P) hr.hr hr.sl hv
    obtain ⟨plM, m1, m2, m3, m4, m5, m6⟩ := canonX_sound hr.hr hcn hvr
    refine ⟨hr.df, u, hu, u, plM, rfl, m1, m2, m3.trans hb, hr.gr, fun k B hB => ?_, fun p u hp hno => ?_⟩
    · obtain ⟨i, B0, a1, a2, a3, a4⟩ := m5 k B hB
      obtain ⟨_, t2⟩ := hr.gk k i a1
      obtain ⟨t3, t4⟩ := t2 B0 a2
      have hk : k < bs.length := by rw [← hlen]; exact (List.getElem?_eq_some_iff.1 hB).1
      refine ⟨a3.trans t3, bs[k], List.getElem?_eq_getElem hk, ?_⟩
      have t4 : (bs.getD k (.box [])).like B0 := t4
      rw [List.getD_eq_getElem?_getD, List.getElem?_eq_getElem hk] at t4
      exact Blk.like_trans t4 a4
    · obtain ⟨f1, f2, f3⟩ := hr.fr p u hp fun ⟨k, B, hB, hf⟩ => hno k B hB hf
      exact ⟨fun k B hB hf => by
        obtain ⟨i, B0, q1, q2⟩ := m6 k B p hB hf
        exact f1 i B0 q1 q2, f2, f3⟩
  cases e with
  | exit j => exact nomatch hK
  | normal =>
    simp only [finM, Option.bind_eq_some_iff] at hK
    obtain ⟨st2, hst2, v, hv, o, hcn, hdec⟩ := hK
    exact key st2 (truncT_rl hr'' hst2) v hv (hcn.trans (congrArg some ((hd o r hdec).trans ho)))
  | ret =>
    simp only [finM, Option.bind_eq_some_iff] at hK
    obtain ⟨st2, hst2, v, hv, o, hcn, hdec⟩ := hK
    exact key st2 (truncT_rl hr'' hst2) v hv (hcn.trans (congrArg some ((hd o r hdec).trans ho)))
end Go.Proofs.Ev

set_option linter.unusedVariables false
namespace Go.Proofs.Ev
variable [Tok]
set_option linter.unusedSectionVars false
section
variable {w w' : World} {H H' : Heap} {pl : Pl}
end
end Go.Proofs.Ev

namespace Go.Proofs.Ev
variable [Tok]
set_option linter.unusedSectionVars false
section
variable {ρ : Type}
/-- The loops of a text that lie in no other loop, each with the block around it. -/
def loopsIn : Nat → Code → List (Nat × Code)
  | cb, .seq a b => loopsIn cb a ++ loopsIn cb b
  | cb, .cond _ a b => loopsIn cb a ++ loopsIn cb b
  | _, .block id c => loopsIn id c
  | cb, .scope c => loopsIn cb c
  | cb, .loop c => [(cb, c)]
  | _, _ => []
theorem lpgood_list {E : Env} {LP : Nat → Ev ρ → Ev ρ} : ∀ (c : Code) (cb : Nat), (∀ x ∈ loopsIn cb c, Sound E.P (.loop x.2) (LP x.1 fun st K => ev E LP x.1 x.2 st K)) → LPGood E LP cb c
  | .seq a b, cb, h => ⟨lpgood_list a cb fun x hx => h x (by simp [loopsIn, hx]), lpgood_list b cb fun x hx => h x (by simp [loopsIn, hx])⟩
  | .cond _ a b, cb, h => ⟨lpgood_list a cb fun x hx => h x (by simp [loopsIn, hx]), lpgood_list b cb fun x hx => h x (by simp [loopsIn, hx])⟩
  | .block id c, _, h => lpgood_list c id h
  | .scope c, cb, h => lpgood_list c cb h
  | .loop c, cb, h => h (cb, c) (by simp [loopsIn])
  | .skip, _, _ => trivial
  | .label _, _, _ => trivial
  | .region _ _ _, _, _ => trivial
  | .exit _, _, _ => trivial
  | .ret, _, _ => trivial
  | .rangeFunc _ _ _ _, _, _ => trivial
  | .goto _, _, _ => trivial
  | .refuse _, _, _ => trivial
def AllIn (p : Nat × Code → Prop) : List (Nat × Code) → Prop
  | [] => True
  | x :: l => p x ∧ AllIn p l
theorem allIn_mem {p : Nat × Code → Prop} : ∀ {l : List (Nat × Code)}, AllIn p l → ∀ x ∈ l, p x
  | y :: l, h, x, hx => by
    rcases List.mem_cons.1 hx with rfl | hx
    · exact h.1
    · exact allIn_mem h.2 x hx
theorem lpgood_of {E : Env} {LP : Nat → Ev ρ → Ev ρ} {c : Code} {cb : Nat} {l : List (Nat × Code)} (hl : loopsIn cb c = l)
    (h : AllIn (fun x => Sound E.P (.loop x.2) (LP x.1 fun st K => ev E LP x.1 x.2 st K)) l) : LPGood E LP cb c :=
  lpgood_list c cb (by rw [hl]; exact allIn_mem h)
theorem lpgood_none {E : Env} {LP : Nat → Ev ρ → Ev ρ} {c : Code} {cb : Nat} (hl : loopsIn cb c = []) : LPGood E LP cb c := lpgood_of hl trivial
theorem orc_cond {P : Program} {n g : Nat} {o o' : Orc} (h : OrcOk P n o) (h' : OrcOk P g o') : OrcOk P g (cond (Nat.beq g n) o o') := by
  cases hb : Nat.beq g n
  · exact h'
  · have : g = n := Nat.eq_of_beq_eq_true hb
    subst this; exact h
theorem loop_ok {P : Program} {c : Code} {f : Ev ρ} {p V : Type} (hf : Sound P c f) {keep : List Nat} {co : List (Where × Co)} (kx : Ex → List Nat) (cx : Ex → List (Where × Co)) (k : Nat) {dec : Nat → NF → Option (p × V)} {tm : p × V → St}
    {g : p → V → (V → Option ρ) → (Ex → St → Option ρ) → Option ρ} (hd : ∀ n nf v, dec n nf = some v → denorm keep n nf = tm v)
    (hg : ∀ (q : p) (v : V) (K K1 : Ex → St → Option ρ), f (tm (q, v)) (fun e st' => match e with
        | .normal => (normC keep co st').bind fun nf => K1 .normal (denorm keep st'.n nf)
        | e => (normC (kx e) (cx e) st').bind fun nf => K e (denorm (kx e) st'.n nf)) = g q v (fun v' => K1 .normal (tm (q, v'))) K) :
    Sound P (.loop c) (loopOrc keep co dec fun pv K => iter (fun v next => g pv.1 v next K) k pv.2) :=
  loopOrc_sound hf kx cx k hd fun pv K => (iter_loopV (tm := fun v => tm (pv.1, v)) (g := fun v next K => g pv.1 v next K) (fun v K K1 next hn => by
    have : next = fun v' => K1 .normal (tm (pv.1, v')) := funext fun v' => (hn v').symm
    rw [this]; exact hg pv.1 v K K1) K k pv.2).symm
/-- How far a loop's first state is read: at the given number of slots alone. -/
theorem dec_at {T : Type} {keep : List Nat} {N : Nat} {d : NF → Option T} {tm : T → St} (h : ∀ nf v, d nf = some v → denorm keep N nf = tm v) (n : Nat) (nf : NF) (v : T)
    (e : cond (Nat.beq n N) (d nf) none = some v) : denorm keep n nf = tm v := by
  cases hb : Nat.beq n N <;> simp only [hb, cond_true, cond_false] at e
  · exact nomatch e
  · have : n = N := Nat.eq_of_beq_eq_true hb
    subst this; exact h nf v e
/-- A function's contract, out of the evaluator. -/
theorem pureOk_of_ev {A R : Type} {E : Env} (hE : EnvOk E) {LP : Nat → Ev R → Ev R} {g : FuncId} {fn : Func} (hf : E.P.funcs[g]? = some fn) (hc : fn.body.isSome = true)
    (hnm : (fn.name == "runtime.NumGoroutine") = false) (argsOf : A → List Arg) (argD : List Arg → Option A) (hA : ∀ l a, argD l = some a → l = argsOf a)
    (hn : ∀ a, Nat.ble (argsOf a).length fn.ntmps = true) (hLP : LPGood E LP 0 (fn.body.getD .skip)) {rt : RT} {dec : Out → Option R} {enc : R → Out} (hd : ∀ o r, dec o = some r → o = enc r)
    {F : A → Option R} (h : ∀ a, ev E LP 0 (fn.body.getD .skip) (st0 fn (argsOf a)) (fin E.P fn rt dec) = F a) :
    PureOk E.P g fun _ l K => (argD l).bind fun a => (F a).bind fun r => K (enc r) := by
  intro ρ l K out hK
  simp only [Option.bind_eq_some_iff] at hK
  obtain ⟨a, ha, r, hr, hK⟩ := hK
  obtain ⟨c, hcb⟩ := Option.isSome_iff_exists.1 hc
  have hgc : fn.body.getD .skip = c := by rw [hcb]; rfl
  rw [hA l a ha]
  exact ⟨enc r, hK, pure_of_ev hE hd hf hcb hnm (hn a) (hgc ▸ hLP) (by rw [← hgc, h a]; exact hr)⟩
/-- A contract of a function that is handed blocks, out of the evaluator. -/
theorem mutOk_of_ev {A R : Type} {E : Env} (hE : EnvOk E) {LP : Nat → Ev R → Ev R} {g : FuncId} {fn : Func} (hf : E.P.funcs[g]? = some fn) (hc : fn.body.isSome = true)
    (hnm : (fn.name == "runtime.NumGoroutine") = false) (argsOf : A → List SV) (blksOf : A → List Blk) (argD : List SV → List Blk → Option A) (hA : ∀ l b a, argD l b = some a → l = argsOf a ∧ b = blksOf a)
    (hn : ∀ a, Nat.ble (argsOf a).length fn.ntmps = true) (hLP : LPGood E LP 0 (fn.body.getD .skip)) {rt : RT} {ks : List KD} {dec : A → MOut → Option R} {enc : A → R → MOut}
    (hlen : ∀ a r, (enc a r).kept.length = (blksOf a).length) (hd : ∀ a o r, dec a o = some r → o = enc a r)
    {F : A → Option R} (h : ∀ a, ev E LP 0 (fn.body.getD .skip) (st0M fn (argsOf a) (blksOf a)) (finM E.P fn rt ks (dec a)) = F a) :
    MutOk E.P g fun _ l b K => (argD l b).bind fun a => (F a).bind fun r => K (enc a r) := by
  intro ρ l b K out hK
  simp only [Option.bind_eq_some_iff] at hK
  obtain ⟨a, ha, r, hr, hK⟩ := hK
  obtain ⟨c, hcb⟩ := Option.isSome_iff_exists.1 hc
  have hgc : fn.body.getD .skip = c := by rw [hcb]; rfl
  obtain ⟨rfl, rfl⟩ := hA l b a ha
  exact ⟨enc a r, hK, mut_of_ev hE (hd a) (hlen a r) hf hcb hnm (hn a) (hgc ▸ hLP) (by rw [← hgc, h a]; exact hr)⟩
/-- One of two contracts, by how the function is called. -/
def altB (t : List SV → Heap → Bool) (o o' : Orc) : Orc := fun ρ nid vs h K => cond (t vs h) (o ρ nid vs h K) (o' ρ nid vs h K)
theorem altB_ok {P : Program} {g : FuncId} {t : List SV → Heap → Bool} {o o' : Orc} (h : OrcOk P g o) (h' : OrcOk P g o') : OrcOk P g (altB t o o') := by
  intro ρ nid vs H K out hK
  simp only [altB] at hK
  cases ht : t vs H <;> simp only [ht, cond_true, cond_false] at hK
  · exact h' ρ nid vs H K _ hK
  · exact h ρ nid vs H K _ hK
def isSomeB {α : Type} : Option α → Bool
  | some _ => true
  | none => false
def mutT {A : Type} (pr : List Pr) (argD : List SV → List Blk → Option A) : List SV → Heap → Bool := fun vs h => match prep h pr vs with
  | some vs1 =>
    let L := reach h 3 (addNew [] (idsL vs1))
    match renL L vs1 with
    | some args => match renBs h L L with
      | some bs => isSomeB (argD args bs)
      | none => false
    | none => false
  | none => false
/-- What is not turned is as it was. -/
def sameL {α : Type} [DecidableEq α] (x y : α) : Bool := decide (x = y)
theorem dec_chk1 {α R : Type} [DecidableEq α] {z e : α} {x r : R} (h : cond (sameL z e) (some x) none = some r) : z = e ∧ some x = some r := by
  unfold sameL at h
  by_cases c : z = e
  · rw [decide_eq_true c] at h; exact ⟨c, h⟩
  · rw [decide_eq_false c] at h; exact nomatch h
theorem dec_chk2 {α β R : Type} [DecidableEq α] [DecidableEq β] {z e : α} {z2 e2 : β} {x r : R} (h : cond (sameL z e) (cond (sameL z2 e2) (some x) none) none = some r) : z = e ∧ z2 = e2 ∧ some x = some r := by
  unfold sameL at h
  by_cases c : z = e
  · rw [decide_eq_true c] at h; exact ⟨c, dec_chk1 h⟩
  · rw [decide_eq_false c] at h; exact nomatch h
theorem dec_chk3 {α β γ R : Type} [DecidableEq α] [DecidableEq β] [DecidableEq γ] {z e : α} {z2 e2 : β} {z3 e3 : γ} {x r : R} (h : cond (sameL z e) (cond (sameL z2 e2) (cond (sameL z3 e3) (some x) none) none) none = some r) : z = e ∧ z2 = e2 ∧ z3 = e3 ∧ some x = some r := by
  unfold sameL at h
  by_cases c : z = e
  · rw [decide_eq_true c] at h; exact ⟨c, dec_chk2 h⟩
  · rw [decide_eq_false c] at h; exact nomatch h
end
theorem dec_chk4 {A0 A1 A2 A3 R : Type} [DecidableEq A0] [DecidableEq A1] [DecidableEq A2] [DecidableEq A3] {z0 e0 : A0} {z1 e1 : A1} {z2 e2 : A2} {z3 e3 : A3} {x r : R} (h : cond (sameL z0 e0) (cond (sameL z1 e1) (cond (sameL z2 e2) (cond (sameL z3 e3) (some x) none) none) none) none = some r) : z0 = e0 ∧ z1 = e1 ∧ z2 = e2 ∧ z3 = e3 ∧ some x = some r := by
  unfold sameL at h
  by_cases c : z0 = e0
  · rw [decide_eq_true c] at h; exact ⟨c, dec_chk3 h⟩
  · rw [decide_eq_false c] at h; cases h
theorem dec_chk5 {A0 A1 A2 A3 A4 R : Type} [DecidableEq A0] [DecidableEq A1] [DecidableEq A2] [DecidableEq A3] [DecidableEq A4] {z0 e0 : A0} {z1 e1 : A1} {z2 e2 : A2} {z3 e3 : A3} {z4 e4 : A4} {x r : R} (h : cond (sameL z0 e0) (cond (sameL z1 e1) (cond (sameL z2 e2) (cond (sameL z3 e3) (cond (sameL z4 e4) (some x) none) none) none) none) none = some r) : z0 = e0 ∧ z1 = e1 ∧ z2 = e2 ∧ z3 = e3 ∧ z4 = e4 ∧ some x = some r := by
  unfold sameL at h
  by_cases c : z0 = e0
  · rw [decide_eq_true c] at h; exact ⟨c, dec_chk4 h⟩
  · rw [decide_eq_false c] at h; cases h
theorem dec_chk6 {A0 A1 A2 A3 A4 A5 R : Type} [DecidableEq A0] [DecidableEq A1] [DecidableEq A2] [DecidableEq A3] [DecidableEq A4] [DecidableEq A5] {z0 e0 : A0} {z1 e1 : A1} {z2 e2 : A2} {z3 e3 : A3} {z4 e4 : A4} {z5 e5 : A5} {x r : R} (h : cond (sameL z0 e0) (cond (sameL z1 e1) (cond (sameL z2 e2) (cond (sameL z3 e3) (cond (sameL z4 e4) (cond (sameL z5 e5) (some x) none) none) none) none) none) none = some r) : z0 = e0 ∧ z1 = e1 ∧ z2 = e2 ∧ z3 = e3 ∧ z4 = e4 ∧ z5 = e5 ∧ some x = some r := by
  unfold sameL at h
  by_cases c : z0 = e0
  · rw [decide_eq_true c] at h; exact ⟨c, dec_chk5 h⟩
  · rw [decide_eq_false c] at h; cases h
theorem dec_chk7 {A0 A1 A2 A3 A4 A5 A6 R : Type} [DecidableEq A0] [DecidableEq A1] [DecidableEq A2] [DecidableEq A3] [DecidableEq A4] [DecidableEq A5] [DecidableEq A6] {z0 e0 : A0} {z1 e1 : A1} {z2 e2 : A2} {z3 e3 : A3} {z4 e4 : A4} {z5 e5 : A5} {z6 e6 : A6} {x r : R} (h : cond (sameL z0 e0) (cond (sameL z1 e1) (cond (sameL z2 e2) (cond (sameL z3 e3) (cond (sameL z4 e4) (cond (sameL z5 e5) (cond (sameL z6 e6) (some x) none) none) none) none) none) none) none = some r) : z0 = e0 ∧ z1 = e1 ∧ z2 = e2 ∧ z3 = e3 ∧ z4 = e4 ∧ z5 = e5 ∧ z6 = e6 ∧ some x = some r := by
  unfold sameL at h
  by_cases c : z0 = e0
  · rw [decide_eq_true c] at h; exact ⟨c, dec_chk6 h⟩
  · rw [decide_eq_false c] at h; cases h
theorem dec_chk8 {A0 A1 A2 A3 A4 A5 A6 A7 R : Type} [DecidableEq A0] [DecidableEq A1] [DecidableEq A2] [DecidableEq A3] [DecidableEq A4] [DecidableEq A5] [DecidableEq A6] [DecidableEq A7] {z0 e0 : A0} {z1 e1 : A1} {z2 e2 : A2} {z3 e3 : A3} {z4 e4 : A4} {z5 e5 : A5} {z6 e6 : A6} {z7 e7 : A7} {x r : R} (h : cond (sameL z0 e0) (cond (sameL z1 e1) (cond (sameL z2 e2) (cond (sameL z3 e3) (cond (sameL z4 e4) (cond (sameL z5 e5) (cond (sameL z6 e6) (cond (sameL z7 e7) (some x) none) none) none) none) none) none) none) none = some r) : z0 = e0 ∧ z1 = e1 ∧ z2 = e2 ∧ z3 = e3 ∧ z4 = e4 ∧ z5 = e5 ∧ z6 = e6 ∧ z7 = e7 ∧ some x = some r := by
  unfold sameL at h
  by_cases c : z0 = e0
  · rw [decide_eq_true c] at h; exact ⟨c, dec_chk7 h⟩
  · rw [decide_eq_false c] at h; cases h
theorem dec_chk9 {A0 A1 A2 A3 A4 A5 A6 A7 A8 R : Type} [DecidableEq A0] [DecidableEq A1] [DecidableEq A2] [DecidableEq A3] [DecidableEq A4] [DecidableEq A5] [DecidableEq A6] [DecidableEq A7] [DecidableEq A8] {z0 e0 : A0} {z1 e1 : A1} {z2 e2 : A2} {z3 e3 : A3} {z4 e4 : A4} {z5 e5 : A5} {z6 e6 : A6} {z7 e7 : A7} {z8 e8 : A8} {x r : R} (h : cond (sameL z0 e0) (cond (sameL z1 e1) (cond (sameL z2 e2) (cond (sameL z3 e3) (cond (sameL z4 e4) (cond (sameL z5 e5) (cond (sameL z6 e6) (cond (sameL z7 e7) (cond (sameL z8 e8) (some x) none) none) none) none) none) none) none) none) none = some r) : z0 = e0 ∧ z1 = e1 ∧ z2 = e2 ∧ z3 = e3 ∧ z4 = e4 ∧ z5 = e5 ∧ z6 = e6 ∧ z7 = e7 ∧ z8 = e8 ∧ some x = some r := by
  unfold sameL at h
  by_cases c : z0 = e0
  · rw [decide_eq_true c] at h; exact ⟨c, dec_chk8 h⟩
  · rw [decide_eq_false c] at h; cases h
end Go.Proofs.Ev

set_option linter.unusedVariables false
set_option linter.unusedSimpArgs false
set_option linter.unusedSectionVars false
namespace Go.Proofs.Ev
def numCell (n : Nat) : R → R
  | .sl _ _ => .tok n
  | r => r
def numCells : Nat → List R → List R
  | _, [] => []
  | n, r :: l => numCell n r :: numCells (n + 1) l
/-- Elements, with numbers for the inner slices, counted from n on. -/
def numEls (s s' : S) : Nat → List s.E → Option (List s'.E)
  | _, [] => some []
  | n, x :: l => (s'.ofCells (numCells n (s.cells x))).bind fun y => (numEls s s' (n + s.sz) l).bind fun ys => some (y :: ys)
def allCells (s : S) : List s.E → List R
  | [] => []
  | x :: l => s.cells x ++ allCells s l
def unCell (C : List R) : R → Option R
  | .tok n => match n with
    | 0 => none
    | m + 1 => match C[m]? with
      | some (.sl t xs) => some (.sl t xs)
      | _ => none
  | .sl _ _ => none
  | r => some r
def unCells (C : List R) : List R → Option (List R)
  | [] => some []
  | r :: l => (unCell C r).bind fun x => (unCells C l).bind fun xs => some (x :: xs)
def unEls (s s' : S) (C : List R) : List s'.E → Option (List s.E)
  | [] => some []
  | y :: l => (unCells C (s'.cells y)).bind fun c => (s.ofCells c).bind fun x => (unEls s s' C l).bind fun xs => some (x :: xs)
def toks : List R → List Nat
  | [] => []
  | .tok n :: l => n :: toks l
  | _ :: l => toks l
def Ty.plain : Ty → Bool
  | .tok => false
  | .st .taskK | .st .requestK => false
  | .sl t => t.plain
  | _ => true
def R.plain : R → Bool
  | .tok _ => false
  | .sl t _ => t.plain
  | _ => true
def plainRs : List R → Bool
  | [] => true
  | r :: l => cond r.plain (plainRs l) false
def noneOf (i : Nat) : List Nat → Bool
  | [] => true
  | k :: l => cond (Nat.beq k i) false (noneOf i l)
mutual
/-- A value without numbers that does not rest on the block 'k'. -/
def SV.less (k : Nat) : SV → Bool
  | .r d x => x.plain && noneOf k d
  | .rptr d cs => plainRs cs && noneOf k d
  | .inn _ _ _ => false
  | .agg cs => lessL k cs
  | .tup cs => lessL k cs
  | .fn _ a b => lessL k a && lessL k b
  | _ => true
def lessL (k : Nat) : List SV → Bool
  | [] => true
  | v :: l => v.less k && lessL k l
end
def Blk.less (k : Nat) : Blk → Bool
  | .box cs => lessL k cs
  | .arr none t _ => t.plain
  | .arr (some d) t _ => t.plain && noneOf k d
/-- All blocks but number 'k'. -/
def lessBs (k : Nat) : Nat → List Blk → Bool
  | _, [] => true
  | n, b :: l => (Nat.beq n k || b.less k) && lessBs k (n + 1) l
def lessKs (k : Nat) : List (Option Blk) → Bool
  | [] => true
  | none :: l => lessKs k l
  | some b :: l => b.less k && lessKs k l
variable {ρ : Type}
/-- The new blocks: the ones with numbers are put together again; K is told how many there are. -/
def unBs (s s' : S) (k : Nat) (C : List R) : List Blk → (List Blk → Nat → Option ρ) → Option ρ
  | [], K => K [] 0
  | .arr none (.st s1) zs :: l, K => if h : s1 = s' then
      cond (nodupB (toks (allCells s' (h ▸ zs)))) ((unEls s s' C (h ▸ zs)).bind fun xs => unBs s s' k C l fun l n => K (.arr none (.st s) xs :: l) (n + 1)) none
    else cond ((Ty.st s1).plain) (unBs s s' k C l fun l n => K (.arr none (.st s1) zs :: l) n) none
  | b :: l, K => cond (b.less k) (unBs s s' k C l fun l n => K (b :: l) n) none
def unOut (s s' : S) (k : Nat) (C : List R) (o : MOut) (K : MOut → Option ρ) : Option ρ :=
  cond (o.v.less k && lessKs k o.kept) (unBs s s' k C o.news fun l n => cond (Nat.ble n 1) (K ⟨o.v, o.kept, l⟩) none) none
/-- The function, handed elements themselves as the block 'kb', where G is handed the ones with numbers. -/
def numG (s s' : S) (kb : Nat) (G : MG) : MG := fun _ l b K =>
  match b[kb]? with
  | some (.arr none (.st s1) xs) => if h : s1 = s then
      cond (lessL kb l && lessBs kb 0 b) ((numEls s s' 1 (h ▸ xs)).bind fun ys => G _ l (b.set kb (.arr none (.st s') ys)) fun o => unOut s s' kb (allCells s (h ▸ xs)) o K) none
    else none
  | _ => none
section
variable [Tok]
theorem cellIn_nil {t : Ty} {i j : Nat} {r : R} : ¬ cellIn t [] i j r := fun ⟨x, hx, _⟩ => by simp at hx
theorem numCells_get : ∀ {l : List R} {n j : Nat} {r' : R}, (numCells n l)[j]? = some r' → ∃ r, l[j]? = some r ∧ r' = numCell (n + j) r
  | [], n, j, r', h => by simp [numCells] at h
  | r :: l, n, 0, r', h => by simp [numCells] at h; exact ⟨r, rfl, h.symm⟩
  | r :: l, n, j + 1, r', h => by
    simp only [numCells, List.getElem?_cons_succ] at h
    obtain ⟨x, h1, h2⟩ := numCells_get h
    exact ⟨x, by simpa using h1, by rw [h2]; congr 1; omega⟩
theorem numEls_spec {s s' : S} (hsz : s'.sz = s.sz) : ∀ {xs : List s.E} {n : Nat} {ys : List s'.E}, numEls s s' n xs = some ys →
    ys.length = xs.length ∧ ∀ i j r', cellIn (.st s') ys i j r' → ∃ r, cellIn (.st s) xs i j r ∧ r' = numCell (n + (i * s.sz + j)) r
  | [], n, ys, h => by cases h; exact ⟨rfl, fun i j r' hc => (cellIn_nil hc).elim⟩
  | x :: xs, n, ys, h => by
    simp only [numEls, Option.bind_eq_some_iff, Option.some.injEq] at h
    obtain ⟨y, hy, ys', h2, rfl⟩ := h
    obtain ⟨g1, g2⟩ := numEls_spec hsz h2
    refine ⟨by simp [g1], fun i j r' hc => ?_⟩
    rcases cellIn_cons.1 hc with ⟨rfl, hj⟩ | ⟨i', rfl, hc'⟩
    · have e : (Ty.st s').cells y = numCells n (s.cells x) := S.ofCells_spec s' _ y hy
      rw [e] at hj
      obtain ⟨r, h1, h2⟩ := numCells_get hj
      exact ⟨r, cellIn_cons.2 (.inl ⟨rfl, h1⟩), by rw [h2]; congr 1; omega⟩
    · obtain ⟨r, h1, h2⟩ := g2 i' j r' hc'
      refine ⟨r, cellIn_cons.2 (.inr ⟨i', rfl, h1⟩), ?_⟩
      rw [h2, Nat.succ_mul]; congr 1; omega
theorem allCells_get {s : S} : ∀ {xs : List s.E} {k : Nat} {r : R}, (allCells s xs)[k]? = some r → cellIn (.st s) xs (k / s.sz) (k % s.sz) r
  | [], k, r, h => by simp [allCells] at h
  | x :: xs, k, r, h => by
    have hl : (s.cells x).length = s.sz := Ty.cells_length (.st s) x
    have hp : 0 < s.sz := Ty.sz_pos (.st s)
    simp only [allCells] at h
    by_cases c : k < s.sz
    · rw [List.getElem?_append_left (by omega)] at h
      rw [Nat.div_eq_of_lt c, Nat.mod_eq_of_lt c]
      exact cellIn_cons.2 (.inl ⟨rfl, h⟩)
    · rw [List.getElem?_append_right (by omega), hl] at h
      have := allCells_get h
      have e1 : k / s.sz = (k - s.sz) / s.sz + 1 := by
        conv => lhs; rw [show k = (k - s.sz) + s.sz from by omega]
        exact Nat.add_div_right _ hp
      have e2 : k % s.sz = (k - s.sz) % s.sz := by
        conv => lhs; rw [show k = (k - s.sz) + s.sz from by omega]
        exact Nat.add_mod_right _ _
      rw [e1, e2]
      exact cellIn_cons.2 (.inr ⟨_, rfl, this⟩)
theorem allCells_of {s : S} : ∀ {xs : List s.E} {i j : Nat} {r : R}, cellIn (.st s) xs i j r → (allCells s xs)[i * s.sz + j]? = some r
  | [], i, j, r, h => (cellIn_nil h).elim
  | x :: xs, i, j, r, h => by
    have hl : (s.cells x).length = s.sz := Ty.cells_length (.st s) x
    have hj : j < s.sz := (cellIn_lt h).2
    simp only [allCells]
    rcases cellIn_cons.1 h with ⟨rfl, h1⟩ | ⟨i', rfl, h1⟩
    · rw [List.getElem?_append_left (by omega), Nat.zero_mul, Nat.zero_add]; exact h1
    · rw [Nat.succ_mul, List.getElem?_append_right (by omega), hl, show i' * s.sz + s.sz + j - s.sz = i' * s.sz + j from by omega]
      exact allCells_of h1
theorem unCells_get {C : List R} : ∀ {l l' : List R}, unCells C l = some l' → l'.length = l.length ∧ ∀ (j : Nat) (r : R), l'[j]? = some r → ∃ r', l[j]? = some r' ∧ unCell C r' = some r
  | [], l', h => by cases h; exact ⟨rfl, fun j r hj => by simp at hj⟩
  | r0 :: l, l', h => by
    simp only [unCells, Option.bind_eq_some_iff, Option.some.injEq] at h
    obtain ⟨x, hx, xs, h2, rfl⟩ := h
    obtain ⟨g1, g2⟩ := unCells_get h2
    refine ⟨by simp [g1], fun j r hj => ?_⟩
    cases j with
    | zero => simp at hj; subst hj; exact ⟨r0, rfl, hx⟩
    | succ j => exact g2 j r (by simpa using hj)
theorem unEls_spec {s s' : S} {C : List R} : ∀ {ys : List s'.E} {xs : List s.E}, unEls s s' C ys = some xs →
    xs.length = ys.length ∧ ∀ i j r, cellIn (.st s) xs i j r → ∃ r', cellIn (.st s') ys i j r' ∧ unCell C r' = some r
  | [], xs, h => by cases h; exact ⟨rfl, fun i j r hc => (cellIn_nil hc).elim⟩
  | y :: ys, xs, h => by
    simp only [unEls, Option.bind_eq_some_iff, Option.some.injEq] at h
    obtain ⟨c, hc, x, hx, xs', h2, rfl⟩ := h
    obtain ⟨g1, g2⟩ := unEls_spec h2
    refine ⟨by simp [g1], fun i j r hcell => ?_⟩
    rcases cellIn_cons.1 hcell with ⟨rfl, hj⟩ | ⟨i', rfl, hc'⟩
    · have e : (Ty.st s).cells x = c := S.ofCells_spec s _ x hx
      rw [e] at hj
      obtain ⟨r', h1, h2⟩ := (unCells_get hc).2 j r hj
      exact ⟨r', cellIn_cons.2 (.inl ⟨rfl, h1⟩), h2⟩
    · obtain ⟨r', h1, h2⟩ := g2 i' j r hc'
      exact ⟨r', cellIn_cons.2 (.inr ⟨i', rfl, h1⟩), h2⟩
theorem toks_mem : ∀ {l : List R} {k n : Nat}, l[k]? = some (.tok n) → n ∈ toks l
  | [], k, n, h => by simp at h
  | r :: l, 0, n, h => by simp at h; subst h; simp [toks]
  | r :: l, k + 1, n, h => by
    have := toks_mem (l := l) (k := k) (by simpa using h)
    cases r <;> simp [toks, this]
theorem toks_inj : ∀ {l : List R} {a b n : Nat}, (toks l).Nodup → l[a]? = some (.tok n) → l[b]? = some (.tok n) → a = b
  | [], a, b, n, _, h, _ => by simp at h
  | r :: l, 0, 0, n, _, _, _ => rfl
  | r :: l, 0, b + 1, n, hn, h, h' => by
    simp at h; subst h
    have := toks_mem (l := l) (k := b) (by simpa using h')
    simp only [toks, List.nodup_cons] at hn
    exact (hn.1 this).elim
  | r :: l, a + 1, 0, n, hn, h, h' => by
    simp at h'; subst h'
    have := toks_mem (l := l) (k := a) (by simpa using h)
    simp only [toks, List.nodup_cons] at hn
    exact (hn.1 this).elim
  | r :: l, a + 1, b + 1, n, hn, h, h' => by
    have hl : (toks l).Nodup := by
      cases r <;> simp only [toks, List.nodup_cons] at hn <;> first | exact hn | exact hn.2
    exact congrArg (· + 1) (toks_inj (l := l) hl (by simpa using h) (by simpa using h'))
theorem unCell_sl {C : List R} {r' r : R} (h : unCell C r' = some r) : (∃ n t xs, r' = .tok (n + 1) ∧ C[n]? = some (.sl t xs) ∧ r = .sl t xs) ∨ ((∀ n, r' ≠ .tok n) ∧ (∀ t xs, r' ≠ .sl t xs) ∧ r = r') := by
  cases r' with
  | tok n =>
    cases n with
    | zero => exact nomatch h
    | succ m =>
      have h : (match C[m]? with | some (.sl t xs) => some (R.sl t xs) | _ => none) = some r := h
      split at h
      · rename_i t xs hc
        cases h
        exact .inl ⟨m, t, xs, rfl, hc, rfl⟩
      · exact nomatch h
  | sl t xs => exact nomatch h
  | int k n => cases h; exact .inr ⟨(fun _ e => nomatch e), (fun _ _ e => nomatch e), rfl⟩
  | bool b => cases h; exact .inr ⟨(fun _ e => nomatch e), (fun _ _ e => nomatch e), rfl⟩
  | str l => cases h; exact .inr ⟨(fun _ e => nomatch e), (fun _ _ e => nomatch e), rfl⟩
theorem noneOf_spec {k : Nat} : ∀ {d : List Nat}, noneOf k d = true → mem k d = false
  | [], _ => rfl
  | x :: l, h => by
    simp only [noneOf] at h
    cases hb : Nat.beq x k <;> simp only [hb, cond_true, cond_false] at h
    · simp only [mem, hb, cond_false]; exact noneOf_spec h
    · exact nomatch h
theorem plainRs_spec : ∀ {l : List R}, plainRs l = true → ∀ (j : Nat) (r : R), l[j]? = some r → r.plain = true
  | [], _, j, r, h => by simp at h
  | x :: l, h, j, r, hj => by
    simp only [plainRs] at h
    cases hx : x.plain <;> simp only [hx, cond_true, cond_false] at h
    · exact nomatch h
    · cases j with
      | zero => simp at hj; subst hj; exact hx
      | succ j => exact plainRs_spec h j r (by simpa using hj)
theorem cells_plain {t : Ty} (h : t.plain = true) {xs : List t.El} {i j : Nat} {r : R} (hc : cellIn t xs i j r) : r.plain = true := by
  obtain ⟨x, _, hr⟩ := hc
  have hm := List.mem_of_getElem? hr
  cases t with
  | tok => exact nomatch h
  | sl t => simp [Ty.cells] at hm; subst hm; exact h
  | int k => simp [Ty.cells] at hm; subst hm; rfl
  | bool => simp [Ty.cells] at hm; subst hm; rfl
  | str => simp [Ty.cells] at hm; subst hm; rfl
  | st s =>
    have key : ∀ l : List R, plainRs l = true → r ∈ l → r.plain = true := fun l hl hrl => by
      obtain ⟨j, hj⟩ := List.getElem?_of_mem hrl
      exact plainRs_spec hl j r hj
    cases s <;> first | (refine key _ ?_ hm; rfl) | exact nomatch h
theorem lessL_get {k : Nat} : ∀ {l : List SV}, lessL k l = true → ∀ (j : Nat) (x : SV), l[j]? = some x → x.less k = true
  | [], _, j, x, h => by simp at h
  | v :: l, h, j, x, hj => by
    simp only [lessL, Bool.and_eq_true] at h
    cases j with
    | zero => simp at hj; subst hj; exact h.1
    | succ j => exact lessL_get h.2 j x (by simpa using hj)
theorem lessBs_get {k : Nat} : ∀ {l : List Blk} {n : Nat}, lessBs k n l = true → ∀ (j : Nat) (b : Blk), l[j]? = some b → n + j ≠ k → b.less k = true
  | [], n, _, j, b, h, _ => by simp at h
  | x :: l, n, h, j, b, hj, hne => by
    simp only [lessBs, Bool.and_eq_true, Bool.or_eq_true] at h
    cases j with
    | zero =>
      simp at hj; subst hj
      rcases h.1 with h1 | h1
      · exact (hne (by simpa using Nat.eq_of_beq_eq_true h1)).elim
      · exact h1
    | succ j => exact lessBs_get h.2 j b (by simpa using hj) (by omega)
theorem lessKs_get {k : Nat} : ∀ {l : List (Option Blk)}, lessKs k l = true → ∀ (j : Nat) (b : Blk), l[j]? = some (some b) → b.less k = true
  | [], _, j, b, h => by simp at h
  | none :: l, h, j, b, hj => by
    cases j with
    | zero => simp at hj
    | succ j => exact lessKs_get (l := l) h j b (by simpa using hj)
  | some x :: l, h, j, b, hj => by
    simp only [lessKs, Bool.and_eq_true] at h
    cases j with
    | zero => simp at hj; subst hj; exact h.1
    | succ j => exact lessKs_get h.2 j b (by simpa using hj)
end
theorem RepR_other {T T' : Tok} {w : World} {ok : Cell → Prop} {r : R} {v : Value} (h : @RepR T w ok r v) : r.plain = true → @RepR T' w ok r v := by
  induction h with
  | int => exact fun _ => .int _ _
  | bool => exact fun _ => .bool _
  | str => exact fun _ => .str _
  | tok => exact fun h => nomatch h
  | sl t xs a cap b o vs hcap ha hc _ ih => exact fun h => .sl t xs a cap b o vs hcap ha hc fun i j r hr => ih i j r hr (cells_plain h hr)
theorem RepD_other {T T' : Tok} {w : World} {r : R} {v : Value} {fp : Cell → Prop} (h : @RepD T w r v fp) : r.plain = true → @RepD T' w r v fp := by
  induction h with
  | int => exact fun _ => .int _ _
  | bool => exact fun _ => .bool _
  | str => exact fun _ => .str _
  | tok => exact fun h => nomatch h
  | sl t xs a cap b o vs fs fp hcap ha hreg hc _ hd1 hd2 hfp ih => exact fun h => .sl t xs a cap b o vs fs fp hcap ha hreg hc (fun i j r hr => ih i j r hr (cells_plain h hr)) hd1 hd2 hfp
/-- Blocks that hold as many. -/
def Blk.sim : Blk → Blk → Prop
  | .box _, .box _ => True
  | .arr _ t xs, .arr _ t' ys => t.sz = t'.sz ∧ xs.length = ys.length
  | _, _ => False
theorem Blk.sim_refl (b : Blk) : b.sim b := by cases b <;> simp [Blk.sim]
theorem Blk.sim_box {b b' : Blk} (h : b.sim b') : b.isBox = b'.isBox := by cases b <;> cases b' <;> first | rfl | exact h.elim
theorem sim_arr {sh : Option (List Nat)} {t : Ty} {xs : List t.El} {B : Blk} (h : (Blk.arr sh t xs).sim B) : ∃ sh' t' xs', B = .arr sh' t' xs' ∧ t.sz = t'.sz ∧ xs.length = xs'.length := by
  cases B with
  | box => exact h.elim
  | arr sh' t' xs' => exact ⟨sh', t', xs', rfl, h.1, h.2⟩
theorem sim_bx {cs : List SV} {B : Blk} (h : (Blk.box cs).sim B) : ∃ cs', B = .box cs' := by
  cases B with
  | box cs' => exact ⟨cs', rfl⟩
  | arr => exact h.elim
/-- A value among blocks that hold as many, with other numbers. -/
theorem SVRep.move {T T' : Tok} {w : World} {H H' : Heap} {pl pl' : Pl} {k : Nat} (hH : ∀ i B, look H i = some B → ∃ B', look H' i = some B' ∧ B.sim B') (hh : ∀ i, pl'.hdr i = pl.hdr i)
    (ho : ∀ d p, mem k d = false → okd H pl d p → okd H' pl' d p) {v : SV} {u : Value} (h : @SVRep T w H pl v u) : v.less k = true → @SVRep T' w H' pl' v u := by
  induction h with
  | r d x v hx =>
    intro hl
    simp only [SV.less, Bool.and_eq_true] at hl
    exact .r d x v ((RepR_other hx hl.1).frame fun p u hp hu => ⟨ho d p (noneOf_spec hl.2) hp, hu⟩)
  | nilS => exact fun _ => .nilS
  | nilP => exact fun _ => .nilP
  | own i sh t xs hi =>
    intro _
    obtain ⟨B', h1, h2⟩ := hH i _ hi
    obtain ⟨sh', t', xs', rfl, h3, h4⟩ := sim_arr h2
    rw [← hh i]
    exact .own i sh' t' xs' h1
  | sub i o n sh t xs a a' cap cap' hi hhd hn hc hc' ha =>
    intro _
    obtain ⟨B', h1, h2⟩ := hH i _ hi
    obtain ⟨sh', t', xs', rfl, h3, h4⟩ := sim_arr h2
    exact .sub i o n sh' t' xs' a a' cap cap' h1 (by rw [hh i, hhd, h4]) (by omega) hc hc' (by rw [← h3]; exact ha)
  | bsl i n cs a hi hhd =>
    intro _
    obtain ⟨B', h1, h2⟩ := hH i _ hi
    obtain ⟨cs', rfl⟩ := sim_bx h2
    exact .bsl i n cs' a h1 ((hh i).trans hhd)
  | ptrB i o cs b m hi hhd =>
    intro _
    obtain ⟨B', h1, h2⟩ := hH i _ hi
    obtain ⟨cs', rfl⟩ := sim_bx h2
    exact .ptrB i o cs' b m h1 ((hh i).trans hhd)
  | ptrA i x o sh t xs b m n cap hi hx hhd =>
    intro _
    obtain ⟨B', h1, h2⟩ := hH i _ hi
    obtain ⟨sh', t', xs', rfl, h3, h4⟩ := sim_arr h2
    rw [h3]
    exact .ptrA i x o sh' t' xs' b m n cap h1 (by omega) ((hh i).trans hhd)
  | inn => exact fun h => nomatch h
  | rptr d cs b o vs hc hr =>
    intro hl
    simp only [SV.less, Bool.and_eq_true] at hl
    have hk := noneOf_spec hl.2
    exact .rptr d cs b o vs (fun j r hj => ⟨ho d _ hk (hc j r hj).1, (hc j r hj).2⟩) fun j r hj => (RepR_other (hr j r hj) (plainRs_spec hl.1 j r hj)).frame fun p u hp hu => ⟨ho d p hk hp, hu⟩
  | agg cs vs h1 h2 _ ih => exact fun hl => .agg cs vs h1 h2 fun j x v hx hv => ih j x v hx hv (lessL_get hl j x hx)
  | tup cs vs h1 _ ih => exact fun hl => .tup cs vs h1 fun j x v hx hv => ih j x v hx hv (lessL_get hl j x hx)
  | fn f as bs us vs h1 _ h2 _ ih1 ih2 =>
    intro hl
    have hl : (lessL k as && lessL k bs) = true := hl
    rw [Bool.and_eq_true] at hl
    exact .fn f as bs us vs h1 (fun j x v hx hv => ih1 j x v hx hv (lessL_get hl.1 j x hx)) h2 fun j x v hx hv => ih2 j x v hx hv (lessL_get hl.2 j x hx)
  | undef v => exact fun _ => .undef v
/-- A block that has no numbers, likewise. -/
theorem BlkRep.move {T T' : Tok} {w : World} {H H' : Heap} {pl pl' : Pl} {k i : Nat} (hH : ∀ i B, look H i = some B → ∃ B', look H' i = some B' ∧ B.sim B') (hh : ∀ i, pl'.hdr i = pl.hdr i)
    (ho : ∀ d p, mem k d = false → okd H pl d p → okd H' pl' d p) {B : Blk} (hf : pl'.fp i = pl.fp i) (h : @BlkRep T w H pl i B) (hl : B.less k = true) : @BlkRep T' w H' pl' i B := by
  cases B with
  | box cs =>
    obtain ⟨b, o, h1, h2, h3⟩ := h
    refine ⟨b, o, (hh i).trans h1, fun p => by rw [hf]; exact h2 p, fun j v hv => ?_⟩
    obtain ⟨u, g1, g2, g3, g4⟩ := h3 j v hv
    exact ⟨u, g1, g2, g3, g4.move hH hh ho (lessL_get hl j v hv)⟩
  | arr sh t xs =>
    cases sh with
    | none =>
      obtain ⟨⟨a, cap, b, o, vs, fs, q1, q2, q3, q4, q5, q6, q7, q8, q9⟩⟩ := h
      exact ⟨⟨a, cap, b, o, vs, fs, (hh i).trans q1, q2, q3, q4, q5, fun i j r hc => RepD_other (q6 i j r hc) (cells_plain hl hc), q7, q8, fun p => by rw [hf]; exact q9 p⟩⟩
    | some d =>
      simp only [Blk.less, Bool.and_eq_true] at hl
      obtain ⟨⟨a, cap, b, o, vs, fs, q1, q2, q3, q4, q5, q6, q7, q8, q9⟩⟩ := h
      exact ⟨⟨a, cap, b, o, vs, fs, (hh i).trans q1, q2, q3, q4, q5, fun i j r hc => ⟨(RepR_other (q6 i j r hc).1 (cells_plain hl.1 hc)).frame fun p u hp hu => ⟨ho d p (noneOf_spec hl.2) hp, hu⟩, (q6 i j r hc).2⟩, q7, q8, fun p => by rw [hf]; exact q9 p⟩⟩
section
variable [Tok]
inductive UnB (s s' : S) (k : Nat) (C : List R) : Blk → Blk → Prop
  | num (zs : List s'.E) (xs : List s.E) (hn : (toks (allCells s' zs)).Nodup) (hu : unEls s s' C zs = some xs) : UnB s s' k C (.arr none (.st s') zs) (.arr none (.st s) xs)
  | same (b : Blk) (h : b.less k = true) : UnB s s' k C b b
def numAt (s' : S) (l : List Blk) (a : Nat) : Prop := ∃ zs : List s'.E, l[a]? = some (.arr none (.st s') zs)
theorem unBs_spec {s s' : S} {k : Nat} {C : List R} : ∀ {l : List Blk} {K : List Blk → Nat → Option ρ} {out : ρ}, unBs s s' k C l K = some out →
    ∃ l' n, K l' n = some out ∧ l'.length = l.length ∧ (∀ (j : Nat) (B : Blk), l[j]? = some B → ∃ B', l'[j]? = some B' ∧ UnB s s' k C B B') ∧ (∀ a, numAt s' l a → 1 ≤ n) ∧ (n ≤ 1 → ∀ a b, numAt s' l a → numAt s' l b → a = b) := by
  intro l
  induction l with
  | nil =>
    intro K out h
    exact ⟨[], 0, h, rfl, fun j B hj => by simp at hj, fun a ⟨zs, h⟩ => by simp at h, fun _ a b ⟨zs, h⟩ => by simp at h⟩
  | cons x l ih =>
    intro K out h
    have step : ∀ (x' : Blk) (m : Nat), UnB s s' k C x x' → (∀ zs : List s'.E, x = .arr none (.st s') zs → m = 1) → (unBs s s' k C l fun l n => K (x' :: l) (n + m)) = some out →
        ∃ l' n, K l' n = some out ∧ l'.length = (x :: l).length ∧ (∀ (j : Nat) (B : Blk), (x :: l)[j]? = some B → ∃ B', l'[j]? = some B' ∧ UnB s s' k C B B') ∧ (∀ a, numAt s' (x :: l) a → 1 ≤ n) ∧ (n ≤ 1 → ∀ a b, numAt s' (x :: l) a → numAt s' (x :: l) b → a = b) := by
      intro x' m hU hm h
      obtain ⟨l', n, h1, h2, h3, h4, h5⟩ := ih h
      refine ⟨x' :: l', n + m, h1, by simp [h2], fun j B hj => ?_, fun a ha => ?_, fun hn a b ha hb => ?_⟩
      · cases j with
        | zero => simp at hj; subst hj; exact ⟨x', rfl, hU⟩
        | succ j => exact h3 j B (by simpa using hj)
      · obtain ⟨zs, ha⟩ := ha
        cases a with
        | zero => simp at ha; have := hm zs ha; omega
        | succ a => have := h4 a ⟨zs, by simpa using ha⟩; omega
      · obtain ⟨zs, ha⟩ := ha
        obtain ⟨zs', hb⟩ := hb
        cases a with
        | zero =>
          cases b with
          | zero => rfl
          | succ b =>
            simp at ha
            have q1 := hm zs ha
            have q2 := h4 b ⟨zs', by simpa using hb⟩
            omega
        | succ a =>
          cases b with
          | zero =>
            simp at hb
            have q1 := hm zs' hb
            have q2 := h4 a ⟨zs, by simpa using ha⟩
            omega
          | succ b => rw [h5 (by omega) a b ⟨zs, by simpa using ha⟩ ⟨zs', by simpa using hb⟩]
    cases x with
    | box cs =>
      have h : cond ((Blk.box cs).less k) (unBs s s' k C l fun l n => K (.box cs :: l) n) none = some out := h
      cases hl : (Blk.box cs).less k <;> rw [hl] at h
      · exact nomatch h
      · exact step (.box cs) 0 (.same _ hl) (fun zs e => nomatch e) h
    | arr sh t xs =>
      have plain : (∀ zs : List s'.E, Blk.arr sh t xs = .arr none (.st s') zs → False) → cond ((Blk.arr sh t xs).less k) (unBs s s' k C l fun l n => K (.arr sh t xs :: l) n) none = some out →
          ∃ l' n, K l' n = some out ∧ l'.length = (Blk.arr sh t xs :: l).length ∧ (∀ (j : Nat) (B : Blk), (Blk.arr sh t xs :: l)[j]? = some B → ∃ B', l'[j]? = some B' ∧ UnB s s' k C B B') ∧ (∀ a, numAt s' (Blk.arr sh t xs :: l) a → 1 ≤ n) ∧ (n ≤ 1 → ∀ a b, numAt s' (Blk.arr sh t xs :: l) a → numAt s' (Blk.arr sh t xs :: l) b → a = b) := by
        intro hne h
        cases hl : (Blk.arr sh t xs).less k <;> rw [hl] at h
        · exact nomatch h
        · exact step _ 0 (.same _ hl) (fun zs e => (hne zs e).elim) h
      cases sh with
      | some d => exact plain (fun zs e => nomatch e) h
      | none =>
        cases t with
        | st s1 =>
          have h : (if hs : s1 = s' then
              cond (nodupB (toks (allCells s' (hs ▸ xs)))) ((unEls s s' C (hs ▸ xs)).bind fun xs => unBs s s' k C l fun l n => K (.arr none (.st s) xs :: l) (n + 1)) none
            else cond ((Ty.st s1).plain) (unBs s s' k C l fun l n => K (.arr none (.st s1) xs :: l) n) none) = some out := h
          by_cases hs : s1 = s'
          · subst hs
            rw [dif_pos rfl] at h
            have h : cond (nodupB (toks (allCells s1 xs))) ((unEls s s1 C xs).bind fun xs => unBs s s1 k C l fun l n => K (.arr none (.st s) xs :: l) (n + 1)) none = some out := h
            cases hn : nodupB (toks (allCells s1 xs)) <;> rw [hn] at h
            · exact nomatch h
            · rw [cond_true, Option.bind_eq_some_iff] at h
              obtain ⟨ys, hy, h⟩ := h
              exact step _ 1 (.num xs ys (nodupB_spec hn) hy) (fun _ _ => rfl) h
          · rw [dif_neg hs] at h
            exact plain (fun zs e => by cases e; exact hs rfl) h
        | int k => exact plain (fun zs e => nomatch e) h
        | bool => exact plain (fun zs e => nomatch e) h
        | str => exact plain (fun zs e => nomatch e) h
        | sl t => exact plain (fun zs e => nomatch e) h
        | tok => exact plain (fun zs e => nomatch e) h
theorem unOut_spec {s s' : S} {k : Nat} {C : List R} {o : MOut} {K : MOut → Option ρ} {out : ρ} (h : unOut s s' k C o K = some out) :
    ∃ l', K ⟨o.v, o.kept, l'⟩ = some out ∧ o.v.less k = true ∧ lessKs k o.kept = true ∧ l'.length = o.news.length ∧ (∀ (j : Nat) (B : Blk), o.news[j]? = some B → ∃ B', l'[j]? = some B' ∧ UnB s s' k C B B') ∧
      (∀ a b, numAt s' o.news a → numAt s' o.news b → a = b) := by
  unfold unOut at h
  cases hc : (o.v.less k && lessKs k o.kept) <;> rw [hc] at h
  · exact nomatch h
  rw [cond_true] at h
  obtain ⟨l', n, h1, h2, h3, h4, h5⟩ := unBs_spec h
  rw [Bool.and_eq_true] at hc
  cases hn : Nat.ble n 1 <;> rw [hn] at h1
  · exact nomatch h1
  · exact ⟨l', h1, hc.1, hc.2, h2, h3, h5 (Nat.le_of_ble_eq_true hn)⟩
theorem cellIn_fun {t : Ty} {xs : List t.El} {i j : Nat} {r r' : R} (h : cellIn t xs i j r) (h' : cellIn t xs i j r') : r = r' := by
  obtain ⟨x, hx, hr⟩ := h
  obtain ⟨x', hx', hr'⟩ := h'
  rw [hx] at hx'; cases hx'
  rw [hr] at hr'; cases hr'; rfl
end
theorem RepD_flat {T T' : Tok} {w w' : World} {r : R} {v : Value} {f : Cell → Prop} (h : @RepD T w r v f) (h1 : ∀ n, r ≠ .tok n) (h2 : ∀ t xs, r ≠ .sl t xs) : @RepD T' w' r v (fun _ => False) := by
  cases h with
  | int => exact .int _ _
  | bool => exact .bool _
  | str => exact .str _
  | tok n => exact (h1 n rfl).elim
  | sl t xs => exact (h2 t xs rfl).elim
theorem RepD_nosl {T : Tok} {w : World} {r : R} {v : Value} {f : Cell → Prop} (h : @RepD T w r v f) (h2 : ∀ t xs, r ≠ .sl t xs) : ∀ p, ¬ f p := by
  cases h with
  | int => exact fun _ h => h
  | bool => exact fun _ h => h
  | str => exact fun _ h => h
  | tok n => exact fun _ h => h
  | sl t xs => exact (h2 t xs rfl).elim
theorem RepD_tokv {T : Tok} {w : World} {n : Nat} {v : Value} {f : Cell → Prop} (h : @RepD T w (.tok n) v f) : v = T.env n := by cases h; rfl
theorem look_bs [Tok] (l : List Blk) (k : Nat) : look (newsH 0 l) k = l[k]? := by rw [look_newsH, if_pos (Nat.zero_le _), Nat.sub_zero]
abbrev mkTok (env : Nat → Value) (h1 : ∀ n, one (env n) = true) (h2 : env 0 = .slice none 0 0) : Tok := ⟨env, h1, h2⟩
theorem numOk {P : Program} {g : FuncId} {G : MG} {s s' : S} (hsz : s'.sz = s.sz) (hps : (Ty.st s).plain = true) (hps' : (Ty.st s').plain = false) (kb : Nat)
    (hdet : ∀ (ρ : Type) l b (K : MOut → Option ρ), G ρ l b K = (G MOut l b some).bind K) (h : ∀ T : Tok, @MutOk T P g G) [T0 : Tok] : MutOk P g (numG s s' kb G) := by
  intro ρ args bs K out hG
  unfold numG at hG
  split at hG
  rotate_left
  · exact nomatch hG
  rename_i s1 xs hkb
  split at hG
  rotate_left
  · exact nomatch hG
  rename_i hs
  subst hs
  have hG : cond (lessL kb args && lessBs kb 0 bs) ((numEls s1 s' 1 xs).bind fun ys => G ρ args (bs.set kb (.arr none (.st s') ys)) fun o => unOut s1 s' kb (allCells s1 xs) o K) none = some out := hG
  cases hless : (lessL kb args && lessBs kb 0 bs) <;> rw [hless] at hG
  · exact nomatch hG
  rw [cond_true, Option.bind_eq_some_iff] at hG
  obtain ⟨ys, hys, hG⟩ := hG
  rw [hdet, Option.bind_eq_some_iff] at hG
  obtain ⟨o, ho, hun⟩ := hG
  obtain ⟨l', hK, hlv, hlk, hln, hU, huniq⟩ := unOut_spec hun
  rw [Bool.and_eq_true] at hless
  obtain ⟨hla, hlb⟩ := hless
  obtain ⟨hny, hcy⟩ := numEls_spec hsz hys
  have hny' : @List.length (Ty.st s').El ys = @List.length (Ty.st s1).El xs := hny
  have hkl : kb < bs.length := (List.getElem?_eq_some_iff.1 hkb).1
  have hszT : (Ty.st s').sz = (Ty.st s1).sz := hsz
  have hszE : (Ty.st s1).sz = s1.sz := rfl
  have hpos : 0 < s1.sz := Ty.sz_pos (.st s1)
  refine ⟨⟨o.v, o.kept, l'⟩, hK, ?_⟩
  generalize ho' : (⟨o.v, o.kept, l'⟩ : MOut) = o'
  have hv' : o'.v = o.v := by rw [← ho']
  have hk' : o'.kept = o.kept := by rw [← ho']
  have hn' : o'.news = l' := by rw [← ho']
  have hfw : ∀ k B, look o.heap k = some B → ∃ B', look o'.heap k = some B' ∧ UnB s1 s' kb (allCells s1 xs) B B' := fun k B hB => by
    by_cases c : k < o.kept.length
    · rw [MOut.look_low o c] at hB
      rw [MOut.look_low o' (by rw [hk']; exact c), hk']
      refine ⟨B, hB, .same B ?_⟩
      rw [Option.bind_eq_some_iff] at hB
      obtain ⟨x, hx, rfl⟩ := hB
      exact lessKs_get hlk k B hx
    · rw [MOut.look_high o (by omega)] at hB
      rw [MOut.look_high o' (by rw [hk']; omega), hk', hn']
      exact hU _ B hB
  have hbw : ∀ k B', look o'.heap k = some B' → ∃ B, look o.heap k = some B ∧ UnB s1 s' kb (allCells s1 xs) B B' := fun k B' hB' => by
    cases hq : look o.heap k with
    | some B =>
      obtain ⟨B2, h2, h3⟩ := hfw k B hq
      rw [hB'] at h2; cases h2
      exact ⟨B, rfl, h3⟩
    | none =>
      by_cases c : k < o.kept.length
      · rw [MOut.look_low o c] at hq
        rw [MOut.look_low o' (by rw [hk']; exact c), hk', hq] at hB'
        exact nomatch hB'
      · rw [MOut.look_high o (by omega), List.getElem?_eq_none_iff] at hq
        rw [MOut.look_high o' (by rw [hk']; omega), hk', hn', List.getElem?_eq_none (by omega)] at hB'
        exact nomatch hB'
  have hnum1 : ∀ k k' (zs zs' : List s'.E), look o.heap k = some (.arr none (.st s') zs) → look o.heap k' = some (.arr none (.st s') zs') → k = k' := fun k k' zs zs' h1 h2 => by
    have low : ∀ k (zs : List s'.E), look o.heap k = some (.arr none (.st s') zs) → o.kept.length ≤ k ∧ numAt s' o.news (k - o.kept.length) := fun k zs h1 => by
      by_cases c : k < o.kept.length
      · rw [MOut.look_low o c, Option.bind_eq_some_iff] at h1
        obtain ⟨x, hx, rfl⟩ := h1
        have := lessKs_get hlk k _ hx
        rw [show Blk.less kb (Blk.arr none (Ty.st s') zs) = (Ty.st s').plain from rfl, hps'] at this
        exact nomatch this
      · rw [MOut.look_high o (by omega)] at h1
        exact ⟨by omega, zs, h1⟩
    obtain ⟨a1, a2⟩ := low k zs h1
    obtain ⟨b1, b2⟩ := low k' zs' h2
    have := huniq _ _ a2 b2
    omega
  obtain ⟨o2, ho2, hM⟩ := h T0 MOut args _ some o ho
  rw [Option.some.inj ho2] at hM
  obtain ⟨hE, hkeptl, _⟩ := hM
  refine ⟨hE, by rw [hk', hkeptl, List.length_set], ?_⟩
  intro w us pl hr hlen hargs
  have hlkb : look (newsH 0 bs) kb = some (.arr none (.st s1) xs) := by rw [look_bs]; exact hkb
  obtain ⟨R0⟩ := hr.blk kb _ hlkb
  let env : Nat → Value := fun n => match n with
    | 0 => .slice none 0 0
    | n + 1 => if n / s1.sz < xs.length then R0.vs (n / s1.sz) (n % s1.sz) else .slice none 0 0
  have henv1 : ∀ n, one (env n) = true := fun n => by
    cases n with
    | zero => rfl
    | succ n =>
      show one (if n / s1.sz < xs.length then R0.vs (n / s1.sz) (n % s1.sz) else .slice none 0 0) = true
      by_cases c : n / s1.sz < xs.length
      · rw [if_pos c]
        obtain ⟨r, hc⟩ := cellIn_of (t := .st s1) (xs := xs) c (Nat.mod_lt n hpos)
        exact (R0.hr _ _ r hc).isOne
      · rw [if_neg c]; rfl
  have hTenv : ∀ n, n / s1.sz < xs.length → env (n + 1) = R0.vs (n / s1.sz) (n % s1.sz) := fun n c => by
    show (if n / s1.sz < xs.length then R0.vs (n / s1.sz) (n % s1.sz) else .slice none 0 0) = _
    rw [if_pos c]
  let inner : Cell → Prop := fun p => ∃ i j r, cellIn (.st s1) xs i j r ∧ R0.fs i j p
  have hinner : ∀ p, inner p → pl.fp kb p := fun p hp => (R0.hfp p).2 (.inr hp)
  let plT : Pl := ⟨pl.hdr, fun k p => if k = kb then reg R0.b R0.o (R0.cap * (Ty.st s1).sz) p else pl.fp k p, fun p => pl.base p ∧ ¬ inner p⟩
  have hfpT : ∀ k p, plT.fp k p → pl.fp k p := fun k p hp => by
    have hp : if k = kb then reg R0.b R0.o (R0.cap * (Ty.st s1).sz) p else pl.fp k p := hp
    by_cases c : k = kb
    · rw [if_pos c] at hp; rw [c]; exact (R0.hfp p).2 (.inl hp)
    · rw [if_neg c] at hp; exact hp
  have hfpN : ∀ k, k ≠ kb → plT.fp k = pl.fp k := fun k c => by
    funext p
    show (if k = kb then reg R0.b R0.o (R0.cap * (Ty.st s1).sz) p else pl.fp k p) = _
    rw [if_neg c]
  have hbsT : ∀ k, k ≠ kb → look (newsH 0 (bs.set kb (.arr none (.st s') ys))) k = look (newsH 0 bs) k := fun k c => by
    rw [look_bs, look_bs, List.getElem?_set_ne (fun e => c e.symm)]
  have hbsK : look (newsH 0 (bs.set kb (.arr none (.st s') ys))) kb = some (.arr none (.st s') ys) := by
    rw [look_bs, List.getElem?_set_self hkl]
  have hHT : ∀ i B, look (newsH 0 bs) i = some B → ∃ B', look (newsH 0 (bs.set kb (.arr none (.st s') ys))) i = some B' ∧ B.sim B' := fun i B hB => by
    by_cases c : i = kb
    · subst c
      rw [hlkb] at hB; cases hB
      exact ⟨_, hbsK, hszT.symm, hny.symm⟩
    · exact ⟨B, by rw [hbsT i c]; exact hB, B.sim_refl⟩
  have hoT : ∀ d p, mem kb d = false → okd (newsH 0 bs) pl d p → okd (newsH 0 (bs.set kb (.arr none (.st s') ys))) plT d p := fun d p hd hp => by
    have hno : ¬ pl.fp kb p := hp.2 kb _ hlkb fun hm => by rw [hd] at hm; exact nomatch hm
    refine ⟨⟨hp.1, fun hi => hno (hinner p hi)⟩, fun i B hB hm hf => ?_⟩
    by_cases c : i = kb
    · subst c; exact hno (hfpT _ p hf)
    · rw [hbsT i c] at hB
      exact hp.2 i B hB hm (hfpT i p hf)
  have hown := hr.own_there
  have hrT : @HRel (mkTok env henv1 rfl) (newsH 0 (bs.set kb (.arr none (.st s') ys))) plT w := by
    refine @HRel.mk (mkTok env henv1 rfl) (newsH 0 (bs.set kb (.arr none (.st s') ys))) plT w (fun i B hB => ?_) (fun i j B B' p h1 h2 f1 f2 => ?_) (fun i B p hB hf => (show pl.base p ∧ ¬ inner p from ⟨?_, fun hi => ?_⟩)) (fun p hp => (show pl.base p ∧ ¬ inner p from ⟨hr.nb p hp, fun hi => ?_⟩))
    · by_cases c : i = kb
      · subst c
        rw [hbsK] at hB; cases hB
        refine ⟨⟨R0.a, R0.cap, R0.b, R0.o, R0.vs, fun _ _ _ => False, by rw [hny']; exact R0.hdr_eq, by rw [hny']; exact R0.hcap, R0.ha, by rw [hszT]; exact R0.hreg, fun i j r' hc => ?_, fun i j r' hc => ?_, fun i j r p hc hf => hf.elim, fun i j r i' j' r' p _ _ hf => hf.elim, fun p => ?_⟩⟩
        · obtain ⟨r, h1, _⟩ := hcy i j r' hc
          rw [hszT]; exact R0.hc i j r h1
        · obtain ⟨r, h1, h2⟩ := hcy i j r' hc
          have h0 := R0.hr i j r h1
          have hpr := cells_plain hps h1
          have hij := cellIn_lt h1
          subst h2
          cases r with
          | sl t l =>
            have e : env (1 + (i * s1.sz + j)) = R0.vs i j := by
              have hj : j < s1.sz := hij.2
              have d1 : (i * s1.sz + j) / s1.sz = i := by rw [Nat.mul_comm, Nat.mul_add_div hpos, Nat.div_eq_of_lt hj]; omega
              have d2 : (i * s1.sz + j) % s1.sz = j := by rw [Nat.mul_comm, Nat.mul_add_mod, Nat.mod_eq_of_lt hj]
              rw [show 1 + (i * s1.sz + j) = (i * s1.sz + j) + 1 from by omega, hTenv _ (by rw [d1]; exact hij.1), d1, d2]
            show @RepD (mkTok env henv1 rfl) w (.tok (1 + (i * s1.sz + j))) (R0.vs i j) _
            rw [← e]
            exact @RepD.tok (mkTok env henv1 rfl) w _
          | int k n => exact RepD_flat h0 (fun _ e => nomatch e) (fun _ _ e => nomatch e)
          | bool b => exact RepD_flat h0 (fun _ e => nomatch e) (fun _ _ e => nomatch e)
          | str l => exact RepD_flat h0 (fun _ e => nomatch e) (fun _ _ e => nomatch e)
          | tok n => exact nomatch hpr
        · show (if i = i then reg R0.b R0.o (R0.cap * (Ty.st s1).sz) p else pl.fp i p) ↔ _
          rw [if_pos rfl, hszT]
          exact ⟨fun h => .inl h, fun h => h.elim id fun ⟨_, _, _, _, hf⟩ => hf.elim⟩
      · rw [hbsT i c] at hB
        have hl := lessBs_get hlb i B (by rw [← look_bs]; exact hB) (by rw [Nat.zero_add]; exact c)
        exact BlkRep.move (pl := pl) (pl' := plT) hHT (fun _ => rfl) hoT (hfpN i c) (hr.blk i B hB) hl
    · have low : ∀ {i B}, look (newsH 0 (bs.set kb (.arr none (.st s') ys))) i = some B → ∃ B, look (newsH 0 bs) i = some B := fun {i B} hB => by
        by_cases c : i = kb
        · subst c; exact ⟨_, hlkb⟩
        · rw [hbsT i c] at hB; exact ⟨_, hB⟩
      obtain ⟨B1, g1⟩ := low h1
      obtain ⟨B2, g2⟩ := low h2
      exact hr.dis i j B1 B2 p g1 g2 (hfpT i p f1) (hfpT j p f2)
    · by_cases c : i = kb
      · subst c; exact hr.ob _ _ p hlkb (hfpT _ p hf)
      · rw [hbsT i c] at hB; exact hr.ob i B p hB (hfpT i p hf)
    · by_cases c : i = kb
      · subst c
        have hf : if i = i then reg R0.b R0.o (R0.cap * (Ty.st s1).sz) p else pl.fp i p := hf
        rw [if_pos rfl] at hf
        obtain ⟨i, j, r, hc, hfs⟩ := hi
        exact R0.hd1 i j r p hc hfs hf
      · rw [hbsT i c] at hB
        exact c (hr.dis i kb B _ p hB hlkb (hfpT i p hf) (hinner p hi))
    · obtain ⟨u, hu⟩ := hown kb _ p hlkb (hinner p hi)
      rw [hp] at hu; exact nomatch hu
  obtain ⟨o2, ho2, hM⟩ := h (mkTok env henv1 rfl) MOut args _ some o ho
  rw [Option.some.inj ho2] at hM
  obtain ⟨_, _, hcalls⟩ := hM
  refine Calls.mono (hcalls w us plT hrT hlen fun j x u hx hu => (hargs j x u hx hu).move (pl := pl) (pl' := plT) hHT (fun _ => rfl) hoT (lessL_get hla j x hx)) ?_
  intro e w' hpost
  obtain ⟨u, pl', he, hr', hvr, hbase, hgrow, hkept, hframe⟩ := hpost
  have hin : ∀ p, inner p → (∀ u, w.at? p = some u → w'.at? p = some u ∧ w'.ice? p = w.ice? p) ∧ ∀ k B, look o.heap k = some B → ¬ pl'.fp k p := fun p hp => by
    have hno : ∀ k B, look (newsH 0 (bs.set kb (.arr none (.st s') ys))) k = some B → ¬ plT.fp k p := fun k B hB hf => (@HRel.ob (mkTok env henv1 rfl) _ plT w hrT k B p hB hf).2 hp
    obtain ⟨u, hu⟩ := hown kb _ p hlkb (hinner p hp)
    refine ⟨fun u hu => (hframe p u hu hno).2, (hframe p u hu hno).1⟩
  have hnb := @HRel.nb (mkTok env henv1 rfl) _ _ _ hr'
  have hblk := @HRel.blk (mkTok env henv1 rfl) _ _ _ hr'
  have hdis := @HRel.dis (mkTok env henv1 rfl) _ _ _ hr'
  have hob := @HRel.ob (mkTok env henv1 rfl) _ _ _ hr'
  let plD : Pl := ⟨pl'.hdr, fun k p => pl'.fp k p ∨ ∃ (zs : List s'.E) (i j n : Nat) (r : R), look o.heap k = some (.arr none (.st s') zs) ∧ cellIn (.st s') zs i j (.tok (n + 1)) ∧ cellIn (.st s1) xs (n / s1.sz) (n % s1.sz) r ∧ R0.fs (n / s1.sz) (n % s1.sz) p, pl.base⟩
  have hbs : ∀ p, pl'.base p → pl.base p ∧ ¬ inner p := fun p hp => by rw [hbase] at hp; exact hp
  have hHD : ∀ i B, look o.heap i = some B → ∃ B', look o'.heap i = some B' ∧ B.sim B' := fun i B hB => by
    obtain ⟨B', h1, h2⟩ := hfw i B hB
    refine ⟨B', h1, ?_⟩
    cases h2 with
    | num zs xs' hn hu => exact ⟨hszT, (unEls_spec hu).1.symm⟩
    | same => exact B.sim_refl
  have hoD : ∀ d p, mem kb d = false → okd o.heap pl' d p → okd o'.heap plD d p := fun d p _ hp => by
    refine ⟨(hbs p hp.1).1, fun i B' hB' hm hf => ?_⟩
    obtain ⟨B, hB, hUB⟩ := hbw i B' hB'
    rcases hf with hf | ⟨zs, i', j, n, r, _, _, h3, h4⟩
    · refine hp.2 i B hB (fun hd => ?_) hf
      rw [← hm hd]
      obtain ⟨B2, g1, g2⟩ := hHD i B hB
      rw [hB'] at g1; cases g1
      exact Blk.sim_box g2
    · exact (hbs p hp.1).2 ⟨_, _, r, h3, h4⟩
  refine ⟨u, plD, he, ?_, ?_, rfl, hgrow, ?_, ?_⟩
  · refine ⟨fun i B' hB' => ?_, fun i j B B' p h1 h2 f1 f2 => ?_, fun i B' p hB' hf => ?_, fun p hp => (hbs p (hnb p hp)).1⟩
    · obtain ⟨B, hB, hUB⟩ := hbw i B' hB'
      cases hUB with
      | same _ hl =>
        refine BlkRep.move (pl := pl') (pl' := plD) hHD (fun _ => rfl) hoD ?_ (hblk i B' hB) hl
        funext p
        apply propext
        refine ⟨fun hp => hp.elim id fun ⟨zs, i', j, n, r, h1, _⟩ => ?_, fun hp => .inl hp⟩
        rw [hB] at h1; cases h1
        rw [show Blk.less kb (Blk.arr none (Ty.st s') zs) = (Ty.st s').plain from rfl, hps'] at hl
        exact nomatch hl
      | num zs xs' hn hu =>
        obtain ⟨hlx, hcx⟩ := unEls_spec hu
        have hlx' : @List.length (Ty.st s1).El xs' = @List.length (Ty.st s').El zs := hlx
        obtain ⟨R1⟩ := hblk i _ hB
        have hexist : ∀ i j r', cellIn (.st s') zs i j r' → ∃ r, cellIn (.st s1) xs' i j r ∧ unCell (allCells s1 xs) r' = some r := fun i j r' hc => by
          obtain ⟨g1, g2⟩ := cellIn_lt hc
          obtain ⟨r, hr⟩ := cellIn_of (t := .st s1) (xs := xs') (i := i) (j := j) (by omega) (by rw [← hszT]; exact g2)
          obtain ⟨r2, h1, h2⟩ := hcx i j r hr
          rw [cellIn_fun hc h1]
          exact ⟨r, hr, h2⟩
        have htok : ∀ i j n, cellIn (.st s') zs i j (.tok (n + 1)) → ∃ t l, cellIn (.st s1) xs (n / s1.sz) (n % s1.sz) (.sl t l) ∧ cellIn (.st s1) xs' i j (.sl t l) := fun i j n hc => by
          obtain ⟨r, h1, h2⟩ := hexist i j _ hc
          rcases unCell_sl h2 with ⟨n', t, l, e1, e2, rfl⟩ | ⟨e1, _, _⟩
          · cases e1
            exact ⟨t, l, allCells_get e2, h1⟩
          · exact (e1 _ rfl).elim
        refine ⟨⟨R1.a, R1.cap, R1.b, R1.o, R1.vs, fun i j p => ∃ n r, cellIn (.st s') zs i j (.tok (n + 1)) ∧ cellIn (.st s1) xs (n / s1.sz) (n % s1.sz) r ∧ R0.fs (n / s1.sz) (n % s1.sz) p,
          by rw [hlx']; exact R1.hdr_eq, by rw [hlx']; exact R1.hcap, R1.ha, by rw [← hszT]; exact R1.hreg, fun i j r hc => ?_, fun i j r hc => ?_, fun i' j r p hc hf => ?_, fun i1 j1 r1 i2 j2 r2 p hc1 hc2 hf1 hf2 => ?_, fun p => ?_⟩⟩
        · obtain ⟨r', h1, _⟩ := hcx i j r hc
          rw [← hszT]; exact R1.hc i j r' h1
        · obtain ⟨r', h1, h2⟩ := hcx i j r hc
          have hR := R1.hr i j r' h1
          rcases unCell_sl h2 with ⟨n, t, l, rfl, e2, rfl⟩ | ⟨e1, e2, rfl⟩
          · have hcell := allCells_get e2
            have hval : R1.vs i j = R0.vs (n / s1.sz) (n % s1.sz) := (RepD_tokv hR).trans (hTenv n (cellIn_lt hcell).1)
            have hD := (R0.hr _ _ _ hcell).frame (w' := w') fun p u hp hu => (hin p ⟨_, _, _, hcell, hp⟩).1 u hu
            rw [hval]
            refine hD.congr fun p => ⟨fun hp => ⟨n, _, h1, hcell, hp⟩, fun ⟨n', r2, g1, g2, g3⟩ => ?_⟩
            have := cellIn_fun h1 g1
            cases this
            exact g3
          · refine (RepD_flat hR e1 e2).congr fun p => ⟨fun hf => hf.elim, fun ⟨n', r2, g1, _⟩ => ?_⟩
            exact e1 _ (cellIn_fun h1 g1)
        · obtain ⟨n, r2, g1, g2, g3⟩ := hf
          intro hreg
          exact (hin p ⟨_, _, r2, g2, g3⟩).2 i _ hB ((R1.hfp p).2 (.inl (by rw [hszT]; exact hreg)))
        · obtain ⟨n1, q1, g1, g2, g3⟩ := hf1
          obtain ⟨n2, q2, k1, k2, k3⟩ := hf2
          obtain ⟨d1, d2⟩ := R0.hd2 _ _ q1 _ _ q2 p g2 k2 g3 k3
          have hnn : n1 = n2 := by
            rw [← Nat.div_add_mod n1 s1.sz, ← Nat.div_add_mod n2 s1.sz, d1, d2]
          subst hnn
          have e1 := allCells_of g1
          have e2 := allCells_of k1
          have hi := toks_inj hn e1 e2
          have l1 : j1 < s'.sz := (cellIn_lt g1).2
          have l2 : j2 < s'.sz := (cellIn_lt k1).2
          have hp' : 0 < s'.sz := Ty.sz_pos (.st s')
          have m1 : (i1 * s'.sz + j1) / s'.sz = i1 := by rw [Nat.mul_comm, Nat.mul_add_div hp', Nat.div_eq_of_lt l1]; omega
          have m2 : (i2 * s'.sz + j2) / s'.sz = i2 := by rw [Nat.mul_comm, Nat.mul_add_div hp', Nat.div_eq_of_lt l2]; omega
          have m3 : (i1 * s'.sz + j1) % s'.sz = j1 := by rw [Nat.mul_comm, Nat.mul_add_mod, Nat.mod_eq_of_lt l1]
          have m4 : (i2 * s'.sz + j2) % s'.sz = j2 := by rw [Nat.mul_comm, Nat.mul_add_mod, Nat.mod_eq_of_lt l2]
          exact ⟨by rw [← m1, ← m2, hi], by rw [← m3, ← m4, hi]⟩
        · constructor
          · rintro (hp | ⟨zs0, i', j, n, r, h1, h2, h3, h4⟩)
            · rcases (R1.hfp p).1 hp with hreg | ⟨i', j, r', hc, hf⟩
              · exact .inl (by rw [← hszT]; exact hreg)
              · obtain ⟨r, _, hu'⟩ := hexist i' j r' hc
                refine (RepD_nosl (R1.hr i' j r' hc) (fun t l e => ?_) p hf).elim
                rw [e] at hu'; exact nomatch hu'
            · rw [hB] at h1; cases h1
              obtain ⟨t, l, _, hx⟩ := htok i' j n h2
              exact .inr ⟨i', j, _, hx, n, r, h2, h3, h4⟩
          · rintro (hreg | ⟨i', j, r, hc, n, r2, g1, g2, g3⟩)
            · exact .inl ((R1.hfp p).2 (.inl (by rw [hszT]; exact hreg)))
            · exact .inr ⟨zs, i', j, n, r2, hB, g1, g2, g3⟩
    · obtain ⟨B1, g1, _⟩ := hbw i B h1
      obtain ⟨B2, g2, _⟩ := hbw j B' h2
      rcases f1 with f1 | ⟨zs, i', j', n, r, a1, a2, a3, a4⟩
      · rcases f2 with f2 | ⟨zs, i', j', n, r, a1, a2, a3, a4⟩
        · exact hdis i j B1 B2 p g1 g2 f1 f2
        · exact ((hin p ⟨_, _, r, a3, a4⟩).2 i B1 g1 f1).elim
      · rcases f2 with f2 | ⟨zs2, i2, j2, n2, r2, b1, b2, b3, b4⟩
        · exact ((hin p ⟨_, _, r, a3, a4⟩).2 j B2 g2 f2).elim
        · exact hnum1 i j zs zs2 a1 b1
    · obtain ⟨B, hB, _⟩ := hbw i B' hB'
      rcases hf with hf | ⟨zs, i', j', n, r, a1, a2, a3, a4⟩
      · exact (hbs p (hob i B p hB hf)).1
      · exact hr.ob kb _ p hlkb (hinner p ⟨_, _, r, a3, a4⟩)
  · rw [hv']
    exact hvr.move (pl := pl') (pl' := plD) hHD (fun _ => rfl) hoD hlv
  · intro k B hB
    rw [hk'] at hB
    obtain ⟨h1, B0, h2, h3⟩ := hkept k B hB
    refine ⟨h1, B0, ?_, h3⟩
    by_cases c : k = kb
    · subst c
      rw [List.getElem?_set_self hkl] at h2
      cases h2
      have hl := lessKs_get hlk k B hB
      cases B with
      | box => exact h3.elim
      | arr sh t zs =>
        obtain ⟨rfl, _⟩ := h3
        cases sh with
        | none => rw [show Blk.less k (Blk.arr none (Ty.st s') zs) = (Ty.st s').plain from rfl, hps'] at hl; exact nomatch hl
        | some d => rw [show Blk.less k (Blk.arr (some d) (Ty.st s') zs) = ((Ty.st s').plain && noneOf k d) from rfl, hps'] at hl; exact nomatch hl
    · rwa [List.getElem?_set_ne (fun e => c e.symm)] at h2
  · intro p u hu hno
    have hnoT : ∀ k B, look (newsH 0 (bs.set kb (.arr none (.st s') ys))) k = some B → ¬ plT.fp k p := fun k B hB hf => by
      by_cases c : k = kb
      · subst c; exact hno _ _ hlkb (hfpT _ p hf)
      · rw [hbsT k c] at hB; exact hno k B hB (hfpT k p hf)
    obtain ⟨g1, g2⟩ := hframe p u hu hnoT
    refine ⟨fun k B' hB' hf => ?_, g2⟩
    obtain ⟨B, hB, _⟩ := hbw k B' hB'
    rcases hf with hf | ⟨zs, i', j', n, r, a1, a2, a3, a4⟩
    · exact g1 k B hB hf
    · exact hno kb _ hlkb (hinner p ⟨_, _, r, a3, a4⟩)
def numTask (xs : List Task) : Option (List TaskK) := numEls .task .taskK 1 xs
def nodTask (zs : List TaskK) : Bool := nodupB (toks (allCells .taskK zs))
def unTask (xs : List Task) (zs : List TaskK) : Option (List Task) := unEls .task .taskK (allCells .task xs) zs
end Go.Proofs.Ev
