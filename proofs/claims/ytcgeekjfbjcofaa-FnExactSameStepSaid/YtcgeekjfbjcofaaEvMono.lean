/- More slots, more blocks: the same comes of it. -/
import Derived.Test.YtcgeekjfbjcofaaEvEv
set_option linter.unusedVariables false
set_option linter.unusedSimpArgs false
namespace Go.Proofs.Ev
def Ext {α : Type} (s s' : List (Nat × α)) : Prop := ∀ t v, look s t = some v → look s' t = some v
theorem Ext.rfl' {α : Type} {s : List (Nat × α)} : Ext s s := fun _ _ h => h
def Le {α : Type} (x y : Option α) : Prop := ∀ a, x = some a → y = some a
theorem Le.refl {α : Type} (x : Option α) : Le x x := fun _ h => h
theorem Le.bind {α β : Type} {x y : Option α} {f g : α → Option β} (h : Le x y) (hf : ∀ a, Le (f a) (g a)) : Le (x.bind f) (y.bind g) := by
  intro b hb
  rw [Option.bind_eq_some_iff] at hb ⊢
  obtain ⟨a, h1, h2⟩ := hb
  exact ⟨a, h a h1, hf a b h2⟩
theorem Le.cond {α : Type} {b : Bool} {x y x' y' : Option α} (h : Le x x') (h' : Le y y') : Le (cond b x y) (cond b x' y') := by cases b <;> assumption
theorem Le.none {α : Type} {y : Option α} : Le Option.none y := fun _ h => nomatch h
section
variable {s s' : List (Nat × SV)} {h h' : Heap} {P : Program}
theorem look_le (hh : Ext h h') (i : Nat) : Le (look h i) (look h' i) := fun _ => hh i _
theorem opd_le (hs : Ext s s') (x : Operand) : Le (opd s x) (opd s' x) := by
  cases x with
  | tmp t => exact fun v hv => hs t v hv
  | _ => exact Le.refl _
theorem opds_le (hs : Ext s s') : (l : List Operand) → Le (opds s l) (opds s' l)
  | [] => Le.refl _
  | x :: l => (opd_le hs x).bind fun _ => (opds_le hs l).bind fun _ => Le.refl _
theorem optO_le (hs : Ext s s') (x : Option Operand) : Le (optO s x) (optO s' x) := by
  cases x with
  | none => exact Le.refl _
  | some x => exact (opd_le hs x).bind fun _ => Le.refl _
theorem partsO_le (hs : Ext s s') : (l : List (Nat × Operand)) → Le (partsO s l) (partsO s' l)
  | [] => Le.refl _
  | (_, x) :: l => (opd_le hs x).bind fun _ => (partsO_le hs l).bind fun _ => Le.refl _
theorem cellsAt_le (hh : Ext h h') (v : SV) : Le (cellsAt h v) (cellsAt h' v) := by
  cases v <;> try exact Le.refl _
  rename_i i x o
  intro cs hcs
  simp only [cellsAt] at hcs ⊢
  cases hl : look h i with
  | none => rw [hl] at hcs; exact nomatch hcs
  | some B => rw [hl] at hcs; rw [hh i B hl]; exact hcs
theorem lenOf_le (hh : Ext h h') (v : SV) : Le (lenOf h v) (lenOf h' v) := by
  intro n hn
  cases v with
  | own i =>
    simp only [lenOf] at hn ⊢
    cases hl : look h i with
    | none => rw [hl] at hn; exact nomatch hn
    | some B => rw [hl] at hn; rw [hh i B hl]; exact hn
  | r d x => cases x <;> exact hn
  | _ => exact hn
theorem sliceSV_le (hh : Ext h h') (T : TypeId) (v : SV) (lo hi : Option SV) : Le (sliceSV P T h v lo hi) (sliceSV P T h' v lo hi) := by
  intro cs hcs
  cases v with
  | own i =>
    simp only [sliceSV] at hcs ⊢
    cases hl : look h i with
    | none => rw [hl] at hcs; exact nomatch hcs
    | some B => rw [hl] at hcs; rw [hh i B hl]; exact hcs
  | sub i o n =>
    simp only [sliceSV] at hcs ⊢
    cases hl : look h i with
    | none => rw [hl] at hcs; exact nomatch hcs
    | some B => rw [hl] at hcs; rw [hh i B hl]; exact hcs
  | r d x => cases x <;> exact hcs
  | _ => exact hcs
theorem indexAddrSV_le (hh : Ext h h') (T : TypeId) (v : SV) (k : Int) : Le (indexAddrSV P T h v k) (indexAddrSV P T h' v k) := by
  intro cs hcs
  cases v with
  | own i =>
    simp only [indexAddrSV] at hcs ⊢
    cases hl : look h i with
    | none => rw [hl] at hcs; exact nomatch hcs
    | some B => rw [hl] at hcs; rw [hh i B hl]; exact hcs
  | sub i o n =>
    simp only [indexAddrSV] at hcs ⊢
    cases hl : look h i with
    | none => rw [hl] at hcs; exact nomatch hcs
    | some B => rw [hl] at hcs; rw [hh i B hl]; exact hcs
  | r d x => cases x <;> exact hcs
  | _ => exact hcs
theorem list_le (hh : Ext h h') (t : Ty) (v : SV) : Le (v.list h t) (v.list h' t) := by
  intro p hp
  cases v <;> try exact hp
  all_goals
    simp only [SV.list] at hp ⊢
    split at hp
    · rename_i hl; rw [hh _ _ hl]; exact hp
    · exact nomatch hp
theorem evStill_le (hs : Ext s s') (hh : Ext h h') (op : Op) : Le (evStill P s h op) (evStill P s' h' op) := by
  intro v hv
  unfold evStill at hv
  split at hv <;> simp only [evStill]
  · exact opd_le hs _ v hv
  · exact opd_le hs _ v hv
  · revert hv; exact ((opd_le hs _).bind fun c => (Le.refl _).bind fun b => Le.cond (opd_le hs _) (opd_le hs _)) v
  · revert hv
    split
    · exact ((Le.refl _).bind fun _ => (Le.refl _).bind fun _ => (partsO_le hs _).bind fun _ => Le.refl _) v
    · exact fun h => nomatch h
  · exact ((opd_le hs _).bind fun a => (cellsAt_le hh a).bind fun _ => Le.refl _) v hv
  · exact ((opd_le hs _).bind fun a => Le.refl _) v hv
  · exact ((opd_le hs _).bind fun a => (opd_le hs _).bind fun _ => Le.refl _) v hv
  · exact ((opd_le hs _).bind fun a => Le.refl _) v hv
  · exact ((opd_le hs _).bind fun a => Le.cond ((list_le hh _ _).bind fun _ => Le.refl _) (Le.refl _)) v hv
  · exact ((opds_le hs _).bind fun a => (opds_le hs _).bind fun _ => Le.refl _) v hv
  · exact ((opd_le hs _).bind fun a => (optO_le hs _).bind fun _ => (optO_le hs _).bind fun _ => sliceSV_le hh _ _ _ _) v hv
  · exact ((opd_le hs _).bind fun a => Le.refl _) v hv
  · exact ((opd_le hs _).bind fun a => Le.refl _) v hv
  · exact ((opd_le hs _).bind fun a => (opd_le hs _).bind fun _ => (Le.refl _).bind fun _ => indexAddrSV_le hh _ _ _) v hv
  · exact ((opd_le hs _).bind fun a => (opd_le hs _).bind fun _ => Le.refl _) v hv
  · exact ((opd_le hs _).bind fun a => Le.refl _) v hv
  · refine ((opds_le hs _).bind fun vs => ?_) v hv
    split
    · exact Le.cond ((lenOf_le hh _).bind fun _ => Le.refl _) (Le.refl _)
    · exact Le.refl _
  · exact ((opds_le hs _).bind fun a => Le.refl _) v hv
  · exact ((opds_le hs _).bind fun a => Le.refl _) v hv
  · exact nomatch hv
theorem asR_le (hh : Ext h h') (t : Ty) (v : SV) : Le (v.asR h t) (v.asR h' t) := by
  cases t with
  | sl t => exact (list_le hh t v).bind fun _ => Le.refl _
  | _ => exact Le.refl _
theorem asRs_le (hh : Ext h h') : (ts : List Ty) → (vs : List SV) → Le (asRs h ts vs) (asRs h' ts vs)
  | [], [] => Le.refl _
  | t :: ts, v :: vs => (asR_le hh t v).bind fun _ => (asRs_le hh ts vs).bind fun _ => Le.refl _
  | [], _ :: _ => Le.refl _
  | _ :: _, [] => Le.refl _
theorem asEl_le (hh : Ext h h') (t : Ty) (vs : List SV) : Le (asEl h t vs) (asEl h' t vs) := (asRs_le hh _ _).bind fun _ => Le.refl _
theorem elsOf_le (hh : Ext h h') (t : Ty) : (n : Nat) → (c : List SV) → Le (elsOf h t n c) (elsOf h' t n c)
  | 0, _ => Le.refl _
  | n + 1, _ => (asEl_le hh t _).bind fun _ => (elsOf_le hh t n _).bind fun _ => Le.refl _
theorem absR_le (hh : Ext h h') (t : Ty) (v : SV) : Le (v.absR h t) (v.absR h' t) := by
  intro p hp
  cases t with
  | sl t =>
    cases v with
    | own i =>
      simp only [SV.absR] at hp ⊢
      cases hl : look h i with
      | none => rw [hl] at hp; exact nomatch hp
      | some B => rw [hl] at hp; rw [hh i B hl]; exact hp
    | _ => exact hp
  | _ => exact hp
theorem absRs_le (hh : Ext h h') : (ts : List Ty) → (vs : List SV) → Le (absRs h ts vs) (absRs h' ts vs)
  | [], [] => Le.refl _
  | t :: ts, v :: vs => (absR_le hh t v).bind fun _ => (absRs_le hh ts vs).bind fun _ => Le.refl _
  | [], _ :: _ => Le.refl _
  | _ :: _, [] => Le.refl _
theorem absEls_le (hh : Ext h h') (t : Ty) : (n : Nat) → (c : List SV) → Le (absEls h t n c) (absEls h' t n c)
  | 0, _ => Le.refl _
  | n + 1, _ => (absRs_le hh _ _).bind fun _ => (Le.refl _).bind fun _ => (absEls_le hh t n _).bind fun _ => Le.refl _
theorem deepOf_le (hh : Ext h h') : (c : List SV) → Le (deepOf h c) (deepOf h' c)
  | [] => Le.refl _
  | v :: l => by
    have ih := deepOf_le hh l
    cases v with
    | own i =>
      refine (look_le hh i).bind fun b => ?_
      cases b with
      | box _ => exact Le.refl _
      | arr sh _ _ => cases sh with
        | none => exact ih
        | some _ => exact Le.refl _
    | r d x => cases x with
      | sl _ _ => exact Le.refl _
      | _ => exact ih
    | sub _ _ _ => exact Le.refl _
    | bsl _ _ => exact Le.refl _
    | _ => exact ih
theorem anyEls_le (hh : Ext h h') (t : Ty) (n : Nat) (c : List SV) : Le (anyEls h t n c) (anyEls h' t n c) :=
  (deepOf_le hh c).bind fun b => Le.cond ((absEls_le hh t n c).bind fun _ => Le.refl _) ((elsOf_le hh t n c).bind fun _ => Le.refl _)
theorem anyList_le (hh : Ext h h') (t : Ty) (v : SV) : Le (anyList h t v) (anyList h' t v) := by
  have lst : ∀ v : SV, Le ((v.list h t).bind fun p => cond (flatTy t) (some (none, [], p.2)) (some (some p.1, [], p.2)) : Option (Option (List Nat) × List Nat × List t.El)) ((v.list h' t).bind fun p => cond (flatTy t) (some (none, [], p.2)) (some (some p.1, [], p.2))) := fun v => (list_le hh t v).bind fun _ => Le.refl _
  cases v with
  | bsl i n =>
    intro p hp
    simp only [anyList] at hp ⊢
    cases hl : look h i with
    | none => rw [hl] at hp; exact nomatch hp
    | some B =>
      rw [hl] at hp; rw [hh i B hl]
      cases B with
      | box cs => exact ((anyEls_le hh t n cs).bind fun _ => Le.refl _) p hp
      | arr _ _ _ => exact nomatch hp
  | r d x => exact lst (.r d x)
  | nilS => exact lst .nilS
  | nilP => exact lst .nilP
  | own i => exact lst (.own i)
  | sub i o n => exact lst (.sub i o n)
  | ptr i x o => exact lst (.ptr i x o)
  | rptr d x => exact lst (.rptr d x)
  | agg x => exact lst (.agg x)
  | tup x => exact lst (.tup x)
  | fn f a b => exact lst (.fn f a b)
  | undef => exact lst .undef
end
end Go.Proofs.Ev
