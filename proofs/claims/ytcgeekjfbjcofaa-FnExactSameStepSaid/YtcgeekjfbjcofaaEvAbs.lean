/- Elements out of cells that own what they reach. -/
import Derived.Test.YtcgeekjfbjcofaaEvTurn
import Derived.Test.YtcgeekjfbjcofaaEvList
set_option linter.unusedSimpArgs false
set_option linter.unusedVariables false
namespace Go.Proofs.Ev
/-- The block that a cell's value owns outright. -/
def SV.took : SV → List Nat
  | .own i => [i]
  | _ => []
def tookL : List SV → List Nat
  | [] => []
  | v :: l => v.took ++ tookL l
theorem tookL_append (a b : List SV) : tookL (a ++ b) = tookL a ++ tookL b := by
  induction a with
  | nil => rfl
  | cons v l ih => simp [tookL, ih]
theorem mem_tookL {i : Nat} {l : List SV} (h : i ∈ tookL l) : SV.own i ∈ l := by
  induction l with
  | nil => simp [tookL] at h
  | cons v l ih =>
    simp only [tookL, List.mem_append] at h
    rcases h with h | h
    · cases v <;> simp [SV.took] at h
      subst h; simp
    · exact List.mem_cons_of_mem _ (ih h)
theorem tookL_mem {i : Nat} : ∀ {l : List SV} {k : Nat}, l[k]? = some (.own i) → i ∈ tookL l
  | [], k, h => by simp at h
  | v :: l, 0, h => by simp at h; subst h; simp [tookL, SV.took]
  | v :: l, k + 1, h => by simp only [tookL, List.mem_append]; exact .inr (tookL_mem (by simpa using h))
theorem tookL_inj {i : Nat} : ∀ {l : List SV} {k k' : Nat}, (tookL l).Nodup → l[k]? = some (.own i) → l[k']? = some (.own i) → k = k'
  | [], k, k', _, h, _ => by simp at h
  | v :: l, k, k', hn, h, h' => by
    simp only [tookL, List.nodup_append] at hn
    cases k with
    | zero =>
      cases k' with
      | zero => rfl
      | succ k' =>
        simp at h; subst h
        exact (hn.2.2 i (by simp [SV.took]) i (tookL_mem (by simpa using h')) rfl).elim
    | succ k =>
      cases k' with
      | zero =>
        simp at h'; subst h'
        exact (hn.2.2 i (by simp [SV.took]) i (tookL_mem (by simpa using h)) rfl).elim
      | succ k' => rw [tookL_inj hn.2.1 (k := k) (k' := k') (by simpa using h) (by simpa using h')]
theorem absR_took {h : Heap} {t : Ty} {v : SV} {ids : List Nat} {r : R} (e : v.absR h t = some (ids, r)) : ids = v.took := by
  cases t with
  | st s => exact nomatch e
  | sl t' =>
    cases v with
    | nilS => cases e; rfl
    | own i =>
      simp only [SV.absR] at e
      split at e
      · split at e
        · cases e; rfl
        · exact nomatch e
      · exact nomatch e
    | _ => exact nomatch e
  | int k =>
    cases v with
    | r d x => cases x with
      | sl => exact nomatch e
      | _ => cases e; rfl
    | _ => exact nomatch e
  | bool =>
    cases v with
    | r d x => cases x with
      | sl => exact nomatch e
      | _ => cases e; rfl
    | _ => exact nomatch e
  | str =>
    cases v with
    | r d x => cases x with
      | sl => exact nomatch e
      | _ => cases e; rfl
    | _ => exact nomatch e
theorem absRs_spec {h : Heap} : ∀ {ts : List Ty} {vs : List SV} {ids : List Nat} {rs : List R}, absRs h ts vs = some (ids, rs) →
    vs.length = ts.length ∧ rs.length = ts.length ∧ ids = tookL vs ∧ ∀ (j : Nat) (r : R), rs[j]? = some r → ∃ v ty, vs[j]? = some v ∧ v.absR h ty = some (v.took, r)
  | [], [], ids, rs, e => by cases e; exact ⟨rfl, rfl, rfl, fun j r hr => by simp at hr⟩
  | t :: ts, v :: vs, ids, rs, e => by
    simp only [absRs, Option.bind_eq_some_iff, Option.some.injEq, Prod.mk.injEq] at e
    obtain ⟨⟨d, r0⟩, h1, ⟨d', rs'⟩, h2, rfl, rfl⟩ := e
    obtain ⟨g1, g2, g3, g4⟩ := absRs_spec h2
    have ht := absR_took h1
    refine ⟨by simp [g1], by simp [g2], by simp [tookL, ht, g3], fun j r hr => ?_⟩
    cases j with
    | zero => simp at hr; subst hr; exact ⟨v, t, rfl, by rw [h1, ht]⟩
    | succ j => simpa using g4 j r (by simpa using hr)
  | [], _ :: _, _, _, e => nomatch e
  | _ :: _, [], _, _, e => nomatch e
theorem Ty.tys_length (t : Ty) : t.tys.length = t.sz := by
  cases t with
  | st s => cases s <;> rfl
  | _ => rfl
theorem cellIn_cons {t : Ty} {x : t.El} {xs : List t.El} {i j : Nat} {r : R} : cellIn t (x :: xs) i j r ↔ (i = 0 ∧ (t.cells x)[j]? = some r) ∨ ∃ i', i = i' + 1 ∧ cellIn t xs i' j r := by
  cases i with
  | zero => simp [cellIn]
  | succ i => simp [cellIn]
theorem absEls_spec {h : Heap} {t : Ty} : ∀ {n : Nat} {cs : List SV} {ids : List Nat} {xs : List t.El}, absEls h t n cs = some (ids, xs) →
    xs.length = n ∧ n * t.sz ≤ cs.length ∧ ids = tookL (cs.take (n * t.sz)) ∧ ∀ i j r, cellIn t xs i j r → ∃ v ty, cs[i * t.sz + j]? = some v ∧ v.absR h ty = some (v.took, r)
  | 0, cs, ids, xs, e => by cases e; exact ⟨rfl, by simp, by simp [tookL], fun i j r h => by obtain ⟨x, hx, _⟩ := h; simp at hx⟩
  | n + 1, cs, ids, xs, e => by
    simp only [absEls, Option.bind_eq_some_iff, Option.some.injEq, Prod.mk.injEq] at e
    obtain ⟨⟨d, rs⟩, h1, x, hx, ⟨d', ys⟩, h2, rfl, rfl⟩ := e
    obtain ⟨g1, g2, g3, g4⟩ := absRs_spec h1
    obtain ⟨k1, k2, k3, k4⟩ := absEls_spec h2
    have hc := Ty.ofCells_spec t rs x hx
    rw [Ty.tys_length] at g1 g2
    rw [List.length_take] at g1
    rw [List.length_drop] at k2
    refine ⟨by simp [k1], by rw [Nat.succ_mul]; omega, ?_, fun i j r hc' => ?_⟩
    · rw [g3, k3, ← tookL_append, Nat.succ_mul, Nat.add_comm (n * t.sz), List.take_add]
    · rcases cellIn_cons.1 hc' with ⟨rfl, hr⟩ | ⟨i', rfl, hr⟩
      · rw [hc] at hr
        obtain ⟨v, ty, q1, q2⟩ := g4 j r hr
        rw [List.getElem?_take] at q1
        split at q1
        · exact ⟨v, ty, by rw [Nat.zero_mul, Nat.zero_add]; exact q1, q2⟩
        · exact nomatch q1
      · obtain ⟨v, ty, q1, q2⟩ := k4 i' j r hr
        rw [List.getElem?_drop] at q1
        exact ⟨v, ty, by rw [Nat.succ_mul, show i' * t.sz + t.sz + j = t.sz + (i' * t.sz + j) from by omega]; exact q1, q2⟩
theorem RepD.congr {w : World} {r : R} {u : Value} {f f' : Cell → Prop} (h : RepD w r u f) (e : ∀ p, f p ↔ f' p) : RepD w r u f' := by
  have : f = f' := funext fun p => propext (e p)
  exact this ▸ h
/-- What a cell takes in, with it. -/
def tookF (pl : Pl) (v : SV) (p : Cell) : Prop := ∃ i, v = .own i ∧ pl.fp i p
theorem absR_rep {w : World} {H : Heap} {pl : Pl} (hr : HRel H pl w) {t : Ty} {v : SV} {u : Value} {r : R} {ids : List Nat} (e : v.absR H t = some (ids, r)) (hv : SVRep w H pl v u) : RepD w r u (tookF pl v) := by
  have plain : ∀ (x : R) d, v = .r d x → (∀ i, v ≠ .own i) := fun x d h i h' => by rw [h] at h'; exact nomatch h'
  have none' : ∀ {f : Cell → Prop}, (∀ p, ¬ f p) → (∀ i, v ≠ .own i) → ∀ p, f p ↔ tookF pl v p := fun hf hn p => ⟨fun h => (hf p h).elim, fun ⟨i, h, _⟩ => (hn i h).elim⟩
  cases t with
  | st s => exact nomatch e
  | sl t' =>
    cases v with
    | nilS =>
      cases e
      cases hv
      exact .sl t' [] none 0 0 0 (fun _ _ => .bool true) (fun _ _ _ => False) _ (Nat.le_refl _) (.inl rfl) (fun j hj => by simp at hj) (fun i j r ⟨x, hx, _⟩ => by simp at hx)
        (fun i j r ⟨x, hx, _⟩ => by simp at hx) (fun i j r p ⟨x, hx, _⟩ => by simp at hx) (fun i j r _ _ _ p ⟨x, hx, _⟩ => by simp at hx)
        (fun p => ⟨fun ⟨i, h, _⟩ => (nomatch h), fun h => h.elim (fun h => by have := h.2; simp at this) fun ⟨i, j, r, ⟨x, hx, _⟩, _⟩ => by simp at hx⟩)
    | own i =>
      simp only [SV.absR] at e
      split at e
      · rename_i t1 xs hl
        split at e
        · rename_i ht
          subst ht
          cases e
          cases hv with
          | own _ sh t2 ys hl2 =>
            obtain ⟨R⟩ := hr.blk i _ hl
            exact R.repD.congr fun p => ⟨fun h => ⟨i, rfl, h⟩, fun ⟨j, hj, h⟩ => by cases hj; exact h⟩
        · exact nomatch e
      · exact nomatch e
    | _ => exact nomatch e
  | int k =>
    cases v with
    | r d x =>
      cases hv with
      | r _ _ _ hx =>
        cases x with
        | int k n => cases e; cases hx; exact (RepD.int _ _).congr (none' (fun _ h => h) fun i h => nomatch h)
        | bool b => cases e; cases hx; exact (RepD.bool _).congr (none' (fun _ h => h) fun i h => nomatch h)
        | str l => cases e; cases hx; exact (RepD.str _).congr (none' (fun _ h => h) fun i h => nomatch h)
        | sl => exact nomatch e
    | _ => exact nomatch e
  | bool =>
    cases v with
    | r d x =>
      cases hv with
      | r _ _ _ hx =>
        cases x with
        | int k n => cases e; cases hx; exact (RepD.int _ _).congr (none' (fun _ h => h) fun i h => nomatch h)
        | bool b => cases e; cases hx; exact (RepD.bool _).congr (none' (fun _ h => h) fun i h => nomatch h)
        | str l => cases e; cases hx; exact (RepD.str _).congr (none' (fun _ h => h) fun i h => nomatch h)
        | sl => exact nomatch e
    | _ => exact nomatch e
  | str =>
    cases v with
    | r d x =>
      cases hv with
      | r _ _ _ hx =>
        cases x with
        | int k n => cases e; cases hx; exact (RepD.int _ _).congr (none' (fun _ h => h) fun i h => nomatch h)
        | bool b => cases e; cases hx; exact (RepD.bool _).congr (none' (fun _ h => h) fun i h => nomatch h)
        | str l => cases e; cases hx; exact (RepD.str _).congr (none' (fun _ h => h) fun i h => nomatch h)
        | sl => exact nomatch e
    | _ => exact nomatch e
/-- What is taken in is a block of its own. -/
theorem absR_there {H : Heap} {t : Ty} {v : SV} {r : R} {ids : List Nat} (e : v.absR H t = some (ids, r)) {i : Nat} (hv : v = .own i) : ∃ t1 xs, look H i = some (.arr none t1 xs) := by
  subst hv
  cases t with
  | sl t' =>
    simp only [SV.absR] at e
    split at e
    · rename_i t1 xs hl; exact ⟨t1, xs, hl⟩
    · exact nomatch e
  | _ => exact nomatch e
end Go.Proofs.Ev
