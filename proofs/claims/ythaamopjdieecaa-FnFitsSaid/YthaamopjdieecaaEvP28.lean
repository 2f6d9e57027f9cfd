/- Plain laws: what draws give. -/
import Derived.Test.YthaamopjdieecaaEvP20
import Derived.Test.YthaamopjdieecaaEvD11
set_option linter.unusedVariables false
set_option linter.unusedSimpArgs false
set_option linter.unusedVariables false
set_option linter.unusedSimpArgs false
namespace Go.Proofs.Ev
def Gives {α : Type} (o : Option α) (Q : α → Prop) : Prop := ∃ r, o = some r ∧ Q r
theorem Gives.bind {α β : Type} {o : Option α} {P : α → Prop} {f : α → Option β} {Q : β → Prop} (h : Gives o P) (hf : ∀ a, P a → Gives (f a) Q) : Gives (o.bind f) Q := by
  obtain ⟨r, e, hp⟩ := h
  rw [e]; exact hf r hp
theorem Gives.some {α : Type} {a : α} {Q : α → Prop} (h : Q a) : Gives (some a) Q := ⟨a, rfl, h⟩
theorem Gives.cond {α : Type} {b : Bool} {x y : Option α} {Q : α → Prop} (h1 : b = true → Gives x Q) (h2 : b = false → Gives y Q) : Gives (cond b x y) Q := by
  cases b
  · exact h2 rfl
  · exact h1 rfl
theorem Gives.mono {α : Type} {o : Option α} {P Q : α → Prop} (h : Gives o P) (hq : ∀ a, P a → Q a) : Gives o Q := by
  obtain ⟨r, e, hp⟩ := h
  exact ⟨r, e, hq r hp⟩
theorem Gives.iter {V R : Type} {g : V → (V → Option R) → Option R} {Inv : V → Prop} {m : V → Nat} {Q : R → Prop}
    (h : ∀ (v : V) (next : V → Option R), Inv v → (∀ u, Inv u → m u < m v → Gives (next u) Q) → Gives (g v next) Q) : ∀ (k : Nat) (v : V), Inv v → m v < k → Gives (iter g k v) Q
  | 0, v, _, hk => by omega
  | k + 1, v, hv, hk => by
    rw [iter_succ]
    exact h v _ hv fun u hu hm => Gives.iter h k u hu (by omega)
def Cur (b : List Int) (i : Int) : Prop := 0 ≤ i ∧ i ≤ b.length
theorem and255 (x : BitVec IntKind.i64.bits) : 0 ≤ IntKind.i64.wrap (((x &&& BitVec.ofInt IntKind.i64.bits (255 : Int)).toNat : Int)) ∧ IntKind.i64.wrap (((x &&& BitVec.ofInt IntKind.i64.bits (255 : Int)).toNat : Int)) ≤ 255 := by
  have h1 : (x &&& BitVec.ofInt IntKind.i64.bits (255 : Int)).toNat ≤ 255 := by
    rw [BitVec.toNat_and]
    have : (BitVec.ofInt IntKind.i64.bits (255 : Int)).toNat = 255 := by decide
    rw [this]; exact Nat.and_le_right
  rw [wrapI (by omega) (by omega)]
  omega
theorem byte_gives {k : Nat} {b : List Int} {i h : Int} (hb : b.length ≤ 1048576) (hc : Cur b i) : Gives (S_l01Byte_m k b i h) fun r => (0 ≤ r.1 ∧ r.1 ≤ 255) ∧ Cur b r.2.1 := by
  unfold Cur at hc
  unfold S_l01Byte_m
  refine Gives.cond (fun h1 => ?_) fun h1 => ?_
  · have h1 := of_decide_eq_true h1
    have hi : i.toNat < b.length := by omega
    rw [idx_pos _ hc.1, getD_get hi, bind_some', decide_eq_true rfl]
    refine Gives.some ⟨and255 _, ?_⟩
    show Cur b (IntKind.i64.wrap (i + 1))
    rw [wrapI (by omega) (by omega)]
    unfold Cur; omega
  · rw [decide_eq_true rfl]
    exact Gives.some ⟨and255 _, hc⟩
theorem tmod_in {x n : Int} (h0 : 0 ≤ x) (hn : 0 < n) : 0 ≤ x.tmod n ∧ x.tmod n < n := ⟨Int.tmod_nonneg n h0, Int.tmod_lt_of_pos x hn⟩
theorem below_gives {k : Nat} {b : List Int} {i h n : Int} (hb : b.length ≤ 1048576) (hc : Cur b i) : Gives (S_l01Below_m k b i h n) fun r => (0 ≤ r.1 ∧ (0 < n → r.1 < n) ∧ (n ≤ 0 → r.1 = 0)) ∧ Cur b r.2.1 := by
  unfold S_l01Below_m
  refine Gives.cond (fun h1 => ?_) fun h1 => Gives.cond (fun h2 => ?_) fun h2 => ?_
  · have h1 := of_decide_eq_true h1
    rw [decide_eq_true rfl]
    exact Gives.some ⟨⟨Int.le_refl _, fun h => by omega, fun _ => rfl⟩, hc⟩
  · have h1 := of_decide_eq_false h1
    refine (byte_gives hb hc).bind fun r ⟨hr, hc1⟩ => ?_
    rw [decide_eq_false (show ¬ n = 0 by omega), decide_eq_true rfl]
    have := tmod_in (x := r.1) (n := n) hr.1 (by omega)
    exact Gives.some ⟨⟨this.1, fun _ => this.2, fun h => by omega⟩, hc1⟩
  · have h1 := of_decide_eq_false h1
    refine (byte_gives hb hc).bind fun r ⟨hr, hc1⟩ => (byte_gives hb hc1).bind fun r2 ⟨hr2, hc2⟩ => (byte_gives hb hc2).bind fun r3 ⟨hr3, hc3⟩ => ?_
    rw [decide_eq_false (show ¬ n = 0 by omega), decide_eq_true rfl]
    rw [wrapI (n := r.1 * 65536) (by omega) (by omega), wrapI (n := r2.1 * 256) (by omega) (by omega), wrapI (n := r.1 * 65536 + r2.1 * 256) (by omega) (by omega), wrapI (n := r.1 * 65536 + r2.1 * 256 + r3.1) (by omega) (by omega)]
    have := tmod_in (x := r.1 * 65536 + r2.1 * 256 + r3.1) (n := n) (by omega) (by omega)
    exact Gives.some ⟨⟨this.1, fun _ => this.2, fun h => by omega⟩, hc3⟩
theorem pick_gives {k : Nat} {b : List Int} {i h : Int} {xs : List Int} (hb : b.length ≤ 1048576) (hc : Cur b i) (hx : 0 < xs.length) : Gives (S_l01PickInt_m k b i h xs) fun r => r.1 ∈ xs ∧ Cur b r.2.1 := by
  unfold S_l01PickInt_m
  refine (below_gives hb hc).bind fun r ⟨⟨h0, h1, _⟩, hc1⟩ => ?_
  have := h1 (by omega)
  have hi : r.1.toNat < xs.length := by omega
  rw [idx_pos _ h0, getD_get hi, bind_some', decide_eq_true rfl]
  exact Gives.some ⟨List.getElem_mem hi, hc1⟩
theorem once_gives {k : Nat} {b : List Int} {i h n : Int} (hb : b.length ≤ 1048576) (hc : Cur b i) : Gives (S_l01Once_m k b i h n) fun r => Cur b r.2.1 := by
  unfold S_l01Once_m
  refine (below_gives hb hc).bind fun r ⟨_, hc1⟩ => ?_
  rw [decide_eq_true rfl]
  exact Gives.some hc1
theorem new_gives {k : Nat} {b : List Int} (hb : b.length ≤ 1048576) (hk : b.length < k) : Gives (S_l01New_m k b) fun r => Cur b r.1 := by
  unfold S_l01New_m
  refine Gives.iter (Inv := fun v : Int × Int => 0 ≤ v.2 ∧ v.2 ≤ b.length) (m := fun v => b.length - v.2.toNat) (fun v next hv hn => ?_) k _ (by constructor <;> simp) (by simp; omega)
  unfold S_l01New_m_g0
  have fin : Gives (cond (decide (b = b)) (some ((0 : Int), v.1)) none) fun r => Cur b r.1 := by
    rw [decide_eq_true rfl]
    exact Gives.some ⟨Int.le_refl _, by show (0 : Int) ≤ b.length; omega⟩
  refine Gives.cond (fun h1 => Gives.cond (fun h2 => ?_) fun h2 => fin) fun h1 => fin
  have h1 := of_decide_eq_true h1
  have hi : v.2.toNat < b.length := by omega
  rw [idx_pos _ hv.1, getD_get hi, bind_some']
  have e : IntKind.i64.wrap (v.2 + 1) = v.2 + 1 := wrapI (by omega) (by omega)
  rw [e]
  exact hn _ (by simp only; omega) (by simp only; omega)
end Go.Proofs.Ev
