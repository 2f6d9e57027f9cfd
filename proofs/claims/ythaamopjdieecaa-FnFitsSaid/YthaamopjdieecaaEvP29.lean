/- Plain laws: drawn schedules. -/
import Derived.Test.YthaamopjdieecaaEvP28
set_option linter.unusedVariables false
set_option linter.unusedSimpArgs false
set_option linter.unusedVariables false
set_option linter.unusedSimpArgs false
namespace Go.Proofs.Ev
theorem Gives.must {α : Type} {p : Prop} {i : Decidable p} {x y : Option α} {Q : α → Prop} (h : p) (hx : Gives x Q) : Gives (bif (@decide p i) then x else y) Q := by
  rw [decide_eq_true h]; exact hx
theorem Gives.ble {α : Type} {a b : Nat} {x y : Option α} {Q : α → Prop} (h : a ≤ b) (hx : Gives x Q) : Gives (bif (Nat.ble a b) then x else y) Q := by
  rw [Nat.ble_eq_true_of_le h]; exact hx
/-- What comes of a drawn operation. -/
def OpOk (op : List Int) : Prop := op.length ≤ 8
theorem ops_step {b : List Int} (hb : b.length ≤ 1048576) {k : Nat} (hk : 10 < k) {n now i ci ch : Int} {out : List (List Int)} {R : Type} {Q : R → Prop} (hc : Cur b ci) (hi : 0 ≤ i) (hin : i < 1000) (ho : out.length ≤ 1000)
    {next : (Int × Int × Int × Int × List (List Int)) → Option R} {x0 : (List (List Int) × Int × Int) → Option R}
    (hx : ¬ i < n → Gives (x0 (out, ci, ch)) Q)
    (hn : i < n → ∀ now' ci' ch' op, Cur b ci' → OpOk op → Gives (next (now', IntKind.i64.wrap (i + 1), ci', ch', out ++ [op])) Q) :
    Gives (S_l07DrawOps_m_g0 k (n, b) (now, i, ci, ch, out) next x0) Q := by
  have hM := maxN_eq
  unfold S_l07DrawOps_m_g0
  refine Gives.cond (fun h1 => ?_) fun h1 => hx (of_decide_eq_false h1)
  have hn := hn (of_decide_eq_true h1)
  have ob : out.length + 1 ≤ maxN := by omega
  refine (pick_gives hb hc (by simp)).bind fun r1 ⟨_, hc1⟩ => Gives.must (by simp) ?_
  have e0 : ([r1.1, (0 : Int)][(0 : Int).toNat]?) = some r1.1 := rfl
  rw [e0, bind_some']
  -- what is done at the end, of any operation
  have tail : ∀ (op : List Int) (now' c h : Int), Cur b c → 2 ≤ op.length → op.length ≤ 6 → Gives ((S_l01Once_m k b c h (40 : Int)).bind fun r7 => cond (r7.1) ((S_l01Below_m k b r7.2.1 r7.2.2 (4 : Int)).bind fun r8 => cond (r8.1 == (0 : Int)) ((S_l01PickInt_m k b r8.2.1 r8.2.2 [(-1 : Int), (3 : Int)]).bind fun r9 => cond (decide (0 ≤ (0 : Int) ∧ (0 : Int) < (op.length : Int))) (cond (Nat.ble (out.length + 1) maxN) (next (now', IntKind.i64.wrap (i + (1 : Int)), r9.2.1, r9.2.2, out ++ [(op.set ((0 : Int).toNat) r9.1)])) none) none) (cond (r8.1 == (1 : Int)) (cond (decide (0 ≤ (1 : Int) ∧ (1 : Int) ≤ (op.length : Int))) (cond (Nat.ble (out.length + 1) maxN) (next (now', IntKind.i64.wrap (i + (1 : Int)), r8.2.1, r8.2.2, out ++ [((op.drop 0).take (((1 : Int).toNat) - 0))])) none) none) (cond (r8.1 == (2 : Int)) ((S_l01PickInt_m k b r8.2.1 r8.2.2 [(-1 : Int), (1000000 : Int), (1000001 : Int)]).bind fun r10 => cond (decide (0 ≤ (1 : Int) ∧ (1 : Int) < (op.length : Int))) (cond (Nat.ble (out.length + 1) maxN) (next (now', IntKind.i64.wrap (i + (1 : Int)), r10.2.1, r10.2.2, out ++ [(op.set ((1 : Int).toNat) r10.1)])) none) none) (cond (r8.1 == (3 : Int)) ((S_l01PickInt_m k b r8.2.1 r8.2.2 [(0 : Int), (1000 : Int), (1001 : Int)]).bind fun r11 => cond (Nat.ble (op.length + [r11.1].length) maxN) (cond (Nat.ble (out.length + 1) maxN) (next (now', IntKind.i64.wrap (i + (1 : Int)), r11.2.1, r11.2.2, out ++ [(op ++ [r11.1])])) none) none) (cond (Nat.ble (out.length + 1) maxN) (next (now', IntKind.i64.wrap (i + (1 : Int)), r8.2.1, r8.2.2, out ++ [op])) none))))) (cond (Nat.ble (out.length + 1) maxN) (next (now', IntKind.i64.wrap (i + (1 : Int)), r7.2.1, r7.2.2, out ++ [op])) none)) Q := fun op now' c h hc2 l2 l6 => by
    refine (once_gives hb hc2).bind fun r7 hc7 => Gives.cond (fun _ => ?_) fun _ => Gives.ble ob (hn _ _ _ _ hc7 (by unfold OpOk; omega))
    refine (below_gives hb hc7).bind fun r8 ⟨_, hc8⟩ => Gives.cond (fun _ => ?_) fun _ => Gives.cond (fun _ => ?_) fun _ => Gives.cond (fun _ => ?_) fun _ => Gives.cond (fun _ => ?_) fun _ => ?_
    · exact (pick_gives hb hc8 (by simp)).bind fun r9 ⟨_, hc9⟩ => Gives.must (by omega) (Gives.ble ob (hn _ _ _ _ hc9 (by unfold OpOk; simp; omega)))
    · exact Gives.must (by omega) (Gives.ble ob (hn _ _ _ _ hc8 (by unfold OpOk; simp; omega)))
    · exact (pick_gives hb hc8 (by simp)).bind fun r9 ⟨_, hc9⟩ => Gives.must (by omega) (Gives.ble ob (hn _ _ _ _ hc9 (by unfold OpOk; simp; omega)))
    · exact (pick_gives hb hc8 (by simp)).bind fun r9 ⟨_, hc9⟩ => Gives.ble (by simp; omega) (Gives.ble ob (hn _ _ _ _ hc9 (by unfold OpOk; simp; omega)))
    · exact Gives.ble ob (hn _ _ _ _ hc8 (by unfold OpOk; omega))
  refine Gives.cond (fun _ => ?_) fun _ => Gives.cond (fun _ => ?_) fun _ => Gives.cond (fun _ => ?_) fun _ => ?_
  · refine (below_gives hb hc1).bind fun r3 ⟨_, hc3⟩ => Gives.must (by simp) ((below_gives hb hc3).bind fun r4 ⟨⟨a0, a1, _⟩, hc4⟩ => ?_)
    have a1 := a1 (by omega)
    refine Gives.iter (Inv := fun v : Int × Int × Int × List Int => Cur b v.2.1 ∧ 0 ≤ v.1 ∧ v.1 ≤ 3 ∧ 2 ≤ v.2.2.2.length ∧ (v.2.2.2.length : Int) + v.1 ≤ 5) (m := fun v => v.1.toNat) (fun v nx hv hnx => ?_) k _ ?_ ?_
    · obtain ⟨hv1, hv2, hv3, hv4, hv5⟩ := hv
      unfold S_l07DrawOps_m_g1
      refine Gives.cond (fun h2 => ?_) fun _ => tail v.2.2.2 now _ _ hv1 hv4 (by omega)
      have h2 := of_decide_eq_true h2
      refine (below_gives hb hv1).bind fun r5 ⟨_, hc5⟩ => Gives.ble (by simp; omega) (hnx _ ⟨hc5, ?_⟩ ?_)
      · rw [wrapI (n := v.1 - 1) (by omega) (by omega)]
        simp only [List.length_append, List.length_cons, List.length_nil]
        omega
      · simp only
        rw [wrapI (n := v.1 - 1) (by omega) (by omega)]; omega
    · refine ⟨hc4, ?_⟩
      simp only
      rw [wrapI (n := 1 + r4.1) (by omega) (by omega)]
      simp
      omega
    · simp only
      rw [wrapI (n := 1 + r4.1) (by omega) (by omega)]; omega
  · exact (below_gives hb hc1).bind fun r13 ⟨_, hc13⟩ => Gives.must (by simp) (tail _ now _ _ hc13 (by simp) (by simp))
  · exact (pick_gives hb hc1 (by simp)).bind fun r19 ⟨_, hc19⟩ => Gives.must (by simp) (tail _ _ _ _ hc19 (by simp) (by simp))
  · exact tail [r1.1, 0] now _ _ hc1 (by simp) (by simp)
theorem ops_gives {b : List Int} (hb : b.length ≤ 1048576) {k : Nat} (hk : 1000 < k) {n ci ch : Int} (hc : Cur b ci) (hn : n ≤ 400) : Gives (S_l07DrawOps_m k b ci ch n) fun r => (r.1.length ≤ 400 ∧ ∀ op ∈ r.1, OpOk op) ∧ Cur b r.2.1 := by
  unfold S_l07DrawOps_m
  refine Gives.iter (Inv := fun v : Int × Int × Int × Int × List (List Int) => Cur b v.2.2.1 ∧ 0 ≤ v.2.1 ∧ v.2.1 ≤ 400 ∧ (v.2.2.2.2.length : Int) = v.2.1 ∧ ∀ op ∈ v.2.2.2.2, OpOk op) (m := fun v => (n - v.2.1).toNat) (fun v next hv hnx => ?_) k _ ⟨hc, by simp⟩ (by simp; omega)
  obtain ⟨hv1, hv2, hv3, hv4, hv5⟩ := hv
  have h1000 : v.2.2.2.2.length ≤ 1000 := by
    have h5 : ((v.2.2.2.2.length : Nat) : Int) ≤ ((400 : Nat) : Int) := by rw [hv4]; exact hv3
    have := Int.ofNat_le.1 h5
    omega
  refine ops_step hb (by omega) hv1 hv2 (by omega) h1000 (fun _ => ?_) fun hlt now' ci' ch' op hc' hop => hnx _ ⟨hc', ?_⟩ ?_
  · rw [decide_eq_true rfl]
    refine Gives.some ⟨⟨?_, hv5⟩, hv1⟩
    have h5 : ((v.2.2.2.2.length : Nat) : Int) ≤ ((400 : Nat) : Int) := by rw [hv4]; exact hv3
    exact Int.ofNat_le.1 h5
  · simp only
    rw [wrapI (n := v.2.1 + 1) (by omega) (by omega)]
    refine ⟨by omega, by omega, by simp; omega, fun x hx => ?_⟩
    rcases List.mem_append.1 hx with hx | hx
    · exact hv5 x hx
    · rw [List.mem_singleton] at hx; subst hx; exact hop
  · simp only
    rw [wrapI (n := v.2.1 + 1) (by omega) (by omega)]; omega
end Go.Proofs.Ev
