/- What laws do with their arguments: sizes, copies, comparisons, marks. -/
import Derived.Test.YthaamopjdieecaaEvP1
import Derived.Test.YthaamopjdieecaaEvD1
import Derived.Test.YthaamopjdieecaaEvD2
import Derived.Test.YthaamopjdieecaaEvD3
set_option linter.unusedVariables false
set_option linter.unusedSimpArgs false
set_option linter.unusedVariables false
set_option linter.unusedSimpArgs false
namespace Go.Proofs.Ev
def Tensor.tot (x : Tensor) : Nat := x.data.length + (0)
def Layer.tot (x : Layer) : Nat := x.weights.length + (x.bias.length + (0))
def Model.tot (x : Model) : Nat := totL Layer.tot x.layers + (0)
def Job.tot (x : Job) : Nat := x.model.tot + (x.act.tot + (0))
def Task.tot (x : Task) : Nat := x.costs.length + (0)
def Sched.tot (x : Sched) : Nat := totL Task.tot x.tasks + (0)
def Request.tot (x : Request) : Nat := x.job.tot + (0)
def Runtime.tot (x : Runtime) : Nat := x.sched.tot + (totL Model.tot x.models + (x.loaded.length + (totL Request.tot x.requests + (0))))
def Step.tot (x : Step) : Nat := x.data.length + (x.input.tot + (0))
def Event.tot (x : Event) : Nat := x.out.tot + (0)
def Entry.tot (x : Entry) : Nat := x.model.tot + (x.input.tot + (0))
theorem L_szIntS_z {k : Nat} {xs : List Int} {n : Int} (hx : xs.length ≤ maxL) (h1 : 0 ≤ n) (h2 : n ≤ 1048576) : Sz (L_szIntS k xs n) n xs.length := L_szIntS_eq k xs n ⟨h1, h2⟩ hx
theorem L_toIntS_z {k : Nat} {xs : List Int} (hk : xs.length < k) (hN : xs.length ≤ maxN) : L_toIntS k xs = some xs := L_toIntS_eq hk hN
theorem L_eqIntS_z {k : Nat} {xs ys : List Int} (hk : xs.length < k) (hN : xs.length ≤ maxN) : L_eqIntS k xs ys = some (decide (xs = ys)) := L_eqIntS_eq hk (by unfold maxL; rw [maxN_eq] at hN; omega)
theorem L_markIntS_m3_z {k : Nat} {xs : List Int} {m : Int} (hk : xs.length < k) (hN : xs.length ≤ maxN) (h0 : 0 ≤ m) (hB : m + 16 * xs.length ≤ bigB) :
    ∃ r ys, L_markIntS_m3 k xs m = some (r, ys) ∧ m ≤ r ∧ r ≤ m + 16 * xs.length ∧ ys.length = xs.length ∧ L_heldIntS k ys m = some r := by
  have ht : totL (fun _ => 0) xs = xs.length := totL_zero xs
  rw [maxN_eq] at hN
  unfold bigB at hB
  obtain ⟨r, out, a1, a2, a3, a4, a5⟩ := mark_list (t := fun _ : Int => 0) (N := xs.length) (g := fun u next => L_markIntS_m3_g0 k () u next (fun y => some (y.1, y.2))) (fin := fun y => some (y.1, y.2)) (hd := fun ys u next => L_heldIntS_g0 k ys u next (fun y => some y) (fun y => some y))
    (fun m ys next hl => by simp only [L_markIntS_m3_g0, cond_dec]; rw [if_neg (by omega)]) (fun ys m next hl => by simp only [L_heldIntS_g0, cond_dec]; rw [if_neg (by omega)]) xs [] m k (by simp) hk h0 (by rw [ht]; unfold bigB; omega)
    (fun x hm m h0 hB => by
      unfold bigB at hB
      refine ⟨m + 1, m, by omega, by omega, fun i ys next hl hi hx => ?_, fun i ys next hl hi hy => ?_⟩
      · simp (disch := omega) only [L_markIntS_m3_g0, cond_dec, if_pos, Int.toNat_natCast, wrapI]
      · simp (disch := omega) only [L_heldIntS_g0, cond_dec, if_pos, idx_nat, hy, bind_some', cond_bne, wrapI, if_true])
  rw [ht] at a4
  exact ⟨r, out, a2, a3, a4, a1, a5 k hk⟩
theorem L_szByteS_z {k : Nat} {xs : List Int} {n : Int} (hx : xs.length ≤ maxL) (h1 : 0 ≤ n) (h2 : n ≤ 1048576) : Sz (L_szByteS k xs n) n xs.length := L_szByteS_eq k xs n ⟨h1, h2⟩ hx
theorem L_toByteS_z {k : Nat} {xs : List Int} (hk : xs.length < k) (hN : xs.length ≤ maxN) : L_toByteS k xs = some xs := L_toByteS_eq hk hN
theorem L_eqByteS_z {k : Nat} {xs ys : List Int} (hk : xs.length < k) (hN : xs.length ≤ maxN) : L_eqByteS k xs ys = some (decide (xs = ys)) := L_eqByteS_eq hk (by unfold maxL; rw [maxN_eq] at hN; omega)
theorem L_markByteS_m3_z {k : Nat} {xs : List Int} {m : Int} (hk : xs.length < k) (hN : xs.length ≤ maxN) (h0 : 0 ≤ m) (hB : m + 16 * xs.length ≤ bigB) :
    ∃ r ys, L_markByteS_m3 k xs m = some (r, ys) ∧ m ≤ r ∧ r ≤ m + 16 * xs.length ∧ ys.length = xs.length ∧ L_heldByteS k ys m = some r := by
  have ht : totL (fun _ => 0) xs = xs.length := totL_zero xs
  rw [maxN_eq] at hN
  unfold bigB at hB
  obtain ⟨r, out, a1, a2, a3, a4, a5⟩ := mark_list (t := fun _ : Int => 0) (N := xs.length) (g := fun u next => L_markByteS_m3_g0 k () u next (fun y => some (y.1, y.2))) (fin := fun y => some (y.1, y.2)) (hd := fun ys u next => L_heldByteS_g0 k ys u next (fun y => some y) (fun y => some y))
    (fun m ys next hl => by simp only [L_markByteS_m3_g0, cond_dec]; rw [if_neg (by omega)]) (fun ys m next hl => by simp only [L_heldByteS_g0, cond_dec]; rw [if_neg (by omega)]) xs [] m k (by simp) hk h0 (by rw [ht]; unfold bigB; omega)
    (fun x hm m h0 hB => by
      unfold bigB at hB
      refine ⟨m + 1, IntKind.u8.wrap m, by omega, by omega, fun i ys next hl hi hx => ?_, fun i ys next hl hi hy => ?_⟩
      · simp (disch := omega) only [L_markByteS_m3_g0, cond_dec, if_pos, Int.toNat_natCast, wrapI]
      · simp (disch := omega) only [L_heldByteS_g0, cond_dec, if_pos, idx_nat, hy, bind_some', cond_bne, wrapI, if_true])
  rw [ht] at a4
  exact ⟨r, out, a2, a3, a4, a1, a5 k hk⟩
theorem L_toShape_z {k : Nat} {x : Shape} : L_toShape k x = some x := rfl
theorem L_eqShape_z {k : Nat} {x y : Shape} : L_eqShape k x y = some (decide (x = y)) := by
  refine (eq_i (eq_i (eq_i (eq_end)))).trans ?_
  congr 1
  rw [decide_eq_decide]
  cases x; cases y
  simp only [Shape.mk.injEq, and_true]
theorem L_szTensor_z {k : Nat} {x : Tensor} {n : Int} (hx : x.Ok) (hk : x.tot < k) (h1 : 0 ≤ n) (h2 : n ≤ 1048576) : Sz (L_szTensor k x n) n x.tot := by
  unfold Tensor.tot at hk
  exact sz_seq h1 (L_szIntS_z hx.2.1 h1 h2) fun c0 => sz_end (by omega)
theorem L_toTensor_z {k : Nat} {x : Tensor} (hk : x.tot < k) (hN : x.tot ≤ maxN) : L_toTensor k x = some x := by
  unfold Tensor.tot at hk hN
  have e0 := L_toShape_z (k := k) (x := x.sh)
  have e1 := L_toIntS_z (k := k) (xs := x.data) (by omega) (by omega)
  unfold L_toTensor
  simp only [e0, e1, bind_some']
theorem L_eqTensor_z {k : Nat} {x y : Tensor} (hk : x.tot < k) (hN : x.tot ≤ maxN) : L_eqTensor k x y = some (decide (x = y)) := by
  unfold Tensor.tot at hk hN
  refine (eq_o L_eqShape_z (eq_o (L_eqIntS_z (by omega) (by omega)) (eq_end))).trans ?_
  congr 1
  rw [decide_eq_decide]
  cases x; cases y
  simp only [Tensor.mk.injEq, and_true]
theorem L_szStep_z {k : Nat} {x : Step} {n : Int} (hx : x.Ok) (hk : x.tot < k) (h1 : 0 ≤ n) (h2 : n ≤ 1048576) : Sz (L_szStep k x n) n x.tot := by
  unfold Step.tot at hk
  exact sz_seq h1 (L_szByteS_z hx.2.2.2.1.1 h1 h2) fun c0 => sz_seq (by omega) (L_szTensor_z hx.2.2.2.2 (by omega) (by omega) (by omega)) fun c1 => sz_end (by omega)
theorem L_toStep_z {k : Nat} {x : Step} (hk : x.tot < k) (hN : x.tot ≤ maxN) : L_toStep k x = some x := by
  unfold Step.tot at hk hN
  have e0 := L_toByteS_z (k := k) (xs := x.data) (by omega) (by omega)
  have e1 := L_toTensor_z (k := k) (x := x.input) (by omega) (by omega)
  unfold L_toStep
  simp only [e0, e1, bind_some']
theorem L_eqStep_z {k : Nat} {x y : Step} (hk : x.tot < k) (hN : x.tot ≤ maxN) : L_eqStep k x y = some (decide (x = y)) := by
  unfold Step.tot at hk hN
  refine (eq_i (eq_i (eq_i (eq_o (L_eqByteS_z (by omega) (by omega)) (eq_o (L_eqTensor_z (by omega) (by omega)) (eq_end)))))).trans ?_
  congr 1
  rw [decide_eq_decide]
  cases x; cases y
  simp only [Step.mk.injEq, and_true]
theorem L_szStepS_z {k : Nat} {xs : List Step} {n : Int} (hx : okS Step.Ok xs) (hk : totL Step.tot xs < k) (h1 : 0 ≤ n) (h2 : n ≤ 1048576) : Sz (L_szStepS k xs n) n (totL Step.tot xs) :=
  sz_list (f := fun x n => L_szStep k x n) (g := fun u next => L_szStepS_g0 k xs u next (fun y => some y) (fun y => some y)) hx.1 (fun x hm n a b => L_szStep_z (hx.2 x hm) (by have := totL_mem Step.tot hm; omega) a b)
    (fun i left hi next => by simp only [L_szStepS_g0]; rw [cond_dec, if_pos (by omega), idx_nat, getD_get hi, bind_some']) (fun left next => by simp only [L_szStepS_g0]; rw [cond_dec, if_neg (by omega)]) (by have := totL_len Step.tot xs; omega) h1 h2
theorem L_toStepS_z {k : Nat} {xs : List Step} (hk : totL Step.tot xs < k) (hN : totL Step.tot xs ≤ maxN) : L_toStepS k xs = some xs := by
  have hl : xs.length ≤ totL Step.tot xs := totL_len _ _
  exact to_list xs _ (f := fun x => L_toStep k x) (g := fun u next => L_toStepS_g0 k xs u next (fun y => some y)) (by omega) (fun x hm => L_toStep_z (by have := totL_mem Step.tot hm; omega) (by have := totL_mem Step.tot hm; omega))
    (fun i ys hi next => by simp only [L_toStepS_g0]; rw [cond_dec, if_pos (by omega), idx_nat, getD_get hi, bind_some']) (fun ys next => by simp only [L_toStepS_g0]; rw [cond_dec, if_neg (by omega)]) (by omega)
theorem L_eqStepS_z {k : Nat} {xs ys : List Step} (hk : totL Step.tot xs < k) (hN : totL Step.tot xs ≤ maxN) : L_eqStepS k xs ys = some (decide (xs = ys)) := by
  have hl : xs.length ≤ totL Step.tot xs := totL_len _ _
  have h2 := maxN_eq
  exact eq_list (f := fun x y => L_eqStep k x y) (g := fun u next => L_eqStepS_g0 k (xs, ys) u next (fun y => some true) (fun y => some y)) (by omega) (fun x hm y => L_eqStep_z (by have := totL_mem Step.tot hm; omega) (by have := totL_mem Step.tot hm; omega))
    (fun i hi hi' next => by simp only [L_eqStepS_g0]; rw [cond_dec, if_pos (by omega), idx_nat, idx_nat, getD_get hi, getD_get hi', bind_some', bind_some']) (fun next => by simp only [L_eqStepS_g0]; rw [cond_dec, if_neg (by omega)]) (by omega)
theorem L_markStepS_m2_z {k : Nat} {xs : List Step} {m : Int} (hk : totL Step.tot xs < k) (hN : totL Step.tot xs ≤ maxN) (h0 : 0 ≤ m) (hB : m + 16 * totL Step.tot xs ≤ bigB) :
    ∃ r ys, L_markStepS_m2 k xs m = some (r, ys) ∧ m ≤ r ∧ r ≤ m + 16 * totL Step.tot xs ∧ ys.length = xs.length ∧ L_heldStepS k ys m = some r := by
  have ht : totL Step.tot xs = totL Step.tot xs := rfl
  have hN2 := maxN_eq
  have hlen := totL_len Step.tot xs
  unfold bigB at hB
  obtain ⟨r, out, a1, a2, a3, a4, a5⟩ := mark_list (t := Step.tot) (N := xs.length) (g := fun u next => L_markStepS_m2_g0 k () u next (fun y => some (y.1, y.2))) (fin := fun y => some (y.1, y.2)) (hd := fun ys u next => L_heldStepS_g0 k ys u next (fun y => some y) (fun y => some y))
    (fun m ys next hl => by simp only [L_markStepS_m2_g0, cond_dec]; rw [if_neg (by omega)]) (fun ys m next hl => by simp only [L_heldStepS_g0, cond_dec]; rw [if_neg (by omega)]) xs [] m k (by simp) (by omega) h0 (by unfold bigB; omega)
    (fun x hm m h0 hB => by
      have hmt := totL_mem Step.tot hm
      rw [ht] at hmt
      unfold bigB at hB
      have hxk : x.tot < k := by omega
      have hxN : x.tot ≤ maxN := by omega
      clear hmt hm
      unfold Step.tot Tensor.tot at hxk hxN hB ⊢
      obtain ⟨r0, y0, e0, a0, b0, l0, h0⟩ := L_markByteS_m3_z (k := k) (xs := x.data) (m := m + 1 + 1 + 1) (by omega) (by omega) (by omega) (by unfold bigB; omega)
      obtain ⟨r1, y1, e1, a1, b1, l1, h1⟩ := L_markIntS_m3_z (k := k) (xs := x.input.data) (m := r0 + 1 + 1 + 1) (by omega) (by omega) (by omega) (by unfold bigB; omega)
      refine ⟨r1, (⟨m, m + 1, m + 1 + 1, y0, (⟨(⟨r0, r0 + 1, r0 + 1 + 1⟩ : Shape), y1⟩ : Tensor)⟩ : Step), by omega, by omega, fun i ys next hl hi hx => ?_, fun i ys next hl hi hy => ?_⟩
      · simp (disch := first | omega | (simp only [List.length_set]; omega)) only [L_markStepS_m2_g0, cond_dec, if_pos, Int.toNat_natCast, wrapI, List.length_set, List.getElem?_set_self, List.set_set, hx, bind_some', e0, e1]
      · simp (disch := omega) only [L_heldStepS_g0, cond_dec, if_pos, if_neg, idx_nat, hy, bind_some', cond_bne, wrapI, if_true, h0, h1])
  rw [ht] at a4
  exact ⟨r, out, a2, a3, a4, a1, a5 k (by omega)⟩
end Go.Proofs.Ev
