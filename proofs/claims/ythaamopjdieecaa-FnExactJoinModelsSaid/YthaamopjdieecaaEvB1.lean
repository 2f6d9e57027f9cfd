/- What laws do with their arguments: sizes, copies, comparisons, marks. -/
import Derived.Test.YthaamopjdieecaaEvP1
import Derived.Test.YthaamopjdieecaaEvD1
import Derived.Test.YthaamopjdieecaaEvD2
import Derived.Test.YthaamopjdieecaaEvD3
set_option linter.unusedVariables false
set_option linter.unusedSimpArgs false
set_option linter.unusedVariables false
set_option linter.unusedSimpArgs false
namespace Go.Proofs.Ev
def Tensor.tot (x : Tensor) : Nat := x.data.length + (0)
def Layer.tot (x : Layer) : Nat := x.weights.length + (x.bias.length + (0))
def Model.tot (x : Model) : Nat := totL Layer.tot x.layers + (0)
def Job.tot (x : Job) : Nat := x.model.tot + (x.act.tot + (0))
def Task.tot (x : Task) : Nat := x.costs.length + (0)
def Sched.tot (x : Sched) : Nat := totL Task.tot x.tasks + (0)
def Request.tot (x : Request) : Nat := x.job.tot + (0)
def Runtime.tot (x : Runtime) : Nat := x.sched.tot + (totL Model.tot x.models + (x.loaded.length + (totL Request.tot x.requests + (0))))
def Step.tot (x : Step) : Nat := x.data.length + (x.input.tot + (0))
def Event.tot (x : Event) : Nat := x.out.tot + (0)
def Entry.tot (x : Entry) : Nat := x.model.tot + (x.input.tot + (0))
theorem L_szIntS_z {k : Nat} {xs : List Int} {n : Int} (hx : xs.length ≤ maxL) (h1 : 0 ≤ n) (h2 : n ≤ 1048576) : Sz (L_szIntS k xs n) n xs.length := L_szIntS_eq k xs n ⟨h1, h2⟩ hx
theorem L_toIntS_z {k : Nat} {xs : List Int} (hk : xs.length < k) (hN : xs.length ≤ maxN) : L_toIntS k xs = some xs := L_toIntS_eq hk hN
theorem L_eqIntS_z {k : Nat} {xs ys : List Int} (hk : xs.length < k) (hN : xs.length ≤ maxN) : L_eqIntS k xs ys = some (decide (xs = ys)) := L_eqIntS_eq hk (by unfold maxL; rw [maxN_eq] at hN; omega)
theorem L_markIntS_m3_z {k : Nat} {xs : List Int} {m : Int} (hk : xs.length < k) (hN : xs.length ≤ maxN) (h0 : 0 ≤ m) (hB : m + 16 * xs.length ≤ bigB) :
    ∃ r ys, L_markIntS_m3 k xs m = some (r, ys) ∧ m ≤ r ∧ r ≤ m + 16 * xs.length ∧ ys.length = xs.length ∧ L_heldIntS k ys m = some r := by
  have ht : totL (fun _ => 0) xs = xs.length := totL_zero xs
  rw [maxN_eq] at hN
  unfold bigB at hB
  obtain ⟨r, out, a1, a2, a3, a4, a5⟩ := mark_list (t := fun _ : Int => 0) (N := xs.length) (g := fun u next => L_markIntS_m3_g0 k () u next (fun y => some (y.1, y.2))) (fin := fun y => some (y.1, y.2)) (hd := fun ys u next => L_heldIntS_g0 k ys u next (fun y => some y) (fun y => some y))
    (fun m ys next hl => by simp only [L_markIntS_m3_g0, cond_dec]; rw [if_neg (by omega)]) (fun ys m next hl => by simp only [L_heldIntS_g0, cond_dec]; rw [if_neg (by omega)]) xs [] m k (by simp) hk h0 (by rw [ht]; unfold bigB; omega)
    (fun x hm m h0 hB => by
      unfold bigB at hB
      refine ⟨m + 1, m, by omega, by omega, fun i ys next hl hi hx => ?_, fun i ys next hl hi hy => ?_⟩
      · simp (disch := omega) only [L_markIntS_m3_g0, cond_dec, if_pos, Int.toNat_natCast, wrapI]
      · simp (disch := omega) only [L_heldIntS_g0, cond_dec, if_pos, idx_nat, hy, bind_some', cond_bne, wrapI, if_true])
  rw [ht] at a4
  exact ⟨r, out, a2, a3, a4, a1, a5 k hk⟩
theorem L_toShape_z {k : Nat} {x : Shape} : L_toShape k x = some x := rfl
theorem L_eqShape_z {k : Nat} {x y : Shape} : L_eqShape k x y = some (decide (x = y)) := by
  refine (eq_i (eq_i (eq_i (eq_end)))).trans ?_
  congr 1
  rw [decide_eq_decide]
  cases x; cases y
  simp only [Shape.mk.injEq, and_true]
theorem L_szLayer_z {k : Nat} {x : Layer} {n : Int} (hx : x.Ok) (hk : x.tot < k) (h1 : 0 ≤ n) (h2 : n ≤ 1048576) : Sz (L_szLayer k x n) n x.tot := by
  unfold Layer.tot at hk
  exact sz_seq h1 (L_szIntS_z hx.2.2.2.2.2.2.2.1.1 h1 h2) fun c0 => sz_seq (by omega) (L_szIntS_z hx.2.2.2.2.2.2.2.2.1 (by omega) (by omega)) fun c1 => sz_end (by omega)
theorem L_toLayer_z {k : Nat} {x : Layer} (hk : x.tot < k) (hN : x.tot ≤ maxN) : L_toLayer k x = some x := by
  unfold Layer.tot at hk hN
  have e0 := L_toIntS_z (k := k) (xs := x.weights) (by omega) (by omega)
  have e1 := L_toIntS_z (k := k) (xs := x.bias) (by omega) (by omega)
  unfold L_toLayer
  simp only [e0, e1, bind_some']
theorem L_eqLayer_z {k : Nat} {x y : Layer} (hk : x.tot < k) (hN : x.tot ≤ maxN) : L_eqLayer k x y = some (decide (x = y)) := by
  unfold Layer.tot at hk hN
  refine (eq_i (eq_i (eq_i (eq_i (eq_i (eq_i (eq_i (eq_o (L_eqIntS_z (by omega) (by omega)) (eq_o (L_eqIntS_z (by omega) (by omega)) (eq_end)))))))))).trans ?_
  congr 1
  rw [decide_eq_decide]
  cases x; cases y
  simp only [Layer.mk.injEq, and_true]
theorem L_szLayerS_z {k : Nat} {xs : List Layer} {n : Int} (hx : okS Layer.Ok xs) (hk : totL Layer.tot xs < k) (h1 : 0 ≤ n) (h2 : n ≤ 1048576) : Sz (L_szLayerS k xs n) n (totL Layer.tot xs) :=
  sz_list (f := fun x n => L_szLayer k x n) (g := fun u next => L_szLayerS_g0 k xs u next (fun y => some y) (fun y => some y)) hx.1 (fun x hm n a b => L_szLayer_z (hx.2 x hm) (by have := totL_mem Layer.tot hm; omega) a b)
    (fun i left hi next => by simp only [L_szLayerS_g0]; rw [cond_dec, if_pos (by omega), idx_nat, getD_get hi, bind_some']) (fun left next => by simp only [L_szLayerS_g0]; rw [cond_dec, if_neg (by omega)]) (by have := totL_len Layer.tot xs; omega) h1 h2
theorem L_toLayerS_z {k : Nat} {xs : List Layer} (hk : totL Layer.tot xs < k) (hN : totL Layer.tot xs ≤ maxN) : L_toLayerS k xs = some xs := by
  have hl : xs.length ≤ totL Layer.tot xs := totL_len _ _
  exact to_list xs _ (f := fun x => L_toLayer k x) (g := fun u next => L_toLayerS_g0 k xs u next (fun y => some y)) (by omega) (fun x hm => L_toLayer_z (by have := totL_mem Layer.tot hm; omega) (by have := totL_mem Layer.tot hm; omega))
    (fun i ys hi next => by simp only [L_toLayerS_g0]; rw [cond_dec, if_pos (by omega), idx_nat, getD_get hi, bind_some']) (fun ys next => by simp only [L_toLayerS_g0]; rw [cond_dec, if_neg (by omega)]) (by omega)
theorem L_eqLayerS_z {k : Nat} {xs ys : List Layer} (hk : totL Layer.tot xs < k) (hN : totL Layer.tot xs ≤ maxN) : L_eqLayerS k xs ys = some (decide (xs = ys)) := by
  have hl : xs.length ≤ totL Layer.tot xs := totL_len _ _
  have h2 := maxN_eq
  exact eq_list (f := fun x y => L_eqLayer k x y) (g := fun u next => L_eqLayerS_g0 k (xs, ys) u next (fun y => some true) (fun y => some y)) (by omega) (fun x hm y => L_eqLayer_z (by have := totL_mem Layer.tot hm; omega) (by have := totL_mem Layer.tot hm; omega))
    (fun i hi hi' next => by simp only [L_eqLayerS_g0]; rw [cond_dec, if_pos (by omega), idx_nat, idx_nat, getD_get hi, getD_get hi', bind_some', bind_some']) (fun next => by simp only [L_eqLayerS_g0]; rw [cond_dec, if_neg (by omega)]) (by omega)
theorem L_szModel_z {k : Nat} {x : Model} {n : Int} (hx : x.Ok) (hk : x.tot < k) (h1 : 0 ≤ n) (h2 : n ≤ 1048576) : Sz (L_szModel k x n) n x.tot := by
  unfold Model.tot at hk
  exact sz_seq h1 (L_szLayerS_z hx.2 (by omega) h1 h2) fun c0 => sz_end (by omega)
theorem L_toModel_z {k : Nat} {x : Model} (hk : x.tot < k) (hN : x.tot ≤ maxN) : L_toModel k x = some x := by
  unfold Model.tot at hk hN
  have e0 := L_toShape_z (k := k) (x := x.inp)
  have e1 := L_toLayerS_z (k := k) (xs := x.layers) (by omega) (by omega)
  unfold L_toModel
  simp only [e0, e1, bind_some']
theorem L_eqModel_z {k : Nat} {x y : Model} (hk : x.tot < k) (hN : x.tot ≤ maxN) : L_eqModel k x y = some (decide (x = y)) := by
  unfold Model.tot at hk hN
  refine (eq_o L_eqShape_z (eq_o (L_eqLayerS_z (by omega) (by omega)) (eq_end))).trans ?_
  congr 1
  rw [decide_eq_decide]
  cases x; cases y
  simp only [Model.mk.injEq, and_true]
end Go.Proofs.Ev
