/- The evaluator over the model's code, and that it is sound: part 7. -/
import Derived.Test.YthaamopjdieecaaEvK6
set_option linter.unusedVariables false
set_option linter.unusedSimpArgs false
set_option linter.unusedVariables false
namespace Go.Proofs.Ev
theorem maxN_eq : maxN = 274877906944 := rfl
def Sz (r : Option Int) (n : Int) (t : Nat) : Prop := r = some (if n < (t : Int) then -1 else n - t)
theorem sz_seq {o : Option Int} {t u : Nat} {n : Int} {G : Int → Option Int} (hn : 0 ≤ n) (h : Sz o n t) (hG : (t : Int) ≤ n → Sz (G (n - t)) (n - t) u) :
    Sz (o.bind fun r => cond (decide (r < 0)) (some (-1)) (G r)) n (t + u) := by
  unfold Sz at *
  subst h
  rw [bind_some', cond_dec]
  by_cases c : n < (t : Int)
  · rw [if_pos c, if_pos (by omega), if_pos (by omega)]
  · rw [if_neg c, if_neg (by omega), hG (by omega)]
    congr 1
    split <;> split <;> omega
theorem sz_end {n : Int} (hn : 0 ≤ n) : Sz (some n) n 0 := by unfold Sz; rw [if_neg (by omega)]; simp
def totL {α : Type} (t : α → Nat) (xs : List α) : Nat := xs.length + (xs.map t).sum
theorem sum_mem {α : Type} (t : α → Nat) : ∀ {xs : List α} {x : α}, x ∈ xs → t x ≤ (xs.map t).sum
  | y :: xs, x, h => by
    simp only [List.map_cons, List.sum_cons]
    rcases List.mem_cons.1 h with rfl | h
    · omega
    · have := sum_mem t h; omega
theorem totL_mem {α : Type} (t : α → Nat) {xs : List α} {x : α} (h : x ∈ xs) : t x + 1 ≤ totL t xs := by
  have := sum_mem t h
  have := List.length_pos_of_mem h
  unfold totL; omega
theorem totL_len {α : Type} (t : α → Nat) (xs : List α) : xs.length ≤ totL t xs := by unfold totL; omega
theorem totL_zero {α : Type} (xs : List α) : totL (fun _ => 0) xs = xs.length := by
  unfold totL
  induction xs with
  | nil => rfl
  | cons x xs ih => simp only [List.map_cons, List.sum_cons, List.length_cons] at *; omega
theorem totL_cons {α : Type} (t : α → Nat) (x : α) (xs : List α) : totL t (x :: xs) = t x + 1 + totL t xs := by simp [totL]; omega
theorem totL_append {α : Type} (t : α → Nat) (xs ys : List α) : totL t (xs ++ ys) = totL t xs + totL t ys := by simp [totL]; omega
theorem sz_list {α : Type} {t : α → Nat} {f : α → Int → Option Int} {xs : List α} {g : Int × Int → (Int × Int → Option Int) → Option Int} {k : Nat} {n : Int} (hx : xs.length ≤ 9223372036854775807)
    (hs : ∀ x ∈ xs, ∀ n, 0 ≤ n → n ≤ 1048576 → Sz (f x n) n (t x))
    (h : ∀ (i : Nat) (left : Int) (hi : i < xs.length) (next : Int × Int → Option Int), g (left, (i : Int)) next = (f xs[i] left).bind fun r => cond (decide (r < 0)) (some (-1)) (next (r, IntKind.i64.wrap ((i : Int) + 1))))
    (hn : ∀ left next, g (left, (xs.length : Int)) next = some left) (hk : xs.length < k) (h1 : 0 ≤ n) (h2 : n ≤ 1048576) :
    Sz (cond (decide (IntKind.i64.wrap (n - (xs.length : Int)) < (0 : Int))) (some (-1)) (iter g k (IntKind.i64.wrap (n - (xs.length : Int)), (0 : Int)))) n (totL t xs) := by
  unfold Sz totL
  rw [wrapI (by omega) (by omega), cond_dec]
  by_cases c : n - xs.length < 0
  · rw [if_pos c, if_pos (by omega)]
  rw [if_neg c]
  have := iter_ind (g := g) (Inv := fun v => ∃ i : Nat, v.2 = (i : Int) ∧ i ≤ xs.length ∧ 0 ≤ v.1 ∧ v.1 ≤ 1048576) (m := fun v => xs.length - v.2.toNat)
    (P := fun v => some (if v.1 < (((xs.drop v.2.toNat).map t).sum : Int) then -1 else v.1 - ((xs.drop v.2.toNat).map t).sum)) (fun v hv next hnext => by
      obtain ⟨left, j⟩ := v
      obtain ⟨i, rfl, hi, a1, a2⟩ := hv
      simp only at a1 a2 ⊢
      simp only [Int.toNat_natCast] at hnext ⊢
      by_cases c : i < xs.length
      · rw [h i left c next, hs _ (List.getElem_mem c) left a1 a2, bind_some', cond_dec, drop_step c, List.map_cons, List.sum_cons]
        by_cases c2 : left < (t xs[i] : Int)
        · rw [if_pos c2, if_pos (by omega), if_pos (by omega)]
        · rw [if_neg c2, if_neg (by omega), wrapNat1 c hx, hnext _ ⟨i + 1, rfl, by omega, by simp only; omega, by simp only; omega⟩ (by simp only [Int.toNat_natCast]; omega)]
          simp only [Int.toNat_natCast]
          congr 1
          split <;> split <;> omega
      · have : i = xs.length := by omega
        subst this
        rw [hn]
        simp only [List.drop_length, List.map_nil, List.sum_nil]
        rw [if_neg (by omega)]; simp) k (n - xs.length, 0) ⟨0, rfl, by omega, by simp only; omega, by simp only; omega⟩ (by simp; omega)
  rw [this]
  simp only [Int.toNat_zero, List.drop_zero]
  congr 1
  split <;> split <;> omega
theorem to_list {α : Type} (xs : List α) (z : α) {f : α → Option α} {g : Int × List α → (Int × List α → Option (List α)) → Option (List α)} {k : Nat} (hl : xs.length ≤ maxN) (hf : ∀ x ∈ xs, f x = some x)
    (h : ∀ (i : Nat) (ys : List α) (hi : i < xs.length) (next : Int × List α → Option (List α)), g ((i : Int), ys) next = (f xs[i]).bind fun r => cond (decide (0 ≤ (i : Int) ∧ (i : Int) < (ys.length : Int))) (next (IntKind.i64.wrap ((i : Int) + 1), ys.set (i : Int).toNat r)) none)
    (hn : ∀ ys next, g ((xs.length : Int), ys) next = some ys) (hk : xs.length < k) :
    cond (decide (0 ≤ (xs.length : Int) ∧ (xs.length : Int) ≤ (xs.length : Int) ∧ (xs.length : Int) ≤ (maxN : Int))) (iter g k ((0 : Int), List.replicate ((xs.length : Int).toNat) z)) none = some xs := by
  rw [maxN_eq] at hl
  rw [cond_dec, if_pos (by rw [maxN_eq]; omega)]
  exact copy_loop xs z (fin := some) (fun i ys hi next hly => by
    rw [h i ys hi next, hf _ (List.getElem_mem hi), bind_some', cond_dec, if_pos (by omega), wrapNat1 hi (by omega), Int.toNat_natCast]) hn hk
theorem eq_i {a b : Int} {G : Option Bool} {Q : Prop} [Decidable Q] (h : G = some (decide Q)) : cond (a != b) (some false) G = some (decide (a = b ∧ Q)) := by
  rw [cond_bne, h]
  by_cases c : a = b <;> simp [c]
theorem eq_o {o : Option Bool} {P : Prop} [Decidable P] {G : Option Bool} {Q : Prop} [Decidable Q] (h1 : o = some (decide P)) (h : G = some (decide Q)) : (o.bind fun r => cond (!r) (some false) G) = some (decide (P ∧ Q)) := by
  rw [h1, h, bind_some']
  by_cases c : P <;> simp [c]
theorem eq_end : (some true) = some (decide True) := rfl
theorem eq_list {α : Type} [DecidableEq α] {xs ys : List α} {f : α → α → Option Bool} {g : Int → (Int → Option Bool) → Option Bool} {k : Nat} (hx : xs.length ≤ 9223372036854775807) (hf : ∀ x ∈ xs, ∀ y, f x y = some (decide (x = y)))
    (h : ∀ (i : Nat) (hi : i < xs.length) (hi' : i < ys.length) (next : Int → Option Bool), g (i : Int) next = (f xs[i] ys[i]).bind fun r => cond (!r) (some false) (next (IntKind.i64.wrap ((i : Int) + 1))))
    (hn : ∀ next, g (xs.length : Int) next = some true) (hk : xs.length < k) : cond ((xs.length : Int) != (ys.length : Int)) (some false) (iter g k (0 : Int)) = some (decide (xs = ys)) := by
  rw [cond_bne]
  by_cases c : xs.length = ys.length
  · rw [if_pos (by omega)]
    rw [same_loop xs ys c (yes := some true) (no := some false) (fun i hi hi' next => by
      rw [h i hi hi' next, hf _ (List.getElem_mem hi), bind_some', wrapNat1 hi hx]
      by_cases e : xs[i] = ys[i] <;> simp [e]) hn hk]
    split <;> simp [*]
  · rw [if_neg (by omega), decide_eq_false (fun e => c (by rw [e]))]
def bigB : Int := 4611686018427387904
theorem mark_list {α R : Type} {t : α → Nat} {g : Int × Int × List α → (Int × Int × List α → Option R) → Option R} {fin : Int × List α → Option R} {hd : List α → Int × Int → (Int × Int → Option Int) → Option Int} {N : Nat}
    (hg : ∀ (m : Int) (ys : List α) next, ys.length = N → g (m, (ys.length : Int), ys) next = fin (m, ys)) (hh : ∀ (ys : List α) (m : Int) next, ys.length = N → hd ys (m, (ys.length : Int)) next = some m) :
    ∀ (rest pre : List α) (m : Int) (k : Nat), pre.length + rest.length = N → rest.length < k → 0 ≤ m → m + 16 * totL t rest ≤ bigB →
    (∀ x ∈ rest, ∀ m : Int, 0 ≤ m → m + 16 * (t x + 1) ≤ bigB → ∃ r y, m ≤ r ∧ r ≤ m + 16 * (t x + 1) ∧
      (∀ (i : Nat) (ys : List α) next, ys.length = N → i < N → ys[i]? = some x → g (m, (i : Int), ys) next = next (r, (i : Int) + 1, ys.set i y)) ∧
      (∀ (i : Nat) (ys : List α) next, ys.length = N → i < N → ys[i]? = some y → hd ys (m, (i : Int)) next = next (r, (i : Int) + 1))) →
    ∃ r out, out.length = rest.length ∧ iter g k (m, (pre.length : Int), pre ++ rest) = fin (r, pre ++ out) ∧ m ≤ r ∧ r ≤ m + 16 * totL t rest ∧ ∀ k', rest.length < k' → iter (hd (pre ++ out)) k' (m, (pre.length : Int)) = some r
  | [], pre, m, 0, hN, hk, hm, hB, hs => by omega
  | _ :: _, pre, m, 0, hN, hk, hm, hB, hs => by omega
  | [], pre, m, k + 1, hN, hk, hm, hB, hs => by
    refine ⟨m, [], rfl, ?_, Int.le_refl _, by omega, fun k' hk' => ?_⟩
    · rw [iter_succ, List.append_nil]
      exact hg m pre _ (by simpa using hN)
    · cases k' with
      | zero => simp at hk'
      | succ k' =>
        rw [iter_succ, List.append_nil]
        exact hh pre m _ (by simpa using hN)
  | x :: rest, pre, m, k + 1, hN, hk, hm, hB, hs => by
    rw [totL_cons] at hB
    simp only [List.length_cons] at hN hk
    obtain ⟨r1, y, a1, a2, a3, a4⟩ := hs x (by simp) m hm (by omega)
    obtain ⟨r, out, b1, b2, b3, b4, b5⟩ := mark_list hg hh rest (pre ++ [y]) r1 k (by simp; omega) (by omega) (by omega) (by omega) fun z hz => hs z (by simp [hz])
    have e1 : ((pre ++ [y]).length : Int) = (pre.length : Int) + 1 := by simp
    have e2 : ∀ l, (pre ++ [y]) ++ l = pre ++ y :: l := fun l => by simp
    rw [e1] at b2 b5
    rw [e2] at b2
    rw [e2] at b5
    rw [e2] at b2
    refine ⟨r, y :: out, by simp [b1], ?_, by omega, by rw [totL_cons]; omega, fun k' hk' => ?_⟩
    · rw [iter_succ, a3 pre.length _ _ (by simp; omega) (by omega) (by simp), List.set_append_right _ _ (by omega), Nat.sub_self, List.set_cons_zero]
      exact b2
    · cases k' with
      | zero => simp at hk'
      | succ k' =>
        rw [iter_succ, a4 pre.length _ _ (by simp; omega) (by omega) (by simp)]
        exact b5 k' (by simp at hk'; omega)
end Go.Proofs.Ev

set_option linter.unusedVariables false
namespace Go.Proofs.Ev
variable [Tok]
set_option linter.unusedSectionVars false
def maxL : Nat := 9223372036854775807
def okS {α : Type} (p : α → Prop) (xs : List α) : Prop := xs.length ≤ maxL ∧ ∀ x ∈ xs, p x
def okB (n : Int) : Prop := 0 ≤ n ∧ n ≤ 255
def Shape.Ok (s : Shape) : Prop := okI s.h ∧ okI s.w ∧ okI s.c
def Tensor.Ok (t : Tensor) : Prop := t.sh.Ok ∧ okS okI t.data
def Layer.Ok (l : Layer) : Prop := okI l.kind ∧ okI l.out ∧ okI l.size ∧ okI l.step ∧ okI l.mult ∧ okI l.shift ∧ okI l.zero ∧ okS okI l.weights ∧ okS okI l.bias
def Model.Ok (m : Model) : Prop := m.inp.Ok ∧ okS Layer.Ok m.layers
def Job.Ok (j : Job) : Prop := j.model.Ok ∧ okI j.at_ ∧ j.act.Ok ∧ okI j.spent
def Task.Ok (t : Task) : Prop := okI t.id ∧ okS okI t.costs ∧ okI t.at_ ∧ okI t.due ∧ okI t.born
def Sched.Ok (s : Sched) : Prop := okI s.now ∧ okI s.slack ∧ okI s.age ∧ okS Task.Ok s.tasks ∧ okI s.run ∧ okI s.left ∧ okI s.turns ∧ okI s.next
def Request.Ok (r : Request) : Prop := okI r.id ∧ okI r.model ∧ r.job.Ok ∧ okI r.due
def Runtime.Ok (r : Runtime) : Prop := r.sched.Ok ∧ okS Model.Ok r.models ∧ okS (fun _ => True) r.loaded ∧ okS Request.Ok r.requests
def Step.Ok (s : Step) : Prop := okI s.kind ∧ okI s.a ∧ okI s.b ∧ okS okB s.data ∧ s.input.Ok
def Event.Ok (e : Event) : Prop := okI e.kind ∧ okI e.a ∧ okI e.b ∧ e.out.Ok
def Entry.Ok (e : Entry) : Prop := okI e.id ∧ e.model.Ok ∧ e.input.Ok ∧ okI e.at_ ∧ okI e.due ∧ okI e.end_
def Wish.Ok (w : Wish) : Prop := okI w.id ∧ okI w.model ∧ okI w.due
theorem wf_i {n : Int} (h : (R.int .i64 n).Wf) : okI n := by
  cases h with
  | int _ _ h => simp [Lit.wf, IntKind.min, IntKind.max, IntKind.signed, IntKind.bits] at h; exact h
theorem wf_sl {t : Ty} {xs : List t.El} {p : t.El → Prop} (h : (R.sl t xs).Wf) (hp : ∀ x ∈ xs, (∀ r ∈ t.cells x, r.Wf) → p x) : okS p xs := by
  cases h with
  | sl _ _ h hl =>
    refine ⟨by unfold maxL; unfold maxLen at hl; omega, fun x hx => hp x hx fun r hr => ?_⟩
    obtain ⟨i, hi⟩ := List.getElem?_of_mem hx
    obtain ⟨j, hj⟩ := List.getElem?_of_mem hr
    exact h i j r ⟨x, hi, hj⟩
theorem wf_ints {xs : List Int} (h : (R.ints xs).Wf) : okS okI xs := wf_sl h fun x _ hx => wf_i (hx _ (by simp [Ty.cells]))
theorem wf_layer {x : Layer} (h : ∀ r ∈ layerC x, r.Wf) : x.Ok := by
  simp [layerC] at h
  obtain ⟨h1, h2, h3, h4, h5, h6, h7, h8, h9⟩ := h
  exact ⟨wf_i h1, wf_i h2, wf_i h3, wf_i h4, wf_i h5, wf_i h6, wf_i h7, wf_ints h8, wf_ints h9⟩
theorem wf_layers {xs : List Layer} (h : (R.sl (.st .layer) xs).Wf) : okS Layer.Ok xs := wf_sl h fun x _ hx => wf_layer hx
theorem wf_model {x : Model} (h : ∀ r ∈ modelC x, r.Wf) : x.Ok := by
  simp [modelC] at h; exact ⟨⟨wf_i h.1, wf_i h.2.1, wf_i h.2.2.1⟩, wf_layers h.2.2.2⟩
section
variable {P : Program} {tt : TT} {T : TypeId} {a : Arg}
def isStructB (P : Program) (T : TypeId) : Bool :=
  match P.underlying T with
  | some (.struct _) => true
  | _ => false
theorem argIs_st (s : S) (hf : flatT P tt 8 T = some s.tys) (hs : isStructB P T = true) (h : ArgIs P tt T a) : ∃ x : s.E, a = .agg (s.cells x) ∧ ∀ r ∈ s.cells x, r.Wf := by
  obtain ⟨ts, h1, h2, _⟩ := h
  rw [hf] at h1; cases h1
  obtain ⟨rs, rfl, g1, g2⟩ := h2 (by unfold isStructB at hs; split at hs <;> simp_all)
  obtain ⟨x, hx⟩ := ofCells_total (.st s) rs g1
  have := S.ofCells_spec s rs x hx
  exact ⟨x, by rw [this], by rw [this]; exact g2⟩
theorem argsAre_two {as : List Arg} {T U : TypeId} (h : ArgsAre P tt [T, U] as) : ∃ a b, as = [a, b] ∧ ArgIs P tt T a ∧ ArgIs P tt U b := by
  match as, h with
  | [a, b], h => exact ⟨a, b, rfl, h.1, h.2.1⟩
end
theorem pure_of_ok {P : Program} {g : FuncId} {G : PG} (h : PureOk P g G) {as : List Arg} {o : Out} (hG : G Out as some = some o) : PureCalls P g as o := by
  obtain ⟨o', h1, h2⟩ := h Out as some o hG
  cases h1; exact h2
theorem all_list {p : TypeId → Bool} {l : List TypeId} (h : l.all p = true) : ∀ t ∈ l, p t = true := fun t ht => List.all_eq_true.1 h t ht
end Go.Proofs.Ev

set_option linter.unusedVariables false
namespace Go.Proofs.Ev
variable [Tok]
set_option linter.unusedSectionVars false
section
variable {P : Program} {tt : TT} {T : TypeId} {a : Arg}
end
end Go.Proofs.Ev
