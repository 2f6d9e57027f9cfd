/- The evaluator over the model's code, and that it is sound: part 6. -/
import Derived.Test.YtcgeekjfbjcofaaEvK5
set_option linter.unusedVariables false
set_option linter.unusedSimpArgs false
set_option linter.unusedVariables false
namespace Go.Proofs.Ev
theorem bind_some' {α β : Type} (a : α) (f : α → Option β) : (some a).bind f = f a := rfl
/-- A loop that looks for the first element that fails. -/
theorem all_loop {α R : Type} (xs : List α) (p : α → Bool) {g : Int → (Int → Option R) → Option R} {yes no : Option R}
    (h : ∀ (i : Nat) (hi : i < xs.length) (next : Int → Option R), g (i : Int) next = cond (p xs[i]) (next ((i + 1 : Nat) : Int)) no)
    (hn : ∀ next, g (xs.length : Int) next = yes) {k : Nat} (hk : xs.length < k) : iter g k 0 = cond (xs.all p) yes no := by
  have := iter_rec (g := g) (st := fun i => (i : Int)) (n := xs.length) (P := fun i => cond ((xs.drop i).all p) yes no) (fun i hi next e => by
    rw [h i hi next, drop_step hi, List.all_cons]
    cases hp : p xs[i]
    · rfl
    · simp only [cond_true, Bool.true_and]; exact e) (fun next => by rw [List.drop_length]; exact hn next) k 0 (Nat.zero_le _) (by omega)
  simpa using this
/-- .. its place. -/
theorem find_loop {α R : Type} (xs : List α) (p : α → Bool) {g : Int → (Int → Option R) → Option R} {yes : Option R} {no : Int → Option R}
    (h : ∀ (i : Nat) (hi : i < xs.length) (next : Int → Option R), g (i : Int) next = cond (p xs[i]) (no (i : Int)) (next ((i + 1 : Nat) : Int)))
    (hn : ∀ next, g (xs.length : Int) next = yes) {k : Nat} (hk : xs.length < k) : iter g k 0 = (xs.findIdx? p).elim yes fun i => no (i : Int) := by
  have := iter_rec (g := g) (st := fun i => (i : Int)) (n := xs.length) (P := fun i => ((xs.drop i).findIdx? p).elim yes fun j => no ((i + j : Nat) : Int)) (fun i hi next e => by
    rw [h i hi next, drop_step hi, List.findIdx?_cons]
    cases hp : p xs[i]
    · simp only [cond_false, Bool.false_eq_true, if_false]
      rw [e]
      cases (xs.drop (i + 1)).findIdx? p with
      | none => rfl
      | some j => simp only [Option.map_some, Option.elim_some]; congr 2; omega
    · simp) (fun next => by rw [List.drop_length]; simpa using hn next) k 0 (Nat.zero_le _) (by omega)
  simpa using this
/-- A loop that appends what comes of each element. -/
theorem app_loop {α β R : Type} (xs : List α) (f : α → β) {g : Int × List β → (Int × List β → Option R) → Option R} {fin : List β → Option R}
    (h : ∀ (i : Nat) (ys : List β) (hi : i < xs.length) (next : Int × List β → Option R), ys.length = i → g ((i : Int), ys) next = next (((i + 1 : Nat) : Int), ys ++ [f xs[i]]))
    (hn : ∀ ys next, g ((xs.length : Int), ys) next = fin ys) {k : Nat} (hk : xs.length < k) : iter g k (0, []) = fin (xs.map f) := by
  have := iter_run (g := g) (st := fun i => ((i : Int), (xs.take i).map f)) (n := xs.length) (r := fin (xs.map f)) (fun i hi next => by
    rw [h i _ hi next (by simp; omega), take_step hi, List.map_append]; rfl) (fun next => by rw [List.take_length]; exact hn _ _) hk
  simpa using this
/-- A loop that goes through a list with a state. -/
theorem fold_loop {α S R : Type} (xs : List α) (f : S → α → S) {g : S × Int → (S × Int → Option R) → Option R} {fin : S → Option R} (s0 : S)
    (h : ∀ (i : Nat) (s : S) (hi : i < xs.length) (next : S × Int → Option R), s = (xs.take i).foldl f s0 → g (s, (i : Int)) next = next (f s xs[i], ((i + 1 : Nat) : Int)))
    (hn : ∀ next, g (xs.foldl f s0, (xs.length : Int)) next = fin (xs.foldl f s0)) {k : Nat} (hk : xs.length < k) : iter g k (s0, 0) = fin (xs.foldl f s0) := by
  have := iter_run (g := g) (st := fun i => ((xs.take i).foldl f s0, (i : Int))) (n := xs.length) (r := fin (xs.foldl f s0)) (fun i hi next => by
    rw [h i _ hi next rfl, take_step hi, List.foldl_append]; rfl) (fun next => by
    simp only [List.take_length]; exact hn next) hk
  simpa using this
theorem mul_bd {a b A B : Int} (h1 : 0 ≤ a) (h2 : a ≤ A) (h3 : 0 ≤ b) (h4 : b ≤ B) : 0 ≤ a * b ∧ a * b ≤ A * B :=
  ⟨Int.mul_nonneg h1 h3, Int.mul_le_mul h2 h4 h3 (by omega)⟩
theorem set_map {α : Type} (xs : List α) (f : α → α) (z : α) {i : Nat} (h : i < xs.length) :
    ((xs.take i).map f ++ List.replicate (xs.length - i) z).set i (f xs[i]) = (xs.take (i + 1)).map f ++ List.replicate (xs.length - (i + 1)) z := by
  rw [List.set_append_right _ _ (by simp; omega)]
  have e : i - ((xs.take i).map f).length = 0 := by simp; omega
  rw [e, show xs.length - i = (xs.length - (i + 1)) + 1 from by omega, List.replicate_succ, List.set_cons_zero, take_step h, List.map_append, List.append_assoc]
  rfl
/-- How a list of what is copied is made, element by element. -/
theorem copy_loopF {α R : Type} (xs : List α) (z : α) {g : Int × List α → (Int × List α → Option R) → Option R} {fin : List α → Option R}
    (h : ∀ (i : Nat) (ys : List α) (hi : i < xs.length) (next : Int × List α → Option R), ys.length = xs.length → g ((i : Int), ys) next = next (((i + 1 : Nat) : Int), ys.set i xs[i]))
    (hn : ∀ ys next, g ((xs.length : Int), ys) next = fin ys) {k : Nat} (hk : xs.length < k) : iter g k (0, List.replicate xs.length z) = fin xs := copy_loop xs z h hn hk
theorem iter_ex {V R : Type} {g : V → (V → Option R) → Option R} {Inv : V → Prop} {m : V → Nat} {Q : R → Prop} (h : ∀ v, Inv v → ∀ next : V → Option R, (∀ u, Inv u → m u < m v → ∃ r, next u = some r ∧ Q r) → ∃ r, g v next = some r ∧ Q r) :
    ∀ (k : Nat) (v : V), Inv v → m v < k → ∃ r, iter g k v = some r ∧ Q r
  | 0, _, _, hk => by omega
  | k + 1, v, hv, hk => by
    rw [iter_succ]
    exact h v hv _ fun u hu hm => iter_ex h k u hu (by omega)
/-- What the counting of a size says: an answer below 0, or what is left, and then all is bounded. -/
def Sized (r n : Int) (W : Prop) : Prop := r < 0 ∨ (0 ≤ r ∧ r ≤ n ∧ W)
theorem sz_loop {α : Type} {xs : List α} {W : α → Int → Prop} (mono : ∀ x a b, a ≤ b → W x a → W x b) {f : α → Int → Option Int}
    (hs : ∀ x ∈ xs, ∀ n, 0 ≤ n → n ≤ 1048576 → ∃ r, f x n = some r ∧ Sized r n (W x n)) {g : Int × Int → (Int × Int → Option Int) → Option Int}
    (h : ∀ (i : Nat) (left : Int) (hi : i < xs.length) (next : Int × Int → Option Int), g (left, (i : Int)) next = (f xs[i] left).bind fun r => cond (decide (r < 0)) (some (-1)) (next (r, ((i + 1 : Nat) : Int))))
    (hn : ∀ left next, g (left, (xs.length : Int)) next = some left) {k : Nat} (hk : xs.length < k) {n : Int} (h1 : 0 ≤ n) (h2 : n ≤ 1048576) :
    ∃ r, iter g k (n, 0) = some r ∧ Sized r n (∀ x ∈ xs, W x n) := by
  refine iter_ex (Inv := fun v => ∃ i : Nat, v.2 = (i : Int) ∧ i ≤ xs.length ∧ 0 ≤ v.1 ∧ v.1 ≤ n ∧ ∀ x ∈ xs.take i, W x n) (m := fun v => xs.length - v.2.toNat) (fun v hv next hnext => ?_) k (n, 0) ⟨0, rfl, Nat.zero_le _, h1, Int.le_refl _, fun x hx => by simp at hx⟩ (by simpa using hk)
  obtain ⟨left, j⟩ := v
  obtain ⟨i, rfl, hi, a1, a2, a3⟩ := hv
  simp only at a1 a2
  by_cases c : i < xs.length
  · rw [h i left c next]
    obtain ⟨r, q1, q2⟩ := hs xs[i] (List.getElem_mem c) left a1 (by omega)
    rw [q1, Option.bind_some, cond_dec]
    rcases q2 with q2 | ⟨q2, q3, q4⟩
    · rw [if_pos q2]; exact ⟨-1, rfl, .inl (by omega)⟩
    · rw [if_neg (by omega)]
      refine hnext _ ⟨i + 1, rfl, by omega, q2, by simp only; omega, fun x hx => ?_⟩ (by simp only [Int.toNat_natCast]; omega)
      rw [take_step c, List.mem_append] at hx
      rcases hx with hx | hx
      · exact a3 x hx
      · simp at hx; subst hx; exact mono _ _ _ a2 q4
  · have : i = xs.length := by omega
    subst this
    rw [hn]
    exact ⟨left, rfl, .inr ⟨a1, a2, fun x hx => a3 x (by rw [List.take_length]; exact hx)⟩⟩
end Go.Proofs.Ev

set_option linter.unusedVariables false
namespace Go.Proofs.Ev
def maxL : Nat := 9223372036854775807
def okS {α : Type} (p : α → Prop) (xs : List α) : Prop := xs.length ≤ maxL ∧ ∀ x ∈ xs, p x
def okB (n : Int) : Prop := 0 ≤ n ∧ n ≤ 255
def Shape.Ok (s : Shape) : Prop := okI s.h ∧ okI s.w ∧ okI s.c
def Tensor.Ok (t : Tensor) : Prop := t.sh.Ok ∧ okS okI t.data
def Layer.Ok (l : Layer) : Prop := okI l.kind ∧ okI l.out ∧ okI l.size ∧ okI l.step ∧ okI l.mult ∧ okI l.shift ∧ okI l.zero ∧ okS okI l.weights ∧ okS okI l.bias
def Model.Ok (m : Model) : Prop := m.inp.Ok ∧ okS Layer.Ok m.layers
def Job.Ok (j : Job) : Prop := j.model.Ok ∧ okI j.at_ ∧ j.act.Ok ∧ okI j.spent
def Task.Ok (t : Task) : Prop := okI t.id ∧ okS okI t.costs ∧ okI t.at_ ∧ okI t.due ∧ okI t.born
def Sched.Ok (s : Sched) : Prop := okI s.now ∧ okI s.slack ∧ okI s.age ∧ okS Task.Ok s.tasks ∧ okI s.run ∧ okI s.left ∧ okI s.turns ∧ okI s.next
def Request.Ok (r : Request) : Prop := okI r.id ∧ okI r.model ∧ r.job.Ok ∧ okI r.due
def Runtime.Ok (r : Runtime) : Prop := r.sched.Ok ∧ okS Model.Ok r.models ∧ okS (fun _ => True) r.loaded ∧ okS Request.Ok r.requests
def Step.Ok (s : Step) : Prop := okI s.kind ∧ okI s.a ∧ okI s.b ∧ okS okB s.data ∧ s.input.Ok
def Event.Ok (e : Event) : Prop := okI e.kind ∧ okI e.a ∧ okI e.b ∧ e.out.Ok
def Entry.Ok (e : Entry) : Prop := okI e.id ∧ e.model.Ok ∧ e.input.Ok ∧ okI e.at_ ∧ okI e.due ∧ okI e.end_
def Wish.Ok (w : Wish) : Prop := okI w.id ∧ okI w.model ∧ okI w.due
theorem wf_i {n : Int} (h : (R.int .i64 n).Wf) : okI n := by
  cases h with
  | int _ _ h => simp [Lit.wf, IntKind.min, IntKind.max, IntKind.signed, IntKind.bits] at h; exact h
theorem wf_u8 {n : Int} (h : (R.int .u8 n).Wf) : okB n := by
  cases h with
  | int _ _ h => simp [Lit.wf, IntKind.min, IntKind.max, IntKind.signed, IntKind.bits] at h; exact h
theorem wf_sl {t : Ty} {xs : List t.El} {p : t.El → Prop} (h : (R.sl t xs).Wf) (hp : ∀ x ∈ xs, (∀ r ∈ t.cells x, r.Wf) → p x) : okS p xs := by
  cases h with
  | sl _ _ h hl =>
    refine ⟨by unfold maxL; unfold maxLen at hl; omega, fun x hx => hp x hx fun r hr => ?_⟩
    obtain ⟨i, hi⟩ := List.getElem?_of_mem hx
    obtain ⟨j, hj⟩ := List.getElem?_of_mem hr
    exact h i j r ⟨x, hi, hj⟩
theorem wf_ints {xs : List Int} (h : (R.ints xs).Wf) : okS okI xs := wf_sl h fun x _ hx => wf_i (hx _ (by simp [Ty.cells]))
theorem wf_bytes {xs : List Int} (h : (R.bytes xs).Wf) : okS okB xs := wf_sl h fun x _ hx => wf_u8 (hx _ (by simp [Ty.cells]))
theorem wf_shape {x : Shape} (h : ∀ r ∈ shapeC x, r.Wf) : x.Ok := by
  simp [shapeC] at h; exact ⟨wf_i h.1, wf_i h.2.1, wf_i h.2.2⟩
theorem wf_tensor {x : Tensor} (h : ∀ r ∈ tensorC x, r.Wf) : x.Ok := by
  simp [tensorC] at h; exact ⟨⟨wf_i h.1, wf_i h.2.1, wf_i h.2.2.1⟩, wf_ints h.2.2.2⟩
theorem wf_layer {x : Layer} (h : ∀ r ∈ layerC x, r.Wf) : x.Ok := by
  simp [layerC] at h
  obtain ⟨h1, h2, h3, h4, h5, h6, h7, h8, h9⟩ := h
  exact ⟨wf_i h1, wf_i h2, wf_i h3, wf_i h4, wf_i h5, wf_i h6, wf_i h7, wf_ints h8, wf_ints h9⟩
theorem wf_layers {xs : List Layer} (h : (R.sl (.st .layer) xs).Wf) : okS Layer.Ok xs := wf_sl h fun x _ hx => wf_layer hx
theorem wf_model {x : Model} (h : ∀ r ∈ modelC x, r.Wf) : x.Ok := by
  simp [modelC] at h; exact ⟨⟨wf_i h.1, wf_i h.2.1, wf_i h.2.2.1⟩, wf_layers h.2.2.2⟩
theorem wf_job {x : Job} (h : ∀ r ∈ jobC x, r.Wf) : x.Ok := by
  simp [jobC] at h
  obtain ⟨h1, h2, h3, h4, h5, h6, h7, h8, h9, h10⟩ := h
  exact ⟨⟨⟨wf_i h1, wf_i h2, wf_i h3⟩, wf_layers h4⟩, wf_i h5, ⟨⟨wf_i h6, wf_i h7, wf_i h8⟩, wf_ints h9⟩, wf_i h10⟩
theorem wf_task {x : Task} (h : ∀ r ∈ taskC x, r.Wf) : x.Ok := by
  simp [taskC] at h
  obtain ⟨h1, h2, h3, h4, h5⟩ := h
  exact ⟨wf_i h1, wf_ints h2, wf_i h3, wf_i h4, wf_i h5⟩
theorem wf_request {x : Request} (h : ∀ r ∈ requestC x, r.Wf) : x.Ok := by
  simp [requestC] at h
  obtain ⟨h1, h2, h3, h4, h5, h6, h7, h8, h9, h10, h11, h12, h13⟩ := h
  exact ⟨wf_i h1, wf_i h2, ⟨⟨⟨wf_i h3, wf_i h4, wf_i h5⟩, wf_layers h6⟩, wf_i h7, ⟨⟨wf_i h8, wf_i h9, wf_i h10⟩, wf_ints h11⟩, wf_i h12⟩, wf_i h13⟩
theorem wf_step {x : Step} (h : ∀ r ∈ stepC x, r.Wf) : x.Ok := by
  simp [stepC] at h
  obtain ⟨h1, h2, h3, h4, h5, h6, h7, h8⟩ := h
  exact ⟨wf_i h1, wf_i h2, wf_i h3, wf_bytes h4, ⟨wf_i h5, wf_i h6, wf_i h7⟩, wf_ints h8⟩
theorem wf_event {x : Event} (h : ∀ r ∈ eventC x, r.Wf) : x.Ok := by
  simp [eventC] at h
  obtain ⟨h1, h2, h3, h5, h6, h7, h8⟩ := h
  exact ⟨wf_i h1, wf_i h2, wf_i h3, ⟨wf_i h5, wf_i h6, wf_i h7⟩, wf_ints h8⟩
theorem wf_wish {x : Wish} (h : ∀ r ∈ wishC x, r.Wf) : x.Ok := by
  simp [wishC] at h; exact ⟨wf_i h.1, wf_i h.2.1, wf_i h.2.2⟩
theorem wf_shapes {xs : List Shape} (h : (R.sl (.st .shape) xs).Wf) : okS Shape.Ok xs := wf_sl h fun x _ hx => wf_shape hx
theorem wf_tensors {xs : List Tensor} (h : (R.sl (.st .tensor) xs).Wf) : okS Tensor.Ok xs := wf_sl h fun x _ hx => wf_tensor hx
theorem wf_models {xs : List Model} (h : (R.sl (.st .model) xs).Wf) : okS Model.Ok xs := wf_sl h fun x _ hx => wf_model hx
theorem wf_tasks {xs : List Task} (h : (R.sl (.st .task) xs).Wf) : okS Task.Ok xs := wf_sl h fun x _ hx => wf_task hx
theorem wf_requests {xs : List Request} (h : (R.sl (.st .request) xs).Wf) : okS Request.Ok xs := wf_sl h fun x _ hx => wf_request hx
theorem wf_steps {xs : List Step} (h : (R.sl (.st .step) xs).Wf) : okS Step.Ok xs := wf_sl h fun x _ hx => wf_step hx
theorem wf_events {xs : List Event} (h : (R.sl (.st .event) xs).Wf) : okS Event.Ok xs := wf_sl h fun x _ hx => wf_event hx
theorem wf_wishs {xs : List Wish} (h : (R.sl (.st .wish) xs).Wf) : okS Wish.Ok xs := wf_sl h fun x _ hx => wf_wish hx
theorem wf_bools {xs : List Bool} (h : (R.sl .bool xs).Wf) : okS (fun _ => True) xs := wf_sl h fun x _ _ => trivial
section
variable {P : Program} {tt : TT} {T : TypeId} {a : Arg}
def isStructB (P : Program) (T : TypeId) : Bool :=
  match P.underlying T with
  | some (.struct _) => true
  | _ => false
theorem argIs_st (s : S) (hf : flatT P tt 8 T = some s.tys) (hs : isStructB P T = true) (h : ArgIs P tt T a) : ∃ x : s.E, a = .agg (s.cells x) ∧ ∀ r ∈ s.cells x, r.Wf := by
  obtain ⟨ts, h1, h2, _⟩ := h
  rw [hf] at h1; cases h1
  obtain ⟨rs, rfl, g1, g2⟩ := h2 (by unfold isStructB at hs; split at hs <;> simp_all)
  obtain ⟨x, hx⟩ := ofCells_total (.st s) rs g1
  have := S.ofCells_spec s rs x hx
  exact ⟨x, by rw [this], by rw [this]; exact g2⟩
theorem argIs_one {t : Ty} (hf : flatT P tt 8 T = some [t]) (hs : isStructB P T = false) (h : ArgIs P tt T a) : ∃ r : R, a = .one r ∧ r.ty = t ∧ r.Wf := by
  obtain ⟨ts, h1, _, h3⟩ := h
  rw [hf] at h1; cases h1
  obtain ⟨r, rfl, g1, g2⟩ := h3 (fun fs e => by simp [isStructB, e] at hs)
  exact ⟨r, rfl, by simpa using g1, g2⟩
theorem argIs_i (hf : flatT P tt 8 T = some [.int .i64]) (hs : isStructB P T = false) (h : ArgIs P tt T a) : ∃ n : Int, a = .one (.i n) ∧ okI n := by
  obtain ⟨r, rfl, h1, h2⟩ := argIs_one hf hs h
  obtain ⟨n, rfl⟩ := inv_i h1
  exact ⟨n, rfl, wf_i h2⟩
theorem argIs_b (hf : flatT P tt 8 T = some [.bool]) (hs : isStructB P T = false) (h : ArgIs P tt T a) : ∃ n : Bool, a = .one (.bool n) := by
  obtain ⟨r, rfl, h1, h2⟩ := argIs_one hf hs h
  obtain ⟨n, rfl⟩ := inv_b h1
  exact ⟨n, rfl⟩
theorem argIs_sl {t : Ty} (hf : flatT P tt 8 T = some [.sl t]) (hs : isStructB P T = false) (h : ArgIs P tt T a) : ∃ xs : List t.El, a = .one (.sl t xs) ∧ (R.sl t xs).Wf := by
  obtain ⟨r, rfl, h1, h2⟩ := argIs_one hf hs h
  obtain ⟨n, rfl⟩ := inv_s h1
  exact ⟨n, rfl, h2⟩
theorem argIs_str (hf : flatT P tt 8 T = some [.str]) (hs : isStructB P T = false) (h : ArgIs P tt T a) : ∃ l : List UInt8, a = .one (.str l) ∧ l.length ≤ maxL := by
  obtain ⟨r, rfl, h1, h2⟩ := argIs_one hf hs h
  cases r with
  | str l => cases h2 with
    | str _ hl => exact ⟨l, rfl, by unfold maxL; unfold maxLen at hl; omega⟩
  | _ => exact nomatch h1
theorem argsAre_one {as : List Arg} {T : TypeId} (h : ArgsAre P tt [T] as) : ∃ a, as = [a] ∧ ArgIs P tt T a := by
  match as, h with
  | [a], h => exact ⟨a, rfl, h.1⟩
theorem argsAre_two {as : List Arg} {T U : TypeId} (h : ArgsAre P tt [T, U] as) : ∃ a b, as = [a, b] ∧ ArgIs P tt T a ∧ ArgIs P tt U b := by
  match as, h with
  | [a, b], h => exact ⟨a, b, rfl, h.1, h.2.1⟩
theorem argsAre_three {as : List Arg} {T U V : TypeId} (h : ArgsAre P tt [T, U, V] as) : ∃ a b c, as = [a, b, c] ∧ ArgIs P tt T a ∧ ArgIs P tt U b ∧ ArgIs P tt V c := by
  match as, h with
  | [a, b, c], h => exact ⟨a, b, c, rfl, h.1, h.2.1, h.2.2.1⟩
end
theorem pure_of_ok {P : Program} {g : FuncId} {G : PG} (h : PureOk P g G) {as : List Arg} {o : Out} (hG : G Out as some = some o) : PureCalls P g as o := by
  obtain ⟨o', h1, h2⟩ := h Out as some o hG
  cases h1; exact h2
theorem mem_one {p : TypeId → Prop} {a : TypeId} (h : p a) : ∀ t ∈ [a], p t := fun t ht => by simp at ht; subst ht; exact h
theorem all_list {p : TypeId → Bool} {l : List TypeId} (h : l.all p = true) : ∀ t ∈ l, p t = true := fun t ht => List.all_eq_true.1 h t ht
end Go.Proofs.Ev
