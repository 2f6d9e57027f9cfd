/- The evaluator over the model's code, and that it is sound: part 6. -/
import Derived.Test.YtcgeekjfbjcofaaEvK5
set_option linter.unusedVariables false
set_option linter.unusedSimpArgs false
set_option linter.unusedVariables false
namespace Go.Proofs.Ev
def maxL : Nat := 9223372036854775807
def okS {α : Type} (p : α → Prop) (xs : List α) : Prop := xs.length ≤ maxL ∧ ∀ x ∈ xs, p x
def okB (n : Int) : Prop := 0 ≤ n ∧ n ≤ 255
def Shape.Ok (s : Shape) : Prop := okI s.h ∧ okI s.w ∧ okI s.c
def Tensor.Ok (t : Tensor) : Prop := t.sh.Ok ∧ okS okI t.data
def Layer.Ok (l : Layer) : Prop := okI l.kind ∧ okI l.out ∧ okI l.size ∧ okI l.step ∧ okI l.mult ∧ okI l.shift ∧ okI l.zero ∧ okS okI l.weights ∧ okS okI l.bias
def Model.Ok (m : Model) : Prop := m.inp.Ok ∧ okS Layer.Ok m.layers
def Job.Ok (j : Job) : Prop := j.model.Ok ∧ okI j.at_ ∧ j.act.Ok ∧ okI j.spent
def Task.Ok (t : Task) : Prop := okI t.id ∧ okS okI t.costs ∧ okI t.at_ ∧ okI t.due ∧ okI t.born
def Sched.Ok (s : Sched) : Prop := okI s.now ∧ okI s.slack ∧ okI s.age ∧ okS Task.Ok s.tasks ∧ okI s.run ∧ okI s.left ∧ okI s.turns ∧ okI s.next
def Request.Ok (r : Request) : Prop := okI r.id ∧ okI r.model ∧ r.job.Ok ∧ okI r.due
def Runtime.Ok (r : Runtime) : Prop := r.sched.Ok ∧ okS Model.Ok r.models ∧ okS (fun _ => True) r.loaded ∧ okS Request.Ok r.requests
def Step.Ok (s : Step) : Prop := okI s.kind ∧ okI s.a ∧ okI s.b ∧ okS okB s.data ∧ s.input.Ok
def Event.Ok (e : Event) : Prop := okI e.kind ∧ okI e.a ∧ okI e.b ∧ e.out.Ok
def Entry.Ok (e : Entry) : Prop := okI e.id ∧ e.model.Ok ∧ e.input.Ok ∧ okI e.at_ ∧ okI e.due ∧ okI e.end_
def Wish.Ok (w : Wish) : Prop := okI w.id ∧ okI w.model ∧ okI w.due
theorem wf_i {n : Int} (h : (R.int .i64 n).Wf) : okI n := by
  cases h with
  | int _ _ h => simp [Lit.wf, IntKind.min, IntKind.max, IntKind.signed, IntKind.bits] at h; exact h
theorem wf_u8 {n : Int} (h : (R.int .u8 n).Wf) : okB n := by
  cases h with
  | int _ _ h => simp [Lit.wf, IntKind.min, IntKind.max, IntKind.signed, IntKind.bits] at h; exact h
theorem wf_sl {t : Ty} {xs : List t.El} {p : t.El → Prop} (h : (R.sl t xs).Wf) (hp : ∀ x ∈ xs, (∀ r ∈ t.cells x, r.Wf) → p x) : okS p xs := by
  cases h with
  | sl _ _ h hl =>
    refine ⟨by unfold maxL; unfold maxLen at hl; omega, fun x hx => hp x hx fun r hr => ?_⟩
    obtain ⟨i, hi⟩ := List.getElem?_of_mem hx
    obtain ⟨j, hj⟩ := List.getElem?_of_mem hr
    exact h i j r ⟨x, hi, hj⟩
theorem wf_ints {xs : List Int} (h : (R.ints xs).Wf) : okS okI xs := wf_sl h fun x _ hx => wf_i (hx _ (by simp [Ty.cells]))
theorem wf_bytes {xs : List Int} (h : (R.bytes xs).Wf) : okS okB xs := wf_sl h fun x _ hx => wf_u8 (hx _ (by simp [Ty.cells]))
theorem wf_shape {x : Shape} (h : ∀ r ∈ shapeC x, r.Wf) : x.Ok := by
  simp [shapeC] at h; exact ⟨wf_i h.1, wf_i h.2.1, wf_i h.2.2⟩
theorem wf_tensor {x : Tensor} (h : ∀ r ∈ tensorC x, r.Wf) : x.Ok := by
  simp [tensorC] at h; exact ⟨⟨wf_i h.1, wf_i h.2.1, wf_i h.2.2.1⟩, wf_ints h.2.2.2⟩
theorem wf_layer {x : Layer} (h : ∀ r ∈ layerC x, r.Wf) : x.Ok := by
  simp [layerC] at h
  obtain ⟨h1, h2, h3, h4, h5, h6, h7, h8, h9⟩ := h
  exact ⟨wf_i h1, wf_i h2, wf_i h3, wf_i h4, wf_i h5, wf_i h6, wf_i h7, wf_ints h8, wf_ints h9⟩
theorem wf_layers {xs : List Layer} (h : (R.sl (.st .layer) xs).Wf) : okS Layer.Ok xs := wf_sl h fun x _ hx => wf_layer hx
theorem wf_model {x : Model} (h : ∀ r ∈ modelC x, r.Wf) : x.Ok := by
  simp [modelC] at h; exact ⟨⟨wf_i h.1, wf_i h.2.1, wf_i h.2.2.1⟩, wf_layers h.2.2.2⟩
theorem wf_job {x : Job} (h : ∀ r ∈ jobC x, r.Wf) : x.Ok := by
  simp [jobC] at h
  obtain ⟨h1, h2, h3, h4, h5, h6, h7, h8, h9, h10⟩ := h
  exact ⟨⟨⟨wf_i h1, wf_i h2, wf_i h3⟩, wf_layers h4⟩, wf_i h5, ⟨⟨wf_i h6, wf_i h7, wf_i h8⟩, wf_ints h9⟩, wf_i h10⟩
theorem wf_task {x : Task} (h : ∀ r ∈ taskC x, r.Wf) : x.Ok := by
  simp [taskC] at h
  obtain ⟨h1, h2, h3, h4, h5⟩ := h
  exact ⟨wf_i h1, wf_ints h2, wf_i h3, wf_i h4, wf_i h5⟩
theorem wf_request {x : Request} (h : ∀ r ∈ requestC x, r.Wf) : x.Ok := by
  simp [requestC] at h
  obtain ⟨h1, h2, h3, h4, h5, h6, h7, h8, h9, h10, h11, h12, h13⟩ := h
  exact ⟨wf_i h1, wf_i h2, ⟨⟨⟨wf_i h3, wf_i h4, wf_i h5⟩, wf_layers h6⟩, wf_i h7, ⟨⟨wf_i h8, wf_i h9, wf_i h10⟩, wf_ints h11⟩, wf_i h12⟩, wf_i h13⟩
theorem wf_step {x : Step} (h : ∀ r ∈ stepC x, r.Wf) : x.Ok := by
  simp [stepC] at h
  obtain ⟨h1, h2, h3, h4, h5, h6, h7, h8⟩ := h
  exact ⟨wf_i h1, wf_i h2, wf_i h3, wf_bytes h4, ⟨wf_i h5, wf_i h6, wf_i h7⟩, wf_ints h8⟩
theorem wf_event {x : Event} (h : ∀ r ∈ eventC x, r.Wf) : x.Ok := by
  simp [eventC] at h
  obtain ⟨h1, h2, h3, h5, h6, h7, h8⟩ := h
  exact ⟨wf_i h1, wf_i h2, wf_i h3, ⟨wf_i h5, wf_i h6, wf_i h7⟩, wf_ints h8⟩
theorem wf_wish {x : Wish} (h : ∀ r ∈ wishC x, r.Wf) : x.Ok := by
  simp [wishC] at h; exact ⟨wf_i h.1, wf_i h.2.1, wf_i h.2.2⟩
section
variable {P : Program} {tt : TT} {T : TypeId} {a : Arg}
def isStructB (P : Program) (T : TypeId) : Bool :=
  match P.underlying T with
  | some (.struct _) => true
  | _ => false
theorem argIs_st (s : S) (hf : flatT P tt 8 T = some s.tys) (hs : isStructB P T = true) (h : ArgIs P tt T a) : ∃ x : s.E, a = .agg (s.cells x) ∧ ∀ r ∈ s.cells x, r.Wf := by
  obtain ⟨ts, h1, h2, _⟩ := h
  rw [hf] at h1; cases h1
  obtain ⟨rs, rfl, g1, g2⟩ := h2 (by unfold isStructB at hs; split at hs <;> simp_all)
  obtain ⟨x, hx⟩ := ofCells_total (.st s) rs g1
  have := S.ofCells_spec s rs x hx
  exact ⟨x, by rw [this], by rw [this]; exact g2⟩
theorem argIs_one {t : Ty} (hf : flatT P tt 8 T = some [t]) (hs : isStructB P T = false) (h : ArgIs P tt T a) : ∃ r : R, a = .one r ∧ r.ty = t ∧ r.Wf := by
  obtain ⟨ts, h1, _, h3⟩ := h
  rw [hf] at h1; cases h1
  obtain ⟨r, rfl, g1, g2⟩ := h3 (fun fs e => by simp [isStructB, e] at hs)
  exact ⟨r, rfl, by simpa using g1, g2⟩
theorem argIs_i (hf : flatT P tt 8 T = some [.int .i64]) (hs : isStructB P T = false) (h : ArgIs P tt T a) : ∃ n : Int, a = .one (.i n) ∧ okI n := by
  obtain ⟨r, rfl, h1, h2⟩ := argIs_one hf hs h
  obtain ⟨n, rfl⟩ := inv_i h1
  exact ⟨n, rfl, wf_i h2⟩
theorem argIs_b (hf : flatT P tt 8 T = some [.bool]) (hs : isStructB P T = false) (h : ArgIs P tt T a) : ∃ n : Bool, a = .one (.bool n) := by
  obtain ⟨r, rfl, h1, h2⟩ := argIs_one hf hs h
  obtain ⟨n, rfl⟩ := inv_b h1
  exact ⟨n, rfl⟩
theorem argIs_sl {t : Ty} (hf : flatT P tt 8 T = some [.sl t]) (hs : isStructB P T = false) (h : ArgIs P tt T a) : ∃ xs : List t.El, a = .one (.sl t xs) ∧ (R.sl t xs).Wf := by
  obtain ⟨r, rfl, h1, h2⟩ := argIs_one hf hs h
  obtain ⟨n, rfl⟩ := inv_s h1
  exact ⟨n, rfl, h2⟩
theorem argIs_str (hf : flatT P tt 8 T = some [.str]) (hs : isStructB P T = false) (h : ArgIs P tt T a) : ∃ l : List UInt8, a = .one (.str l) ∧ l.length ≤ maxL := by
  obtain ⟨r, rfl, h1, h2⟩ := argIs_one hf hs h
  cases r with
  | str l => cases h2 with
    | str _ hl => exact ⟨l, rfl, by unfold maxL; unfold maxLen at hl; omega⟩
  | _ => exact nomatch h1
theorem argsAre_one {as : List Arg} {T : TypeId} (h : ArgsAre P tt [T] as) : ∃ a, as = [a] ∧ ArgIs P tt T a := by
  match as, h with
  | [a], h => exact ⟨a, rfl, h.1⟩
theorem argsAre_two {as : List Arg} {T U : TypeId} (h : ArgsAre P tt [T, U] as) : ∃ a b, as = [a, b] ∧ ArgIs P tt T a ∧ ArgIs P tt U b := by
  match as, h with
  | [a, b], h => exact ⟨a, b, rfl, h.1, h.2.1⟩
theorem argsAre_three {as : List Arg} {T U V : TypeId} (h : ArgsAre P tt [T, U, V] as) : ∃ a b c, as = [a, b, c] ∧ ArgIs P tt T a ∧ ArgIs P tt U b ∧ ArgIs P tt V c := by
  match as, h with
  | [a, b, c], h => exact ⟨a, b, c, rfl, h.1, h.2.1, h.2.2.1⟩
end
theorem pure_of_ok {P : Program} {g : FuncId} {G : PG} (h : PureOk P g G) {as : List Arg} {o : Out} (hG : G Out as some = some o) : PureCalls P g as o := by
  obtain ⟨o', h1, h2⟩ := h Out as some o hG
  cases h1; exact h2
theorem mem_one {p : TypeId → Prop} {a : TypeId} (h : p a) : ∀ t ∈ [a], p t := fun t ht => by simp at ht; subst ht; exact h
theorem all_list {p : TypeId → Bool} {l : List TypeId} (h : l.all p = true) : ∀ t ∈ l, p t = true := fun t ht => List.all_eq_true.1 h t ht
end Go.Proofs.Ev
