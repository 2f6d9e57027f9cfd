/- The typed values of the program: its structs, the types of slice elements, read-only values. -/
import Derived.Calls
set_option linter.unusedVariables false
set_option linter.unusedSimpArgs false
namespace Go.Proofs.Ev
structure Shape where
  h : Int
  w : Int
  c : Int
  deriving DecidableEq
structure Tensor where
  sh : Shape
  data : List Int
  deriving DecidableEq
structure Layer where
  kind : Int
  out : Int
  size : Int
  step : Int
  mult : Int
  shift : Int
  zero : Int
  weights : List Int
  bias : List Int
  deriving DecidableEq
structure Model where
  inp : Shape
  layers : List Layer
  deriving DecidableEq
structure Job where
  model : Model
  at_ : Int
  act : Tensor
  spent : Int
  deriving DecidableEq
structure Task where
  id : Int
  costs : List Int
  at_ : Int
  due : Int
  born : Int
  deriving DecidableEq
structure Sched where
  now : Int
  slack : Int
  age : Int
  tasks : List Task
  run : Int
  left : Int
  turns : Int
  next : Int
  deriving DecidableEq
structure Request where
  id : Int
  model : Int
  job : Job
  due : Int
  deriving DecidableEq
structure Runtime where
  sched : Sched
  models : List Model
  loaded : List Bool
  requests : List Request
  deriving DecidableEq
structure Step where
  kind : Int
  a : Int
  b : Int
  data : List Int
  input : Tensor
  deriving DecidableEq
structure Event where
  kind : Int
  a : Int
  b : Int
  out : Tensor
  deriving DecidableEq
structure Entry where
  id : Int
  model : Model
  input : Tensor
  at_ : Int
  due : Int
  end_ : Int
  done : Bool
  deriving DecidableEq
structure Wish where
  id : Int
  model : Int
  due : Int
  deriving DecidableEq

/-- The structs that stand in slices. -/
inductive S where
  | shape | tensor | layer | model | task | request | step | event | entry | wish
  deriving DecidableEq
inductive Ty where
  | int (k : IntKind) | bool | str | sl (t : Ty) | st (s : S)
  deriving DecidableEq
def S.E : S → Type
  | .shape => Shape | .tensor => Tensor | .layer => Layer | .model => Model | .task => Task | .request => Request
  | .step => Step | .event => Event | .entry => Entry | .wish => Wish
def Ty.El : Ty → Type
  | .int _ => Int
  | .bool => Bool
  | .str => List UInt8
  | .sl t => List t.El
  | .st s => s.E
/-- A read-only value of one cell. -/
inductive R where
  | int (k : IntKind) (n : Int)
  | bool (b : Bool)
  | str (l : List UInt8)
  | sl (t : Ty) (xs : List t.El)
abbrev R.i (n : Int) : R := .int .i64 n
abbrev R.ints (xs : List Int) : R := .sl (.int .i64) xs
abbrev R.bytes (xs : List Int) : R := .sl (.int .u8) xs
def shapeC (x : Shape) : List R := [.i x.h, .i x.w, .i x.c]
def tensorC (x : Tensor) : List R := [.i x.sh.h, .i x.sh.w, .i x.sh.c, .ints x.data]
def layerC (x : Layer) : List R := [.i x.kind, .i x.out, .i x.size, .i x.step, .i x.mult, .i x.shift, .i x.zero, .ints x.weights, .ints x.bias]
def modelC (x : Model) : List R := [.i x.inp.h, .i x.inp.w, .i x.inp.c, .sl (.st .layer) x.layers]
def jobC (x : Job) : List R := [.i x.model.inp.h, .i x.model.inp.w, .i x.model.inp.c, .sl (.st .layer) x.model.layers, .i x.at_, .i x.act.sh.h, .i x.act.sh.w, .i x.act.sh.c, .ints x.act.data, .i x.spent]
def taskC (x : Task) : List R := [.i x.id, .ints x.costs, .i x.at_, .i x.due, .i x.born]
def requestC (x : Request) : List R := [.i x.id, .i x.model, .i x.job.model.inp.h, .i x.job.model.inp.w, .i x.job.model.inp.c, .sl (.st .layer) x.job.model.layers, .i x.job.at_, .i x.job.act.sh.h, .i x.job.act.sh.w, .i x.job.act.sh.c, .ints x.job.act.data, .i x.job.spent, .i x.due]
def stepC (x : Step) : List R := [.i x.kind, .i x.a, .i x.b, .bytes x.data, .i x.input.sh.h, .i x.input.sh.w, .i x.input.sh.c, .ints x.input.data]
def eventC (x : Event) : List R := [.i x.kind, .i x.a, .i x.b, .i x.out.sh.h, .i x.out.sh.w, .i x.out.sh.c, .ints x.out.data]
def entryC (x : Entry) : List R := [.i x.id, .i x.model.inp.h, .i x.model.inp.w, .i x.model.inp.c, .sl (.st .layer) x.model.layers, .i x.input.sh.h, .i x.input.sh.w, .i x.input.sh.c, .ints x.input.data, .i x.at_, .i x.due, .i x.end_, .bool x.done]
def wishC (x : Wish) : List R := [.i x.id, .i x.model, .i x.due]
def S.sz : S → Nat
  | .shape => 3 | .tensor => 4 | .layer => 9 | .model => 4 | .task => 5 | .request => 13 | .step => 8 | .event => 7 | .entry => 13 | .wish => 3
def S.cells : (s : S) → s.E → List R
  | .shape => shapeC | .tensor => tensorC | .layer => layerC | .model => modelC | .task => taskC | .request => requestC
  | .step => stepC | .event => eventC | .entry => entryC | .wish => wishC
def Ty.sz : Ty → Nat
  | .st s => s.sz
  | _ => 1
def Ty.cells : (t : Ty) → t.El → List R
  | .int k, n => [.int k n]
  | .bool, b => [.bool b]
  | .str, l => [.str l]
  | .sl t, xs => [.sl t xs]
  | .st s, x => s.cells x
theorem Ty.cells_length (t : Ty) (x : t.El) : (t.cells x).length = t.sz := by
  cases t with
  | st s => cases s <;> rfl
  | _ => rfl
theorem Ty.sz_pos (t : Ty) : 0 < t.sz := by
  cases t with
  | st s => cases s <;> simp [Ty.sz, S.sz]
  | _ => simp [Ty.sz]
def R.asI : R → Option Int
  | .int .i64 n => some n
  | _ => none
def R.asB : R → Option Bool
  | .bool b => some b
  | _ => none
def R.asL (t : Ty) : R → Option (List t.El)
  | .sl t' xs => if h : t' = t then some (h ▸ xs) else none
  | _ => none
theorem R.asI_spec {r : R} {n : Int} (h : r.asI = some n) : r = .int .i64 n := by
  unfold R.asI at h; split at h
  · cases h; rfl
  · cases h
theorem R.asB_spec {r : R} {n : Bool} (h : r.asB = some n) : r = .bool n := by
  unfold R.asB at h; split at h
  · cases h; rfl
  · cases h
theorem R.asL_spec {t : Ty} {r : R} {n : List t.El} (h : r.asL t = some n) : r = .sl t n := by
  unfold R.asL at h; split at h
  · split at h
    · rename_i e; subst e; cases h; rfl
    · cases h
  · cases h
def shapeU : List R → Option Shape
  | [a', b', c'] => (a'.asI).bind fun a => (b'.asI).bind fun b => (c'.asI).bind fun c => some ⟨a, b, c⟩
  | _ => none
theorem shapeU_spec (cs : List R) (x : Shape) (h : shapeU cs = some x) : shapeC x = cs := by
  unfold shapeU at h
  split at h
  · simp only [Option.bind_eq_some_iff] at h
    obtain ⟨a, ha, b, hb, c, hc, h⟩ := h
    cases h
    rw [R.asI_spec ha, R.asI_spec hb, R.asI_spec hc]; rfl
  · cases h
def tensorU : List R → Option Tensor
  | [a', b', c', d'] => (a'.asI).bind fun a => (b'.asI).bind fun b => (c'.asI).bind fun c => (d'.asL (.int .i64)).bind fun d => some ⟨⟨a, b, c⟩, d⟩
  | _ => none
theorem tensorU_spec (cs : List R) (x : Tensor) (h : tensorU cs = some x) : tensorC x = cs := by
  unfold tensorU at h
  split at h
  · simp only [Option.bind_eq_some_iff] at h
    obtain ⟨a, ha, b, hb, c, hc, d, hd, h⟩ := h
    cases h
    rw [R.asI_spec ha, R.asI_spec hb, R.asI_spec hc, R.asL_spec hd]; rfl
  · cases h
def layerU : List R → Option Layer
  | [a', b', c', d', e', f', g', h', i'] => (a'.asI).bind fun a => (b'.asI).bind fun b => (c'.asI).bind fun c => (d'.asI).bind fun d => (e'.asI).bind fun e => (f'.asI).bind fun f => (g'.asI).bind fun g => (h'.asL (.int .i64)).bind fun h => (i'.asL (.int .i64)).bind fun i => some ⟨a, b, c, d, e, f, g, h, i⟩
  | _ => none
theorem layerU_spec (cs : List R) (x : Layer) (h : layerU cs = some x) : layerC x = cs := by
  unfold layerU at h
  split at h
  · simp only [Option.bind_eq_some_iff] at h
    obtain ⟨a, ha, b, hb, c, hc, d, hd, e, he, f, hf, g, hg, h, hh, i, hi, h⟩ := h
    cases h
    rw [R.asI_spec ha, R.asI_spec hb, R.asI_spec hc, R.asI_spec hd, R.asI_spec he, R.asI_spec hf, R.asI_spec hg, R.asL_spec hh, R.asL_spec hi]; rfl
  · cases h
def modelU : List R → Option Model
  | [a', b', c', d'] => (a'.asI).bind fun a => (b'.asI).bind fun b => (c'.asI).bind fun c => (d'.asL (.st .layer)).bind fun d => some ⟨⟨a, b, c⟩, d⟩
  | _ => none
theorem modelU_spec (cs : List R) (x : Model) (h : modelU cs = some x) : modelC x = cs := by
  unfold modelU at h
  split at h
  · simp only [Option.bind_eq_some_iff] at h
    obtain ⟨a, ha, b, hb, c, hc, d, hd, h⟩ := h
    cases h
    rw [R.asI_spec ha, R.asI_spec hb, R.asI_spec hc, R.asL_spec hd]; rfl
  · cases h
def taskU : List R → Option Task
  | [a', b', c', d', e'] => (a'.asI).bind fun a => (b'.asL (.int .i64)).bind fun b => (c'.asI).bind fun c => (d'.asI).bind fun d => (e'.asI).bind fun e => some ⟨a, b, c, d, e⟩
  | _ => none
theorem taskU_spec (cs : List R) (x : Task) (h : taskU cs = some x) : taskC x = cs := by
  unfold taskU at h
  split at h
  · simp only [Option.bind_eq_some_iff] at h
    obtain ⟨a, ha, b, hb, c, hc, d, hd, e, he, h⟩ := h
    cases h
    rw [R.asI_spec ha, R.asL_spec hb, R.asI_spec hc, R.asI_spec hd, R.asI_spec he]; rfl
  · cases h
def requestU : List R → Option Request
  | [a', b', c', d', e', f', g', h', i', j', k', l', m'] => (a'.asI).bind fun a => (b'.asI).bind fun b => (c'.asI).bind fun c => (d'.asI).bind fun d => (e'.asI).bind fun e => (f'.asL (.st .layer)).bind fun f => (g'.asI).bind fun g => (h'.asI).bind fun h => (i'.asI).bind fun i => (j'.asI).bind fun j => (k'.asL (.int .i64)).bind fun k => (l'.asI).bind fun l => (m'.asI).bind fun m => some ⟨a, b, ⟨⟨⟨c, d, e⟩, f⟩, g, ⟨⟨h, i, j⟩, k⟩, l⟩, m⟩
  | _ => none
theorem requestU_spec (cs : List R) (x : Request) (h : requestU cs = some x) : requestC x = cs := by
  unfold requestU at h
  split at h
  · simp only [Option.bind_eq_some_iff] at h
    obtain ⟨a, ha, b, hb, c, hc, d, hd, e, he, f, hf, g, hg, h, hh, i, hi, j, hj, k, hk, l, hl, m, hm, h⟩ := h
    cases h
    rw [R.asI_spec ha, R.asI_spec hb, R.asI_spec hc, R.asI_spec hd, R.asI_spec he, R.asL_spec hf, R.asI_spec hg, R.asI_spec hh, R.asI_spec hi, R.asI_spec hj, R.asL_spec hk, R.asI_spec hl, R.asI_spec hm]; rfl
  · cases h
def stepU : List R → Option Step
  | [a', b', c', d', e', f', g', h'] => (a'.asI).bind fun a => (b'.asI).bind fun b => (c'.asI).bind fun c => (d'.asL (.int .u8)).bind fun d => (e'.asI).bind fun e => (f'.asI).bind fun f => (g'.asI).bind fun g => (h'.asL (.int .i64)).bind fun h => some ⟨a, b, c, d, ⟨⟨e, f, g⟩, h⟩⟩
  | _ => none
theorem stepU_spec (cs : List R) (x : Step) (h : stepU cs = some x) : stepC x = cs := by
  unfold stepU at h
  split at h
  · simp only [Option.bind_eq_some_iff] at h
    obtain ⟨a, ha, b, hb, c, hc, d, hd, e, he, f, hf, g, hg, h, hh, h⟩ := h
    cases h
    rw [R.asI_spec ha, R.asI_spec hb, R.asI_spec hc, R.asL_spec hd, R.asI_spec he, R.asI_spec hf, R.asI_spec hg, R.asL_spec hh]; rfl
  · cases h
def eventU : List R → Option Event
  | [a', b', c', d', e', f', g'] => (a'.asI).bind fun a => (b'.asI).bind fun b => (c'.asI).bind fun c => (d'.asI).bind fun d => (e'.asI).bind fun e => (f'.asI).bind fun f => (g'.asL (.int .i64)).bind fun g => some ⟨a, b, c, ⟨⟨d, e, f⟩, g⟩⟩
  | _ => none
theorem eventU_spec (cs : List R) (x : Event) (h : eventU cs = some x) : eventC x = cs := by
  unfold eventU at h
  split at h
  · simp only [Option.bind_eq_some_iff] at h
    obtain ⟨a, ha, b, hb, c, hc, d, hd, e, he, f, hf, g, hg, h⟩ := h
    cases h
    rw [R.asI_spec ha, R.asI_spec hb, R.asI_spec hc, R.asI_spec hd, R.asI_spec he, R.asI_spec hf, R.asL_spec hg]; rfl
  · cases h
def entryU : List R → Option Entry
  | [a', b', c', d', e', f', g', h', i', j', k', l', m'] => (a'.asI).bind fun a => (b'.asI).bind fun b => (c'.asI).bind fun c => (d'.asI).bind fun d => (e'.asL (.st .layer)).bind fun e => (f'.asI).bind fun f => (g'.asI).bind fun g => (h'.asI).bind fun h => (i'.asL (.int .i64)).bind fun i => (j'.asI).bind fun j => (k'.asI).bind fun k => (l'.asI).bind fun l => (m'.asB).bind fun m => some ⟨a, ⟨⟨b, c, d⟩, e⟩, ⟨⟨f, g, h⟩, i⟩, j, k, l, m⟩
  | _ => none
theorem entryU_spec (cs : List R) (x : Entry) (h : entryU cs = some x) : entryC x = cs := by
  unfold entryU at h
  split at h
  · simp only [Option.bind_eq_some_iff] at h
    obtain ⟨a, ha, b, hb, c, hc, d, hd, e, he, f, hf, g, hg, h, hh, i, hi, j, hj, k, hk, l, hl, m, hm, h⟩ := h
    cases h
    rw [R.asI_spec ha, R.asI_spec hb, R.asI_spec hc, R.asI_spec hd, R.asL_spec he, R.asI_spec hf, R.asI_spec hg, R.asI_spec hh, R.asL_spec hi, R.asI_spec hj, R.asI_spec hk, R.asI_spec hl, R.asB_spec hm]; rfl
  · cases h
def wishU : List R → Option Wish
  | [a', b', c'] => (a'.asI).bind fun a => (b'.asI).bind fun b => (c'.asI).bind fun c => some ⟨a, b, c⟩
  | _ => none
theorem wishU_spec (cs : List R) (x : Wish) (h : wishU cs = some x) : wishC x = cs := by
  unfold wishU at h
  split at h
  · simp only [Option.bind_eq_some_iff] at h
    obtain ⟨a, ha, b, hb, c, hc, h⟩ := h
    cases h
    rw [R.asI_spec ha, R.asI_spec hb, R.asI_spec hc]; rfl
  · cases h
def S.ofCells : (s : S) → List R → Option s.E
  | .shape => shapeU
  | .tensor => tensorU
  | .layer => layerU
  | .model => modelU
  | .task => taskU
  | .request => requestU
  | .step => stepU
  | .event => eventU
  | .entry => entryU
  | .wish => wishU
def Ty.ofCell : (t : Ty) → R → Option t.El
  | .int k, .int k' n => if k' = k then some n else none
  | .bool, .bool b => some b
  | .str, .str l => some l
  | .sl t, .sl t' xs => if h : t' = t then some (h ▸ xs) else none
  | _, _ => none
def Ty.ofCells : (t : Ty) → List R → Option t.El
  | .st s, cs => s.ofCells cs
  | t, [r] => t.ofCell r
  | _, _ => none
theorem Ty.ofCell_spec (t : Ty) (r : R) (x : t.El) (h : t.ofCell r = some x) : t.cells x = [r] := by
  cases t with
  | st s => cases r <;> exact nomatch h
  | int k =>
    cases r with
    | int k' n =>
      replace h : (if k' = k then some n else none) = some x := h
      split at h
      · rename_i e; subst e; cases h; rfl
      · cases h
    | _ => exact nomatch h
  | bool =>
    cases r with
    | bool b => cases h; rfl
    | _ => exact nomatch h
  | str =>
    cases r with
    | str b => cases h; rfl
    | _ => exact nomatch h
  | sl t =>
    cases r with
    | sl t' xs =>
      replace h : (if h : t' = t then some (h ▸ xs) else none) = some x := h
      split at h
      · rename_i e; subst e; cases h; rfl
      · cases h
    | _ => exact nomatch h
theorem S.ofCells_spec (s : S) (cs : List R) (x : s.E) (h : s.ofCells cs = some x) : s.cells x = cs := by
  cases s
  · exact shapeU_spec cs x h
  · exact tensorU_spec cs x h
  · exact layerU_spec cs x h
  · exact modelU_spec cs x h
  · exact taskU_spec cs x h
  · exact requestU_spec cs x h
  · exact stepU_spec cs x h
  · exact eventU_spec cs x h
  · exact entryU_spec cs x h
  · exact wishU_spec cs x h
theorem Ty.ofCells_spec (t : Ty) (cs : List R) (x : t.El) (h : t.ofCells cs = some x) : t.cells x = cs := by
  cases t with
  | st s => exact S.ofCells_spec s cs x h
  | _ =>
    match cs, h with
    | [r], h => exact Ty.ofCell_spec _ r x h
end Go.Proofs.Ev
