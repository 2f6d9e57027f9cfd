/- The evaluator over the model's code, and that it is sound: part 1. -/
import Derived.Calls
import Derived.Laws.IdiomCopy
import Derived.Laws.Cells
import Derived.Laws.Sem
import Derived.Laws.StructEq
import Derived.Laws.Concat
set_option linter.unusedVariables false
set_option linter.unusedSimpArgs false
namespace Go.Proofs.Ev
structure Shape where
  h : Int
  w : Int
  c : Int
  deriving DecidableEq
structure Tensor where
  sh : Shape
  data : List Int
  deriving DecidableEq
structure Layer where
  kind : Int
  out : Int
  size : Int
  step : Int
  mult : Int
  shift : Int
  zero : Int
  weights : List Int
  bias : List Int
  deriving DecidableEq
structure Model where
  inp : Shape
  layers : List Layer
  deriving DecidableEq
structure Job where
  model : Model
  at_ : Int
  act : Tensor
  spent : Int
  deriving DecidableEq
structure Task where
  id : Int
  costs : List Int
  at_ : Int
  due : Int
  born : Int
  deriving DecidableEq
structure Sched where
  now : Int
  slack : Int
  age : Int
  tasks : List Task
  run : Int
  left : Int
  turns : Int
  next : Int
  deriving DecidableEq
structure Request where
  id : Int
  model : Int
  job : Job
  due : Int
  deriving DecidableEq
structure Runtime where
  sched : Sched
  models : List Model
  loaded : List Bool
  requests : List Request
  deriving DecidableEq
structure Step where
  kind : Int
  a : Int
  b : Int
  data : List Int
  input : Tensor
  deriving DecidableEq
structure Event where
  kind : Int
  a : Int
  b : Int
  out : Tensor
  deriving DecidableEq
structure Entry where
  id : Int
  model : Model
  input : Tensor
  at_ : Int
  due : Int
  end_ : Int
  done : Bool
  deriving DecidableEq
structure Wish where
  id : Int
  model : Int
  due : Int
  deriving DecidableEq

/-- A task, a request whose inner slices are told by numbers alone. -/
structure TaskK where
  id : Int
  costs : Nat
  at_ : Int
  due : Int
  born : Int
  deriving DecidableEq
structure RequestK where
  id : Int
  model : Int
  mh : Int
  mw : Int
  mc : Int
  layers : Nat
  jat : Int
  ah : Int
  aw : Int
  ac : Int
  data : Nat
  spent : Int
  due : Int
  deriving DecidableEq

/-- The structs that stand in slices. -/
inductive S where
  | shape | tensor | layer | model | task | request | step | event | entry | wish | taskK | requestK
  deriving DecidableEq
inductive Ty where
  | int (k : IntKind) | bool | str | sl (t : Ty) | st (s : S) | tok
  deriving DecidableEq
def S.E : S → Type
  | .shape => Shape | .tensor => Tensor | .layer => Layer | .model => Model | .task => Task | .request => Request
  | .step => Step | .event => Event | .entry => Entry | .wish => Wish | .taskK => TaskK | .requestK => RequestK
def Ty.El : Ty → Type
  | .int _ => Int
  | .bool => Bool
  | .str => List UInt8
  | .sl t => List t.El
  | .st s => s.E
  | .tok => Nat
/-- A read-only value of one cell. -/
inductive R where
  | int (k : IntKind) (n : Int)
  | bool (b : Bool)
  | str (l : List UInt8)
  | sl (t : Ty) (xs : List t.El)
  | tok (n : Nat)
abbrev R.i (n : Int) : R := .int .i64 n
abbrev R.ints (xs : List Int) : R := .sl (.int .i64) xs
abbrev R.bytes (xs : List Int) : R := .sl (.int .u8) xs
def shapeC (x : Shape) : List R := [.i x.h, .i x.w, .i x.c]
def tensorC (x : Tensor) : List R := [.i x.sh.h, .i x.sh.w, .i x.sh.c, .ints x.data]
def layerC (x : Layer) : List R := [.i x.kind, .i x.out, .i x.size, .i x.step, .i x.mult, .i x.shift, .i x.zero, .ints x.weights, .ints x.bias]
def modelC (x : Model) : List R := [.i x.inp.h, .i x.inp.w, .i x.inp.c, .sl (.st .layer) x.layers]
def taskC (x : Task) : List R := [.i x.id, .ints x.costs, .i x.at_, .i x.due, .i x.born]
def requestC (x : Request) : List R := [.i x.id, .i x.model, .i x.job.model.inp.h, .i x.job.model.inp.w, .i x.job.model.inp.c, .sl (.st .layer) x.job.model.layers, .i x.job.at_, .i x.job.act.sh.h, .i x.job.act.sh.w, .i x.job.act.sh.c, .ints x.job.act.data, .i x.job.spent, .i x.due]
def stepC (x : Step) : List R := [.i x.kind, .i x.a, .i x.b, .bytes x.data, .i x.input.sh.h, .i x.input.sh.w, .i x.input.sh.c, .ints x.input.data]
def eventC (x : Event) : List R := [.i x.kind, .i x.a, .i x.b, .i x.out.sh.h, .i x.out.sh.w, .i x.out.sh.c, .ints x.out.data]
def entryC (x : Entry) : List R := [.i x.id, .i x.model.inp.h, .i x.model.inp.w, .i x.model.inp.c, .sl (.st .layer) x.model.layers, .i x.input.sh.h, .i x.input.sh.w, .i x.input.sh.c, .ints x.input.data, .i x.at_, .i x.due, .i x.end_, .bool x.done]
def wishC (x : Wish) : List R := [.i x.id, .i x.model, .i x.due]
def taskKC (x : TaskK) : List R := [.i x.id, .tok x.costs, .i x.at_, .i x.due, .i x.born]
def requestKC (x : RequestK) : List R := [.i x.id, .i x.model, .i x.mh, .i x.mw, .i x.mc, .tok x.layers, .i x.jat, .i x.ah, .i x.aw, .i x.ac, .tok x.data, .i x.spent, .i x.due]
def S.sz : S → Nat
  | .shape => 3 | .tensor => 4 | .layer => 9 | .model => 4 | .task => 5 | .request => 13 | .step => 8 | .event => 7 | .entry => 13 | .wish => 3 | .taskK => 5 | .requestK => 13
def S.cells : (s : S) → s.E → List R
  | .shape => shapeC | .tensor => tensorC | .layer => layerC | .model => modelC | .task => taskC | .request => requestC
  | .step => stepC | .event => eventC | .entry => entryC | .wish => wishC | .taskK => taskKC | .requestK => requestKC
def Ty.sz : Ty → Nat
  | .st s => s.sz
  | _ => 1
def Ty.cells : (t : Ty) → t.El → List R
  | .int k, n => [.int k n]
  | .bool, b => [.bool b]
  | .str, l => [.str l]
  | .sl t, xs => [.sl t xs]
  | .st s, x => s.cells x
  | .tok, n => [.tok n]
theorem Ty.cells_length (t : Ty) (x : t.El) : (t.cells x).length = t.sz := by
  cases t with
  | st s => cases s <;> rfl
  | _ => rfl
theorem Ty.sz_pos (t : Ty) : 0 < t.sz := by
  cases t with
  | st s => cases s <;> simp [Ty.sz, S.sz]
  | _ => simp [Ty.sz]
def R.asI : R → Option Int
  | .int .i64 n => some n
  | _ => none
def R.asB : R → Option Bool
  | .bool b => some b
  | _ => none
def R.asL (t : Ty) : R → Option (List t.El)
  | .sl t' xs => if h : t' = t then some (h ▸ xs) else none
  | _ => none
def R.asT : R → Option Nat
  | .tok n => some n
  | _ => none
theorem R.asT_spec {r : R} {n : Nat} (h : r.asT = some n) : r = .tok n := by
  unfold R.asT at h; split at h
  · cases h; rfl
  · cases h
theorem R.asI_spec {r : R} {n : Int} (h : r.asI = some n) : r = .int .i64 n := by
  unfold R.asI at h; split at h
  · cases h; rfl
  · cases h
theorem R.asB_spec {r : R} {n : Bool} (h : r.asB = some n) : r = .bool n := by
  unfold R.asB at h; split at h
  · cases h; rfl
  · cases h
theorem R.asL_spec {t : Ty} {r : R} {n : List t.El} (h : r.asL t = some n) : r = .sl t n := by
  unfold R.asL at h; split at h
  · split at h
    · rename_i e; subst e; cases h; rfl
    · cases h
  · cases h
def shapeU : List R → Option Shape
  | [a', b', c'] => (a'.asI).bind fun a => (b'.asI).bind fun b => (c'.asI).bind fun c => some ⟨a, b, c⟩
  | _ => none
theorem shapeU_spec (cs : List R) (x : Shape) (h : shapeU cs = some x) : shapeC x = cs := by
  unfold shapeU at h
  split at h
  · simp only [Option.bind_eq_some_iff] at h
    obtain ⟨a, ha, b, hb, c, hc, h⟩ := h
    cases h
    rw [R.asI_spec ha, R.asI_spec hb, R.asI_spec hc]; rfl
  · cases h
def tensorU : List R → Option Tensor
  | [a', b', c', d'] => (a'.asI).bind fun a => (b'.asI).bind fun b => (c'.asI).bind fun c => (d'.asL (.int .i64)).bind fun d => some ⟨⟨a, b, c⟩, d⟩
  | _ => none
theorem tensorU_spec (cs : List R) (x : Tensor) (h : tensorU cs = some x) : tensorC x = cs := by
  unfold tensorU at h
  split at h
  · simp only [Option.bind_eq_some_iff] at h
    obtain ⟨a, ha, b, hb, c, hc, d, hd, h⟩ := h
    cases h
    rw [R.asI_spec ha, R.asI_spec hb, R.asI_spec hc, R.asL_spec hd]; rfl
  · cases h
def layerU : List R → Option Layer
  | [a', b', c', d', e', f', g', h', i'] => (a'.asI).bind fun a => (b'.asI).bind fun b => (c'.asI).bind fun c => (d'.asI).bind fun d => (e'.asI).bind fun e => (f'.asI).bind fun f => (g'.asI).bind fun g => (h'.asL (.int .i64)).bind fun h => (i'.asL (.int .i64)).bind fun i => some ⟨a, b, c, d, e, f, g, h, i⟩
  | _ => none
theorem layerU_spec (cs : List R) (x : Layer) (h : layerU cs = some x) : layerC x = cs := by
  unfold layerU at h
  split at h
  · simp only [Option.bind_eq_some_iff] at h
    obtain ⟨a, ha, b, hb, c, hc, d, hd, e, he, f, hf, g, hg, h, hh, i, hi, h⟩ := h
    cases h
    rw [R.asI_spec ha, R.asI_spec hb, R.asI_spec hc, R.asI_spec hd, R.asI_spec he, R.asI_spec hf, R.asI_spec hg, R.asL_spec hh, R.asL_spec hi]; rfl
  · cases h
def modelU : List R → Option Model
  | [a', b', c', d'] => (a'.asI).bind fun a => (b'.asI).bind fun b => (c'.asI).bind fun c => (d'.asL (.st .layer)).bind fun d => some ⟨⟨a, b, c⟩, d⟩
  | _ => none
theorem modelU_spec (cs : List R) (x : Model) (h : modelU cs = some x) : modelC x = cs := by
  unfold modelU at h
  split at h
  · simp only [Option.bind_eq_some_iff] at h
    obtain ⟨a, ha, b, hb, c, hc, d, hd, h⟩ := h
    cases h
    rw [R.asI_spec ha, R.asI_spec hb, R.asI_spec hc, R.asL_spec hd]; rfl
  · cases h
def taskU : List R → Option Task
  | [a', b', c', d', e'] => (a'.asI).bind fun a => (b'.asL (.int .i64)).bind fun b => (c'.asI).bind fun c => (d'.asI).bind fun d => (e'.asI).bind fun e => some ⟨a, b, c, d, e⟩
  | _ => none
theorem taskU_spec (cs : List R) (x : Task) (h : taskU cs = some x) : taskC x = cs := by
  unfold taskU at h
  split at h
  · simp only [Option.bind_eq_some_iff] at h
    obtain ⟨a, ha, b, hb, c, hc, d, hd, e, he, h⟩ := h
    cases h
    rw [R.asI_spec ha, R.asL_spec hb, R.asI_spec hc, R.asI_spec hd, R.asI_spec he]; rfl
  · cases h
def requestU : List R → Option Request
  | [a', b', c', d', e', f', g', h', i', j', k', l', m'] => (a'.asI).bind fun a => (b'.asI).bind fun b => (c'.asI).bind fun c => (d'.asI).bind fun d => (e'.asI).bind fun e => (f'.asL (.st .layer)).bind fun f => (g'.asI).bind fun g => (h'.asI).bind fun h => (i'.asI).bind fun i => (j'.asI).bind fun j => (k'.asL (.int .i64)).bind fun k => (l'.asI).bind fun l => (m'.asI).bind fun m => some ⟨a, b, ⟨⟨⟨c, d, e⟩, f⟩, g, ⟨⟨h, i, j⟩, k⟩, l⟩, m⟩
  | _ => none
theorem requestU_spec (cs : List R) (x : Request) (h : requestU cs = some x) : requestC x = cs := by
  unfold requestU at h
  split at h
  · simp only [Option.bind_eq_some_iff] at h
    obtain ⟨a, ha, b, hb, c, hc, d, hd, e, he, f, hf, g, hg, h, hh, i, hi, j, hj, k, hk, l, hl, m, hm, h⟩ := h
    cases h
    rw [R.asI_spec ha, R.asI_spec hb, R.asI_spec hc, R.asI_spec hd, R.asI_spec he, R.asL_spec hf, R.asI_spec hg, R.asI_spec hh, R.asI_spec hi, R.asI_spec hj, R.asL_spec hk, R.asI_spec hl, R.asI_spec hm]; rfl
  · cases h
def stepU : List R → Option Step
  | [a', b', c', d', e', f', g', h'] => (a'.asI).bind fun a => (b'.asI).bind fun b => (c'.asI).bind fun c => (d'.asL (.int .u8)).bind fun d => (e'.asI).bind fun e => (f'.asI).bind fun f => (g'.asI).bind fun g => (h'.asL (.int .i64)).bind fun h => some ⟨a, b, c, d, ⟨⟨e, f, g⟩, h⟩⟩
  | _ => none
theorem stepU_spec (cs : List R) (x : Step) (h : stepU cs = some x) : stepC x = cs := by
  unfold stepU at h
  split at h
  · simp only [Option.bind_eq_some_iff] at h
    obtain ⟨a, ha, b, hb, c, hc, d, hd, e, he, f, hf, g, hg, h, hh, h⟩ := h
    cases h
    rw [R.asI_spec ha, R.asI_spec hb, R.asI_spec hc, R.asL_spec hd, R.asI_spec he, R.asI_spec hf, R.asI_spec hg, R.asL_spec hh]; rfl
  · cases h
def eventU : List R → Option Event
  | [a', b', c', d', e', f', g'] => (a'.asI).bind fun a => (b'.asI).bind fun b => (c'.asI).bind fun c => (d'.asI).bind fun d => (e'.asI).bind fun e => (f'.asI).bind fun f => (g'.asL (.int .i64)).bind fun g => some ⟨a, b, c, ⟨⟨d, e, f⟩, g⟩⟩
  | _ => none
theorem eventU_spec (cs : List R) (x : Event) (h : eventU cs = some x) : eventC x = cs := by
  unfold eventU at h
  split at h
  · simp only [Option.bind_eq_some_iff] at h
    obtain ⟨a, ha, b, hb, c, hc, d, hd, e, he, f, hf, g, hg, h⟩ := h
    cases h
    rw [R.asI_spec ha, R.asI_spec hb, R.asI_spec hc, R.asI_spec hd, R.asI_spec he, R.asI_spec hf, R.asL_spec hg]; rfl
  · cases h
def entryU : List R → Option Entry
  | [a', b', c', d', e', f', g', h', i', j', k', l', m'] => (a'.asI).bind fun a => (b'.asI).bind fun b => (c'.asI).bind fun c => (d'.asI).bind fun d => (e'.asL (.st .layer)).bind fun e => (f'.asI).bind fun f => (g'.asI).bind fun g => (h'.asI).bind fun h => (i'.asL (.int .i64)).bind fun i => (j'.asI).bind fun j => (k'.asI).bind fun k => (l'.asI).bind fun l => (m'.asB).bind fun m => some ⟨a, ⟨⟨b, c, d⟩, e⟩, ⟨⟨f, g, h⟩, i⟩, j, k, l, m⟩
  | _ => none
theorem entryU_spec (cs : List R) (x : Entry) (h : entryU cs = some x) : entryC x = cs := by
  unfold entryU at h
  split at h
  · simp only [Option.bind_eq_some_iff] at h
    obtain ⟨a, ha, b, hb, c, hc, d, hd, e, he, f, hf, g, hg, h, hh, i, hi, j, hj, k, hk, l, hl, m, hm, h⟩ := h
    cases h
    rw [R.asI_spec ha, R.asI_spec hb, R.asI_spec hc, R.asI_spec hd, R.asL_spec he, R.asI_spec hf, R.asI_spec hg, R.asI_spec hh, R.asL_spec hi, R.asI_spec hj, R.asI_spec hk, R.asI_spec hl, R.asB_spec hm]; rfl
  · cases h
def wishU : List R → Option Wish
  | [a', b', c'] => (a'.asI).bind fun a => (b'.asI).bind fun b => (c'.asI).bind fun c => some ⟨a, b, c⟩
  | _ => none
theorem wishU_spec (cs : List R) (x : Wish) (h : wishU cs = some x) : wishC x = cs := by
  unfold wishU at h
  split at h
  · simp only [Option.bind_eq_some_iff] at h
    obtain ⟨a, ha, b, hb, c, hc, h⟩ := h
    cases h
    rw [R.asI_spec ha, R.asI_spec hb, R.asI_spec hc]; rfl
  · cases h
def taskKU : List R → Option TaskK
  | [a', b', c', d', e'] => (a'.asI).bind fun a => (b'.asT).bind fun b => (c'.asI).bind fun c => (d'.asI).bind fun d => (e'.asI).bind fun e => some ⟨a, b, c, d, e⟩
  | _ => none
theorem taskKU_spec (cs : List R) (x : TaskK) (hq : taskKU cs = some x) : taskKC x = cs := by
  unfold taskKU at hq
  split at hq
  · simp only [Option.bind_eq_some_iff] at hq
    obtain ⟨a, ha, b, hb, c, hc, d, hd, e, he, hq⟩ := hq
    cases hq
    rw [R.asI_spec ha, R.asT_spec hb, R.asI_spec hc, R.asI_spec hd, R.asI_spec he]; rfl
  · cases hq
def requestKU : List R → Option RequestK
  | [a', b', c', d', e', f', g', h', i', j', k', l', m'] => (a'.asI).bind fun a => (b'.asI).bind fun b => (c'.asI).bind fun c => (d'.asI).bind fun d => (e'.asI).bind fun e => (f'.asT).bind fun f => (g'.asI).bind fun g => (h'.asI).bind fun h => (i'.asI).bind fun i => (j'.asI).bind fun j => (k'.asT).bind fun k => (l'.asI).bind fun l => (m'.asI).bind fun m => some ⟨a, b, c, d, e, f, g, h, i, j, k, l, m⟩
  | _ => none
theorem requestKU_spec (cs : List R) (x : RequestK) (hq : requestKU cs = some x) : requestKC x = cs := by
  unfold requestKU at hq
  split at hq
  · simp only [Option.bind_eq_some_iff] at hq
    obtain ⟨a, ha, b, hb, c, hc, d, hd, e, he, f, hf, g, hg, h0, hh, i, hi, j, hj, k, hk, l, hl, m, hm, hq⟩ := hq
    cases hq
    rw [R.asI_spec ha, R.asI_spec hb, R.asI_spec hc, R.asI_spec hd, R.asI_spec he, R.asT_spec hf, R.asI_spec hg, R.asI_spec hh, R.asI_spec hi, R.asI_spec hj, R.asT_spec hk, R.asI_spec hl, R.asI_spec hm]; rfl
  · cases hq
def S.ofCells : (s : S) → List R → Option s.E
  | .shape => shapeU
  | .tensor => tensorU
  | .layer => layerU
  | .model => modelU
  | .task => taskU
  | .request => requestU
  | .step => stepU
  | .event => eventU
  | .entry => entryU
  | .wish => wishU
  | .taskK => taskKU
  | .requestK => requestKU
def Ty.ofCell : (t : Ty) → R → Option t.El
  | .int k, .int k' n => if k' = k then some n else none
  | .bool, .bool b => some b
  | .str, .str l => some l
  | .sl t, .sl t' xs => if h : t' = t then some (h ▸ xs) else none
  | .tok, .tok n => some n
  | _, _ => none
def Ty.ofCells : (t : Ty) → List R → Option t.El
  | .st s, cs => s.ofCells cs
  | t, [r] => t.ofCell r
  | _, _ => none
theorem Ty.ofCell_spec (t : Ty) (r : R) (x : t.El) (h : t.ofCell r = some x) : t.cells x = [r] := by
  cases t with
  | st s => cases r <;> exact nomatch h
  | int k =>
    cases r with
    | int k' n =>
      replace h : (if k' = k then some n else none) = some x := h
      split at h
      · rename_i e; subst e; cases h; rfl
      · cases h
    | _ => exact nomatch h
  | bool =>
    cases r with
    | bool b => cases h; rfl
    | _ => exact nomatch h
  | str =>
    cases r with
    | str b => cases h; rfl
    | _ => exact nomatch h
  | sl t =>
    cases r with
    | sl t' xs =>
      replace h : (if h : t' = t then some (h ▸ xs) else none) = some x := h
      split at h
      · rename_i e; subst e; cases h; rfl
      · cases h
    | _ => exact nomatch h
  | tok =>
    cases r with
    | tok n => cases h; rfl
    | _ => exact nomatch h
theorem S.ofCells_spec (s : S) (cs : List R) (x : s.E) (h : s.ofCells cs = some x) : s.cells x = cs := by
  cases s
  · exact shapeU_spec cs x h
  · exact tensorU_spec cs x h
  · exact layerU_spec cs x h
  · exact modelU_spec cs x h
  · exact taskU_spec cs x h
  · exact requestU_spec cs x h
  · exact stepU_spec cs x h
  · exact eventU_spec cs x h
  · exact entryU_spec cs x h
  · exact wishU_spec cs x h
  · exact taskKU_spec cs x h
  · exact requestKU_spec cs x h
theorem Ty.ofCells_spec (t : Ty) (cs : List R) (x : t.El) (h : t.ofCells cs = some x) : t.cells x = cs := by
  cases t with
  | st s => exact S.ofCells_spec s cs x h
  | _ =>
    match cs, h with
    | [r], h => exact Ty.ofCell_spec _ r x h
end Go.Proofs.Ev

namespace Go.Proofs.Ev
/-- What a slot holds. 'r d x': a value that is read only; the cells that it reads may lie in the blocks of the ids 'd', else in none that is owned. -/
inductive SV where
  | r (d : List Nat) (x : R)
  | nilS
  | nilP
  | own (i : Nat)
  | sub (i off len : Nat)
  | bsl (i n : Nat)
  | ptr (i idx off : Nat)
  | inn (i x c : Nat)
  | rptr (d : List Nat) (cs : List R)
  | agg (cs : List SV)
  | tup (vs : List SV)
  | fn (f : Fn) (first cap : List SV)
  | undef
abbrev SV.i (n : Int) : SV := .r [] (.int .i64 n)
abbrev SV.b (b : Bool) : SV := .r [] (.bool b)
/-- A block that is owned: a variable (its cells), or a slice's array: 'sh' none: all that its elements reach is owned with it; else the inner slices are read only, with these ids. -/
inductive Blk where
  | box (cs : List SV)
  | arr (sh : Option (List Nat)) (t : Ty) (xs : List t.El)
abbrev Heap := List (Nat × Blk)
structure St where
  slots : List (Nat × SV)
  heap : Heap
  nid : Nat
  n : Nat
  /-- Where the blocks that were handed in are, as far as they are still told. -/
  gh : List (Option Nat) := []
def look {α : Type} : List (Nat × α) → Nat → Option α
  | [], _ => none
  | (k, v) :: l, n => cond (Nat.beq k n) (some v) (look l n)
def put {α : Type} : List (Nat × α) → Nat → α → List (Nat × α)
  | [], n, v => [(n, v)]
  | (k, u) :: l, n, v => cond (Nat.beq k n) ((k, v) :: l) ((k, u) :: put l n v)
def idx {α : Type} (xs : List α) (i : Int) : Option α := cond (decide (0 ≤ i)) xs[i.toNat]? none
def mem (i : Nat) : List Nat → Bool
  | [] => false
  | k :: l => cond (Nat.beq k i) true (mem i l)
def hit (T : List Nat) : List Nat → Bool
  | [] => false
  | k :: l => cond (mem k T) true (hit T l)
/-- What an operation takes from the values that were: the blocks that are ours no more; these and the ones whose cells are other than they were. -/
abbrev Kil := List Nat × List Nat
mutual
/-- What is left of a value. -/
def SV.sweep (T : Kil) : SV → SV
  | .r d x => cond (hit T.2 d) .undef (.r d x)
  | .own j => cond (mem j T.1) .undef (.own j)
  | .sub j o n => cond (mem j T.1) .undef (.sub j o n)
  | .bsl j n => cond (mem j T.1) .undef (.bsl j n)
  | .ptr j x o => cond (mem j T.1) .undef (.ptr j x o)
  | .inn j x c => cond (mem j T.1 || mem j T.2) .undef (.inn j x c)
  | .rptr d cs => cond (hit T.2 d) .undef (.rptr d cs)
  | .agg cs => .agg (sweepL T cs)
  | .tup cs => .tup (sweepL T cs)
  | .fn f a b => .fn f (sweepL T a) (sweepL T b)
  | .nilS => .nilS
  | .nilP => .nilP
  | .undef => .undef
def sweepL (T : Kil) : List SV → List SV
  | [] => []
  | v :: l => v.sweep T :: sweepL T l
end
def Blk.sweep (T : Kil) : Blk → Option Blk
  | .box cs => some (.box (sweepL T cs))
  | .arr none t xs => some (.arr none t xs)
  | .arr (some d) t xs => cond (hit T.2 d) none (some (.arr (some d) t xs))
/-- The heap without the blocks 'T'. -/
def sweepH (T : Kil) : Heap → Option Heap
  | [] => some []
  | (k, b) :: l => cond (mem k T.1) (sweepH T l) ((b.sweep T).bind fun b => (sweepH T l).bind fun l => some ((k, b) :: l))
def sweepS (T : Kil) : List (Nat × SV) → List (Nat × SV)
  | [] => []
  | (k, v) :: l => (k, v.sweep T) :: sweepS T l
/-- The same, and nothing at all where there is nothing to take. -/
def sweepH' (T : Kil) (h : Heap) : Option Heap :=
  match T.2 with
  | [] => some h
  | _ => sweepH T h
def sweepS' (T : Kil) (s : List (Nat × SV)) : List (Nat × SV) :=
  match T.2 with
  | [] => s
  | _ => sweepS T s

/-- A slot's value as a list, with the ids that it rests on. -/
def SV.list (h : Heap) (t : Ty) : SV → Option (List Nat × List t.El)
  | .r d x => (x.asL t).bind fun xs => some (d, xs)
  | .nilS => some ([], [])
  | .own i => match look h i with
    | some (.arr sh t' xs) => if e : t' = t then some (i :: sh.getD [], e ▸ xs) else none
    | _ => none
  | .sub i o n => match look h i with
    | some (.arr sh t' xs) => if e : t' = t then some (i :: sh.getD [], ((e ▸ xs).drop o).take n) else none
    | _ => none
  | _ => none
def SV.asInt (k : IntKind) : SV → Option Int
  | .r _ (.int k' n) => cond (decide (k' = k)) (some n) none
  | _ => none
def SV.asI : SV → Option Int
  | .r _ (.int _ n) => some n
  | _ => none
def SV.asB : SV → Option Bool
  | .r _ (.bool b) => some b
  | _ => none
/-- One cell's value as a read-only one of a type. -/
def SV.asR (h : Heap) (t : Ty) (v : SV) : Option (List Nat × R) :=
  match t with
  | .sl t' => (v.list h t').bind fun p => some (p.1, .sl t' p.2)
  | .st _ => none
  | .tok => match v with
    | .r d (.tok n) => some (d, .tok n)
    | .nilS => some ([], .tok 0)
    | _ => none
  | _ => match v with
    | .r d x => some (d, x)
    | _ => none
def S.tys : S → List Ty
  | .shape => [.int .i64, .int .i64, .int .i64]
  | .tensor => [.int .i64, .int .i64, .int .i64, .sl (.int .i64)]
  | .layer => [.int .i64, .int .i64, .int .i64, .int .i64, .int .i64, .int .i64, .int .i64, .sl (.int .i64), .sl (.int .i64)]
  | .model => [.int .i64, .int .i64, .int .i64, .sl (.st .layer)]
  | .task => [.int .i64, .sl (.int .i64), .int .i64, .int .i64, .int .i64]
  | .request => [.int .i64, .int .i64, .int .i64, .int .i64, .int .i64, .sl (.st .layer), .int .i64, .int .i64, .int .i64, .int .i64, .sl (.int .i64), .int .i64, .int .i64]
  | .step => [.int .i64, .int .i64, .int .i64, .sl (.int .u8), .int .i64, .int .i64, .int .i64, .sl (.int .i64)]
  | .event => [.int .i64, .int .i64, .int .i64, .int .i64, .int .i64, .int .i64, .sl (.int .i64)]
  | .entry => [.int .i64, .int .i64, .int .i64, .int .i64, .sl (.st .layer), .int .i64, .int .i64, .int .i64, .sl (.int .i64), .int .i64, .int .i64, .int .i64, .bool]
  | .wish => [.int .i64, .int .i64, .int .i64]
  | .taskK => [.int .i64, .tok, .int .i64, .int .i64, .int .i64]
  | .requestK => [.int .i64, .int .i64, .int .i64, .int .i64, .int .i64, .tok, .int .i64, .int .i64, .int .i64, .int .i64, .tok, .int .i64, .int .i64]
def Ty.tys : Ty → List Ty
  | .st s => s.tys
  | t => [t]
def asRs (h : Heap) : List Ty → List SV → Option (List Nat × List R)
  | [], [] => some ([], [])
  | t :: ts, v :: vs => (v.asR h t).bind fun p => (asRs h ts vs).bind fun q => some (p.1 ++ q.1, p.2 :: q.2)
  | _, _ => none
/-- The cells of an element, as its typed value. -/
def asEl (h : Heap) (t : Ty) (vs : List SV) : Option (List Nat × t.El) :=
  (asRs h t.tys vs).bind fun p => (t.ofCells p.2).bind fun x => some (p.1, x)
def SV.cells : SV → Option (List SV)
  | .agg cs => some cs
  | .tup _ => none
  | .undef => none
  | v => some [v]

mutual
/-- The ids in a value, in order. -/
def SV.ids : SV → List Nat
  | .own i => [i]
  | .sub i _ _ => [i]
  | .bsl i _ => [i]
  | .ptr i _ _ => [i]
  | .agg cs => idsL cs
  | .tup cs => idsL cs
  | .fn _ a b => idsL a ++ idsL b
  | _ => []
def idsL : List SV → List Nat
  | [] => []
  | v :: l => v.ids ++ idsL l
end
def addNew : List Nat → List Nat → List Nat
  | acc, [] => acc
  | acc, i :: l => cond (mem i acc) (addNew acc l) (addNew (acc ++ [i]) l)
def blkIds (h : Heap) : List Nat → List Nat
  | [] => []
  | i :: l => (match look h i with
    | some (.box cs) => idsL cs
    | _ => []) ++ blkIds h l
/-- What is reached, in 'n' steps. -/
def reach (h : Heap) : Nat → List Nat → List Nat
  | 0, L => L
  | n + 1, L => reach h n (addNew L (blkIds h L))
def constSV : Value → Option SV
  | .bool b => some (.b b)
  | .int k n => some (.r [] (.int k n))
  | .string s => some (.r [] (.str s.data.toList))
  | .slice none 0 0 => some .nilS
  | .pointer none => some .nilP
  | _ => none
def constL : List Value → Option (List SV)
  | [] => some []
  | v :: l => (constSV v).bind fun x => (constL l).bind fun xs => some (x :: xs)
def constV : Value → Option SV
  | .agg cs => (constL cs.toList).bind fun l => some (.agg l)
  | v => constSV v
def opd (slots : List (Nat × SV)) : Operand → Option SV
  | .tmp t => look slots t
  | .const v => constV v
  | .func f => some (.fn (.func f) [] [])
  | .global _ => none
def opds (slots : List (Nat × SV)) : List Operand → Option (List SV)
  | [] => some []
  | x :: l => (opd slots x).bind fun v => (opds slots l).bind fun vs => some (v :: vs)
end Go.Proofs.Ev

namespace Go.Proofs.Ev
/-- The elements' types by the program's numbers. -/
abbrev TT := TypeId → Option Ty
def maxN : Nat := 2 ^ 38
def isAggB (P : Program) (T : TypeId) : Bool :=
  match P.underlying T with
  | some (.struct _) => true
  | some (.array _ _) => true
  | _ => false
def elemT (P : Program) (T : TypeId) : Option TypeId :=
  match P.underlying T with
  | some (.slice e) => some e
  | _ => none
def fieldOf (P : Program) (T : TypeId) (f : Nat) : Option Field :=
  match P.underlying T with
  | some (.struct fs) => (fs[f]?).bind fun f => (P.info? f.type).bind fun i => cond (Nat.beq i.size 0) none (some f)
  | _ => none
def sizeT (P : Program) (T : TypeId) : Option Nat := (P.info? T).bind fun i => some i.size
/-- A struct's fields, each with its place and its size. -/
def placesOf (P : Program) : List Field → Option (List (Nat × Nat))
  | [] => some []
  | f :: fs => (sizeT P f.type).bind fun s => (placesOf P fs).bind fun l => some ((f.offset, s) :: l)
def takeN {α : Type} (n : Nat) (l : List α) : Option (List α) := cond (Nat.ble n l.length) (some (l.take n)) none
/-- Cells as a slot's value of type T. -/
def ofCellsV (P : Program) (T : TypeId) (cs : List SV) : Option SV :=
  (P.underlying T).bind fun _ => (P.info? T).bind fun i => (takeN i.size cs).bind fun l =>
    cond (isAggB P T) (some (.agg l)) (match l with | [v] => some v | _ => none)
def mkR (d : List Nat) : R → SV
  | .sl t xs => .r d (.sl t xs)
  | x => .r [] x
def shDeps (i : Nat) : Option (List Nat) → List Nat
  | none => [i]
  | some d => d
def cellsAt (h : Heap) : SV → Option (List SV)
  | .rptr d cs => some (cs.map (mkR d))
  | .ptr i x o => match look h i with
    | some (.box cs) => some (cs.drop o)
    | some (.arr sh t xs) => (xs[x]?).bind fun e => some (((t.cells e).map (mkR (shDeps i sh))).drop o)
    | _ => none
  | _ => none
def zeroCs (P : Program) (T : TypeId) : Option (List SV) :=
  (P.info? T).bind fun i => i.zero.bind fun z => (constV z).bind fun v => v.cells
/-- 'parts' laid into cells. -/
def fillCs (place : Nat → Option (Nat × Nat)) : List SV → List (Nat × SV) → Option (List SV)
  | cs, [] => some cs
  | cs, (k, v) :: l => (place k).bind fun p => v.cells.bind fun vs =>
      cond (Nat.beq vs.length p.2) (cond (Nat.ble (p.1 + vs.length) cs.length) (fillCs place (cs.take p.1 ++ vs ++ cs.drop (p.1 + vs.length)) l) none) none
def binI (op : BinOp) (k : IntKind) (a b : Int) : Option R :=
  match op with
  | .add => some (.int k (k.wrap (a + b)))
  | .sub => some (.int k (k.wrap (a - b)))
  | .mul => some (.int k (k.wrap (a * b)))
  | .quo => cond (decide (b = 0)) none (some (.int k (k.wrap (a.tdiv b))))
  | .rem => cond (decide (b = 0)) none (some (.int k (a.tmod b)))
  | .and => some (.int k (k.wrap (BitVec.ofInt k.bits a &&& BitVec.ofInt k.bits b).toNat))
  | .or => some (.int k (k.wrap (BitVec.ofInt k.bits a ||| BitVec.ofInt k.bits b).toNat))
  | .xor => some (.int k (k.wrap (BitVec.ofInt k.bits a ^^^ BitVec.ofInt k.bits b).toNat))
  | .eql => some (.bool (a == b))
  | .neq => some (.bool (a != b))
  | .lss => some (.bool (decide (a < b)))
  | .leq => some (.bool (decide (a ≤ b)))
  | .gtr => some (.bool (decide (a > b)))
  | .geq => some (.bool (decide (a ≥ b)))
  | _ => none
def shiftI (op : BinOp) (k : IntKind) (a b : Int) : Option R :=
  cond (decide (b < 0)) none
    (match op with
     | .shl => some (.int k (k.wrap (a * 2 ^ (min b.toNat k.bits))))
     | .shr => some (.int k (a.fdiv (2 ^ (min b.toNat k.bits))))
     | _ => none)
def binS (op : BinOp) (a b : List UInt8) : Option R :=
  match op with
  | .add => cond (decide (a.length + b.length ≤ maxN)) (some (.str (a ++ b))) none
  | .eql => some (.bool (a == b))
  | .neq => some (.bool (!(a == b)))
  | .lss => some (.bool (Op.bytesLess a b))
  | .leq => some (.bool (Op.bytesLess a b || a == b))
  | .gtr => some (.bool (!(Op.bytesLess a b || a == b)))
  | .geq => some (.bool (!(Op.bytesLess a b)))
  | _ => none
/-- Structs of integers alone. -/
def aggEq (P : Program) (xs ys : List SV) : List Field → Option Bool
  | [] => some true
  | f :: fs => cond (decide (f.name = "_")) none (match P.underlying f.type, xs[f.offset]?, ys[f.offset]? with
    | some (.int _), some (.r _ (.int k a)), some (.r _ (.int l b)) => cond (decide (k = l)) ((aggEq P xs ys fs).bind fun t => some (cond (a == b) t false)) none
    | _, _, _ => none)
def eqAgg (P : Program) (T : TypeId) (xs ys : List SV) : Option Bool :=
  cond (P.stoodInHeld T) none (cond (P.eqGuardType P.depth T) none (match P.underlying T with
    | some (.struct fs) => aggEq P xs ys fs.toList
    | _ => none))
def isShl : BinOp → Bool
  | .shl | .shr => true
  | _ => false
def isEq : BinOp → Option Bool
  | .eql => some true
  | .neq => some false
  | _ => none
def bin (P : Program) (T : TypeId) (op : BinOp) (x y : SV) : Option SV :=
  match x, y with
  | .r _ (.int k a), .r _ (.int l b) => cond (isShl op) ((shiftI op k a b).bind fun r => some (.r [] r)) (cond (decide (k = l)) ((binI op k a b).bind fun r => some (.r [] r)) none)
  | .r _ (.str a), .r _ (.str b) => (binS op a b).bind fun r => some (.r [] r)
  | .r _ (.bool a), .r _ (.bool b) => match P.underlying T with
    | some .bool => (isEq op).bind fun e => some (.b (cond e (a == b) (!(a == b))))
    | _ => none
  | .agg a, .agg b => (isEq op).bind fun e => (eqAgg P T a b).bind fun t => some (.b (cond e t (!t)))
  | _, _ => none
def un (op : UnOp) (x : SV) : Option SV :=
  match op, x with
  | .neg, .r _ (.int k n) => some (.r [] (.int k (k.wrap (0 - n))))
  | .not, .r _ (.bool b) => some (.b (!b))
  | _, _ => none
def lenOf (h : Heap) : SV → Option Nat
  | .r _ (.str l) => some l.length
  | .r _ (.sl _ xs) => some xs.length
  | .nilS => some 0
  | .own i => match look h i with
    | some (.arr _ _ xs) => some xs.length
    | _ => none
  | .sub _ _ n => some n
  | .bsl _ n => some n
  | _ => none
def lenT (P : Program) (T : TypeId) : SV → Bool
  | .r _ (.str _) => match P.underlying T with
    | some .string => true
    | _ => false
  | _ => match P.underlying T with
    | some (.slice _) => true
    | _ => false
/-- The bounds of a slice expression, in 0 .. n. -/
def bounds (n : Nat) (lo hi : Option SV) : Option (Nat × Nat) :=
  (match hi with
   | none => some n
   | some v => v.asI.bind fun x => cond (decide (0 ≤ x ∧ x ≤ (n : Int))) (some x.toNat) none).bind fun h =>
  (match lo with
   | none => some 0
   | some v => v.asI.bind fun x => cond (decide (0 ≤ x ∧ x ≤ (h : Int))) (some x.toNat) none).bind fun l => some (l, h)
/-- T is a slice's type whose elements have as many cells as t's. -/
def slT (P : Program) (T : TypeId) (t : Ty) : Bool :=
  match P.underlying T with
  | some (.slice e) => match sizeT P e with
    | some n => Nat.beq n t.sz
    | none => false
  | _ => false
def isSl (P : Program) (T : TypeId) : Bool :=
  match P.underlying T with
  | some (.slice e) => (sizeT P e).isSome
  | _ => false
def isStr (P : Program) (T : TypeId) : Bool :=
  match P.underlying T with
  | some .string => true
  | _ => false
def sliceSV (P : Program) (T : TypeId) (h : Heap) (x : SV) (lo hi : Option SV) : Option SV :=
  match x with
  | .r d (.str l) => cond (isStr P T) ((bounds l.length lo hi).bind fun b => some (.r d (.str ((l.take b.2).drop b.1)))) none
  | .r d (.sl t xs) => cond (slT P T t) ((bounds xs.length lo hi).bind fun b => some (.r d (.sl t ((xs.take b.2).drop b.1)))) none
  | .nilS => cond (isSl P T) ((bounds 0 lo hi).bind fun _ => some .nilS) none
  | .own i => match look h i with
    | some (.arr _ t xs) => cond (slT P T t) ((bounds xs.length lo hi).bind fun b => some (.sub i b.1 (b.2 - b.1))) none
    | _ => none
  | .sub i o n => match look h i with
    | some (.arr _ t _) => cond (slT P T t) ((bounds n lo hi).bind fun b => some (.sub i (o + b.1) (b.2 - b.1))) none
    | _ => none
  | _ => none
def indexAddrSV (P : Program) (T : TypeId) (h : Heap) (x : SV) (k : Int) : Option SV :=
  match x with
  | .r d (.sl t xs) => cond (slT P T t) ((idx xs k).bind fun e => some (.rptr d (t.cells e))) none
  | .own i => match look h i with
    | some (.arr _ t xs) => cond (slT P T t) (cond (decide (0 ≤ k ∧ k < (xs.length : Int))) (some (.ptr i k.toNat 0)) none) none
    | _ => none
  | .sub i o n => match look h i with
    | some (.arr _ t _) => cond (slT P T t) (cond (decide (0 ≤ k ∧ k < (n : Int))) (some (.ptr i (o + k.toNat) 0)) none) none
    | _ => none
  | .bsl i n => (elemT P T).bind fun e => (sizeT P e).bind fun sz => cond (decide (0 ≤ k ∧ k < (n : Int))) (some (.ptr i 0 (k.toNat * sz))) none
  | _ => none
def convSV (P : Program) (src dst : TypeId) (x : SV) : Option SV :=
  match P.underlying src, P.underlying dst, x with
  | some (.int _), some (.int k), .r _ (.int _ n) => some (.r [] (.int k (k.wrap n)))
  | some .string, some .string, .r _ (.str l) => some (.r [] (.str l))
  | _, _, _ => none
def bytesT (P : Program) (T : TypeId) : Bool :=
  match elemT P T with
  | some e => match P.underlying e with
    | some (.int .u8) => true
    | _ => false
  | none => false
/-- Numbers as bytes. -/
def bytesOf (l : List Int) : List UInt8 := l.map fun n => UInt8.ofNat n.toNat
def optO (slots : List (Nat × SV)) : Option Operand → Option (Option SV)
  | none => some none
  | some x => (opd slots x).bind fun v => some (some v)
def partsO (slots : List (Nat × SV)) : List (Nat × Operand) → Option (List (Nat × SV))
  | [] => some []
  | (k, x) :: l => (opd slots x).bind fun v => (partsO slots l).bind fun vs => some ((k, v) :: vs)
/-- Operations that neither write nor make memory. -/
def evStill (P : Program) (s : List (Nat × SV)) (h : Heap) (op : Op) : Option SV :=
  match op with
  | .move x | .assign x => opd s x
  | .pick c a b => (opd s c).bind fun c => c.asB.bind fun c => cond c (opd s a) (opd s b)
  | .build T parts =>
    match P.underlying T with
    | some (.struct fs) => (placesOf P fs.toList).bind fun pl => (zeroCs P T).bind fun z => (partsO s parts.toList).bind fun ps =>
      (fillCs (fun k => pl[k]?) z ps).bind fun cs => some (.agg cs)
    | _ => none
  | .load T a => (opd s a).bind fun a => (cellsAt h a).bind fun cs => ofCellsV P T cs
  | .nilCheck x => (opd s x).bind fun v => match v with
    | .ptr i x o => some (.ptr i x o)
    | .rptr d cs => some (.rptr d cs)
    | _ => none
  | .binOp op T x y _ => (opd s x).bind fun x => (opd s y).bind fun y => bin P T op x y
  | .unOp op _ x => (opd s x).bind fun x => un op x
  | .convert src dst x => (opd s x).bind fun x => cond (bytesT P src && isStr P dst) ((x.list h (.int .u8)).bind fun p => some (.r [] (.str (bytesOf p.2)))) (convSV P src dst x)
  | .makeFunc fn first cap => (opds s first.toList).bind fun a => (opds s cap.toList).bind fun b => some (.fn fn a b)
  | .slice T x lo hi none => (opd s x).bind fun x => (optO s lo).bind fun lo => (optO s hi).bind fun hi => sliceSV P T h x lo hi
  | .fieldAddr T x f => (opd s x).bind fun x => (fieldOf P T f).bind fun f => match x with
    | .rptr d cs => some (.rptr d (cs.drop f.offset))
    | .ptr i k o => some (.ptr i k (o + f.offset))
    | _ => none
  | .field T x f => (opd s x).bind fun x => (fieldOf P T f).bind fun f => match x with
    | .agg cs => ofCellsV P f.type (cs.drop f.offset)
    | _ => none
  | .indexAddr T x k => (opd s x).bind fun x => (opd s k).bind fun k => k.asI.bind fun k => indexAddrSV P T h x k
  | .index T x k => (opd s x).bind fun x => (opd s k).bind fun k => k.asI.bind fun k => match x with
    | .r _ (.str l) => cond (isStr P T) ((idx l k).bind fun c => some (.r [] (.int .u8 c.toNat))) none
    | _ => none
  | .extract x k => (opd s x).bind fun x => match x with
    | .tup vs => vs[k]?
    | _ => none
  | .call { callee := .builtin .len, args, argTypes } => (opds s args.toList).bind fun vs => match vs, argTypes.toList with
    | [v], T :: _ => cond (lenT P T v) ((lenOf h v).bind fun n => some (.i n)) none
    | _, _ => none
  | .call { callee := .builtin .cap, args, argTypes } => (opds s args.toList).bind fun vs => match vs, argTypes.toList with
    | [.nilS], T :: _ => cond (isSl P T) (some (.i 0)) none
    | _, _ => none
  | .call { callee := .builtin .min, args, .. } => (opds s args.toList).bind fun vs => match vs with
    | [.r _ (.int k a), .r _ (.int _ b)] => some (.r [] (.int k (if b < a then b else a)))
    | [.r _ (.int k a), .r _ (.int _ b), .r _ (.int _ c)] => some (.r [] (.int k (if c < (if b < a then b else a) then c else (if b < a then b else a))))
    | _ => none
  | .call { callee := .builtin .max, args, .. } => (opds s args.toList).bind fun vs => match vs with
    | [.r _ (.int k a), .r _ (.int _ b)] => some (.r [] (.int k (if b > a then b else a)))
    | _ => none
  | _ => none
def cellsAtK {α : Type} (h : Heap) (v : SV) (K : List SV → Option α) : Option α :=
  match v with
  | .rptr d cs => K (cs.map (mkR d))
  | .ptr i x o => match look h i with
    | some (.box cs) => K (cs.drop o)
    | some (.arr sh t xs) => (xs[x]?).bind fun e => K (((t.cells e).map (mkR (shDeps i sh))).drop o)
    | _ => none
  | _ => none
def binIK {α : Type} (op : BinOp) (k : IntKind) (a b : Int) (K : R → Option α) : Option α :=
  match op with
  | .quo => cond (decide (b = 0)) none (K (.int k (k.wrap (a.tdiv b))))
  | .rem => cond (decide (b = 0)) none (K (.int k (a.tmod b)))
  | op => (binI op k a b).bind K
def shiftIK {α : Type} (op : BinOp) (k : IntKind) (a b : Int) (K : R → Option α) : Option α :=
  cond (decide (b < 0)) none
    (match op with
     | .shl => K (.int k (k.wrap (a * 2 ^ (min b.toNat k.bits))))
     | .shr => K (.int k (a.fdiv (2 ^ (min b.toNat k.bits))))
     | _ => none)
def binSK {α : Type} (op : BinOp) (a b : List UInt8) (K : R → Option α) : Option α :=
  match op with
  | .add => cond (decide (a.length + b.length ≤ maxN)) (K (.str (a ++ b))) none
  | op => (binS op a b).bind K
def binK {α : Type} (P : Program) (T : TypeId) (op : BinOp) (x y : SV) (K : SV → Option α) : Option α :=
  match x, y with
  | .r _ (.int k a), .r _ (.int l b) => cond (isShl op) (shiftIK op k a b fun r => K (.r [] r)) (cond (decide (k = l)) (binIK op k a b fun r => K (.r [] r)) none)
  | .r _ (.str a), .r _ (.str b) => binSK op a b fun r => K (.r [] r)
  | x, y => (bin P T op x y).bind K
def boundsK {α : Type} (n : Nat) (lo hi : Option SV) (K : Nat → Nat → Option α) : Option α :=
  let lower (h : Nat) : Option α := match lo with
    | none => K 0 h
    | some v => v.asI.bind fun x => cond (decide (0 ≤ x ∧ x ≤ (h : Int))) (K x.toNat h) none
  match hi with
  | none => lower n
  | some v => v.asI.bind fun x => cond (decide (0 ≤ x ∧ x ≤ (n : Int))) (lower x.toNat) none
def sliceK {α : Type} (P : Program) (T : TypeId) (h : Heap) (x : SV) (lo hi : Option SV) (K : SV → Option α) : Option α :=
  match x with
  | .r d (.str l) => cond (isStr P T) (boundsK l.length lo hi fun a b => K (.r d (.str ((l.take b).drop a)))) none
  | .r d (.sl t xs) => cond (slT P T t) (boundsK xs.length lo hi fun a b => K (.r d (.sl t ((xs.take b).drop a)))) none
  | .nilS => cond (isSl P T) (boundsK 0 lo hi fun _ _ => K .nilS) none
  | .own i => match look h i with
    | some (.arr _ t xs) => cond (slT P T t) (boundsK xs.length lo hi fun a b => K (.sub i a (b - a))) none
    | _ => none
  | .sub i o n => match look h i with
    | some (.arr _ t _) => cond (slT P T t) (boundsK n lo hi fun a b => K (.sub i (o + a) (b - a))) none
    | _ => none
  | _ => none
def indexAddrK {α : Type} (P : Program) (T : TypeId) (h : Heap) (x : SV) (k : Int) (K : SV → Option α) : Option α :=
  match x with
  | .r d (.sl t xs) => cond (slT P T t) ((idx xs k).bind fun e => K (.rptr d (t.cells e))) none
  | .own i => match look h i with
    | some (.arr _ t xs) => cond (slT P T t) (cond (decide (0 ≤ k ∧ k < (xs.length : Int))) (K (.ptr i k.toNat 0)) none) none
    | _ => none
  | .sub i o n => match look h i with
    | some (.arr _ t _) => cond (slT P T t) (cond (decide (0 ≤ k ∧ k < (n : Int))) (K (.ptr i (o + k.toNat) 0)) none) none
    | _ => none
  | x => (indexAddrSV P T h x k).bind K
def evStillK {α : Type} (P : Program) (s : List (Nat × SV)) (h : Heap) (op : Op) (K : SV → Option α) : Option α :=
  match op with
  | .load T a => (opd s a).bind fun a => cellsAtK h a fun cs => (ofCellsV P T cs).bind K
  | .binOp op T x y _ => (opd s x).bind fun x => (opd s y).bind fun y => binK P T op x y K
  | .slice T x lo hi none => (opd s x).bind fun x => (optO s lo).bind fun lo => (optO s hi).bind fun hi => sliceK P T h x lo hi K
  | .indexAddr T x k => (opd s x).bind fun x => (opd s k).bind fun k => k.asI.bind fun k => indexAddrK P T h x k K
  | .index T x k => (opd s x).bind fun x => (opd s k).bind fun k => k.asI.bind fun k => match x with
    | .r _ (.str l) => cond (isStr P T) ((idx l k).bind fun c => K (.r [] (.int .u8 c.toNat))) none
    | _ => none
  | op => (evStill P s h op).bind K
theorem cond_bind {α β : Type} (b : Bool) (x y : Option α) (K : α → Option β) : (cond b x y).bind K = cond b (x.bind K) (y.bind K) := by cases b <;> rfl
theorem cellsAtK_eq {α : Type} (h : Heap) (v : SV) (K : List SV → Option α) : cellsAtK h v K = (cellsAt h v).bind K := by
  unfold cellsAtK cellsAt
  split
  · rfl
  · split
    · rfl
    · rw [Option.bind_assoc]; rfl
    · rfl
  · rfl
theorem binIK_eq {α : Type} (op : BinOp) (k : IntKind) (a b : Int) (K : R → Option α) : binIK op k a b K = (binI op k a b).bind K := by
  unfold binIK
  split
  · show _ = (cond _ none (some _)).bind K; rw [cond_bind]; rfl
  · show _ = (cond _ none (some _)).bind K; rw [cond_bind]; rfl
  · rfl
theorem shiftIK_eq {α : Type} (op : BinOp) (k : IntKind) (a b : Int) (K : R → Option α) : shiftIK op k a b K = (shiftI op k a b).bind K := by
  unfold shiftIK shiftI
  rw [cond_bind]
  cases op <;> rfl
theorem binSK_eq {α : Type} (op : BinOp) (a b : List UInt8) (K : R → Option α) : binSK op a b K = (binS op a b).bind K := by
  unfold binSK
  split
  · show _ = (cond _ (some _) none).bind K; rw [cond_bind]; rfl
  · rfl
theorem binK_eq {α : Type} (P : Program) (T : TypeId) (op : BinOp) (x y : SV) (K : SV → Option α) : binK P T op x y K = (bin P T op x y).bind K := by
  unfold binK
  split
  · simp only [bin, cond_bind, shiftIK_eq, binIK_eq, Option.bind_assoc, Option.bind_some, Option.bind_none]
  · simp only [bin, binSK_eq, Option.bind_assoc, Option.bind_some]
  · rfl
theorem boundsK_eq {α : Type} (n : Nat) (lo hi : Option SV) (K : Nat → Nat → Option α) : boundsK n lo hi K = (bounds n lo hi).bind fun b => K b.1 b.2 := by
  unfold boundsK bounds
  cases hi <;> cases lo <;> simp only [Option.bind_assoc, Option.bind_some, cond_bind, Option.bind_none]
theorem sliceK_eq {α : Type} (P : Program) (T : TypeId) (h : Heap) (x : SV) (lo hi : Option SV) (K : SV → Option α) : sliceK P T h x lo hi K = (sliceSV P T h x lo hi).bind K := by
  unfold sliceK sliceSV
  split
  · simp only [cond_bind, boundsK_eq, Option.bind_assoc, Option.bind_some, Option.bind_none]
  · simp only [cond_bind, boundsK_eq, Option.bind_assoc, Option.bind_some, Option.bind_none]
  · simp only [cond_bind, boundsK_eq, Option.bind_assoc, Option.bind_some, Option.bind_none]
  · split
    · simp only [cond_bind, boundsK_eq, Option.bind_assoc, Option.bind_some, Option.bind_none]
    · rfl
  · split
    · simp only [cond_bind, boundsK_eq, Option.bind_assoc, Option.bind_some, Option.bind_none]
    · rfl
  · rfl
theorem indexAddrK_eq {α : Type} (P : Program) (T : TypeId) (h : Heap) (x : SV) (k : Int) (K : SV → Option α) : indexAddrK P T h x k K = (indexAddrSV P T h x k).bind K := by
  unfold indexAddrK
  split
  · simp only [indexAddrSV, cond_bind, Option.bind_assoc, Option.bind_some, Option.bind_none]
  · simp only [indexAddrSV]
    split
    · simp only [cond_bind, Option.bind_some, Option.bind_none]
    · rfl
  · simp only [indexAddrSV]
    split
    · simp only [cond_bind, Option.bind_some, Option.bind_none]
    · rfl
  · rfl
theorem evStillK_eq {α : Type} (P : Program) (s : List (Nat × SV)) (h : Heap) (op : Op) (K : SV → Option α) : evStillK P s h op K = (evStill P s h op).bind K := by
  unfold evStillK
  split
  · simp only [evStill, cellsAtK_eq, Option.bind_assoc]
  · simp only [evStill, binK_eq, Option.bind_assoc]
  · simp only [evStill, sliceK_eq, Option.bind_assoc]
  · simp only [evStill, indexAddrK_eq, Option.bind_assoc]
  · simp only [evStill, Option.bind_assoc]
    congr 1; funext x; congr 1; funext k; congr 1; funext k
    split
    · simp only [cond_bind, Option.bind_assoc, Option.bind_some, Option.bind_none]
    · rfl
  · rfl
/-- What comes of an operation: its value, new blocks (from the next id on), blocks that are other than they were, blocks that are gone. -/
structure CR where
  v : SV
  news : List Blk := []
  upd : Heap := []
  gone : List Nat := []
  dirty : List Nat := []
def CR.kil (c : CR) : Kil := (c.gone, c.gone ++ c.dirty)
abbrev Out := SV × List Blk
abbrev Orc := (ρ : Type) → Nat → List SV → Heap → (CR → Option ρ) → Option ρ
def noOrc : Orc := fun _ _ _ _ _ => none
structure Env where
  P : Program
  tt : TT
  orc : FuncId → Orc
  /-- Functions that may write what they are handed; whether function values may. -/
  wr : FuncId → Bool := fun _ => false
  wt : Bool := false
  /-- Inner slices are taken with their place. -/
  inn : Bool := false
  /-- What is frozen ahead of a region: from then on it is read only. -/
  fz : Nat → List (Bool × Nat × List Nat) := fun _ => []
def newsH : Nat → List Blk → Heap
  | _, [] => []
  | n, b :: l => (n, b) :: newsH (n + 1) l
def upds : Heap → Heap → Heap
  | [], h => h
  | (k, b) :: l, h => upds l (put h k b)
def putO (s : List (Nat × SV)) (n : Nat) (dst : Option Tmp) (v : SV) : Option (List (Nat × SV)) :=
  match dst with
  | some t => cond (Nat.ble (t + 1) n) (some (put s t v)) none
  | none => some s
def St.take (st : St) (dst : Option Tmp) (c : CR) : Option St :=
  (sweepH' c.kil (upds c.upd st.heap)).bind fun h => (putO (sweepS' c.kil st.slots) st.n dst c.v).bind fun s =>
    some { st with slots := s, heap := h ++ newsH st.nid c.news, nid := st.nid + c.news.length }
def setCells (cs : List SV) (o : Nat) (vs : List SV) : Option (List SV) :=
  cond (Nat.ble (o + vs.length) cs.length) (some (cs.take o ++ vs ++ cs.drop (o + vs.length))) none
def flatTy : Ty → Bool
  | .sl _ => false
  | .st .shape | .st .wish | .st .taskK | .st .requestK => true
  | .st _ => false
  | _ => true
def isNil {α : Type} : List α → Bool
  | [] => true
  | _ => false
/-- Cells as a list of elements. -/
def elsOf (h : Heap) (t : Ty) : Nat → List SV → Option (List Nat × List t.El)
  | 0, _ => some ([], [])
  | n + 1, cs => (asEl h t (cs.take t.sz)).bind fun p => (elsOf h t n (cs.drop t.sz)).bind fun q => some (p.1 ++ q.1, p.2 :: q.2)
/-- A cell's value as one that is owned through and through, with the blocks that it takes in. -/
def SV.absR (h : Heap) (t : Ty) (v : SV) : Option (List Nat × R) :=
  match t with
  | .sl t' => match v with
    | .nilS => some ([], .sl t' [])
    | .own i => match look h i with
      | some (.arr none t1 xs) => if e : t1 = t' then some ([i], .sl t' (e ▸ xs)) else none
      | _ => none
    | _ => none
  | .st _ => none
  | .tok => match v with
    | .r _ (.tok n) => some ([], .tok n)
    | .nilS => some ([], .tok 0)
    | _ => none
  | _ => match v with
    | .r _ (.int k n) => some ([], .int k n)
    | .r _ (.bool b) => some ([], .bool b)
    | .r _ (.str l) => some ([], .str l)
    | _ => none
def absRs (h : Heap) : List Ty → List SV → Option (List Nat × List R)
  | [], [] => some ([], [])
  | t :: ts, v :: vs => (v.absR h t).bind fun p => (absRs h ts vs).bind fun q => some (p.1 ++ q.1, p.2 :: q.2)
  | _, _ => none
def absEls (h : Heap) (t : Ty) : Nat → List SV → Option (List Nat × List t.El)
  | 0, _ => some ([], [])
  | n + 1, cs => (absRs h t.tys (cs.take t.sz)).bind fun p => (t.ofCells p.2).bind fun x => (absEls h t n (cs.drop t.sz)).bind fun q => some (p.1 ++ q.1, x :: q.2)
def nodupB : List Nat → Bool
  | [] => true
  | i :: l => cond (mem i l) false (nodupB l)
def deepOf (h : Heap) : List SV → Option Bool
  | [] => some true
  | .own i :: l => (look h i).bind fun b => match b with
    | .arr none _ _ => deepOf h l
    | .arr (some _) _ _ => some false
    | .box _ => none
  | .r _ (.sl _ _) :: _ => some false
  | .sub _ _ _ :: _ => some false
  | .bsl _ _ :: _ => some false
  | _ :: l => deepOf h l
/-- Elements out of cells: owned through and through where that may be ('none', and what is taken in), else read only within ('some', and what they rest on). -/
def anyEls (h : Heap) (t : Ty) (n : Nat) (cs : List SV) : Option (Option (List Nat) × List Nat × List t.El) :=
  (deepOf h cs).bind fun b => cond b ((absEls h t n cs).bind fun q => cond (nodupB q.1) (some (none, q.1, q.2)) none) ((elsOf h t n cs).bind fun q => some (some q.1, [], q.2))
/-- A list's elements: as 'anyEls'. -/
def anyList (h : Heap) (t : Ty) (v : SV) : Option (Option (List Nat) × List Nat × List t.El) :=
  match v with
  | .bsl i n => match look h i with
    | some (.box cs) => (anyEls h t n cs).bind fun q => some (q.1, i :: q.2.1, q.2.2)
    | _ => none
  | _ => (v.list h t).bind fun p => cond (flatTy t) (some (none, [], p.2)) (some (some p.1, [], p.2))
/-- The array's kind behind new elements: 'some' where some are read only within. -/
def joinSh (a b : Option (List Nat)) : Option (Option (List Nat)) :=
  match a, b with
  | none, none => some none
  | some d, some d' => some (some (d ++ d'))
  | some d, none => some (some d)
  | none, some d => some (some d)
def smallB (P : Program) (T : TypeId) : Bool :=
  match P.info? T with
  | some i => Nat.ble i.bytes 512
  | none => false
/-- An inner slice of an owned list's element, by its place. -/
def innAt (E : Env) (s : List (Nat × SV)) (h : Heap) (T : TypeId) (a : Operand) : Option SV :=
  cond E.inn (cond (isSl E.P T) (match opd s a with
    | some (.ptr i x o) => match look h i with
      | some (.arr none t _) => cond (Nat.ble (o + 1) t.sz) (some (.inn i x o)) none
      | _ => none
    | _ => none) none) none
/-- A literal's bytes, taken for a string's. -/
def litAt (P : Program) (s : List (Nat × SV)) (h : Heap) (src dst : TypeId) (x : Operand) : Option Nat :=
  cond (Nat.beq src dst && bytesT P src) (match opd s x with
    | some (.own i) => match look h i with
      | some (.arr _ _ (_ :: _)) => some i
      | _ => none
    | _ => none) none
/-- The part of an owned list that is cleared. -/
def clrAt (h : Heap) : SV → Option (Nat × Nat × Nat)
  | .sub i o n => some (i, o, n)
  | .own i => match look h i with
    | some (.arr _ _ xs) => some (i, 0, xs.length)
    | _ => none
  | _ => none
variable {ρ : Type}
/-- Into an element. -/
def storeArr (P : Program) (T : TypeId) (h : Heap) (i : Nat) (sh : Option (List Nat)) (t : Ty) (ys : List t.El) (k o : Nat) (x : SV) (K : CR → Option ρ) : Option ρ :=
  x.cells.bind fun xs => (sizeT P T).bind fun sz => cond (Nat.beq sz xs.length && Nat.ble (o + sz) t.sz) (
    match sh with
    | none => (absRs h ((t.tys.drop o).take sz) xs).bind fun p => cond (nodupB (i :: p.1)) (
        cond (Nat.beq sz t.sz)
          ((t.ofCells p.2).bind fun y => K { v := .undef, upd := [(i, .arr none t (ys.set k y))], gone := p.1, dirty := [i] })
          ((ys[k]?).bind fun e => (t.ofCells ((t.cells e).take o ++ p.2 ++ (t.cells e).drop (o + sz))).bind fun y => K { v := .undef, upd := [(i, .arr none t (ys.set k y))], gone := p.1, dirty := [i] })) none
    | some d => (asRs h ((t.tys.drop o).take sz) xs).bind fun p => cond (mem i p.1) none (
        cond (Nat.beq sz t.sz)
          ((t.ofCells p.2).bind fun y => K { v := .undef, upd := [(i, .arr (some (d ++ p.1)) t (ys.set k y))], dirty := [i] })
          ((ys[k]?).bind fun e => (t.ofCells ((t.cells e).take o ++ p.2 ++ (t.cells e).drop (o + sz))).bind fun y => K { v := .undef, upd := [(i, .arr (some (d ++ p.1)) t (ys.set k y))], dirty := [i] }))) none
def intT (P : Program) (T : TypeId) : Bool :=
  match P.underlying T with
  | some (.int _) => true
  | _ => false
/-- 'append' of so many zeros to nothing. -/
def appMade (E : Env) (h : Heap) (nid : Nat) (e : TypeId) (sz : Nat) (t : Ty) (T' : TypeId) (b x : SV) (K : CR → Option ρ) : Option ρ :=
  match b with
  | .nilS => cond (intT E.P T' && (smallB E.P e && Nat.beq t.sz sz)) (x.asI.bind fun l => (zeroCs E.P e).bind fun z => (absEls h t 1 z).bind fun q => cond (isNil q.1 && Nat.beq z.length sz) (match q.2 with
      | [y] => cond (decide (1 ≤ l ∧ l ≤ (maxN : Int))) (K { v := .own nid, news := [.arr none t (List.replicate l.toNat y)] }) none
      | _ => none) none) none
  | _ => none
/-- The operations that write or make memory; K gets what comes of it. -/
def evMem (E : Env) (s : List (Nat × SV)) (h : Heap) (nid : Nat) (op : Op) (K : CR → Option ρ) : Option ρ :=
  match op with
  | .alloc T => (zeroCs E.P T).bind fun z => K { v := .ptr nid 0 0, news := [.box z] }
  | .box _ x => (opd s x).bind fun v => v.cells.bind fun cs => K { v := .ptr nid 0 0, news := [.box cs] }
  | .buildSlice T n parts =>
    (elemT E.P T).bind fun e => (sizeT E.P e).bind fun sz => (partsO s parts.toList).bind fun ps => (zeroCs E.P e).bind fun z =>
      cond (Nat.ble (n * sz) 16777216 && Nat.beq z.length sz) ((fillCs (fun i => some (i * sz, sz)) (List.replicate (n * sz) .undef) ps).bind fun cs =>
        match E.tt e with
        | none => K { v := .bsl nid n, news := [.box cs] }
        | some t => cond ((flatTy t || Nat.beq n 0) && Nat.beq t.sz sz) ((absEls h t n cs).bind fun x => cond (isNil x.1) (K { v := .own nid, news := [.arr none t x.2] }) none) (K { v := .bsl nid n, news := [.box cs] })) none
  | .makeSlice T l c =>
    (elemT E.P T).bind fun e => (sizeT E.P e).bind fun sz => (E.tt e).bind fun t => (zeroCs E.P e).bind fun z => (opd s l).bind fun l => (opd s c).bind fun c => l.asI.bind fun l => c.asI.bind fun c =>
      cond (smallB E.P e && Nat.beq t.sz sz) ((absEls h t 1 z).bind fun x => cond (isNil x.1 && Nat.beq z.length sz) (match x.2 with
        | [y] => cond (decide (0 ≤ l ∧ l ≤ c ∧ c ≤ (maxN : Int))) (K { v := .own nid, news := [.arr none t (List.replicate l.toNat y)] }) none
        | _ => none) none) none
  | .call { callee := .builtin .append, args, argTypes } => (opds s args.toList).bind fun vs => match vs, argTypes.toList with
    | [b, x], [T, T'] => (elemT E.P T).bind fun e => (sizeT E.P e).bind fun sz => (E.tt e).bind fun t => cond (smallB E.P e && (Nat.beq t.sz sz && Nat.beq T T')) ((zeroCs E.P e).bind fun z => cond (Nat.beq z.length sz)
      ((anyList h t x).bind fun y => match b with
        | .nilS => cond (hit y.2.1 (y.1.getD [])) none (cond (Nat.ble y.2.2.length maxN) (K { v := .own nid, news := [.arr y.1 t y.2.2], gone := y.2.1 }) none)
        | .own i => match look h i with
          | some (.arr sh t' xs) => if he : t' = t then
              (joinSh sh y.1).bind fun sh' => cond (mem i y.2.1) none (cond (hit (i :: y.2.1) (sh'.getD [])) none (cond (Nat.ble (xs.length + y.2.2.length) maxN) (K { v := .own nid, news := [.arr sh' t ((he ▸ xs) ++ y.2.2)], gone := i :: y.2.1 }) none))
            else none
          | _ => none
        | _ => none) none) (appMade E h nid e sz t T' b x K)
    | _, _ => none
  | .call { callee := .builtin .clear, args, argTypes } => (opds s args.toList).bind fun vs => match vs, argTypes.toList with
    | [v], [T] => (elemT E.P T).bind fun e => (zeroCs E.P e).bind fun z => (clrAt h v).bind fun p => match look h p.1 with
      | some (.arr sh t xs) => cond (Nat.beq z.length t.sz) ((absEls h t 1 z).bind fun x => cond (isNil x.1) (match x.2 with
        | [y] => K { v := .undef, upd := [(p.1, .arr sh t (xs.take p.2.1 ++ List.replicate p.2.2 y ++ xs.drop (p.2.1 + p.2.2)))], dirty := [p.1] }
        | _ => none) none) none
      | _ => none
    | _, _ => none
  | .store T a x => (opd s a).bind fun a => (opd s x).bind fun x => match a with
    | .ptr i k o => match look h i with
      | some (.box cs) => cond (Nat.beq k 0) (x.cells.bind fun xs => (sizeT E.P T).bind fun sz => cond (Nat.beq sz xs.length) ((setCells cs o xs).bind fun cs => K { v := .undef, upd := [(i, .box cs)] }) none) none
      | some (.arr sh t ys) => storeArr E.P T h i sh t ys k o x K
      | _ => none
    | _ => none
  | .call { callee := .value f, args, .. } => (opd s f).bind fun f => (opds s args.toList).bind fun vs => match f with
    | .fn (.func g) first cap => E.orc g ρ nid (first ++ vs ++ cap) h K
    | _ => none
  | .load T a => match innAt E s h T a with
    | some v => K { v := v }
    | none => evStillK E.P s h (.load T a) fun v => K { v := v }
  | .convert src dst x => match litAt E.P s h src dst x with
    | some i => K { v := .own i }
    | none => evStillK E.P s h (.convert src dst x) fun v => K { v := v }
  | op => evStillK E.P s h op fun v => K { v := v }
/-- Two answers that are one. -/
noncomputable def both (x y : Option ρ) : Option ρ := open Classical in if x = y then x else none
/-- A test whether a slice is nil: its type, the slice, what is answered where it is. -/
def nilArg : Op → Option (TypeId × Operand × Bool)
  | .binOp .eql T x (.const (.slice none 0 0)) _ => some (T, x, true)
  | .binOp .neq T x (.const (.slice none 0 0)) _ => some (T, x, false)
  | _ => none
/-- An empty slice may be nil or not: both ways come to one. -/
noncomputable def nilK (h : Heap) (v : SV) (K : Bool → Option ρ) : Option ρ :=
  match v with
  | .nilS => K true
  | .r _ (.sl _ xs) => cond (isNil xs) (both (K true) (K false)) (K false)
  | .own i => match look h i with
    | some (.arr _ _ xs) => cond (isNil xs) (both (K true) (K false)) (K false)
    | _ => none
  | _ => none
noncomputable def evOp (E : Env) (o : Oper) (st : St) (K : St → Option ρ) : Option ρ :=
  match nilArg o.op with
  | some (T, x, e) => cond (isSl E.P T) ((opd st.slots x).bind fun v => nilK st.heap v fun b => (st.take o.dst { v := .b (cond b e (!e)) }).bind K) none
  | none => evMem E st.slots st.heap st.nid o.op fun c => (st.take o.dst c).bind K
def dstOf (ops : List Oper) (j : Nat) : Option Tmp := (ops[j]?).bind (·.dst)
def skipOp (o : Oper) (st : St) (K : St → Option ρ) : Option ρ :=
  (putO st.slots st.n o.dst (.tup [])).bind fun s => K { st with slots := s }
noncomputable def evOps (E : Env) (all : List Oper) : List Oper → St → (St → Option ρ) → Option ρ
  | [], st, K => K st
  | o :: rest, st, K =>
    match o.guard with
    | none => evOp E o st fun st => evOps E all rest st K
    | some (j, want) => (dstOf all j).bind fun t => (look st.slots t).bind fun v => match v with
      | .tup [] => skipOp o st fun st => evOps E all rest st K
      | v => v.asB.bind fun b =>
        cond b
          (cond want (evOp E o { st with slots := put st.slots t (.b true) } fun st => evOps E all rest st K)
            (skipOp o { st with slots := put st.slots t (.b true) } fun st => evOps E all rest st K))
          (cond want (skipOp o { st with slots := put st.slots t (.b false) } fun st => evOps E all rest st K)
            (evOp E o { st with slots := put st.slots t (.b false) } fun st => evOps E all rest st K))
/-- The heap behind what came of an operation. -/
def after (H : Heap) (nid : Nat) (c : CR) : Option Heap :=
  (sweepH' c.kil (upds c.upd H)).bind fun h => some (h ++ newsH nid c.news)
/-- What came of one operation; 'n0': the first id of what it makes. -/
structure DR where
  dst : Option Tmp
  n0 : Nat
  c : CR
  /-- The blocks that it was shown, where a writer's turn is open. -/
  see : List Nat
  /-- It hands on a value, or is left out: it looks at no block. -/
  mv : Bool := false
abbrev SH := List (Nat × SV) × Heap
def putD (s : List (Nat × SV)) (dst : Option Tmp) (v : SV) : List (Nat × SV) :=
  match dst with
  | some t => put s t v
  | none => s
def setH : Heap → Nat → Blk → Heap
  | [], _, _ => []
  | (k, u) :: l, n, b => cond (Nat.beq k n) ((k, b) :: l) ((k, u) :: setH l n b)
def updsX : Heap → Heap → Heap
  | [], h => h
  | (k, b) :: l, h => updsX l (setH h k b)
def DR.app (r : DR) (x : SH) : Option SH :=
  (sweepH' r.c.kil (updsX r.c.upd x.2)).bind fun h => some (putD (sweepS' r.c.kil x.1) r.dst r.c.v, h ++ newsH r.n0 r.c.news)
/-- The state behind those of the operations that 'p' names, in the order of the text. -/
def replay (p : Nat → Bool) : Nat → List DR → SH → Option SH
  | _, [], x => some x
  | j, r :: l, x => cond (p j) ((r.app x).bind fun x => replay p (j + 1) l x) (replay p (j + 1) l x)
def edgesOk (n : Nat) : List Edge → Bool
  | [] => true
  | e :: l => cond (Region.binds .any e) (cond (Nat.ble (e.on + 1) n) (edgesOk n l) false) (edgesOk n l)
/-- All that an operation waits for, as bits. -/
def ancOf (masks : List Nat) : List Edge → Nat
  | [] => 0
  | e :: l => cond (Region.binds .any e) ((masks.getD e.on 0 ||| 2 ^ e.on) ||| ancOf masks l) (ancOf masks l)
def masksOf : List Nat → List Oper → Option (List Nat)
  | acc, [] => some acc
  | acc, o :: l => cond (edgesOk acc.length o.after.toList) (masksOf (acc ++ [ancOf acc o.after.toList]) l) none
def dstsOf : List Oper → List Nat
  | [] => []
  | o :: l => match o.dst with
    | some t => t :: dstsOf l
    | none => dstsOf l
/-- The slots that number i does not read as they were ahead of the region: the ones that an operation sets that does not wait for it. -/
def banT (masks : List Nat) (i : Nat) : Nat → List Oper → List Nat
  | _, [] => []
  | j, o :: l => cond ((masks.getD j 0).testBit i) (banT masks i (j + 1) l) (match o.dst with
    | some t => t :: banT masks i (j + 1) l
    | none => banT masks i (j + 1) l)
def ltAll (n : Nat) : List Nat → Bool
  | [] => true
  | i :: l => cond (Nat.ble (i + 1) n) (ltAll n l) false
def tempsOf : List Operand → List Nat
  | [] => []
  | .tmp t :: l => t :: tempsOf l
  | _ :: l => tempsOf l
def restr (T : List Nat) (s : List (Nat × SV)) : List Nat → List (Nat × SV)
  | [] => []
  | t :: l => cond (mem t T) (restr T s l) (match look s t with
    | some v => (t, v) :: restr T s l
    | none => restr T s l)
/-- Operations that may write. -/
def isWriter (E : Env) : Op → Bool
  | .store _ _ _ => true
  | .call { callee := .builtin .len, .. } | .call { callee := .builtin .cap, .. } | .call { callee := .builtin .min, .. } | .call { callee := .builtin .max, .. } => false
  | .call { callee := .builtin _, .. } => true
  | .call { callee := .value (.func g), .. } => E.wr g
  | .call { callee := .value _, .. } => E.wt
  | .call _ => false
  | _ => false
def ordB (masks : List Nat) (i j : Nat) : Bool := Nat.beq i j || ((masks.getD i 0).testBit j || (masks.getD j 0).testBit i)
/-- Some writer is not in order with number i. -/
def blindB (E : Env) (masks : List Nat) (i : Nat) : Nat → List Oper → Bool
  | _, [] => false
  | j, o :: l => cond (isWriter E o.op) (cond (ordB masks i j) (blindB E masks i (j + 1) l) true) (blindB E masks i (j + 1) l)
def valsT (s : List (Nat × SV)) : List Nat → List SV
  | [] => []
  | t :: l => match look s t with
    | some v => v :: valsT s l
    | none => valsT s l
def restrH (h : Heap) : List Nat → Heap
  | [] => []
  | i :: l => match look h i with
    | some b => (i, b) :: restrH h l
    | none => restrH h l
/-- Operations that look at no block. -/
def blankOp : Op → Bool
  | .move _ => true
  | .assign _ => true
  | _ => false
/-- The blocks that number i is shown, where a writer is not in order with it: those that its operands reach. -/
def seeB (E : Env) (masks : List Nat) (i : Nat) (ops : List Oper) (x : SH) (o : Oper) : List Nat :=
  cond (blindB E masks i 0 ops && !blankOp o.op) (reach x.2 3 (addNew [] (idsL (valsT x.1 (tempsOf o.op.operands.toList))))) []
def viewB (E : Env) (masks : List Nat) (i : Nat) (ops : List Oper) (x : SH) (o : Oper) : Heap :=
  cond (blindB E masks i 0 ops) (restrH x.2 (seeB E masks i ops x o)) x.2
def hitH (L : List Nat) : Heap → Bool
  | [] => false
  | (k, _) :: l => cond (mem k L) true (hitH L l)
def okW (E : Env) (op : Op) (c : CR) : Bool := cond (isWriter E op) true (isNil c.kil.2 && isNil c.upd)
mutual
/-- The blocks that a value rests on, in any way. -/
def SV.rests : SV → List Nat
  | .r d _ => d
  | .own i => [i]
  | .sub i _ _ => [i]
  | .bsl i _ => [i]
  | .ptr i _ _ => [i]
  | .inn i _ _ => [i]
  | .rptr d _ => d
  | .agg cs => restsL cs
  | .tup cs => restsL cs
  | .fn _ a b => restsL a ++ restsL b
  | .nilS => []
  | .nilP => []
  | .undef => []
def restsL : List SV → List Nat
  | [] => []
  | v :: l => v.rests ++ restsL l
end
/-- It changes nothing but its own slot. -/
def idleB (r : DR) : Bool := r.mv && (isNil r.c.kil.2 && (isNil r.c.upd && isNil r.c.news))
/-- What 'b' takes away does not touch what 'a' hands on. -/
def firmB (b a : DR) : Bool := !(hit b.c.kil.2 a.c.v.rests)
def commO (a b : DR) : Bool := (isNil a.c.kil.2 && isNil b.c.kil.2) && ((isNil a.c.upd && isNil b.c.upd) || ((isNil a.c.upd && isNil a.c.news) || (isNil b.c.upd && isNil b.c.news))) && (!(hitH b.see a.c.upd) && !(hitH a.see b.c.upd))
/-- The two may come in either order. -/
def commB (a b : DR) : Bool := commO a b || ((idleB a && firmB b a) || (idleB b && firmB a b))
def pairs1 (masks : List Nat) (i : Nat) (r : DR) : Nat → List DR → Bool
  | _, [] => true
  | j, b :: l => cond ((masks.getD j 0).testBit i) (pairs1 masks i r (j + 1) l) (cond (commB r b) (pairs1 masks i r (j + 1) l) false)
def pairsB (masks : List Nat) : Nat → List DR → Bool
  | _, [] => true
  | i, r :: l => cond (pairs1 masks i r (i + 1) l) (pairsB masks (i + 1) l) false
def setV : List DR → Nat → SV → List DR
  | [], _, _ => []
  | r :: l, 0, v => { r with c := { r.c with v := v } } :: l
  | r :: l, n + 1, v => r :: setV l n v
def evDraw (E : Env) (ops : List Oper) (masks dsts : List Nat) (s0 : List (Nat × SV)) (h0 : Heap) : Nat → List Oper → Nat → List DR → (List DR → Nat → Option ρ) → Option ρ
  | _, [], nid, rs, K => K rs nid
  | i, o :: rest, nid, rs, K =>
    (replay (Nat.testBit (masks.getD i 0)) 0 rs (restr (banT masks i 0 ops) s0 (tempsOf o.op.operands.toList), h0)).bind fun x =>
    match o.guard with
    | none => evMem E x.1 (viewB E masks i ops x o) nid o.op fun c => cond (okW E o.op c) (evDraw E ops masks dsts s0 h0 (i + 1) rest (nid + c.news.length) (rs ++ [⟨o.dst, nid, c, seeB E masks i ops x o, blankOp o.op⟩]) K) none
    | some (g, want) => cond (Nat.testBit (masks.getD i 0) g) ((rs[g]?).bind fun r => r.dst.bind fun _ => match r.c.v with
      | .tup [] => evDraw E ops masks dsts s0 h0 (i + 1) rest nid (rs ++ [⟨o.dst, nid, { v := .tup [] }, [], true⟩]) K
      | .r [] (.bool b) => cond b
        (cond want
          (evMem E x.1 (viewB E masks i ops x o) nid o.op fun c => cond (okW E o.op c) (evDraw E ops masks dsts s0 h0 (i + 1) rest (nid + c.news.length) (setV rs g (.b true) ++ [⟨o.dst, nid, c, seeB E masks i ops x o, blankOp o.op⟩]) K) none)
          (evDraw E ops masks dsts s0 h0 (i + 1) rest nid (setV rs g (.b true) ++ [⟨o.dst, nid, { v := .tup [] }, [], true⟩]) K))
        (cond want
          (evDraw E ops masks dsts s0 h0 (i + 1) rest nid (setV rs g (.b false) ++ [⟨o.dst, nid, { v := .tup [] }, [], true⟩]) K)
          (evMem E x.1 (viewB E masks i ops x o) nid o.op fun c => cond (okW E o.op c) (evDraw E ops masks dsts s0 h0 (i + 1) rest (nid + c.news.length) (setV rs g (.b false) ++ [⟨o.dst, nid, c, seeB E masks i ops x o, blankOp o.op⟩]) K) none))
      | _ => none) none
def evDrawn (E : Env) (ops : List Oper) (st : St) (K : St → Option ρ) : Option ρ :=
  cond (E.P.follows .mixedOrders) ((masksOf [] ops).bind fun masks =>
    cond (nodupB (dstsOf ops)) (cond (ltAll st.n (dstsOf ops))
      (evDraw E ops masks (dstsOf ops) st.slots st.heap 0 ops st.nid [] fun rs nid => cond (pairsB masks 0 rs)
        ((replay (fun _ => true) 0 rs (st.slots, st.heap)).bind fun x => K { st with slots := x.1, heap := x.2, nid := nid }) none) none) none) none
inductive Ex where
  | normal
  | exit (id : Nat)
  | ret
def refine (c : Operand) (b : Bool) (st : St) : St :=
  match c with
  | .tmp t => { st with slots := put st.slots t (.b b) }
  | _ => st
abbrev Ev (ρ : Type) := St → (Ex → St → Option ρ) → Option ρ
def inBlock (id : Nat) (K : Ex → St → Option ρ) : Ex → St → Option ρ
  | .exit j, st => cond (Nat.beq j id) (K .normal st) (K (.exit j) st)
  | e, st => K e st
def remD (i : Nat) : List Nat → List Nat
  | [] => []
  | k :: l => cond (Nat.beq k i) (remD i l) (k :: remD i l)
def frzOwn (i : Nat) (t : Ty) (h : Heap) (v : SV) : SV :=
  match v.list h t with
  | some p => .r (remD i p.1) (.sl t p.2)
  | none => .undef
mutual
def SV.frz (i : Nat) (t : Ty) (h : Heap) : SV → SV
  | .r d x => .r (remD i d) x
  | .own j => cond (Nat.beq j i) (frzOwn i t h (.own j)) (.own j)
  | .sub j o n => cond (Nat.beq j i) (frzOwn i t h (.sub j o n)) (.sub j o n)
  | .bsl j n => cond (Nat.beq j i) .undef (.bsl j n)
  | .ptr j x o => cond (Nat.beq j i) .undef (.ptr j x o)
  | .inn j x c => cond (Nat.beq j i) .undef (.inn j x c)
  | .rptr d cs => .rptr (remD i d) cs
  | .agg cs => .agg (frzL i t h cs)
  | .tup cs => .tup (frzL i t h cs)
  | .fn f a b => .fn f (frzL i t h a) (frzL i t h b)
  | .nilS => .nilS
  | .nilP => .nilP
  | .undef => .undef
def frzL (i : Nat) (t : Ty) (h : Heap) : List SV → List SV
  | [] => []
  | v :: l => v.frz i t h :: frzL i t h l
end
def Blk.frz (i : Nat) (t : Ty) (h : Heap) : Blk → Blk
  | .box cs => .box (frzL i t h cs)
  | .arr none t' xs => .arr none t' xs
  | .arr (some d) t' xs => .arr (some (remD i d)) t' xs
def frzH (i : Nat) (t : Ty) (h : Heap) : Heap → Heap
  | [] => []
  | (k, b) :: l => cond (Nat.beq k i) (frzH i t h l) ((k, b.frz i t h) :: frzH i t h l)
def frzSl (i : Nat) (t : Ty) (h : Heap) : List (Nat × SV) → List (Nat × SV)
  | [] => []
  | (k, v) :: l => (k, v.frz i t h) :: frzSl i t h l
def frzS (i : Nat) (st : St) : St :=
  match look st.heap i with
  | some (.arr _ t _) => { st with slots := frzSl i t st.heap st.slots, heap := frzH i t st.heap st.heap }
  | _ => st
/-- The block that a place bears. -/
def fzAt (h : Heap) : SV → List Nat → Option Nat
  | .own i, [] => some i
  | .sub i _ _, [] => some i
  | .agg cs, j :: p => match cs[j]? with
    | some v => fzAt h v p
    | none => none
  | .tup cs, j :: p => match cs[j]? with
    | some v => fzAt h v p
    | none => none
  | .ptr i 0 o, j :: p => match look h i with
    | some (.box cs) => match cs[o + j]? with
      | some v => fzAt h v p
      | none => none
    | _ => none
  | .bsl i _, j :: p => match look h i with
    | some (.box cs) => match cs[j]? with
      | some v => fzAt h v p
      | none => none
    | _ => none
  | _, _ => none
termination_by structural _ p => p
/-- An empty list's elements will be read only within. -/
def shrS (i : Nat) (st : St) : St :=
  match look st.heap i with
  | some (.arr none t []) => { st with heap := put st.heap i (.arr (some []) t []) }
  | _ => st
def frzOne (st : St) (x : Bool × Nat × List Nat) : St :=
  match look st.slots x.2.1 with
  | some v => match fzAt st.heap v x.2.2 with
    | some i => cond x.1 (shrS i st) (frzS i st)
    | none => st
  | none => st
def frzAll : List (Bool × Nat × List Nat) → St → St
  | [], st => st
  | x :: l, st => frzAll l (frzOne st x)
noncomputable def ev (E : Env) (LP : Nat → Ev ρ → Ev ρ) (cb : Nat) : Code → Ev ρ
  | .skip, st, K => K .normal st
  | .label _, st, K => K .normal st
  | .region id ops false, st, K => evOps E ops.toList ops.toList (frzAll (E.fz id) st) (K .normal)
  | .region id ops true, st, K => evDrawn E ops.toList (frzAll (E.fz id) st) (K .normal)
  | .seq a b, st, K => ev E LP cb a st fun e st => match e with
    | .normal => ev E LP cb b st K
    | e => K e st
  | .cond c t f, st, K => (opd st.slots c).bind fun v => v.asB.bind fun b => cond b (ev E LP cb t (refine c true st) K) (ev E LP cb f (refine c false st) K)
  | .block id c, st, K => ev E LP id c st (inBlock id K)
  | .loop c, st, K => LP cb (fun st K => ev E LP cb c st K) st K
  | .exit id, st, K => K (.exit id) st
  | .scope c, st, K => ev E LP cb c st K
  | .ret, st, K => K .ret st
  | _, _, _ => none
def loopN (body : Ev ρ) : Nat → Ev ρ
  | 0, _, _ => none
  | n + 1, st, K => body st fun e st => match e with
    | .normal => loopN body n st K
    | e => K e st
end Go.Proofs.Ev

namespace Go.Proofs.Ev
def Ext {α : Type} (s s' : List (Nat × α)) : Prop := ∀ t v, look s t = some v → look s' t = some v
theorem Ext.rfl' {α : Type} {s : List (Nat × α)} : Ext s s := fun _ _ h => h
def Le {α : Type} (x y : Option α) : Prop := ∀ a, x = some a → y = some a
theorem Le.refl {α : Type} (x : Option α) : Le x x := fun _ h => h
theorem Le.bind {α β : Type} {x y : Option α} {f g : α → Option β} (h : Le x y) (hf : ∀ a, Le (f a) (g a)) : Le (x.bind f) (y.bind g) := by
  intro b hb
  rw [Option.bind_eq_some_iff] at hb ⊢
  obtain ⟨a, h1, h2⟩ := hb
  exact ⟨a, h a h1, hf a b h2⟩
theorem Le.cond {α : Type} {b : Bool} {x y x' y' : Option α} (h : Le x x') (h' : Le y y') : Le (cond b x y) (cond b x' y') := by cases b <;> assumption
theorem Le.none {α : Type} {y : Option α} : Le Option.none y := fun _ h => nomatch h
section
variable {s s' : List (Nat × SV)} {h h' : Heap} {P : Program}
theorem look_le (hh : Ext h h') (i : Nat) : Le (look h i) (look h' i) := fun _ => hh i _
theorem opd_le (hs : Ext s s') (x : Operand) : Le (opd s x) (opd s' x) := by
  cases x with
  | tmp t => exact fun v hv => hs t v hv
  | _ => exact Le.refl _
theorem opds_le (hs : Ext s s') : (l : List Operand) → Le (opds s l) (opds s' l)
  | [] => Le.refl _
  | x :: l => (opd_le hs x).bind fun _ => (opds_le hs l).bind fun _ => Le.refl _
theorem optO_le (hs : Ext s s') (x : Option Operand) : Le (optO s x) (optO s' x) := by
  cases x with
  | none => exact Le.refl _
  | some x => exact (opd_le hs x).bind fun _ => Le.refl _
theorem partsO_le (hs : Ext s s') : (l : List (Nat × Operand)) → Le (partsO s l) (partsO s' l)
  | [] => Le.refl _
  | (_, x) :: l => (opd_le hs x).bind fun _ => (partsO_le hs l).bind fun _ => Le.refl _
theorem cellsAt_le (hh : Ext h h') (v : SV) : Le (cellsAt h v) (cellsAt h' v) := by
  cases v <;> try exact Le.refl _
  rename_i i x o
  intro cs hcs
  simp only [cellsAt] at hcs ⊢
  cases hl : look h i with
  | none => rw [hl] at hcs; exact nomatch hcs
  | some B => rw [hl] at hcs; rw [hh i B hl]; exact hcs
theorem lenOf_le (hh : Ext h h') (v : SV) : Le (lenOf h v) (lenOf h' v) := by
  intro n hn
  cases v with
  | own i =>
    simp only [lenOf] at hn ⊢
    cases hl : look h i with
    | none => rw [hl] at hn; exact nomatch hn
    | some B => rw [hl] at hn; rw [hh i B hl]; exact hn
  | r d x => cases x <;> exact hn
  | _ => exact hn
theorem sliceSV_le (hh : Ext h h') (T : TypeId) (v : SV) (lo hi : Option SV) : Le (sliceSV P T h v lo hi) (sliceSV P T h' v lo hi) := by
  intro cs hcs
  cases v with
  | own i =>
    simp only [sliceSV] at hcs ⊢
    cases hl : look h i with
    | none => rw [hl] at hcs; exact nomatch hcs
    | some B => rw [hl] at hcs; rw [hh i B hl]; exact hcs
  | sub i o n =>
    simp only [sliceSV] at hcs ⊢
    cases hl : look h i with
    | none => rw [hl] at hcs; exact nomatch hcs
    | some B => rw [hl] at hcs; rw [hh i B hl]; exact hcs
  | r d x => cases x <;> exact hcs
  | _ => exact hcs
theorem indexAddrSV_le (hh : Ext h h') (T : TypeId) (v : SV) (k : Int) : Le (indexAddrSV P T h v k) (indexAddrSV P T h' v k) := by
  intro cs hcs
  cases v with
  | own i =>
    simp only [indexAddrSV] at hcs ⊢
    cases hl : look h i with
    | none => rw [hl] at hcs; exact nomatch hcs
    | some B => rw [hl] at hcs; rw [hh i B hl]; exact hcs
  | sub i o n =>
    simp only [indexAddrSV] at hcs ⊢
    cases hl : look h i with
    | none => rw [hl] at hcs; exact nomatch hcs
    | some B => rw [hl] at hcs; rw [hh i B hl]; exact hcs
  | r d x => cases x <;> exact hcs
  | _ => exact hcs
theorem list_le (hh : Ext h h') (t : Ty) (v : SV) : Le (v.list h t) (v.list h' t) := by
  intro p hp
  cases v <;> try exact hp
  all_goals
    simp only [SV.list] at hp ⊢
    split at hp
    · rename_i hl; rw [hh _ _ hl]; exact hp
    · exact nomatch hp
theorem evStill_le (hs : Ext s s') (hh : Ext h h') (op : Op) : Le (evStill P s h op) (evStill P s' h' op) := by
  intro v hv
  unfold evStill at hv
  split at hv <;> simp only [evStill]
  · exact opd_le hs _ v hv
  · exact opd_le hs _ v hv
  · revert hv; exact ((opd_le hs _).bind fun c => (Le.refl _).bind fun b => Le.cond (opd_le hs _) (opd_le hs _)) v
  · revert hv
    split
    · exact ((Le.refl _).bind fun _ => (Le.refl _).bind fun _ => (partsO_le hs _).bind fun _ => Le.refl _) v
    · exact fun h => nomatch h
  · exact ((opd_le hs _).bind fun a => (cellsAt_le hh a).bind fun _ => Le.refl _) v hv
  · exact ((opd_le hs _).bind fun a => Le.refl _) v hv
  · exact ((opd_le hs _).bind fun a => (opd_le hs _).bind fun _ => Le.refl _) v hv
  · exact ((opd_le hs _).bind fun a => Le.refl _) v hv
  · exact ((opd_le hs _).bind fun a => Le.cond ((list_le hh _ _).bind fun _ => Le.refl _) (Le.refl _)) v hv
  · exact ((opds_le hs _).bind fun a => (opds_le hs _).bind fun _ => Le.refl _) v hv
  · exact ((opd_le hs _).bind fun a => (optO_le hs _).bind fun _ => (optO_le hs _).bind fun _ => sliceSV_le hh _ _ _ _) v hv
  · exact ((opd_le hs _).bind fun a => Le.refl _) v hv
  · exact ((opd_le hs _).bind fun a => Le.refl _) v hv
  · exact ((opd_le hs _).bind fun a => (opd_le hs _).bind fun _ => (Le.refl _).bind fun _ => indexAddrSV_le hh _ _ _) v hv
  · exact ((opd_le hs _).bind fun a => (opd_le hs _).bind fun _ => Le.refl _) v hv
  · exact ((opd_le hs _).bind fun a => Le.refl _) v hv
  · refine ((opds_le hs _).bind fun vs => ?_) v hv
    split
    · exact Le.cond ((lenOf_le hh _).bind fun _ => Le.refl _) (Le.refl _)
    · exact Le.refl _
  · exact ((opds_le hs _).bind fun a => Le.refl _) v hv
  · exact ((opds_le hs _).bind fun a => Le.refl _) v hv
  · exact ((opds_le hs _).bind fun a => Le.refl _) v hv
  · exact nomatch hv
theorem asR_le (hh : Ext h h') (t : Ty) (v : SV) : Le (v.asR h t) (v.asR h' t) := by
  cases t with
  | sl t => exact (list_le hh t v).bind fun _ => Le.refl _
  | _ => exact Le.refl _
theorem asRs_le (hh : Ext h h') : (ts : List Ty) → (vs : List SV) → Le (asRs h ts vs) (asRs h' ts vs)
  | [], [] => Le.refl _
  | t :: ts, v :: vs => (asR_le hh t v).bind fun _ => (asRs_le hh ts vs).bind fun _ => Le.refl _
  | [], _ :: _ => Le.refl _
  | _ :: _, [] => Le.refl _
theorem asEl_le (hh : Ext h h') (t : Ty) (vs : List SV) : Le (asEl h t vs) (asEl h' t vs) := (asRs_le hh _ _).bind fun _ => Le.refl _
theorem elsOf_le (hh : Ext h h') (t : Ty) : (n : Nat) → (c : List SV) → Le (elsOf h t n c) (elsOf h' t n c)
  | 0, _ => Le.refl _
  | n + 1, _ => (asEl_le hh t _).bind fun _ => (elsOf_le hh t n _).bind fun _ => Le.refl _
theorem absR_le (hh : Ext h h') (t : Ty) (v : SV) : Le (v.absR h t) (v.absR h' t) := by
  intro p hp
  cases t with
  | sl t =>
    cases v with
    | own i =>
      simp only [SV.absR] at hp ⊢
      cases hl : look h i with
      | none => rw [hl] at hp; exact nomatch hp
      | some B => rw [hl] at hp; rw [hh i B hl]; exact hp
    | _ => exact hp
  | _ => exact hp
theorem absRs_le (hh : Ext h h') : (ts : List Ty) → (vs : List SV) → Le (absRs h ts vs) (absRs h' ts vs)
  | [], [] => Le.refl _
  | t :: ts, v :: vs => (absR_le hh t v).bind fun _ => (absRs_le hh ts vs).bind fun _ => Le.refl _
  | [], _ :: _ => Le.refl _
  | _ :: _, [] => Le.refl _
theorem absEls_le (hh : Ext h h') (t : Ty) : (n : Nat) → (c : List SV) → Le (absEls h t n c) (absEls h' t n c)
  | 0, _ => Le.refl _
  | n + 1, _ => (absRs_le hh _ _).bind fun _ => (Le.refl _).bind fun _ => (absEls_le hh t n _).bind fun _ => Le.refl _
theorem deepOf_le (hh : Ext h h') : (c : List SV) → Le (deepOf h c) (deepOf h' c)
  | [] => Le.refl _
  | v :: l => by
    have ih := deepOf_le hh l
    cases v with
    | own i =>
      refine (look_le hh i).bind fun b => ?_
      cases b with
      | box _ => exact Le.refl _
      | arr sh _ _ => cases sh with
        | none => exact ih
        | some _ => exact Le.refl _
    | r d x => cases x with
      | sl _ _ => exact Le.refl _
      | _ => exact ih
    | sub _ _ _ => exact Le.refl _
    | bsl _ _ => exact Le.refl _
    | _ => exact ih
theorem anyEls_le (hh : Ext h h') (t : Ty) (n : Nat) (c : List SV) : Le (anyEls h t n c) (anyEls h' t n c) :=
  (deepOf_le hh c).bind fun b => Le.cond ((absEls_le hh t n c).bind fun _ => Le.refl _) ((elsOf_le hh t n c).bind fun _ => Le.refl _)
theorem anyList_le (hh : Ext h h') (t : Ty) (v : SV) : Le (anyList h t v) (anyList h' t v) := by
  have lst : ∀ v : SV, Le ((v.list h t).bind fun p => cond (flatTy t) (some (none, [], p.2)) (some (some p.1, [], p.2)) : Option (Option (List Nat) × List Nat × List t.El)) ((v.list h' t).bind fun p => cond (flatTy t) (some (none, [], p.2)) (some (some p.1, [], p.2))) := fun v => (list_le hh t v).bind fun _ => Le.refl _
  cases v with
  | bsl i n =>
    intro p hp
    simp only [anyList] at hp ⊢
    cases hl : look h i with
    | none => rw [hl] at hp; exact nomatch hp
    | some B =>
      rw [hl] at hp; rw [hh i B hl]
      cases B with
      | box cs => exact ((anyEls_le hh t n cs).bind fun _ => Le.refl _) p hp
      | arr _ _ _ => exact nomatch hp
  | r d x => exact lst (.r d x)
  | nilS => exact lst .nilS
  | nilP => exact lst .nilP
  | own i => exact lst (.own i)
  | sub i o n => exact lst (.sub i o n)
  | ptr i x o => exact lst (.ptr i x o)
  | inn i x o => exact lst (.inn i x o)
  | rptr d x => exact lst (.rptr d x)
  | agg x => exact lst (.agg x)
  | tup x => exact lst (.tup x)
  | fn f a b => exact lst (.fn f a b)
  | undef => exact lst .undef
end
end Go.Proofs.Ev

namespace Go.Proofs.Ev
abbrev Cell := Nat × Nat
def _root_.Go.World.at? (w : World) (p : Cell) : Option Value := w.cell? ⟨p.1, p.2, none⟩
/-- The range that is frozen in a cell's block, with the block's size. -/
def _root_.Go.World.ice? (w : World) (p : Cell) : Nat × Nat × Nat :=
  match w.heap[p.1]? with
  | some (.cells c _ fr) => (fr.1, fr.2, c.size)
  | _ => (0, 0, 0)
/-- No cell is frozen. -/
def calm (r : Nat × Nat × Nat) : Bool := decide (r.1 = r.2.1 ∨ r.2.2 ≤ r.1)
/-- .. and the row is the whole block. -/
def whole (r : Nat × Nat × Nat) (o n : Nat) : Bool := calm r && decide (o = 0 ∧ r.2.2 = n)
theorem whole_calm {r : Nat × Nat × Nat} {o n : Nat} (h : whole r o n = true) : calm r = true := by
  unfold whole at h
  rw [Bool.and_eq_true] at h
  exact h.1
theorem whole_mk {n : Nat} : whole (0, 0, n) 0 n = true := by simp [whole, calm]
theorem calm_frozen {w : World} {b o : Nat} {u : Value} (h : w.at? (b, o) = some u) (hc : calm (w.ice? (b, o)) = true) : w.frozen? ⟨b, o, none⟩ = false := by
  unfold World.at? World.cell? at h
  unfold calm World.ice? at hc
  unfold World.frozen?
  cases hb : w.heap[b]? with
  | none => rfl
  | some ob =>
    cases ob with
    | cells c t fr =>
      simp only [hb, Option.isSome_none, Bool.false_eq_true, if_false] at h
      simp only [hb, decide_eq_true_eq] at hc
      have := (Array.getElem?_eq_some_iff.1 h).1
      obtain ⟨lo, hi⟩ := fr
      simp only at hc ⊢
      rw [Bool.and_eq_false_iff, decide_eq_false_iff_not, decide_eq_false_iff_not]
      omega
    | _ => rfl
theorem ice?_setCell (w : World) (a : Addr) (v : Value) (p : Cell) : (w.setCell a v).ice? p = w.ice? p := by
  unfold World.ice? World.setCell
  simp only [Array.getElem?_modify]
  by_cases e : a.block = p.1
  · rw [if_pos e]
    cases hb : w.heap[p.1]? with
    | none => rfl
    | some ob =>
      cases ob with
      | cells c t fr => simp only [Option.map_some]; split <;> simp
      | _ => rfl
  · rw [if_neg e]
theorem ice?_setCells (b : Nat) : ∀ (vs : List Value) (o : Nat) (w : World) (p : Cell), (w.setCells b o vs).ice? p = w.ice? p
  | [], _, _, _ => rfl
  | v :: vs, o, w, p => (ice?_setCells b vs (o + 1) (w.setCell ⟨b, o, none⟩ v) p).trans (ice?_setCell w _ v p)
def one : Value → Bool
  | .agg _ | .tuple _ => false
  | _ => true
/-- What the numbers of inner slices stand for. -/
class Tok where
  env : Nat → Value
  one_env : ∀ n, one (env n) = true
  nil_env : env 0 = .slice none 0 0
variable [Tok]
set_option linter.unusedSectionVars false
def reg (b o n : Nat) (p : Cell) : Prop := p.1 = b ∧ o ≤ p.2 ∧ p.2 < o + n
/-- The cell (i, j) of a list of elements. -/
def cellIn (t : Ty) (xs : List t.El) (i j : Nat) (r : R) : Prop := ∃ x, xs[i]? = some x ∧ (t.cells x)[j]? = some r
theorem cellIn_lt {t : Ty} {xs : List t.El} {i j : Nat} {r : R} (h : cellIn t xs i j r) : i < xs.length ∧ j < t.sz := by
  obtain ⟨x, hx, hr⟩ := h
  refine ⟨(List.getElem?_eq_some_iff.1 hx).1, ?_⟩
  have := (List.getElem?_eq_some_iff.1 hr).1
  rwa [Ty.cells_length] at this
theorem cellIn_of {t : Ty} {xs : List t.El} {i j : Nat} (hi : i < xs.length) (hj : j < t.sz) : ∃ r, cellIn t xs i j r := by
  refine ⟨(t.cells xs[i])[j]'(by rw [Ty.cells_length]; exact hj), xs[i], ?_, ?_⟩ <;> simp
theorem off_lt {i j n s c : Nat} (hi : i < n) (hj : j < s) (h : n ≤ c) : i * s + j < c * s := by
  have h1 : (i + 1) * s ≤ c * s := Nat.mul_le_mul_right s (by omega)
  have : (i + 1) * s = i * s + s := Nat.succ_mul i s
  omega

/-- Read only: 'ok' holds of each cell that is read. -/
inductive RepR (w : World) (ok : Cell → Prop) : R → Value → Prop
  | int (k : IntKind) (n : Int) : RepR w ok (.int k n) (.int k n)
  | bool (b : Bool) : RepR w ok (.bool b) (.bool b)
  | str (l : List UInt8) : RepR w ok (.str l) (.string ⟨l.toArray⟩)
  | sl (t : Ty) (xs : List t.El) (a : Option Addr) (cap b o : Nat) (vs : Nat → Nat → Value)
      (hcap : xs.length ≤ cap) (ha : xs = [] ∨ a = some ⟨b, o, none⟩)
      (hc : ∀ i j r, cellIn t xs i j r → ok (b, o + (i * t.sz + j)) ∧ w.at? (b, o + (i * t.sz + j)) = some (vs i j))
      (hr : ∀ i j r, cellIn t xs i j r → RepR w ok r (vs i j)) : RepR w ok (.sl t xs) (.slice a xs.length cap)
  | tok (n : Nat) : RepR w ok (.tok n) (Tok.env n)
theorem RepR.frame {w w' : World} {ok ok' : Cell → Prop} {r : R} {v : Value} (h : RepR w ok r v)
    (hf : ∀ p u, ok p → w.at? p = some u → ok' p ∧ w'.at? p = some u) : RepR w' ok' r v := by
  induction h with
  | int => exact .int _ _
  | bool => exact .bool _
  | str => exact .str _
  | tok => exact .tok _
  | sl t xs a cap b o vs hcap ha hc _ ih =>
    exact .sl t xs a cap b o vs hcap ha (fun i j r hr => hf _ _ (hc i j r hr).1 (hc i j r hr).2) ih

/-- A row of elements that is owned with all its spare room; 'inner' says what its cells are, with what each owns. -/
structure Row (w : World) (inner : R → Value → (Cell → Prop) → Prop) (t : Ty) (xs : List t.El) (hdr : Value) (fp : Cell → Prop) where
  a : Option Addr
  cap : Nat
  b : Nat
  o : Nat
  vs : Nat → Nat → Value
  fs : Nat → Nat → Cell → Prop
  hdr_eq : hdr = .slice a xs.length cap
  hcap : xs.length ≤ cap
  ha : cap = 0 ∨ a = some ⟨b, o, none⟩
  hreg : ∀ j, j < cap * t.sz → (∃ v, w.at? (b, o + j) = some v) ∧ whole (w.ice? (b, o + j)) o (cap * t.sz) = true
  hc : ∀ i j r, cellIn t xs i j r → w.at? (b, o + (i * t.sz + j)) = some (vs i j)
  hr : ∀ i j r, cellIn t xs i j r → inner r (vs i j) (fs i j)
  hd1 : ∀ i j r p, cellIn t xs i j r → fs i j p → ¬ reg b o (cap * t.sz) p
  hd2 : ∀ i j r i' j' r' p, cellIn t xs i j r → cellIn t xs i' j' r' → fs i j p → fs i' j' p → i = i' ∧ j = j'
  hfp : ∀ p, fp p ↔ reg b o (cap * t.sz) p ∨ ∃ i j r, cellIn t xs i j r ∧ fs i j p
/-- Owned through and through. -/
inductive RepD (w : World) : R → Value → (Cell → Prop) → Prop
  | int (k : IntKind) (n : Int) : RepD w (.int k n) (.int k n) (fun _ => False)
  | bool (b : Bool) : RepD w (.bool b) (.bool b) (fun _ => False)
  | str (l : List UInt8) : RepD w (.str l) (.string ⟨l.toArray⟩) (fun _ => False)
  | sl (t : Ty) (xs : List t.El) (a : Option Addr) (cap b o : Nat) (vs : Nat → Nat → Value) (fs : Nat → Nat → Cell → Prop) (fp : Cell → Prop)
      (hcap : xs.length ≤ cap) (ha : cap = 0 ∨ a = some ⟨b, o, none⟩)
      (hreg : ∀ j, j < cap * t.sz → (∃ v, w.at? (b, o + j) = some v) ∧ whole (w.ice? (b, o + j)) o (cap * t.sz) = true)
      (hc : ∀ i j r, cellIn t xs i j r → w.at? (b, o + (i * t.sz + j)) = some (vs i j))
      (hr : ∀ i j r, cellIn t xs i j r → RepD w r (vs i j) (fs i j))
      (hd1 : ∀ i j r p, cellIn t xs i j r → fs i j p → ¬ reg b o (cap * t.sz) p)
      (hd2 : ∀ i j r i' j' r' p, cellIn t xs i j r → cellIn t xs i' j' r' → fs i j p → fs i' j' p → i = i' ∧ j = j')
      (hfp : ∀ p, fp p ↔ reg b o (cap * t.sz) p ∨ ∃ i j r, cellIn t xs i j r ∧ fs i j p) : RepD w (.sl t xs) (.slice a xs.length cap) fp
  | tok (n : Nat) : RepD w (.tok n) (Tok.env n) (fun _ => False)
theorem RepD.row {w : World} {t : Ty} {xs : List t.El} {v : Value} {fp : Cell → Prop} (h : RepD w (.sl t xs) v fp) : Nonempty (Row w (RepD w) t xs v fp) := by
  cases h with
  | sl t xs a cap b o vs fs fp hcap ha hreg hc hr hd1 hd2 hfp => exact ⟨⟨a, cap, b, o, vs, fs, rfl, hcap, ha, hreg, hc, hr, hd1, hd2, hfp⟩⟩
theorem Row.repD {w : World} {t : Ty} {xs : List t.El} {v : Value} {fp : Cell → Prop} (h : Row w (RepD w) t xs v fp) : RepD w (.sl t xs) v fp := by
  obtain ⟨a, cap, b, o, vs, fs, rfl, hcap, ha, hreg, hc, hr, hd1, hd2, hfp⟩ := h
  exact .sl t xs a cap b o vs fs fp hcap ha hreg hc hr hd1 hd2 hfp
theorem RepD.frame {w w' : World} {r : R} {v : Value} {fp : Cell → Prop} (h : RepD w r v fp)
    (hf : ∀ p u, fp p → w.at? p = some u → w'.at? p = some u ∧ w'.ice? p = w.ice? p) : RepD w' r v fp := by
  induction h with
  | int => exact .int _ _
  | bool => exact .bool _
  | str => exact .str _
  | tok => exact .tok _
  | sl t xs a cap b o vs fs fp hcap ha hreg hc _ hd1 hd2 hfp ih =>
    have hin : ∀ i j r, cellIn t xs i j r → fp (b, o + (i * t.sz + j)) := fun i j r hr => (hfp _).2 (.inl ⟨rfl, by simp, by
      have := off_lt (cellIn_lt hr).1 (cellIn_lt hr).2 hcap; simp; omega⟩)
    refine .sl t xs a cap b o vs fs fp hcap ha (fun j hj => ?_) (fun i j r hr => (hf _ _ (hin i j r hr) (hc i j r hr)).1)
      (fun i j r hr => ih i j r hr fun p u hp => hf p u ((hfp p).2 (.inr ⟨i, j, r, hr, hp⟩))) hd1 hd2 hfp
    obtain ⟨⟨v, hv⟩, hi⟩ := hreg j hj
    have := hf (b, o + j) v ((hfp _).2 (.inl ⟨rfl, by simp, by simp; omega⟩)) hv
    exact ⟨⟨v, this.1⟩, by rw [this.2]; exact hi⟩
theorem RepD.repR {w : World} {r : R} {v : Value} {fp : Cell → Prop} {ok : Cell → Prop} (h : RepD w r v fp) (hok : ∀ p, fp p → ok p) : RepR w ok r v := by
  induction h with
  | int => exact .int _ _
  | bool => exact .bool _
  | str => exact .str _
  | tok => exact .tok _
  | sl t xs a cap b o vs fs fp hcap ha hreg hc _ hd1 hd2 hfp ih =>
    refine .sl t xs a cap b o vs hcap ?_ (fun i j r hr => ⟨hok _ ((hfp _).2 (.inl ⟨rfl, by simp, by
      have := off_lt (cellIn_lt hr).1 (cellIn_lt hr).2 hcap; simp; omega⟩)), hc i j r hr⟩)
      (fun i j r hr => ih i j r hr fun p hp => hok p ((hfp p).2 (.inr ⟨i, j, r, hr, hp⟩)))
    rcases ha with rfl | h
    · exact .inl (List.length_eq_zero_iff.1 (by omega))
    · exact .inr h
/-- All that is owned is there. -/
theorem RepD.there {w : World} {r : R} {v : Value} {fp : Cell → Prop} (h : RepD w r v fp) : ∀ p, fp p → ∃ u, w.at? p = some u := by
  induction h with
  | int => exact fun _ h => h.elim
  | bool => exact fun _ h => h.elim
  | str => exact fun _ h => h.elim
  | tok => exact fun _ h => h.elim
  | sl t xs a cap b o vs fs fp hcap ha hreg hc _ hd1 hd2 hfp ih =>
    intro p hp
    rcases (hfp p).1 hp with ⟨h1, h2, h3⟩ | ⟨i, j, r, hr, hp⟩
    · obtain ⟨p1, p2⟩ := p
      have h1 : p1 = b := h1
      simp only at h1 h2 h3
      subst h1
      have := (hreg (p2 - o) (by omega)).1
      rwa [show o + (p2 - o) = p2 from by omega] at this
    · exact ih i j r hr p hp

/-- The placing of the owned blocks: a variable's address or a slice's header, and its cells. 'base': what may be read at all. -/
structure Pl where
  hdr : Nat → Value
  fp : Nat → Cell → Prop
  base : Cell → Prop
def Blk.isBox : Blk → Bool
  | .box _ => true
  | .arr _ _ _ => false
/-- The cells that a read-only value with the ids 'd' may read. -/
def okd (H : Heap) (pl : Pl) (d : List Nat) (p : Cell) : Prop := pl.base p ∧ ∀ i B, look H i = some B → (mem i d = true → B.isBox = true) → ¬ pl.fp i p
inductive SVRep (w : World) (H : Heap) (pl : Pl) : SV → Value → Prop
  | r (d : List Nat) (x : R) (v : Value) (h : RepR w (okd H pl d) x v) : SVRep w H pl (.r d x) v
  | nilS : SVRep w H pl .nilS (.slice none 0 0)
  | nilP : SVRep w H pl .nilP (.pointer none)
  | own (i : Nat) (sh : Option (List Nat)) (t : Ty) (xs : List t.El) (h : look H i = some (.arr sh t xs)) : SVRep w H pl (.own i) (pl.hdr i)
  | sub (i o n : Nat) (sh : Option (List Nat)) (t : Ty) (xs : List t.El) (a a' : Option Addr) (cap cap' : Nat) (h : look H i = some (.arr sh t xs))
      (hh : pl.hdr i = .slice a xs.length cap) (hn : o + n ≤ xs.length) (hc : n ≤ cap') (hc' : o + cap' = cap) (ha : cap' = 0 ∨ a' = a.map (·.add (o * t.sz))) :
      SVRep w H pl (.sub i o n) (.slice a' n cap')
  | bsl (i n : Nat) (cs : List SV) (a : Addr) (h : look H i = some (.box cs)) (hh : pl.hdr i = .pointer (some a)) : SVRep w H pl (.bsl i n) (.slice (some a) n n)
  | ptrB (i o : Nat) (cs : List SV) (b k : Nat) (h : look H i = some (.box cs)) (hh : pl.hdr i = .pointer (some ⟨b, k, none⟩)) : SVRep w H pl (.ptr i 0 o) (.pointer (some ⟨b, k + o, none⟩))
  | ptrA (i x o : Nat) (sh : Option (List Nat)) (t : Ty) (xs : List t.El) (b k n cap : Nat) (h : look H i = some (.arr sh t xs)) (hx : x < xs.length)
      (hh : pl.hdr i = .slice (some ⟨b, k, none⟩) n cap) : SVRep w H pl (.ptr i x o) (.pointer (some ⟨b, k + (x * t.sz + o), none⟩))
  | inn (i x c : Nat) (sh : Option (List Nat)) (t : Ty) (xs : List t.El) (b k n cap : Nat) (v : Value) (h : look H i = some (.arr sh t xs)) (hx : x < xs.length) (hc : c < t.sz)
      (hh : pl.hdr i = .slice (some ⟨b, k, none⟩) n cap) (hok : okd H pl [i] (b, k + (x * t.sz + c))) (hv : w.at? (b, k + (x * t.sz + c)) = some v) (h1 : one v = true) : SVRep w H pl (.inn i x c) v
  | rptr (d : List Nat) (cs : List R) (b o : Nat) (vs : Nat → Value) (hc : ∀ j r, cs[j]? = some r → okd H pl d (b, o + j) ∧ w.at? (b, o + j) = some (vs j))
      (hr : ∀ j r, cs[j]? = some r → RepR w (okd H pl d) r (vs j)) : SVRep w H pl (.rptr d cs) (.pointer (some ⟨b, o, none⟩))
  | agg (cs : List SV) (vs : Array Value) (hl : cs.length = vs.size) (h1 : ∀ (j : Nat) (v : Value), vs[j]? = some v → one v = true) (h : ∀ (j : Nat) (x : SV) (v : Value), cs[j]? = some x → vs[j]? = some v → SVRep w H pl x v) : SVRep w H pl (.agg cs) (.agg vs)
  | tup (cs : List SV) (vs : Array Value) (hl : cs.length = vs.size) (h : ∀ (j : Nat) (x : SV) (v : Value), cs[j]? = some x → vs[j]? = some v → SVRep w H pl x v) : SVRep w H pl (.tup cs) (.tuple vs)
  | fn (f : Fn) (as bs : List SV) (us vs : Array Value) (hl : as.length = us.size) (h : ∀ (j : Nat) (x : SV) (v : Value), as[j]? = some x → us[j]? = some v → SVRep w H pl x v)
      (hl' : bs.length = vs.size) (h' : ∀ (j : Nat) (x : SV) (v : Value), bs[j]? = some x → vs[j]? = some v → SVRep w H pl x v) : SVRep w H pl (.fn f as bs) (.func f us vs)
  | undef (v : Value) : SVRep w H pl .undef v
/-- One block. -/
def BlkRep (w : World) (H : Heap) (pl : Pl) (i : Nat) : Blk → Prop
  | .box cs => ∃ b o, pl.hdr i = .pointer (some ⟨b, o, none⟩) ∧ (∀ p, pl.fp i p ↔ reg b o cs.length p) ∧
      ∀ j v, cs[j]? = some v → ∃ u, w.at? (b, o + j) = some u ∧ calm (w.ice? (b, o + j)) = true ∧ one u = true ∧ SVRep w H pl v u
  | .arr none t xs => Nonempty (Row w (RepD w) t xs (pl.hdr i) (pl.fp i))
  | .arr (some d) t xs => Nonempty (Row w (fun r v f => RepR w (okd H pl d) r v ∧ ∀ p, ¬ f p) t xs (pl.hdr i) (pl.fp i))
structure HRel (H : Heap) (pl : Pl) (w : World) : Prop where
  blk : ∀ i B, look H i = some B → BlkRep w H pl i B
  dis : ∀ i j B B' p, look H i = some B → look H j = some B' → pl.fp i p → pl.fp j p → i = j
  ob : ∀ i B p, look H i = some B → pl.fp i p → pl.base p
  nb : ∀ p, w.at? p = none → pl.base p
end Go.Proofs.Ev

namespace Go.Proofs.Ev
variable [Tok]
set_option linter.unusedSectionVars false
section lists
variable {α : Type}
theorem look_cons (k : Nat) (v : α) (l : List (Nat × α)) (n : Nat) : look ((k, v) :: l) n = if k = n then some v else look l n := by
  simp only [look]
  cases h : Nat.beq k n
  · have : ¬ k = n := fun e => by subst e; simp at h
    simp [this]
  · have : k = n := Nat.eq_of_beq_eq_true h
    simp [this]
theorem look_put (l : List (Nat × α)) (n m : Nat) (v : α) : look (put l n v) m = if n = m then some v else look l m := by
  induction l with
  | nil => rw [put, look_cons]
  | cons x l ih =>
    obtain ⟨k, u⟩ := x
    simp only [put]
    cases hk : Nat.beq k n
    · simp only [cond_false, look, ih]
      cases hm : Nat.beq k m
      · simp
      · have h1 : k = m := Nat.eq_of_beq_eq_true hm
        subst h1
        have : ¬ n = k := fun e => by subst e; simp at hk
        simp [this]
    · have h1 : k = n := Nat.eq_of_beq_eq_true hk
      subst h1
      simp only [cond_true, look]
      cases hm : Nat.beq k m
      · have : ¬ k = m := fun e => by subst e; simp at hm
        simp [this]
      · have : k = m := Nat.eq_of_beq_eq_true hm
        simp [this]
theorem look_append (l l' : List (Nat × α)) (n : Nat) : look (l ++ l') n = (look l n).or (look l' n) := by
  induction l with
  | nil => simp [look]
  | cons x l ih =>
    obtain ⟨k, u⟩ := x
    simp only [List.cons_append, look]
    cases Nat.beq k n <;> simp [ih]
theorem mem_iff (i : Nat) (l : List Nat) : mem i l = true ↔ i ∈ l := by
  induction l with
  | nil => simp [mem]
  | cons k l ih =>
    simp only [mem]
    cases h : Nat.beq k i
    · have : ¬ i = k := fun e => by subst e; simp at h
      simp [ih, this]
    · have : k = i := Nat.eq_of_beq_eq_true h
      simp [this]
theorem hit_false (T d : List Nat) (h : hit T d = false) : ∀ i, mem i d = true → mem i T = false := by
  induction d with
  | nil => intro i hi; simp [mem] at hi
  | cons k l ih =>
    simp only [hit] at h
    cases hk : mem k T
    · rw [hk] at h
      intro i hi
      rw [mem_iff] at hi
      rcases List.mem_cons.1 hi with rfl | hi
      · exact hk
      · exact ih h i ((mem_iff i l).2 hi)
    · rw [hk] at h; simp at h
theorem look_newsH (n : Nat) (l : List Blk) (i : Nat) : look (newsH n l) i = if n ≤ i then l[i - n]? else none := by
  induction l generalizing n with
  | nil => simp [newsH, look]
  | cons b l ih =>
    rw [newsH, look_cons, ih]
    by_cases h : n = i
    · subst h; simp
    · by_cases h2 : n ≤ i
      · rw [if_neg h, if_pos (by omega), if_pos h2]
        rw [show i - n = (i - (n + 1)) + 1 from by omega]; rfl
      · rw [if_neg h, if_neg (by omega), if_neg h2]
theorem look_upds (u h : Heap) (i : Nat) : look (upds u h) i = match look u.reverse i with | some b => some b | none => look h i := by
  induction u generalizing h with
  | nil => simp [upds, look]
  | cons x l ih =>
    obtain ⟨k, b⟩ := x
    rw [upds, ih, List.reverse_cons, look_append, look_put, look_cons]
    cases look l.reverse i with
    | some c => simp
    | none => by_cases hk : k = i <;> simp [hk, look]
theorem look_sweepS (T : Kil) (s : List (Nat × SV)) (t : Nat) : look (sweepS T s) t = (look s t).map (SV.sweep T) := by
  induction s with
  | nil => rfl
  | cons x l ih =>
    obtain ⟨k, v⟩ := x
    rw [sweepS, look_cons, look_cons, ih]
    by_cases h : k = t <;> simp [h]
theorem look_sweepH (T : Kil) (h h' : Heap) (e : sweepH T h = some h') (i : Nat) :
    look h' i = cond (mem i T.1) none ((look h i).bind (Blk.sweep T)) ∧ (∀ b, look h i = some b → mem i T.1 = false → ∃ b', b.sweep T = some b') := by
  induction h generalizing h' with
  | nil => simp only [sweepH, Option.some.injEq] at e; subst e; simp [look]
  | cons x l ih =>
    obtain ⟨k, b⟩ := x
    simp only [sweepH] at e
    cases hk : mem k T.1
    · simp only [hk, cond_false, Option.bind_eq_some_iff, Option.some.injEq] at e
      obtain ⟨b', hb, l', hl, rfl⟩ := e
      rw [look_cons, look_cons]
      by_cases hi : k = i
      · subst hi; simp [hk, hb]
      · simpa [hi] using ih l' hl
    · simp only [hk, cond_true] at e
      have := ih h' e
      rw [look_cons]
      by_cases hi : k = i
      · subst hi; simp [hk] at this ⊢; exact this
      · simpa [hi] using this
theorem isNil_eq {α : Type} {l : List α} (h : isNil l = true) : l = [] := by cases l with | nil => rfl | cons _ _ => exact nomatch h
theorem kil_nil {T : Kil} (h : T.2 = []) (h1 : ∀ i, mem i T.1 = true → mem i T.2 = true) : T = ([], []) := by
  obtain ⟨a, b⟩ := T
  simp only at h h1
  subst h
  cases a with
  | nil => rfl
  | cons x l => have := h1 x (by simp [mem]); exact nomatch this
theorem mem_append' (i : Nat) (a b : List Nat) : mem i (a ++ b) = (mem i a || mem i b) := by
  induction a with
  | nil => simp [mem]
  | cons x l ih => simp only [List.cons_append, mem, ih]; cases Nat.beq x i <;> simp
theorem CR.kil_le (c : CR) : ∀ i, mem i c.kil.1 = true → mem i c.kil.2 = true := fun i h => by
  show mem i (c.gone ++ c.dirty) = true
  rw [mem_append', show mem i c.gone = true from h]; rfl
theorem sweepL_get (T : Kil) (l : List SV) (j : Nat) : (sweepL T l)[j]? = (l[j]?).map (SV.sweep T) := by
  induction l generalizing j with
  | nil => rfl
  | cons v l ih => cases j with
    | zero => rfl
    | succ j => simpa [sweepL] using ih j
theorem sweepL_length (T : Kil) (l : List SV) : (sweepL T l).length = l.length := by
  induction l with
  | nil => rfl
  | cons v l ih => simp [sweepL, ih]
end lists

def Blk.like : Blk → Blk → Prop
  | .box a, .box b => a.length = b.length
  | .arr _ t xs, .arr _ t' ys => t = t' ∧ xs.length = ys.length
  | _, _ => False
theorem Blk.like_refl (b : Blk) : b.like b := by cases b <;> simp [Blk.like]
/-- What is not in 'T' is as it was, and what is read besides. -/
structure Keeps (T : Kil) (w : World) (H : Heap) (pl : Pl) (w' : World) (H' : Heap) (pl' : Pl) : Prop where
  k1 : ∀ i B, look H i = some B → mem i T.1 = false → ∃ B', look H' i = some B' ∧ B.like B' ∧ pl'.hdr i = pl.hdr i
  k2 : ∀ d p u, (∀ i, mem i d = true → mem i T.2 = false) → okd H pl d p → w.at? p = some u → okd H' pl' d p ∧ w'.at? p = some u
theorem SVRep.keep {T : Kil} {w w' : World} {H H' : Heap} {pl pl' : Pl} (hk : Keeps T w H pl w' H' pl') {v : SV} {u : Value} (h : SVRep w H pl v u) :
    SVRep w' H' pl' (v.sweep T) u := by
  induction h with
  | r d x v h =>
    simp only [SV.sweep]
    cases hd : hit T.2 d
    · exact .r d x v (h.frame fun p u hp hu => hk.k2 d p u (hit_false T.2 d hd) hp hu)
    · exact .undef _
  | nilS => exact .nilS
  | nilP => exact .nilP
  | own i sh t xs h =>
    simp only [SV.sweep]
    cases hi : mem i T.1
    · obtain ⟨B', h1, h2, h3⟩ := hk.k1 i _ h hi
      cases B' with
      | box cs => exact h2.elim
      | arr sh' t' ys => rw [← h3]; exact .own i sh' t' ys h1
    · exact .undef _
  | sub i o n sh t xs a a' cap cap' h hh hn hc hc' ha =>
    simp only [SV.sweep]
    cases hi : mem i T.1
    · obtain ⟨B', h1, h2, h3⟩ := hk.k1 i _ h hi
      cases B' with
      | box cs => exact h2.elim
      | arr sh' t' ys =>
        obtain ⟨rfl, hl⟩ := h2
        exact .sub i o n sh' t ys a a' cap cap' h1 (by rw [h3, hh, hl]) (hl ▸ hn) hc hc' ha
    · exact .undef _
  | bsl i n cs a h hh =>
    simp only [SV.sweep]
    cases hi : mem i T.1
    · obtain ⟨B', h1, h2, h3⟩ := hk.k1 i _ h hi
      cases B' with
      | arr _ _ _ => exact h2.elim
      | box ds =>
        exact .bsl i n ds a h1 (h3.trans hh)
    · exact .undef _
  | ptrB i o cs b k h hh =>
    simp only [SV.sweep]
    cases hi : mem i T.1
    · obtain ⟨B', h1, h2, h3⟩ := hk.k1 i _ h hi
      cases B' with
      | arr _ _ _ => exact h2.elim
      | box ds => exact .ptrB i o ds b k h1 (h3.trans hh)
    · exact .undef _
  | ptrA i x o sh t xs b k n cap h hx hh =>
    simp only [SV.sweep]
    cases hi : mem i T.1
    · obtain ⟨B', h1, h2, h3⟩ := hk.k1 i _ h hi
      cases B' with
      | box cs => exact h2.elim
      | arr sh' t' ys =>
        obtain ⟨rfl, hl⟩ := h2
        exact .ptrA i x o sh' t ys b k n cap h1 (hl ▸ hx) (h3.trans hh)
    · exact .undef _
  | inn i x c sh t xs b k n cap v h hx hc hh hok hv h1 =>
    simp only [SV.sweep]
    cases hi : (mem i T.1 || mem i T.2)
    · rw [Bool.or_eq_false_iff] at hi
      obtain ⟨B', g1, g2, g3⟩ := hk.k1 i _ h hi.1
      have g4 := hk.k2 [i] _ v (fun j hj => by
        simp only [mem] at hj
        cases hb : Nat.beq i j <;> simp only [hb, cond_true, cond_false] at hj
        · exact nomatch hj
        · rw [← Nat.eq_of_beq_eq_true hb]; exact hi.2) hok hv
      cases B' with
      | box cs => exact g2.elim
      | arr sh' t' ys =>
        obtain ⟨rfl, hl⟩ := g2
        exact .inn i x c sh' t ys b k n cap v g1 (hl ▸ hx) hc (g3.trans hh) g4.1 g4.2 h1
    · exact .undef _
  | rptr d cs b o vs hc hr =>
    simp only [SV.sweep]
    cases hd : hit T.2 d
    · exact .rptr d cs b o vs (fun j r hj => hk.k2 d _ _ (hit_false T.2 d hd) (hc j r hj).1 (hc j r hj).2)
        fun j r hj => (hr j r hj).frame fun p u hp hu => hk.k2 d p u (hit_false T.2 d hd) hp hu
    · exact .undef _
  | agg cs vs hl h1 h ih =>
    refine .agg _ vs (by rw [sweepL_length, hl]) h1 fun j x v hx hv => ?_
    rw [sweepL_get] at hx
    obtain ⟨y, hy, rfl⟩ := Option.map_eq_some_iff.1 hx
    exact ih j y v hy hv
  | tup cs vs hl h ih =>
    refine .tup _ vs (by rw [sweepL_length, hl]) fun j x v hx hv => ?_
    rw [sweepL_get] at hx
    obtain ⟨y, hy, rfl⟩ := Option.map_eq_some_iff.1 hx
    exact ih j y v hy hv
  | fn f as bs us vs hl h hl' h' ih ih' =>
    refine .fn f _ _ us vs (by rw [sweepL_length, hl]) (fun j x v hx hv => ?_) (by rw [sweepL_length, hl']) fun j x v hx hv => ?_
    · rw [sweepL_get] at hx
      obtain ⟨y, hy, rfl⟩ := Option.map_eq_some_iff.1 hx
      exact ih j y v hy hv
    · rw [sweepL_get] at hx
      obtain ⟨y, hy, rfl⟩ := Option.map_eq_some_iff.1 hx
      exact ih' j y v hy hv
  | undef v => exact .undef _
theorem hit_nil (d : List Nat) : hit [] d = false := by
  induction d with
  | nil => rfl
  | cons k l ih => simpa [hit, mem] using ih
mutual
theorem sweep_nil : (v : SV) → v.sweep ([], []) = v
  | .r d x => by simp [SV.sweep, hit_nil]
  | .own j => by simp [SV.sweep, mem]
  | .sub j o n => by simp [SV.sweep, mem]
  | .bsl j n => by simp [SV.sweep, mem]
  | .ptr j x o => by simp [SV.sweep, mem]
  | .inn j x c => by simp [SV.sweep, mem]
  | .rptr d cs => by simp [SV.sweep, hit_nil]
  | .agg cs => by simp [SV.sweep, sweepL_nil cs]
  | .tup cs => by simp [SV.sweep, sweepL_nil cs]
  | .fn f a b => by simp [SV.sweep, sweepL_nil a, sweepL_nil b]
  | .nilS => by simp [SV.sweep]
  | .nilP => by simp [SV.sweep]
  | .undef => by simp [SV.sweep]
theorem sweepL_nil : (l : List SV) → sweepL ([], []) l = l
  | [] => rfl
  | v :: l => by simp [sweepL, sweep_nil v, sweepL_nil l]
end
/-- The same where nothing is swept. -/
theorem SVRep.keep0 {w w' : World} {H H' : Heap} {pl pl' : Pl} (hk : Keeps ([], []) w H pl w' H' pl') {v : SV} {u : Value} (h : SVRep w H pl v u) :
    SVRep w' H' pl' v u := by have := h.keep hk; rwa [sweep_nil] at this
end Go.Proofs.Ev

namespace Go.Proofs.Ev
variable [Tok]
set_option linter.unusedSectionVars false
section
variable {w : World} {H : Heap} {pl : Pl}
theorem RepR.scalar {ok : Cell → Prop} {x : R} {v : Value} (h : RepR w ok x v) (ok' : Cell → Prop) (hs : ∀ t xs, x ≠ .sl t xs) : RepR w ok' x v := by
  cases h with
  | int => exact .int _ _
  | bool => exact .bool _
  | str => exact .str _
  | tok => exact .tok _
  | sl t xs => exact (hs t xs rfl).elim
theorem rep_mkR {d : List Nat} {x : R} {v : Value} (h : RepR w (okd H pl d) x v) : SVRep w H pl (mkR d x) v := by
  cases x with
  | sl t xs => exact .r _ _ _ h
  | _ => exact .r _ _ _ (h.scalar _ (fun _ _ e => nomatch e))
theorem RepR.isOne {ok : Cell → Prop} {x : R} {v : Value} (h : RepR w ok x v) : one v = true := by cases h <;> first | rfl | exact Tok.one_env _
/-- Slots. -/
def Slots (w : World) (H : Heap) (pl : Pl) (s : List (Nat × SV)) (a : Act) : Prop := ∀ t v, look s t = some v → SVRep w H pl v (a.tmps.getD t undef)
theorem constSV_rep {v : Value} {x : SV} (h : constSV v = some x) : SVRep w H pl x v := by
  unfold constSV at h
  split at h <;> first | (cases h) | skip
  · exact .r _ _ _ (.bool _)
  · exact .r _ _ _ (.int _ _)
  · exact .r _ _ _ (.str _)
  · exact .nilS
  · exact .nilP
theorem constL_rep : ∀ {vs : List Value} {l : List SV}, constL vs = some l → l.length = vs.length ∧ ∀ (j : Nat) (x : SV) (v : Value), l[j]? = some x → vs[j]? = some v → SVRep w H pl x v
  | [], l, h => by cases h; exact ⟨rfl, fun j x v hx _ => by simp at hx⟩
  | v :: vs, l, h => by
    simp only [constL, Option.bind_eq_some_iff, Option.some.injEq] at h
    obtain ⟨x, hx, xs, hxs, rfl⟩ := h
    obtain ⟨h1, h2⟩ := constL_rep hxs
    refine ⟨by simp [h1], fun j y u hy hu => ?_⟩
    cases j with
    | zero => simp at hy hu; subst hy hu; exact constSV_rep hx
    | succ j => exact h2 j y u (by simpa using hy) (by simpa using hu)
theorem constSV_one {v : Value} {x : SV} (h : constSV v = some x) : one v = true := by
  unfold constSV at h
  split at h <;> first | rfl | (cases h)
theorem constL_one : ∀ {vs : List Value} {l : List SV}, constL vs = some l → ∀ (j : Nat) (v : Value), vs[j]? = some v → one v = true
  | [], l, _, j, v, hv => by simp at hv
  | u :: vs, l, h, j, v, hv => by
    simp only [constL, Option.bind_eq_some_iff, Option.some.injEq] at h
    obtain ⟨x, hx, xs, hxs, rfl⟩ := h
    cases j with
    | zero => simp at hv; subst hv; exact constSV_one hx
    | succ j => exact constL_one hxs j v (by simpa using hv)
theorem constV_rep {v : Value} {x : SV} (h : constV v = some x) : SVRep w H pl x v := by
  unfold constV at h
  split at h
  · simp only [Option.bind_eq_some_iff, Option.some.injEq] at h
    obtain ⟨l, hl, rfl⟩ := h
    obtain ⟨h1, h2⟩ := constL_rep (w := w) (H := H) (pl := pl) hl
    refine .agg _ _ (by simpa using h1) (fun j v hv => ?_) fun j x v hx hv => h2 j x v hx (by simpa using hv)
    exact constL_one hl j v (by simpa using hv)
  · exact constSV_rep h
theorem opd_rep {s : List (Nat × SV)} {a : Act} (hs : Slots w H pl s a) {o : Operand} {x : SV} (h : opd s o = some x) : SVRep w H pl x (a.eval o) := by
  cases o with
  | tmp t => exact hs t x h
  | const v => exact constV_rep h
  | func f =>
    simp only [opd, Option.some.injEq] at h; subst h
    exact .fn _ _ _ _ _ rfl (fun j x v hx _ => by simp at hx) rfl (fun j x v hx _ => by simp at hx)
  | global g => exact nomatch h

theorem run_sizeOf' {P : Program} {T : TypeId} {i : TypeInfo} (h : P.info? T = some i) (w : World) : (sizeOf T).run P w = .ok i.size w := by
  simp [sizeOf, typeInfo, h]
theorem und_of_info {P : Program} {T : TypeId} {d : TypeDesc} (h : P.underlying T = some d) (w : World) : (underlying T).run P w = .ok d w := by
  simp [underlying, h]
theorem run_isAgg' {P : Program} {T : TypeId} {d : TypeDesc} (h : P.underlying T = some d) (w : World) : (isAgg T).run P w = .ok (isAggB P T) w := by
  simp only [isAgg, Sem.run_bind, und_of_info h, Result.andThen_ok, isAggB, h]
  cases d <;> rfl
theorem cellsAt_rep (hr : HRel H pl w) {p : SV} {u : Value} (hp : SVRep w H pl p u) {cs : List SV} (h : cellsAt H p = some cs) :
    ∃ b o, u = .pointer (some ⟨b, o, none⟩) ∧ ∀ (j : Nat) (x : SV), cs[j]? = some x → ∃ y, w.at? (b, o + j) = some y ∧ one y = true ∧ SVRep w H pl x y := by
  cases hp with
  | rptr d cs' b o vs hc hr' =>
    simp only [cellsAt, Option.some.injEq] at h; subst h
    refine ⟨b, o, rfl, fun j x hx => ?_⟩
    rw [List.getElem?_map] at hx
    obtain ⟨r, hj, rfl⟩ := Option.map_eq_some_iff.1 hx
    exact ⟨vs j, (hc j r hj).2, (hr' j r hj).isOne, rep_mkR (hr' j r hj)⟩
  | ptrB i o cs' b k hl hh =>
    simp only [cellsAt, hl, Option.some.injEq] at h; subst h
    obtain ⟨b', o', e, _, hc⟩ := hr.blk i _ hl
    rw [hh] at e; cases e
    refine ⟨b, k + o, rfl, fun j x hx => ?_⟩
    rw [List.getElem?_drop] at hx
    obtain ⟨y, h1, _, h3, h4⟩ := hc _ _ hx
    exact ⟨y, by rw [Nat.add_assoc]; exact h1, h3, h4⟩
  | ptrA i x o sh t xs b k n cap hl hx hh =>
    simp only [cellsAt, hl, Option.bind_eq_some_iff, Option.some.injEq] at h
    obtain ⟨e, he, rfl⟩ := h
    have hb := hr.blk i _ hl
    refine ⟨b, k + (x * t.sz + o), rfl, fun j y hy => ?_⟩
    rw [List.getElem?_drop, List.getElem?_map] at hy
    obtain ⟨r, hj, rfl⟩ := Option.map_eq_some_iff.1 hy
    have hcell : cellIn t xs x (o + j) r := ⟨e, he, hj⟩
    cases sh with
    | none =>
      obtain ⟨R⟩ := hb
      obtain ⟨a', cap', b', o', vs, fs, h1, h2, h3, h4, h5, h6, h7, h8, h9⟩ := R
      rw [hh] at h1; cases h1
      have hne : cap ≠ 0 := by omega
      have h3 := h3.resolve_left hne
      cases h3
      refine ⟨vs x (o + j), by rw [show k + (x * t.sz + o) + j = k + (x * t.sz + (o + j)) from by omega]; exact h5 _ _ _ hcell, ?_, ?_⟩
      · exact ((h6 _ _ _ hcell).repR (ok := fun _ => True) (fun _ _ => trivial)).isOne
      · refine rep_mkR ((h6 _ _ _ hcell).repR fun p hp => ⟨hr.ob i _ p hl ((h9 p).2 (.inr ⟨_, _, _, hcell, hp⟩)), fun i' B hB hm hf => ?_⟩)
        have hp' : pl.fp i p := (h9 p).2 (.inr ⟨_, _, _, hcell, hp⟩)
        have := hr.dis i' i _ _ p hB hl hf hp'
        subst this
        have hbx := hm (by simp [shDeps, mem])
        rw [hl] at hB; cases hB
        simp [Blk.isBox] at hbx
    | some d =>
      obtain ⟨R⟩ := hb
      obtain ⟨a', cap', b', o', vs, fs, h1, h2, h3, h4, h5, h6, h7, h8, h9⟩ := R
      rw [hh] at h1; cases h1
      have hne : cap ≠ 0 := by omega
      have h3 := h3.resolve_left hne
      cases h3
      exact ⟨vs x (o + j), by rw [show k + (x * t.sz + o) + j = k + (x * t.sz + (o + j)) from by omega]; exact h5 _ _ _ hcell, (h6 _ _ _ hcell).1.isOne, rep_mkR (h6 _ _ _ hcell).1⟩
  | _ => exact nomatch h

theorem takeN_spec {α : Type} {n : Nat} {l m : List α} (h : takeN n l = some m) : m.length = n ∧ ∀ j, j < n → m[j]? = l[j]? := by
  unfold takeN at h
  cases hn : Nat.ble n l.length
  · simp [hn] at h
  · simp only [hn, cond_true, Option.some.injEq] at h
    subst h
    have := Nat.le_of_ble_eq_true hn
    exact ⟨by simp [this], fun j hj => by simp [hj]⟩
/-- Cells that lie one behind the other, loaded as one value. -/
theorem load_rep {P : Program} {T : TypeId} {cs : List SV} {v : SV} (h : ofCellsV P T cs = some v) (b o : Nat)
    (hc : ∀ (j : Nat) (x : SV), cs[j]? = some x → ∃ y, w.at? (b, o + j) = some y ∧ one y = true ∧ SVRep w H pl x y) :
    ∃ u, (loadVar T ⟨b, o, none⟩).run P w = .ok u w ∧ SVRep w H pl v u := by
  simp only [ofCellsV, Option.bind_eq_some_iff] at h
  obtain ⟨d, hd, i, hi, l, hl, h⟩ := h
  obtain ⟨h1, h2⟩ := takeN_spec hl
  have hy : ∀ j, j < i.size → ∃ y x, l[j]? = some x ∧ w.at? (b, o + j) = some y ∧ SVRep w H pl x y := fun j hj => by
    have hx : l[j]? = some (l[j]'(by omega)) := List.getElem?_eq_getElem (by omega)
    obtain ⟨y, h3, _, h5⟩ := hc j _ ((h2 j hj) ▸ hx)
    exact ⟨y, _, hx, h3, h5⟩
  cases ha : isAggB P T
  · simp only [ha, cond_false] at h
    match l, h1, hl, h, hy, h2 with
    | [x], h1, hl, h, hy, h2 =>
      simp only [Option.some.injEq] at h; subst h
      have h1 : i.size = 1 := h1.symm
      obtain ⟨y, x', h3, h4, h5⟩ := hy 0 (by omega)
      simp at h3; subst h3
      refine ⟨y, ?_, h5⟩
      have h4 : w.cell? ⟨b, o, none⟩ = some y := h4
      simp [loadVar, run_isAgg' hd, ha, h4]
  · simp only [ha, cond_true, Option.some.injEq] at h; subst h
    let f : Nat → Value := fun j => (w.at? (b, o + j)).getD undef
    have hf : ∀ j, j < i.size → w.cell? (Addr.add ⟨b, o, none⟩ j) = some (f j) := fun j hj => by
      obtain ⟨y, x, _, h4, _⟩ := hy j hj
      have e : Addr.add ⟨b, o, none⟩ j = ⟨b, o + j, none⟩ := by
        unfold Addr.add; split
        · rename_i h0; subst h0; rfl
        · rfl
      rw [e]
      show w.at? (b, o + j) = some (f j)
      simp only [f, h4]; rfl
    have hone : ∀ j, j < i.size → one (f j) = true := fun j hj => by
      have hx : l[j]? = some (l[j]'(by omega)) := List.getElem?_eq_getElem (by omega)
      obtain ⟨y, h3, h4, _⟩ := hc j _ ((h2 j hj) ▸ hx)
      simp only [f, h3]; exact h4
    refine ⟨.agg ((List.range i.size).map f).toArray, ?_, ?_⟩
    · simp [loadVar, run_isAgg' hd, ha, run_sizeOf' hi, run_loadCells (P := P) w ⟨b, o, none⟩ i.size f hf]
    · refine .agg _ _ (by simp [h1]) (fun j v hv => by
        by_cases hj : j < i.size
        · have : v = f j := by simp [hj] at hv; exact hv.symm
          rw [this]; exact hone j hj
        · simp [hj] at hv) fun j x v hx hv => ?_
      have hj : j < i.size := by have := (List.getElem?_eq_some_iff.1 hx).1; omega
      obtain ⟨y, x', h3, h4, h5⟩ := hy j hj
      rw [h3] at hx; cases hx
      have : v = f j := by simp [hj] at hv; exact hv.symm
      subst this
      simp only [f, h4]; exact h5
end
end Go.Proofs.Ev

namespace Go.Proofs.Ev
variable [Tok]
set_option linter.unusedSectionVars false
section
variable {w : World} {H : Heap} {pl : Pl} {P : Program}
theorem rep_int {k : IntKind} {n : Int} : SVRep w H pl (.r [] (.int k n)) (.int k n) := .r _ _ _ (.int _ _)
theorem rep_bool {b : Bool} : SVRep w H pl (.b b) (.bool b) := .r _ _ _ (.bool _)
theorem rep_str {l : List UInt8} {d : List Nat} : SVRep w H pl (.r d (.str l)) (.string ⟨l.toArray⟩) := .r _ _ _ (.str _)
theorem int_inv {d : List Nat} {k : IntKind} {n : Int} {u : Value} (h : SVRep w H pl (.r d (.int k n)) u) : u = .int k n := by
  cases h with
  | r _ _ _ h => cases h; rfl
theorem bool_inv {d : List Nat} {b : Bool} {u : Value} (h : SVRep w H pl (.r d (.bool b)) u) : u = .bool b := by
  cases h with
  | r _ _ _ h => cases h; rfl
theorem str_inv {d : List Nat} {l : List UInt8} {u : Value} (h : SVRep w H pl (.r d (.str l)) u) : u = .string ⟨l.toArray⟩ := by
  cases h with
  | r _ _ _ h => cases h; rfl
theorem guard_plain {op : BinOp} {T : TypeId} {x y : Operand} {u v : Value} (h1 : u ≠ .nilIface) (h2 : ∀ a, u ≠ .agg a) :
    (eqGuard op T x y u v).run P w = .ok () w := by
  unfold eqGuard
  cases op <;> simp <;> (cases u <;> simp_all)
theorem guarded {op : BinOp} {T : TypeId} {x y : Operand} {u v z : Value} (h1 : u ≠ .nilIface) (h2 : ∀ a, u ≠ .agg a)
    (h : (binOp op T u v).run P w = .ok z w) : (do eqGuard op T x y u v; binOp op T u v : Sem Value).run P w = .ok z w := by
  rw [Sem.run_bind, guard_plain h1 h2, Result.andThen_ok]; exact h
theorem binI_rep {op : BinOp} {k : IntKind} {a b : Int} {r : R} (T : TypeId) (hs : isShl op = false) (h : binI op k a b = some r) :
    ∃ u, (binOp op T (.int k a) (.int k b)).run P w = .ok u w ∧ RepR w (okd H pl []) r u := by
  cases op
  case add => cases h; exact ⟨_, by simp [binOp, Op.intArith], .int _ _⟩
  case sub => cases h; exact ⟨_, by simp [binOp, Op.intArith], .int _ _⟩
  case mul => cases h; exact ⟨_, by simp [binOp, Op.intArith], .int _ _⟩
  case quo =>
    unfold binI at h
    by_cases hb : b = 0
    · simp [hb] at h
    · simp only [hb, decide_false, cond_false, Option.some.injEq] at h
      subst h; exact ⟨_, by simp [binOp, Op.intDiv, hb], .int _ _⟩
  case rem =>
    unfold binI at h
    by_cases hb : b = 0
    · simp [hb] at h
    · simp only [hb, decide_false, cond_false, Option.some.injEq] at h
      subst h; exact ⟨_, by simp [binOp, Op.intDiv, hb], .int _ _⟩
  case and => cases h; exact ⟨_, by simp [binOp, Op.intBits], .int _ _⟩
  case or => cases h; exact ⟨_, by simp [binOp, Op.intBits], .int _ _⟩
  case xor => cases h; exact ⟨_, by simp [binOp, Op.intBits], .int _ _⟩
  case eql => cases h; exact ⟨_, by simp [binOp, Op.intCmp], .bool _⟩
  case neq => cases h; exact ⟨_, by simp [binOp, Op.intCmp], .bool _⟩
  case lss => cases h; exact ⟨_, by simp [binOp, Op.intCmp], .bool _⟩
  case leq => cases h; exact ⟨_, by simp [binOp, Op.intCmp], .bool _⟩
  case gtr => cases h; exact ⟨_, by simp [binOp, Op.intCmp], .bool _⟩
  case geq => cases h; exact ⟨_, by simp [binOp, Op.intCmp], .bool _⟩
  all_goals (first | (cases h; done) | (cases hs; done))
theorem shiftI_rep {op : BinOp} {k l : IntKind} {a b : Int} {r : R} (T : TypeId) (hs : isShl op = true) (h : shiftI op k a b = some r) :
    ∃ u, (binOp op T (.int k a) (.int l b)).run P w = .ok u w ∧ RepR w (okd H pl []) r u := by
  unfold shiftI at h
  by_cases hb : b < 0
  · simp [hb] at h
  · simp only [hb, decide_false, cond_false] at h
    cases op
    case shl => cases h; exact ⟨_, by simp [binOp, Op.shift, hb], .int _ _⟩
    case shr => cases h; exact ⟨_, by simp [binOp, Op.shift, hb], .int _ _⟩
    all_goals (cases hs; done)
theorem binS_rep {op : BinOp} {a b : List UInt8} {r : R} (T : TypeId) (h : binS op a b = some r) :
    ∃ u, (binOp op T (.string ⟨a.toArray⟩) (.string ⟨b.toArray⟩)).run P w = .ok u w ∧ RepR w (okd H pl []) r u := by
  cases op
  case add =>
    unfold binS at h
    by_cases hb : a.length + b.length ≤ maxN
    · simp only [hb, decide_true, cond_true, Option.some.injEq] at h
      subst h
      refine ⟨.string ⟨(a ++ b).toArray⟩, ?_, .str _⟩
      have h2 : (2 : Nat) ^ 38 = 274877906944 := rfl
      rw [binOp_string_add, run_string_add_sum _ _ _ (by show a.toArray.size + b.toArray.size ≤ _; unfold maxN at hb; rw [List.size_toArray, List.size_toArray]; omega), ByteArray.mk_append_mk]
    · simp [hb] at h
  case eql => cases h; exact ⟨_, by simp [binOp, Op.stringOp], .bool _⟩
  case neq => cases h; exact ⟨_, by simp [binOp, Op.stringOp], .bool _⟩
  case lss => cases h; exact ⟨_, by simp [binOp, Op.stringOp], .bool _⟩
  case leq => cases h; exact ⟨_, by simp [binOp, Op.stringOp], .bool _⟩
  case gtr => cases h; exact ⟨_, by simp [binOp, Op.stringOp], .bool _⟩
  case geq => cases h; exact ⟨_, by simp [binOp, Op.stringOp], .bool _⟩
  all_goals (cases h; done)
theorem aggEq_rep {d : Nat} {xs ys : List SV} {us vs : Array Value} (hx : SVRep w H pl (.agg xs) (.agg us)) (hy : SVRep w H pl (.agg ys) (.agg vs)) :
    ∀ (fs : List Field) (t : Bool), aggEq P xs ys fs = some t → (Op.eqFields (d + 1) us vs fs).run P w = .ok t w
  | [], t, h => by cases h; rfl
  | f :: fs, t, h => by
    simp only [aggEq] at h
    cases hn : decide (f.name = "_") <;> simp only [hn, cond_true, cond_false] at h
    · have hn : ¬ f.name = "_" := by simpa using hn
      split at h
      · rename_i kk _ k a _ l b hu h1 h2
        cases hkl : decide (k = l) <;> simp only [hkl, cond_true, cond_false] at h
        · exact nomatch h
        · simp only [Option.bind_eq_some_iff, Option.some.injEq] at h
          obtain ⟨t', ht', rfl⟩ := h
          have ih := aggEq_rep (d := d) hx hy fs t' ht'
          cases hx with
          | agg _ _ hl h1' hx =>
          cases hy with
          | agg _ _ hl' h1'' hy =>
          have hkl : k = l := by simpa using hkl
          subst hkl
          have g1 : f.offset < us.size := by have := (List.getElem?_eq_some_iff.1 h1).1; omega
          have g2 : f.offset < vs.size := by have := (List.getElem?_eq_some_iff.1 h2).1; omega
          have e1 := int_inv (hx _ _ _ h1 (Array.getElem?_eq_getElem g1))
          have e2 := int_inv (hy _ _ _ h2 (Array.getElem?_eq_getElem g2))
          have p1 : ∀ cs : Array Value, ∀ g : f.offset < cs.size, (part f.type cs f.offset).run P w = .ok cs[f.offset] w := fun cs g => by
            simp [part, run_isAgg' hu, isAggB, hu, g]
          simp only [Op.eqFields, hn, ne_eq, not_false_eq_true, if_true, Sem.run_bind, p1 us g1, p1 vs g2, Result.andThen_ok, e1, e2, run_equalIn_int w d f.type k kk a b hu]
          cases hab : a == b
          · simp
          · simp [ih]
      · exact nomatch h
    · exact nomatch h
theorem bin_rep {op : BinOp} {T : TypeId} {x y v : SV} {u1 u2 : Value} (ox oy : Operand) (h : bin P T op x y = some v) (h1 : SVRep w H pl x u1) (h2 : SVRep w H pl y u2) :
    ∃ u, (do eqGuard op T ox oy u1 u2; binOp op T u1 u2 : Sem Value).run P w = .ok u w ∧ SVRep w H pl v u := by
  unfold bin at h
  split at h
  · have e1 := int_inv h1
    have e2 := int_inv h2
    subst e1 e2
    cases hs : isShl op <;> simp only [hs, cond_true, cond_false] at h
    · rename_i k a _ l b
      cases hk : decide (k = l) <;> simp only [hk, cond_true, cond_false] at h
      · exact nomatch h
      · have hk : k = l := by simpa using hk
        subst hk
        simp only [Option.bind_eq_some_iff, Option.some.injEq] at h
        obtain ⟨r, hr, rfl⟩ := h
        obtain ⟨u, hu, hr⟩ := binI_rep (P := P) (w := w) (H := H) (pl := pl) T hs hr
        exact ⟨u, guarded (fun e => nomatch e) (fun _ e => nomatch e) hu, .r _ _ _ hr⟩
    · simp only [Option.bind_eq_some_iff, Option.some.injEq] at h
      obtain ⟨r, hr, rfl⟩ := h
      obtain ⟨u, hu, hr⟩ := shiftI_rep (P := P) (w := w) (H := H) (pl := pl) T hs hr
      exact ⟨u, guarded (fun e => nomatch e) (fun _ e => nomatch e) hu, .r _ _ _ hr⟩
  · have e1 := str_inv h1
    have e2 := str_inv h2
    subst e1 e2
    simp only [Option.bind_eq_some_iff, Option.some.injEq] at h
    obtain ⟨r, hr, rfl⟩ := h
    obtain ⟨u, hu, hr⟩ := binS_rep (P := P) (w := w) (H := H) (pl := pl) T hr
    exact ⟨u, guarded (fun e => nomatch e) (fun _ e => nomatch e) hu, .r _ _ _ hr⟩
  · have e1 := bool_inv h1
    have e2 := bool_inv h2
    subst e1 e2
    rename_i a _ b
    cases hu : P.underlying T with
    | none => simp [hu] at h
    | some d =>
      cases d with
      | bool =>
        simp only [hu, Option.bind_eq_some_iff, Option.some.injEq] at h
        obtain ⟨e, he, rfl⟩ := h
        have hq : (Op.equal T (.bool a) (.bool b)).run P w = .ok (a == b) w := run_equalIn_bool' w 9999 T a b hu
        have e1 : binOp .eql T (.bool a) (.bool b) = (do pure (.bool (← Op.equal T (.bool a) (.bool b)))) := rfl
        have e2 : binOp .neq T (.bool a) (.bool b) = (do pure (.bool (!(← Op.equal T (.bool a) (.bool b))))) := rfl
        cases op
        case eql => cases he; exact ⟨.bool (a == b), guarded (fun e => nomatch e) (fun _ e => nomatch e) (by rw [e1, Sem.run_bind, hq]; rfl), rep_bool⟩
        case neq => cases he; exact ⟨.bool (!(a == b)), guarded (fun e => nomatch e) (fun _ e => nomatch e) (by rw [e2, Sem.run_bind, hq]; rfl), rep_bool⟩
        all_goals (cases he; done)
      | _ => simp [hu] at h
  · rename_i a b
    cases h1 with
    | agg _ us hl h11 h1 =>
    cases h2 with
    | agg _ vs hl' h22 h2 =>
    simp only [Option.bind_eq_some_iff, Option.some.injEq] at h
    obtain ⟨e, he, t, ht, rfl⟩ := h
    unfold eqAgg at ht
    cases hst : P.stoodInHeld T <;> simp only [hst, cond_true, cond_false] at ht
    · cases hg : P.eqGuardType P.depth T <;> simp only [hg, cond_true, cond_false] at ht
      · split at ht
        · rename_i fs hf
          have hfo : P.fieldsOf T = fs := by simp [Program.fieldsOf, hf]
          have hag := aggEq_rep (P := P) (d := 9998) (SVRep.agg _ us hl h11 h1) (SVRep.agg _ vs hl' h22 h2) fs.toList t ht
          have heq : (Op.equalIn 10000 T (.agg us) (.agg vs)).run P w = .ok t w := by
            rw [run_equalIn_struct w 9999 T us vs (by rw [hfo]; exact hf) hst, hfo]; exact hag
          simp only [Sem.run_bind, run_eqGuard_agg w op T ox oy us vs hg, Result.andThen_ok]
          cases op <;> simp only [isEq, Option.some.injEq] at he <;> first
            | contradiction
            | (subst he; exact ⟨_, by first | rw [run_eql_struct, heq]; rfl | rw [run_neq_struct, heq]; rfl, rep_bool⟩)
        · exact nomatch ht
      · exact nomatch ht
    · exact nomatch ht
  · exact nomatch h
end
end Go.Proofs.Ev

namespace Go.Proofs.Ev
variable [Tok]
set_option linter.unusedSectionVars false
section
variable {w : World} {H : Heap} {pl : Pl} {P : Program}
theorem asI_rep {v : SV} {n : Int} {u : Value} (h : v.asI = some n) (hu : SVRep w H pl v u) : ∃ k, u = .int k n := by
  unfold SV.asI at h
  split at h
  · cases h; exact ⟨_, int_inv hu⟩
  · cases h
theorem asB_rep {v : SV} {n : Bool} {u : Value} (h : v.asB = some n) (hu : SVRep w H pl v u) : u = .bool n := by
  unfold SV.asB at h
  split at h
  · cases h; exact bool_inv hu
  · cases h
theorem un_rep {op : UnOp} {x v : SV} {u : Value} (h : un op x = some v) (hx : SVRep w H pl x u) : ∃ z, (Op.unary op u).run P w = .ok z w ∧ SVRep w H pl v z := by
  unfold un at h
  split at h
  · have := int_inv hx; subst this
    cases h; exact ⟨_, by simp [Op.unary, Op.intArith], rep_int⟩
  · have := bool_inv hx; subst this
    cases h; exact ⟨_, by simp [Op.unary], rep_bool⟩
  · cases h
theorem conv_rep {src dst : TypeId} {x v : SV} {u : Value} (h : convSV P src dst x = some v) (hx : SVRep w H pl x u) : ∃ z, (convert src dst u).run P w = .ok z w ∧ SVRep w H pl v z := by
  unfold convSV at h
  split at h
  · rename_i h1 h2
    have := int_inv hx; subst this
    cases h; exact ⟨_, by simp [convert, und_of_info h1, und_of_info h2, Conv.intToInt], rep_int⟩
  · rename_i h1 h2
    have := str_inv hx; subst this
    cases h; exact ⟨_, by simp [convert, und_of_info h1, und_of_info h2], rep_str⟩
  · cases h
theorem opds_rep {s : List (Nat × SV)} {a : Act} (hs : Slots w H pl s a) : ∀ {l : List Operand} {vs : List SV}, opds s l = some vs →
    vs.length = l.length ∧ ∀ (j : Nat) (x : SV) (u : Value), vs[j]? = some x → (l.map a.eval)[j]? = some u → SVRep w H pl x u
  | [], vs, h => by cases h; exact ⟨rfl, fun j x u hx _ => by simp at hx⟩
  | o :: l, vs, h => by
    simp only [opds, Option.bind_eq_some_iff, Option.some.injEq] at h
    obtain ⟨v, hv, vs', hvs, rfl⟩ := h
    obtain ⟨h1, h2⟩ := opds_rep hs hvs
    refine ⟨by simp [h1], fun j x u hx hu => ?_⟩
    cases j with
    | zero => simp at hx hu; subst hx hu; exact opd_rep hs hv
    | succ j => exact h2 j x u (by simpa using hx) (by simpa using hu)
/-- A slot's value that is a slice, as the model has it. -/
theorem sl_inv {d : List Nat} {t : Ty} {xs : List t.El} {u : Value} (h : SVRep w H pl (.r d (.sl t xs)) u) :
    ∃ a cap, u = .slice a xs.length cap ∧ RepR w (okd H pl d) (.sl t xs) u := by
  cases h with
  | r _ _ _ h => cases h with
    | sl _ _ a cap b o vs hcap ha hc hr => exact ⟨a, cap, rfl, .sl t xs a cap b o vs hcap ha hc hr⟩
theorem arr_hdr (hr : HRel H pl w) {i : Nat} {sh : Option (List Nat)} {t : Ty} {xs : List t.El} (h : look H i = some (.arr sh t xs)) :
    ∃ a cap b o, pl.hdr i = .slice a xs.length cap ∧ xs.length ≤ cap ∧ (cap = 0 ∨ a = some ⟨b, o, none⟩) := by
  have hb := hr.blk i _ h
  cases sh with
  | none => obtain ⟨R⟩ := hb; exact ⟨R.a, R.cap, R.b, R.o, R.hdr_eq, R.hcap, R.ha⟩
  | some d => obtain ⟨R⟩ := hb; exact ⟨R.a, R.cap, R.b, R.o, R.hdr_eq, R.hcap, R.ha⟩
theorem lenOf_rep (hr : HRel H pl w) {v : SV} {n : Nat} {u : Value} (h : lenOf H v = some n) (hu : SVRep w H pl v u) :
    (∃ d l, v = .r d (.str l) ∧ u = .string ⟨List.toArray l⟩ ∧ n = l.length) ∨ (∀ d l, v ≠ .r d (.str l)) ∧ ∃ a cap, u = .slice a n cap := by
  cases hu with
  | r d x _ hx =>
    cases hx with
    | str l => cases h; exact .inl ⟨d, l, rfl, rfl, rfl⟩
    | sl t xs a cap => cases h; exact .inr ⟨(fun _ _ e => nomatch e), _, _, rfl⟩
    | int => exact nomatch h
    | bool => exact nomatch h
    | tok => exact nomatch h
  | nilS => cases h; exact .inr ⟨(fun _ _ e => nomatch e), _, _, rfl⟩
  | own i sh t xs hi =>
    simp only [lenOf, hi, Option.some.injEq] at h; subst h
    obtain ⟨a, cap, b, o, h1, _⟩ := arr_hdr hr hi
    exact .inr ⟨(fun _ _ e => nomatch e), a, cap, h1⟩
  | sub => cases h; exact .inr ⟨(fun _ _ e => nomatch e), _, _, rfl⟩
  | bsl => cases h; exact .inr ⟨(fun _ _ e => nomatch e), _, _, rfl⟩
  | _ => exact nomatch h
theorem field_rep {T : TypeId} {cs : List SV} {us : Array Value} {f : Nat} {fd : Field} {v : SV} (hf : fieldOf P T f = some fd) (h : ofCellsV P fd.type (cs.drop fd.offset) = some v)
    (hx : SVRep w H pl (.agg cs) (.agg us)) : ∃ z, (Instr.field T (.agg us) f).run P w = .ok z w ∧ SVRep w H pl v z := by
  unfold fieldOf at hf
  split at hf
  · rename_i fs hu
    simp only [Option.bind_eq_some_iff] at hf
    obtain ⟨fd', hfd, i, hi, hc⟩ := hf
    cases hz : Nat.beq i.size 0 <;> simp only [hz, cond_true, cond_false, Option.some.injEq] at hc
    · subst hc
      simp only [ofCellsV, Option.bind_eq_some_iff] at h
      obtain ⟨d, hd, i', hi', l, hl, h⟩ := h
      rw [hi] at hi'; cases hi'
      obtain ⟨h1, h2⟩ := takeN_spec hl
      cases hx with
      | agg _ _ hlen hone hx =>
      have hex : (Instr.field T (.agg us) f).run P w = (part fd'.type us fd'.offset).run P w := by
        simp [Instr.field, und_of_info hu, hfd, asAgg]
      rw [hex]
      cases ha : isAggB P fd'.type
      · simp only [ha, cond_false] at h
        match l, h1, h, h2 with
        | [x], h1, h, h2 =>
          simp only [Option.some.injEq] at h; subst h
          have h1 : i.size = 1 := h1.symm
          have h3 := h2 0 (by omega)
          simp only [List.getElem?_drop, Nat.add_zero, List.getElem?_cons_zero] at h3
          have hlt := (List.getElem?_eq_some_iff.1 h3.symm).1
          refine ⟨us[fd'.offset]'(by omega), ?_, hx _ _ _ h3.symm (Array.getElem?_eq_getElem (by omega))⟩
          simp [part, run_isAgg' hd, ha, Array.getElem?_eq_getElem (show fd'.offset < us.size by omega)]
      · simp only [ha, cond_true, Option.some.injEq] at h; subst h
        refine ⟨.agg (us.extract fd'.offset (fd'.offset + i.size)), by simp [part, run_isAgg' hd, ha, run_sizeOf' hi], ?_⟩
        have hle : ∀ j, j < i.size → fd'.offset + j < us.size := fun j hj => by
          have := h2 j hj
          rw [List.getElem?_eq_getElem (by omega), List.getElem?_drop] at this
          have := (List.getElem?_eq_some_iff.1 this.symm).1
          omega
        have hsz : (us.extract fd'.offset (fd'.offset + i.size)).size = i.size := by
          by_cases h0 : i.size = 0
          · simp [h0]; omega
          · have := hle (i.size - 1) (by omega)
            simp; omega
        refine .agg _ _ (by rw [hsz, h1]) (fun j v hv => ?_) fun j x v hx' hv => ?_
        · have hj : j < i.size := by have := (Array.getElem?_eq_some_iff.1 hv).1; rw [hsz] at this; exact this
          rw [Array.getElem?_extract, if_pos (by have := hle (i.size - 1) (by omega); omega)] at hv
          exact hone _ _ hv
        · have hj : j < i.size := by have := (Array.getElem?_eq_some_iff.1 hv).1; rw [hsz] at this; exact this
          rw [Array.getElem?_extract, if_pos (by have := hle (i.size - 1) (by omega); omega)] at hv
          rw [h2 j hj, List.getElem?_drop] at hx'
          exact hx _ _ _ hx' hv
    · exact nomatch hc
  · exact nomatch hf
theorem fieldAddr_rep {T : TypeId} {b o : Nat} {f : Nat} {fd : Field} (hf : fieldOf P T f = some fd) :
    (Instr.fieldAt T (.pointer (some ⟨b, o, none⟩)) f).run P w = .ok (.pointer (some ⟨b, o + fd.offset, none⟩)) w := by
  unfold fieldOf at hf
  split at hf
  · rename_i fs hu
    simp only [Option.bind_eq_some_iff] at hf
    obtain ⟨fd', hfd, i, hi, hc⟩ := hf
    cases hz : Nat.beq i.size 0 <;> simp only [hz, cond_true, cond_false, Option.some.injEq] at hc
    · subst hc
      have hz : ¬ i.size = 0 := fun e => by rw [e] at hz; simp at hz
      have hadd : Addr.add ⟨b, o, none⟩ fd'.offset = ⟨b, o + fd'.offset, none⟩ := by
        unfold Addr.add; split
        · rename_i h0; rw [h0]; rfl
        · rfl
      simp [Instr.fieldAt, und_of_info hu, hfd, Instr.sureAddr, fieldPlace, run_sizeOf' hi, hz, hadd]
    · exact nomatch hc
  · exact nomatch hf
end
end Go.Proofs.Ev
