/- Symbolic values, and the evaluator over the model's code. -/
import Derived.Test.YtcgeekjfbjcofaaEvUni
set_option linter.unusedVariables false
set_option linter.unusedSimpArgs false
namespace Go.Proofs.Ev
/-- What a slot holds. 'r d x': a value that is read only; the cells that it reads may lie in the blocks of the ids 'd', else in none that is owned. -/
inductive SV where
  | r (d : List Nat) (x : R)
  | nilS
  | nilP
  | own (i : Nat)
  | sub (i off len : Nat)
  | bsl (i n : Nat)
  | ptr (i idx off : Nat)
  | rptr (d : List Nat) (cs : List R)
  | agg (cs : List SV)
  | tup (vs : List SV)
  | fn (f : Fn) (first cap : List SV)
  | undef
abbrev SV.i (n : Int) : SV := .r [] (.int .i64 n)
abbrev SV.b (b : Bool) : SV := .r [] (.bool b)
/-- A block that is owned: a variable (its cells), or a slice's array: 'sh' none: all that its elements reach is owned with it; else the inner slices are read only, with these ids. -/
inductive Blk where
  | box (cs : List SV)
  | arr (sh : Option (List Nat)) (t : Ty) (xs : List t.El)
abbrev Heap := List (Nat × Blk)
structure St where
  slots : List (Nat × SV)
  heap : Heap
  nid : Nat
  n : Nat
def look {α : Type} : List (Nat × α) → Nat → Option α
  | [], _ => none
  | (k, v) :: l, n => cond (Nat.beq k n) (some v) (look l n)
def put {α : Type} : List (Nat × α) → Nat → α → List (Nat × α)
  | [], n, v => [(n, v)]
  | (k, u) :: l, n, v => cond (Nat.beq k n) ((k, v) :: l) ((k, u) :: put l n v)
def del {α : Type} : List (Nat × α) → Nat → List (Nat × α)
  | [], _ => []
  | (k, u) :: l, n => cond (Nat.beq k n) (del l n) ((k, u) :: del l n)
def idx {α : Type} (xs : List α) (i : Int) : Option α := cond (decide (0 ≤ i)) xs[i.toNat]? none
def mem (i : Nat) : List Nat → Bool
  | [] => false
  | k :: l => cond (Nat.beq k i) true (mem i l)
def hit (T : List Nat) : List Nat → Bool
  | [] => false
  | k :: l => cond (mem k T) true (hit T l)
/-- What an operation takes from the values that were: the blocks that are ours no more; these and the ones whose cells are other than they were. -/
abbrev Kil := List Nat × List Nat
mutual
/-- What is left of a value. -/
def SV.sweep (T : Kil) : SV → SV
  | .r d x => cond (hit T.2 d) .undef (.r d x)
  | .own j => cond (mem j T.1) .undef (.own j)
  | .sub j o n => cond (mem j T.1) .undef (.sub j o n)
  | .bsl j n => cond (mem j T.1) .undef (.bsl j n)
  | .ptr j x o => cond (mem j T.1) .undef (.ptr j x o)
  | .rptr d cs => cond (hit T.2 d) .undef (.rptr d cs)
  | .agg cs => .agg (sweepL T cs)
  | .tup cs => .tup (sweepL T cs)
  | .fn f a b => .fn f (sweepL T a) (sweepL T b)
  | .nilS => .nilS
  | .nilP => .nilP
  | .undef => .undef
def sweepL (T : Kil) : List SV → List SV
  | [] => []
  | v :: l => v.sweep T :: sweepL T l
end
def Blk.sweep (T : Kil) : Blk → Option Blk
  | .box cs => some (.box (sweepL T cs))
  | .arr none t xs => some (.arr none t xs)
  | .arr (some d) t xs => cond (hit T.2 d) none (some (.arr (some d) t xs))
/-- The heap without the blocks 'T'. -/
def sweepH (T : Kil) : Heap → Option Heap
  | [] => some []
  | (k, b) :: l => cond (mem k T.1) (sweepH T l) ((b.sweep T).bind fun b => (sweepH T l).bind fun l => some ((k, b) :: l))
def sweepS (T : Kil) : List (Nat × SV) → List (Nat × SV)
  | [] => []
  | (k, v) :: l => (k, v.sweep T) :: sweepS T l
/-- The same, and nothing at all where there is nothing to take. -/
def sweepH' (T : Kil) (h : Heap) : Option Heap :=
  match T.2 with
  | [] => some h
  | _ => sweepH T h
def sweepS' (T : Kil) (s : List (Nat × SV)) : List (Nat × SV) :=
  match T.2 with
  | [] => s
  | _ => sweepS T s

/-- A slot's value as a list, with the ids that it rests on. -/
def SV.list (h : Heap) (t : Ty) : SV → Option (List Nat × List t.El)
  | .r d x => (x.asL t).bind fun xs => some (d, xs)
  | .nilS => some ([], [])
  | .own i => match look h i with
    | some (.arr sh t' xs) => if e : t' = t then some (i :: sh.getD [], e ▸ xs) else none
    | _ => none
  | .sub i o n => match look h i with
    | some (.arr sh t' xs) => if e : t' = t then some (i :: sh.getD [], ((e ▸ xs).drop o).take n) else none
    | _ => none
  | _ => none
def SV.asInt (k : IntKind) : SV → Option Int
  | .r _ (.int k' n) => cond (decide (k' = k)) (some n) none
  | _ => none
def SV.asI : SV → Option Int
  | .r _ (.int _ n) => some n
  | _ => none
def SV.asB : SV → Option Bool
  | .r _ (.bool b) => some b
  | _ => none
def SV.asStr : SV → Option (List UInt8)
  | .r _ (.str l) => some l
  | _ => none
/-- One cell's value as a read-only one of a type. -/
def SV.asR (h : Heap) (t : Ty) (v : SV) : Option (List Nat × R) :=
  match t with
  | .sl t' => (v.list h t').bind fun p => some (p.1, .sl t' p.2)
  | .st _ => none
  | _ => match v with
    | .r d x => some (d, x)
    | _ => none
def S.tys : S → List Ty
  | .shape => [.int .i64, .int .i64, .int .i64]
  | .tensor => [.int .i64, .int .i64, .int .i64, .sl (.int .i64)]
  | .layer => [.int .i64, .int .i64, .int .i64, .int .i64, .int .i64, .int .i64, .int .i64, .sl (.int .i64), .sl (.int .i64)]
  | .model => [.int .i64, .int .i64, .int .i64, .sl (.st .layer)]
  | .task => [.int .i64, .sl (.int .i64), .int .i64, .int .i64, .int .i64]
  | .request => [.int .i64, .int .i64, .int .i64, .int .i64, .int .i64, .sl (.st .layer), .int .i64, .int .i64, .int .i64, .int .i64, .sl (.int .i64), .int .i64, .int .i64]
  | .step => [.int .i64, .int .i64, .int .i64, .sl (.int .u8), .int .i64, .int .i64, .int .i64, .sl (.int .i64)]
  | .event => [.int .i64, .int .i64, .int .i64, .int .i64, .int .i64, .int .i64, .sl (.int .i64)]
  | .entry => [.int .i64, .int .i64, .int .i64, .int .i64, .sl (.st .layer), .int .i64, .int .i64, .int .i64, .sl (.int .i64), .int .i64, .int .i64, .int .i64, .bool]
  | .wish => [.int .i64, .int .i64, .int .i64]
def Ty.tys : Ty → List Ty
  | .st s => s.tys
  | t => [t]
def asRs (h : Heap) : List Ty → List SV → Option (List Nat × List R)
  | [], [] => some ([], [])
  | t :: ts, v :: vs => (v.asR h t).bind fun p => (asRs h ts vs).bind fun q => some (p.1 ++ q.1, p.2 :: q.2)
  | _, _ => none
/-- The cells of an element, as its typed value. -/
def asEl (h : Heap) (t : Ty) (vs : List SV) : Option (List Nat × t.El) :=
  (asRs h t.tys vs).bind fun p => (t.ofCells p.2).bind fun x => some (p.1, x)
def SV.cells : SV → Option (List SV)
  | .agg cs => some cs
  | .tup _ => none
  | .undef => none
  | v => some [v]

/-! ### constants -/
def constSV : Value → Option SV
  | .bool b => some (.b b)
  | .int k n => some (.r [] (.int k n))
  | .string s => some (.r [] (.str s.data.toList))
  | .slice none 0 0 => some .nilS
  | .pointer none => some .nilP
  | _ => none
def constL : List Value → Option (List SV)
  | [] => some []
  | v :: l => (constSV v).bind fun x => (constL l).bind fun xs => some (x :: xs)
def constV : Value → Option SV
  | .agg cs => (constL cs.toList).bind fun l => some (.agg l)
  | v => constSV v
def opd (slots : List (Nat × SV)) : Operand → Option SV
  | .tmp t => look slots t
  | .const v => constV v
  | .func f => some (.fn (.func f) [] [])
  | .global _ => none
def opds (slots : List (Nat × SV)) : List Operand → Option (List SV)
  | [] => some []
  | x :: l => (opd slots x).bind fun v => (opds slots l).bind fun vs => some (v :: vs)
end Go.Proofs.Ev
