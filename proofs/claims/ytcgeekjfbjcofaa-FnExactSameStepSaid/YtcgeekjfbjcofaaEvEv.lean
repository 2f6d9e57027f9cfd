/- The evaluator. -/
import Derived.Test.YtcgeekjfbjcofaaEvVal
set_option linter.unusedVariables false
set_option linter.unusedSimpArgs false
namespace Go.Proofs.Ev
/-- The elements' types by the program's numbers. -/
abbrev TT := TypeId → Option Ty
def maxN : Nat := 2 ^ 38
def isAggB (P : Program) (T : TypeId) : Bool :=
  match P.underlying T with
  | some (.struct _) => true
  | some (.array _ _) => true
  | _ => false
def elemT (P : Program) (T : TypeId) : Option TypeId :=
  match P.underlying T with
  | some (.slice e) => some e
  | _ => none
def fieldOf (P : Program) (T : TypeId) (f : Nat) : Option Field :=
  match P.underlying T with
  | some (.struct fs) => (fs[f]?).bind fun f => (P.info? f.type).bind fun i => cond (Nat.beq i.size 0) none (some f)
  | _ => none
def sizeT (P : Program) (T : TypeId) : Option Nat := (P.info? T).bind fun i => some i.size
/-- A struct's fields, each with its place and its size. -/
def placesOf (P : Program) : List Field → Option (List (Nat × Nat))
  | [] => some []
  | f :: fs => (sizeT P f.type).bind fun s => (placesOf P fs).bind fun l => some ((f.offset, s) :: l)
def takeN {α : Type} (n : Nat) (l : List α) : Option (List α) := cond (Nat.ble n l.length) (some (l.take n)) none
/-- Cells as a slot's value of type T. -/
def ofCellsV (P : Program) (T : TypeId) (cs : List SV) : Option SV :=
  (P.underlying T).bind fun _ => (P.info? T).bind fun i => (takeN i.size cs).bind fun l =>
    cond (isAggB P T) (some (.agg l)) (match l with | [v] => some v | _ => none)
def mkR (d : List Nat) : R → SV
  | .sl t xs => .r d (.sl t xs)
  | x => .r [] x
def shDeps (i : Nat) : Option (List Nat) → List Nat
  | none => [i]
  | some d => d
def cellsAt (h : Heap) : SV → Option (List SV)
  | .rptr d cs => some (cs.map (mkR d))
  | .ptr i x o => match look h i with
    | some (.box cs) => some (cs.drop o)
    | some (.arr sh t xs) => (xs[x]?).bind fun e => some (((t.cells e).map (mkR (shDeps i sh))).drop o)
    | _ => none
  | _ => none
def zeroCs (P : Program) (T : TypeId) : Option (List SV) :=
  (P.info? T).bind fun i => i.zero.bind fun z => (constV z).bind fun v => v.cells
/-- 'parts' laid into cells. -/
def fillCs (place : Nat → Option (Nat × Nat)) : List SV → List (Nat × SV) → Option (List SV)
  | cs, [] => some cs
  | cs, (k, v) :: l => (place k).bind fun p => v.cells.bind fun vs =>
      cond (Nat.beq vs.length p.2) (cond (Nat.ble (p.1 + vs.length) cs.length) (fillCs place (cs.take p.1 ++ vs ++ cs.drop (p.1 + vs.length)) l) none) none
def binI (op : BinOp) (k : IntKind) (a b : Int) : Option R :=
  match op with
  | .add => some (.int k (k.wrap (a + b)))
  | .sub => some (.int k (k.wrap (a - b)))
  | .mul => some (.int k (k.wrap (a * b)))
  | .quo => cond (decide (b = 0)) none (some (.int k (k.wrap (a.tdiv b))))
  | .rem => cond (decide (b = 0)) none (some (.int k (a.tmod b)))
  | .and => some (.int k (k.wrap (BitVec.ofInt k.bits a &&& BitVec.ofInt k.bits b).toNat))
  | .or => some (.int k (k.wrap (BitVec.ofInt k.bits a ||| BitVec.ofInt k.bits b).toNat))
  | .xor => some (.int k (k.wrap (BitVec.ofInt k.bits a ^^^ BitVec.ofInt k.bits b).toNat))
  | .eql => some (.bool (a == b))
  | .neq => some (.bool (a != b))
  | .lss => some (.bool (decide (a < b)))
  | .leq => some (.bool (decide (a ≤ b)))
  | .gtr => some (.bool (decide (a > b)))
  | .geq => some (.bool (decide (a ≥ b)))
  | _ => none
def shiftI (op : BinOp) (k : IntKind) (a b : Int) : Option R :=
  cond (decide (b < 0)) none
    (match op with
     | .shl => some (.int k (k.wrap (a * 2 ^ (min b.toNat k.bits))))
     | .shr => some (.int k (a.fdiv (2 ^ (min b.toNat k.bits))))
     | _ => none)
def binS (op : BinOp) (a b : List UInt8) : Option R :=
  match op with
  | .add => cond (decide (a.length + b.length ≤ maxN)) (some (.str (a ++ b))) none
  | .eql => some (.bool (a == b))
  | .neq => some (.bool (!(a == b)))
  | .lss => some (.bool (Op.bytesLess a b))
  | .leq => some (.bool (Op.bytesLess a b || a == b))
  | .gtr => some (.bool (!(Op.bytesLess a b || a == b)))
  | .geq => some (.bool (!(Op.bytesLess a b)))
  | _ => none
/-- Structs of integers alone. -/
def aggEq (P : Program) (xs ys : List SV) : List Field → Option Bool
  | [] => some true
  | f :: fs => cond (decide (f.name = "_")) none (match P.underlying f.type, xs[f.offset]?, ys[f.offset]? with
    | some (.int _), some (.r _ (.int k a)), some (.r _ (.int l b)) => cond (decide (k = l)) ((aggEq P xs ys fs).bind fun t => some (cond (a == b) t false)) none
    | _, _, _ => none)
def eqAgg (P : Program) (T : TypeId) (xs ys : List SV) : Option Bool :=
  cond (P.stoodInHeld T) none (cond (P.eqGuardType P.depth T) none (match P.underlying T with
    | some (.struct fs) => aggEq P xs ys fs.toList
    | _ => none))
def isShl : BinOp → Bool
  | .shl | .shr => true
  | _ => false
def isEq : BinOp → Option Bool
  | .eql => some true
  | .neq => some false
  | _ => none
def bin (P : Program) (T : TypeId) (op : BinOp) (x y : SV) : Option SV :=
  match x, y with
  | .r _ (.int k a), .r _ (.int l b) => cond (isShl op) ((shiftI op k a b).bind fun r => some (.r [] r)) (cond (decide (k = l)) ((binI op k a b).bind fun r => some (.r [] r)) none)
  | .r _ (.str a), .r _ (.str b) => (binS op a b).bind fun r => some (.r [] r)
  | .r _ (.bool a), .r _ (.bool b) => match P.underlying T with
    | some .bool => (isEq op).bind fun e => some (.b (cond e (a == b) (!(a == b))))
    | _ => none
  | .agg a, .agg b => (isEq op).bind fun e => (eqAgg P T a b).bind fun t => some (.b (cond e t (!t)))
  | _, _ => none
def un (op : UnOp) (x : SV) : Option SV :=
  match op, x with
  | .neg, .r _ (.int k n) => some (.r [] (.int k (k.wrap (0 - n))))
  | .not, .r _ (.bool b) => some (.b (!b))
  | _, _ => none
def lenOf (h : Heap) : SV → Option Nat
  | .r _ (.str l) => some l.length
  | .r _ (.sl _ xs) => some xs.length
  | .nilS => some 0
  | .own i => match look h i with
    | some (.arr _ _ xs) => some xs.length
    | _ => none
  | .sub _ _ n => some n
  | .bsl _ n => some n
  | _ => none
def lenT (P : Program) (T : TypeId) : SV → Bool
  | .r _ (.str _) => match P.underlying T with
    | some .string => true
    | _ => false
  | _ => match P.underlying T with
    | some (.slice _) => true
    | _ => false
/-- The bounds of a slice expression, in 0 .. n. -/
def bounds (n : Nat) (lo hi : Option SV) : Option (Nat × Nat) :=
  (match hi with
   | none => some n
   | some v => v.asI.bind fun x => cond (decide (0 ≤ x ∧ x ≤ (n : Int))) (some x.toNat) none).bind fun h =>
  (match lo with
   | none => some 0
   | some v => v.asI.bind fun x => cond (decide (0 ≤ x ∧ x ≤ (h : Int))) (some x.toNat) none).bind fun l => some (l, h)
/-- T is a slice's type whose elements have as many cells as t's. -/
def slT (P : Program) (T : TypeId) (t : Ty) : Bool :=
  match P.underlying T with
  | some (.slice e) => match sizeT P e with
    | some n => Nat.beq n t.sz
    | none => false
  | _ => false
def isSl (P : Program) (T : TypeId) : Bool :=
  match P.underlying T with
  | some (.slice e) => (sizeT P e).isSome
  | _ => false
def isStr (P : Program) (T : TypeId) : Bool :=
  match P.underlying T with
  | some .string => true
  | _ => false
def sliceSV (P : Program) (T : TypeId) (h : Heap) (x : SV) (lo hi : Option SV) : Option SV :=
  match x with
  | .r d (.str l) => cond (isStr P T) ((bounds l.length lo hi).bind fun b => some (.r d (.str ((l.take b.2).drop b.1)))) none
  | .r d (.sl t xs) => cond (slT P T t) ((bounds xs.length lo hi).bind fun b => some (.r d (.sl t ((xs.take b.2).drop b.1)))) none
  | .nilS => cond (isSl P T) ((bounds 0 lo hi).bind fun _ => some .nilS) none
  | .own i => match look h i with
    | some (.arr _ t xs) => cond (slT P T t) ((bounds xs.length lo hi).bind fun b => some (.sub i b.1 (b.2 - b.1))) none
    | _ => none
  | .sub i o n => match look h i with
    | some (.arr _ t _) => cond (slT P T t) ((bounds n lo hi).bind fun b => some (.sub i (o + b.1) (b.2 - b.1))) none
    | _ => none
  | _ => none
def indexAddrSV (P : Program) (T : TypeId) (h : Heap) (x : SV) (k : Int) : Option SV :=
  match x with
  | .r d (.sl t xs) => cond (slT P T t) ((idx xs k).bind fun e => some (.rptr d (t.cells e))) none
  | .own i => match look h i with
    | some (.arr _ t xs) => cond (slT P T t) (cond (decide (0 ≤ k ∧ k < (xs.length : Int))) (some (.ptr i k.toNat 0)) none) none
    | _ => none
  | .sub i o n => match look h i with
    | some (.arr _ t _) => cond (slT P T t) (cond (decide (0 ≤ k ∧ k < (n : Int))) (some (.ptr i (o + k.toNat) 0)) none) none
    | _ => none
  | .bsl i n => (elemT P T).bind fun e => (sizeT P e).bind fun sz => cond (decide (0 ≤ k ∧ k < (n : Int))) (some (.ptr i 0 (k.toNat * sz))) none
  | _ => none
def convSV (P : Program) (src dst : TypeId) (x : SV) : Option SV :=
  match P.underlying src, P.underlying dst, x with
  | some (.int _), some (.int k), .r _ (.int _ n) => some (.r [] (.int k (k.wrap n)))
  | some .string, some .string, .r _ (.str l) => some (.r [] (.str l))
  | _, _, _ => none
def bytesT (P : Program) (T : TypeId) : Bool :=
  match elemT P T with
  | some e => match P.underlying e with
    | some (.int .u8) => true
    | _ => false
  | none => false
/-- Numbers as bytes. -/
def bytesOf (l : List Int) : List UInt8 := l.map fun n => UInt8.ofNat n.toNat
def optO (slots : List (Nat × SV)) : Option Operand → Option (Option SV)
  | none => some none
  | some x => (opd slots x).bind fun v => some (some v)
def partsO (slots : List (Nat × SV)) : List (Nat × Operand) → Option (List (Nat × SV))
  | [] => some []
  | (k, x) :: l => (opd slots x).bind fun v => (partsO slots l).bind fun vs => some ((k, v) :: vs)
/-- Operations that neither write nor make memory. -/
def evStill (P : Program) (s : List (Nat × SV)) (h : Heap) (op : Op) : Option SV :=
  match op with
  | .move x | .assign x => opd s x
  | .pick c a b => (opd s c).bind fun c => c.asB.bind fun c => cond c (opd s a) (opd s b)
  | .build T parts =>
    match P.underlying T with
    | some (.struct fs) => (placesOf P fs.toList).bind fun pl => (zeroCs P T).bind fun z => (partsO s parts.toList).bind fun ps =>
      (fillCs (fun k => pl[k]?) z ps).bind fun cs => some (.agg cs)
    | _ => none
  | .load T a => (opd s a).bind fun a => (cellsAt h a).bind fun cs => ofCellsV P T cs
  | .nilCheck x => (opd s x).bind fun v => match v with
    | .ptr i x o => some (.ptr i x o)
    | .rptr d cs => some (.rptr d cs)
    | _ => none
  | .binOp op T x y _ => (opd s x).bind fun x => (opd s y).bind fun y => bin P T op x y
  | .unOp op _ x => (opd s x).bind fun x => un op x
  | .convert src dst x => (opd s x).bind fun x => cond (bytesT P src && isStr P dst) ((x.list h (.int .u8)).bind fun p => some (.r [] (.str (bytesOf p.2)))) (convSV P src dst x)
  | .makeFunc fn first cap => (opds s first.toList).bind fun a => (opds s cap.toList).bind fun b => some (.fn fn a b)
  | .slice T x lo hi none => (opd s x).bind fun x => (optO s lo).bind fun lo => (optO s hi).bind fun hi => sliceSV P T h x lo hi
  | .fieldAddr T x f => (opd s x).bind fun x => (fieldOf P T f).bind fun f => match x with
    | .rptr d cs => some (.rptr d (cs.drop f.offset))
    | .ptr i k o => some (.ptr i k (o + f.offset))
    | _ => none
  | .field T x f => (opd s x).bind fun x => (fieldOf P T f).bind fun f => match x with
    | .agg cs => ofCellsV P f.type (cs.drop f.offset)
    | _ => none
  | .indexAddr T x k => (opd s x).bind fun x => (opd s k).bind fun k => k.asI.bind fun k => indexAddrSV P T h x k
  | .index T x k => (opd s x).bind fun x => (opd s k).bind fun k => k.asI.bind fun k => match x with
    | .r _ (.str l) => cond (isStr P T) ((idx l k).bind fun c => some (.r [] (.int .u8 c.toNat))) none
    | _ => none
  | .extract x k => (opd s x).bind fun x => match x with
    | .tup vs => vs[k]?
    | _ => none
  | .call { callee := .builtin .len, args, argTypes } => (opds s args.toList).bind fun vs => match vs, argTypes.toList with
    | [v], T :: _ => cond (lenT P T v) ((lenOf h v).bind fun n => some (.i n)) none
    | _, _ => none
  | .call { callee := .builtin .min, args, .. } => (opds s args.toList).bind fun vs => match vs with
    | [.r _ (.int k a), .r _ (.int _ b)] => some (.r [] (.int k (if b < a then b else a)))
    | [.r _ (.int k a), .r _ (.int _ b), .r _ (.int _ c)] => some (.r [] (.int k (if c < (if b < a then b else a) then c else (if b < a then b else a))))
    | _ => none
  | .call { callee := .builtin .max, args, .. } => (opds s args.toList).bind fun vs => match vs with
    | [.r _ (.int k a), .r _ (.int _ b)] => some (.r [] (.int k (if b > a then b else a)))
    | _ => none
  | _ => none
/-! ### the same, what may stand still handed on outright -/
def cellsAtK {α : Type} (h : Heap) (v : SV) (K : List SV → Option α) : Option α :=
  match v with
  | .rptr d cs => K (cs.map (mkR d))
  | .ptr i x o => match look h i with
    | some (.box cs) => K (cs.drop o)
    | some (.arr sh t xs) => (xs[x]?).bind fun e => K (((t.cells e).map (mkR (shDeps i sh))).drop o)
    | _ => none
  | _ => none
def binIK {α : Type} (op : BinOp) (k : IntKind) (a b : Int) (K : R → Option α) : Option α :=
  match op with
  | .quo => cond (decide (b = 0)) none (K (.int k (k.wrap (a.tdiv b))))
  | .rem => cond (decide (b = 0)) none (K (.int k (a.tmod b)))
  | op => (binI op k a b).bind K
def shiftIK {α : Type} (op : BinOp) (k : IntKind) (a b : Int) (K : R → Option α) : Option α :=
  cond (decide (b < 0)) none
    (match op with
     | .shl => K (.int k (k.wrap (a * 2 ^ (min b.toNat k.bits))))
     | .shr => K (.int k (a.fdiv (2 ^ (min b.toNat k.bits))))
     | _ => none)
def binSK {α : Type} (op : BinOp) (a b : List UInt8) (K : R → Option α) : Option α :=
  match op with
  | .add => cond (decide (a.length + b.length ≤ maxN)) (K (.str (a ++ b))) none
  | op => (binS op a b).bind K
def binK {α : Type} (P : Program) (T : TypeId) (op : BinOp) (x y : SV) (K : SV → Option α) : Option α :=
  match x, y with
  | .r _ (.int k a), .r _ (.int l b) => cond (isShl op) (shiftIK op k a b fun r => K (.r [] r)) (cond (decide (k = l)) (binIK op k a b fun r => K (.r [] r)) none)
  | .r _ (.str a), .r _ (.str b) => binSK op a b fun r => K (.r [] r)
  | x, y => (bin P T op x y).bind K
def boundsK {α : Type} (n : Nat) (lo hi : Option SV) (K : Nat → Nat → Option α) : Option α :=
  let lower (h : Nat) : Option α := match lo with
    | none => K 0 h
    | some v => v.asI.bind fun x => cond (decide (0 ≤ x ∧ x ≤ (h : Int))) (K x.toNat h) none
  match hi with
  | none => lower n
  | some v => v.asI.bind fun x => cond (decide (0 ≤ x ∧ x ≤ (n : Int))) (lower x.toNat) none
def sliceK {α : Type} (P : Program) (T : TypeId) (h : Heap) (x : SV) (lo hi : Option SV) (K : SV → Option α) : Option α :=
  match x with
  | .r d (.str l) => cond (isStr P T) (boundsK l.length lo hi fun a b => K (.r d (.str ((l.take b).drop a)))) none
  | .r d (.sl t xs) => cond (slT P T t) (boundsK xs.length lo hi fun a b => K (.r d (.sl t ((xs.take b).drop a)))) none
  | .nilS => cond (isSl P T) (boundsK 0 lo hi fun _ _ => K .nilS) none
  | .own i => match look h i with
    | some (.arr _ t xs) => cond (slT P T t) (boundsK xs.length lo hi fun a b => K (.sub i a (b - a))) none
    | _ => none
  | .sub i o n => match look h i with
    | some (.arr _ t _) => cond (slT P T t) (boundsK n lo hi fun a b => K (.sub i (o + a) (b - a))) none
    | _ => none
  | _ => none
def indexAddrK {α : Type} (P : Program) (T : TypeId) (h : Heap) (x : SV) (k : Int) (K : SV → Option α) : Option α :=
  match x with
  | .r d (.sl t xs) => cond (slT P T t) ((idx xs k).bind fun e => K (.rptr d (t.cells e))) none
  | .own i => match look h i with
    | some (.arr _ t xs) => cond (slT P T t) (cond (decide (0 ≤ k ∧ k < (xs.length : Int))) (K (.ptr i k.toNat 0)) none) none
    | _ => none
  | .sub i o n => match look h i with
    | some (.arr _ t _) => cond (slT P T t) (cond (decide (0 ≤ k ∧ k < (n : Int))) (K (.ptr i (o + k.toNat) 0)) none) none
    | _ => none
  | x => (indexAddrSV P T h x k).bind K
def evStillK {α : Type} (P : Program) (s : List (Nat × SV)) (h : Heap) (op : Op) (K : SV → Option α) : Option α :=
  match op with
  | .load T a => (opd s a).bind fun a => cellsAtK h a fun cs => (ofCellsV P T cs).bind K
  | .binOp op T x y _ => (opd s x).bind fun x => (opd s y).bind fun y => binK P T op x y K
  | .slice T x lo hi none => (opd s x).bind fun x => (optO s lo).bind fun lo => (optO s hi).bind fun hi => sliceK P T h x lo hi K
  | .indexAddr T x k => (opd s x).bind fun x => (opd s k).bind fun k => k.asI.bind fun k => indexAddrK P T h x k K
  | .index T x k => (opd s x).bind fun x => (opd s k).bind fun k => k.asI.bind fun k => match x with
    | .r _ (.str l) => cond (isStr P T) ((idx l k).bind fun c => K (.r [] (.int .u8 c.toNat))) none
    | _ => none
  | op => (evStill P s h op).bind K
theorem cond_bind {α β : Type} (b : Bool) (x y : Option α) (K : α → Option β) : (cond b x y).bind K = cond b (x.bind K) (y.bind K) := by cases b <;> rfl
theorem cellsAtK_eq {α : Type} (h : Heap) (v : SV) (K : List SV → Option α) : cellsAtK h v K = (cellsAt h v).bind K := by
  unfold cellsAtK cellsAt
  split
  · rfl
  · split
    · rfl
    · rw [Option.bind_assoc]; rfl
    · rfl
  · rfl
theorem binIK_eq {α : Type} (op : BinOp) (k : IntKind) (a b : Int) (K : R → Option α) : binIK op k a b K = (binI op k a b).bind K := by
  unfold binIK
  split
  · show _ = (cond _ none (some _)).bind K; rw [cond_bind]; rfl
  · show _ = (cond _ none (some _)).bind K; rw [cond_bind]; rfl
  · rfl
theorem shiftIK_eq {α : Type} (op : BinOp) (k : IntKind) (a b : Int) (K : R → Option α) : shiftIK op k a b K = (shiftI op k a b).bind K := by
  unfold shiftIK shiftI
  rw [cond_bind]
  cases op <;> rfl
theorem binSK_eq {α : Type} (op : BinOp) (a b : List UInt8) (K : R → Option α) : binSK op a b K = (binS op a b).bind K := by
  unfold binSK
  split
  · show _ = (cond _ (some _) none).bind K; rw [cond_bind]; rfl
  · rfl
theorem binK_eq {α : Type} (P : Program) (T : TypeId) (op : BinOp) (x y : SV) (K : SV → Option α) : binK P T op x y K = (bin P T op x y).bind K := by
  unfold binK
  split
  · simp only [bin, cond_bind, shiftIK_eq, binIK_eq, Option.bind_assoc, Option.bind_some, Option.bind_none]
  · simp only [bin, binSK_eq, Option.bind_assoc, Option.bind_some]
  · rfl
theorem boundsK_eq {α : Type} (n : Nat) (lo hi : Option SV) (K : Nat → Nat → Option α) : boundsK n lo hi K = (bounds n lo hi).bind fun b => K b.1 b.2 := by
  unfold boundsK bounds
  cases hi <;> cases lo <;> simp only [Option.bind_assoc, Option.bind_some, cond_bind, Option.bind_none]
theorem sliceK_eq {α : Type} (P : Program) (T : TypeId) (h : Heap) (x : SV) (lo hi : Option SV) (K : SV → Option α) : sliceK P T h x lo hi K = (sliceSV P T h x lo hi).bind K := by
  unfold sliceK sliceSV
  split
  · simp only [cond_bind, boundsK_eq, Option.bind_assoc, Option.bind_some, Option.bind_none]
  · simp only [cond_bind, boundsK_eq, Option.bind_assoc, Option.bind_some, Option.bind_none]
  · simp only [cond_bind, boundsK_eq, Option.bind_assoc, Option.bind_some, Option.bind_none]
  · split
    · simp only [cond_bind, boundsK_eq, Option.bind_assoc, Option.bind_some, Option.bind_none]
    · rfl
  · split
    · simp only [cond_bind, boundsK_eq, Option.bind_assoc, Option.bind_some, Option.bind_none]
    · rfl
  · rfl
theorem indexAddrK_eq {α : Type} (P : Program) (T : TypeId) (h : Heap) (x : SV) (k : Int) (K : SV → Option α) : indexAddrK P T h x k K = (indexAddrSV P T h x k).bind K := by
  unfold indexAddrK
  split
  · simp only [indexAddrSV, cond_bind, Option.bind_assoc, Option.bind_some, Option.bind_none]
  · simp only [indexAddrSV]
    split
    · simp only [cond_bind, Option.bind_some, Option.bind_none]
    · rfl
  · simp only [indexAddrSV]
    split
    · simp only [cond_bind, Option.bind_some, Option.bind_none]
    · rfl
  · rfl
theorem evStillK_eq {α : Type} (P : Program) (s : List (Nat × SV)) (h : Heap) (op : Op) (K : SV → Option α) : evStillK P s h op K = (evStill P s h op).bind K := by
  unfold evStillK
  split
  · simp only [evStill, cellsAtK_eq, Option.bind_assoc]
  · simp only [evStill, binK_eq, Option.bind_assoc]
  · simp only [evStill, sliceK_eq, Option.bind_assoc]
  · simp only [evStill, indexAddrK_eq, Option.bind_assoc]
  · simp only [evStill, Option.bind_assoc]
    congr 1; funext x; congr 1; funext k; congr 1; funext k
    split
    · simp only [cond_bind, Option.bind_assoc, Option.bind_some, Option.bind_none]
    · rfl
  · rfl
/-- What comes of an operation: its value, new blocks (from the next id on), blocks that are other than they were, blocks that are gone. -/
structure CR where
  v : SV
  news : List Blk := []
  upd : Heap := []
  gone : List Nat := []
  dirty : List Nat := []
def CR.kil (c : CR) : Kil := (c.gone, c.gone ++ c.dirty)
abbrev Out := SV × List Blk
abbrev Orc := (ρ : Type) → Nat → List SV → Heap → (CR → Option ρ) → Option ρ
def noOrc : Orc := fun _ _ _ _ _ => none
structure Env where
  P : Program
  tt : TT
  orc : FuncId → Orc
def newsH : Nat → List Blk → Heap
  | _, [] => []
  | n, b :: l => (n, b) :: newsH (n + 1) l
def upds : Heap → Heap → Heap
  | [], h => h
  | (k, b) :: l, h => upds l (put h k b)
def putO (s : List (Nat × SV)) (n : Nat) (dst : Option Tmp) (v : SV) : Option (List (Nat × SV)) :=
  match dst with
  | some t => cond (Nat.ble (t + 1) n) (some (put s t v)) none
  | none => some s
def St.take (st : St) (dst : Option Tmp) (c : CR) : Option St :=
  (sweepH' c.kil (upds c.upd st.heap)).bind fun h => (putO (sweepS' c.kil st.slots) st.n dst c.v).bind fun s =>
    some { st with slots := s, heap := h ++ newsH st.nid c.news, nid := st.nid + c.news.length }
def setCells (cs : List SV) (o : Nat) (vs : List SV) : Option (List SV) :=
  cond (Nat.ble (o + vs.length) cs.length) (some (cs.take o ++ vs ++ cs.drop (o + vs.length))) none
/-- The ids of blocks that a value's cells own, outright. -/
def ownIds : List SV → List Nat
  | [] => []
  | .own i :: l => i :: ownIds l
  | _ :: l => ownIds l
def flatTy : Ty → Bool
  | .sl _ => false
  | .st .shape | .st .wish => true
  | .st _ => false
  | _ => true
def isNil {α : Type} : List α → Bool
  | [] => true
  | _ => false
/-- Cells as a list of elements. -/
def elsOf (h : Heap) (t : Ty) : Nat → List SV → Option (List Nat × List t.El)
  | 0, _ => some ([], [])
  | n + 1, cs => (asEl h t (cs.take t.sz)).bind fun p => (elsOf h t n (cs.drop t.sz)).bind fun q => some (p.1 ++ q.1, p.2 :: q.2)
/-- A cell's value as one that is owned through and through, with the blocks that it takes in. -/
def SV.absR (h : Heap) (t : Ty) (v : SV) : Option (List Nat × R) :=
  match t with
  | .sl t' => match v with
    | .nilS => some ([], .sl t' [])
    | .own i => match look h i with
      | some (.arr none t1 xs) => if e : t1 = t' then some ([i], .sl t' (e ▸ xs)) else none
      | _ => none
    | _ => none
  | .st _ => none
  | _ => match v with
    | .r _ (.int k n) => some ([], .int k n)
    | .r _ (.bool b) => some ([], .bool b)
    | .r _ (.str l) => some ([], .str l)
    | _ => none
def absRs (h : Heap) : List Ty → List SV → Option (List Nat × List R)
  | [], [] => some ([], [])
  | t :: ts, v :: vs => (v.absR h t).bind fun p => (absRs h ts vs).bind fun q => some (p.1 ++ q.1, p.2 :: q.2)
  | _, _ => none
def absEls (h : Heap) (t : Ty) : Nat → List SV → Option (List Nat × List t.El)
  | 0, _ => some ([], [])
  | n + 1, cs => (absRs h t.tys (cs.take t.sz)).bind fun p => (t.ofCells p.2).bind fun x => (absEls h t n (cs.drop t.sz)).bind fun q => some (p.1 ++ q.1, x :: q.2)
def nodupB : List Nat → Bool
  | [] => true
  | i :: l => cond (mem i l) false (nodupB l)
def deepOf (h : Heap) : List SV → Option Bool
  | [] => some true
  | .own i :: l => (look h i).bind fun b => match b with
    | .arr none _ _ => deepOf h l
    | .arr (some _) _ _ => some false
    | .box _ => none
  | .r _ (.sl _ _) :: _ => some false
  | .sub _ _ _ :: _ => some false
  | .bsl _ _ :: _ => some false
  | _ :: l => deepOf h l
/-- Elements out of cells: owned through and through where that may be ('none', and what is taken in), else read only within ('some', and what they rest on). -/
def anyEls (h : Heap) (t : Ty) (n : Nat) (cs : List SV) : Option (Option (List Nat) × List Nat × List t.El) :=
  (deepOf h cs).bind fun b => cond b ((absEls h t n cs).bind fun q => cond (nodupB q.1) (some (none, q.1, q.2)) none) ((elsOf h t n cs).bind fun q => some (some q.1, [], q.2))
/-- A list's elements: as 'anyEls'. -/
def anyList (h : Heap) (t : Ty) (v : SV) : Option (Option (List Nat) × List Nat × List t.El) :=
  match v with
  | .bsl i n => match look h i with
    | some (.box cs) => (anyEls h t n cs).bind fun q => some (q.1, i :: q.2.1, q.2.2)
    | _ => none
  | _ => (v.list h t).bind fun p => cond (flatTy t) (some (none, [], p.2)) (some (some p.1, [], p.2))
/-- The array's kind behind new elements: 'some' where some are read only within. -/
def joinSh (a b : Option (List Nat)) : Option (Option (List Nat)) :=
  match a, b with
  | none, none => some none
  | some d, some d' => some (some (d ++ d'))
  | some _, none => none
  | none, some _ => none
def smallB (P : Program) (T : TypeId) : Bool :=
  match P.info? T with
  | some i => Nat.ble i.bytes 512
  | none => false
variable {ρ : Type}
/-- Into an element. -/
def storeArr (P : Program) (T : TypeId) (h : Heap) (i : Nat) (sh : Option (List Nat)) (t : Ty) (ys : List t.El) (k o : Nat) (x : SV) (K : CR → Option ρ) : Option ρ :=
  x.cells.bind fun xs => (sizeT P T).bind fun sz => cond (Nat.beq sz xs.length && Nat.ble (o + sz) t.sz) (
    match sh with
    | none => (absRs h ((t.tys.drop o).take sz) xs).bind fun p => cond (nodupB (i :: p.1)) (
        cond (Nat.beq sz t.sz)
          ((t.ofCells p.2).bind fun y => K { v := .undef, upd := [(i, .arr none t (ys.set k y))], gone := p.1, dirty := [i] })
          ((ys[k]?).bind fun e => (t.ofCells ((t.cells e).take o ++ p.2 ++ (t.cells e).drop (o + sz))).bind fun y => K { v := .undef, upd := [(i, .arr none t (ys.set k y))], gone := p.1, dirty := [i] })) none
    | some d => (asRs h ((t.tys.drop o).take sz) xs).bind fun p => cond (mem i p.1) none (
        cond (Nat.beq sz t.sz)
          ((t.ofCells p.2).bind fun y => K { v := .undef, upd := [(i, .arr (some (d ++ p.1)) t (ys.set k y))], dirty := [i] })
          ((ys[k]?).bind fun e => (t.ofCells ((t.cells e).take o ++ p.2 ++ (t.cells e).drop (o + sz))).bind fun y => K { v := .undef, upd := [(i, .arr (some (d ++ p.1)) t (ys.set k y))], dirty := [i] }))) none
/-- The operations that write or make memory; K gets what comes of it. -/
def evMem (E : Env) (s : List (Nat × SV)) (h : Heap) (nid : Nat) (op : Op) (K : CR → Option ρ) : Option ρ :=
  match op with
  | .alloc T => (zeroCs E.P T).bind fun z => K { v := .ptr nid 0 0, news := [.box z] }
  | .box _ x => (opd s x).bind fun v => v.cells.bind fun cs => K { v := .ptr nid 0 0, news := [.box cs] }
  | .buildSlice T n parts =>
    (elemT E.P T).bind fun e => (sizeT E.P e).bind fun sz => (partsO s parts.toList).bind fun ps => (zeroCs E.P e).bind fun z =>
      cond (Nat.ble (n * sz) 16777216 && Nat.beq z.length sz) ((fillCs (fun i => some (i * sz, sz)) (List.replicate (n * sz) .undef) ps).bind fun cs =>
        match E.tt e with
        | none => K { v := .bsl nid n, news := [.box cs] }
        | some t => cond (flatTy t && Nat.beq t.sz sz) ((absEls h t n cs).bind fun x => cond (isNil x.1) (K { v := .own nid, news := [.arr none t x.2] }) none) (K { v := .bsl nid n, news := [.box cs] })) none
  | .makeSlice T l c =>
    (elemT E.P T).bind fun e => (sizeT E.P e).bind fun sz => (E.tt e).bind fun t => (zeroCs E.P e).bind fun z => (opd s l).bind fun l => (opd s c).bind fun c => l.asI.bind fun l => c.asI.bind fun c =>
      cond (smallB E.P e && Nat.beq t.sz sz) ((absEls h t 1 z).bind fun x => cond (isNil x.1 && Nat.beq z.length sz) (match x.2 with
        | [y] => cond (decide (0 ≤ l ∧ l ≤ c ∧ c ≤ (maxN : Int))) (K { v := .own nid, news := [.arr none t (List.replicate l.toNat y)] }) none
        | _ => none) none) none
  | .call { callee := .builtin .append, args, argTypes } => (opds s args.toList).bind fun vs => match vs, argTypes.toList with
    | [b, x], [T, T'] => (elemT E.P T).bind fun e => (sizeT E.P e).bind fun sz => (E.tt e).bind fun t => cond (smallB E.P e && (Nat.beq t.sz sz && Nat.beq T T')) ((zeroCs E.P e).bind fun z => cond (Nat.beq z.length sz)
      ((anyList h t x).bind fun y => match b with
        | .nilS => cond (hit y.2.1 (y.1.getD [])) none (cond (Nat.ble y.2.2.length maxN) (K { v := .own nid, news := [.arr y.1 t y.2.2], gone := y.2.1 }) none)
        | .own i => match look h i with
          | some (.arr sh t' xs) => if he : t' = t then
              (joinSh sh y.1).bind fun sh' => cond (mem i y.2.1) none (cond (hit (i :: y.2.1) (sh'.getD [])) none (cond (Nat.ble (xs.length + y.2.2.length) maxN) (K { v := .own nid, news := [.arr sh' t ((he ▸ xs) ++ y.2.2)], gone := i :: y.2.1 }) none))
            else none
          | _ => none
        | _ => none) none) none
    | _, _ => none
  | .store T a x => (opd s a).bind fun a => (opd s x).bind fun x => match a with
    | .ptr i k o => match look h i with
      | some (.box cs) => cond (Nat.beq k 0) (x.cells.bind fun xs => (sizeT E.P T).bind fun sz => cond (Nat.beq sz xs.length) ((setCells cs o xs).bind fun cs => K { v := .undef, upd := [(i, .box cs)] }) none) none
      | some (.arr sh t ys) => storeArr E.P T h i sh t ys k o x K
      | _ => none
    | _ => none
  | .call { callee := .value f, args, .. } => (opd s f).bind fun f => (opds s args.toList).bind fun vs => match f with
    | .fn (.func g) first cap => E.orc g ρ nid (first ++ vs ++ cap) h K
    | _ => none
  | op => evStillK E.P s h op fun v => K { v := v }
def evOp (E : Env) (o : Oper) (st : St) (K : St → Option ρ) : Option ρ :=
  evMem E st.slots st.heap st.nid o.op fun c => (st.take o.dst c).bind K
def dstOf (ops : List Oper) (j : Nat) : Option Tmp := (ops[j]?).bind (·.dst)
def skipOp (o : Oper) (st : St) (K : St → Option ρ) : Option ρ :=
  (putO st.slots st.n o.dst .undef).bind fun s => K { st with slots := s }
def evOps (E : Env) (all : List Oper) : List Oper → St → (St → Option ρ) → Option ρ
  | [], st, K => K st
  | o :: rest, st, K =>
    match o.guard with
    | none => evOp E o st fun st => evOps E all rest st K
    | some (j, want) => (dstOf all j).bind fun t => (look st.slots t).bind fun v => v.asB.bind fun b =>
        cond b
          (cond want (evOp E o { st with slots := put st.slots t (.b true) } fun st => evOps E all rest st K)
            (skipOp o { st with slots := put st.slots t (.b true) } fun st => evOps E all rest st K))
          (cond want (skipOp o { st with slots := put st.slots t (.b false) } fun st => evOps E all rest st K)
            (evOp E o { st with slots := put st.slots t (.b false) } fun st => evOps E all rest st K))
/-- The heap behind what came of an operation. -/
def after (H : Heap) (nid : Nat) (c : CR) : Option Heap :=
  (sweepH' c.kil (upds c.upd H)).bind fun h => some (h ++ newsH nid c.news)
/-! ### a region whose order is drawn: each operation is taken on its own, knowing of no other but those that it waits for -/
/-- What came of one operation; 'n0': the first id of what it makes. -/
structure DR where
  dst : Option Tmp
  n0 : Nat
  c : CR
abbrev SH := List (Nat × SV) × Heap
def putD (s : List (Nat × SV)) (dst : Option Tmp) (v : SV) : List (Nat × SV) :=
  match dst with
  | some t => put s t v
  | none => s
def setH : Heap → Nat → Blk → Heap
  | [], _, _ => []
  | (k, u) :: l, n, b => cond (Nat.beq k n) ((k, b) :: l) ((k, u) :: setH l n b)
def updsX : Heap → Heap → Heap
  | [], h => h
  | (k, b) :: l, h => updsX l (setH h k b)
def DR.app (r : DR) (x : SH) : Option SH :=
  (sweepH' r.c.kil (updsX r.c.upd x.2)).bind fun h => some (putD (sweepS' r.c.kil x.1) r.dst r.c.v, h ++ newsH r.n0 r.c.news)
/-- The state behind those of the operations that 'p' names, in the order of the text. -/
def replay (p : Nat → Bool) : Nat → List DR → SH → Option SH
  | _, [], x => some x
  | j, r :: l, x => cond (p j) ((r.app x).bind fun x => replay p (j + 1) l x) (replay p (j + 1) l x)
def edgesOk (n : Nat) : List Edge → Bool
  | [] => true
  | e :: l => cond (Region.binds .any e) (cond (Nat.ble (e.on + 1) n) (edgesOk n l) false) (edgesOk n l)
/-- All that an operation waits for, as bits. -/
def ancOf (masks : List Nat) : List Edge → Nat
  | [] => 0
  | e :: l => cond (Region.binds .any e) ((masks.getD e.on 0 ||| 2 ^ e.on) ||| ancOf masks l) (ancOf masks l)
def masksOf : List Nat → List Oper → Option (List Nat)
  | acc, [] => some acc
  | acc, o :: l => cond (edgesOk acc.length o.after.toList) (masksOf (acc ++ [ancOf acc o.after.toList]) l) none
def dstsOf : List Oper → List Nat
  | [] => []
  | o :: l => match o.dst with
    | some t => t :: dstsOf l
    | none => dstsOf l
def ltAll (n : Nat) : List Nat → Bool
  | [] => true
  | i :: l => cond (Nat.ble (i + 1) n) (ltAll n l) false
def delAll : List Nat → List (Nat × SV) → List (Nat × SV)
  | _, [] => []
  | T, (t, v) :: l => cond (mem t T) (delAll T l) ((t, v) :: delAll T l)
def tempsOf : List Operand → List Nat
  | [] => []
  | .tmp t :: l => t :: tempsOf l
  | _ :: l => tempsOf l
def restr (T : List Nat) (s : List (Nat × SV)) : List Nat → List (Nat × SV)
  | [] => []
  | t :: l => cond (mem t T) (restr T s l) (match look s t with
    | some v => (t, v) :: restr T s l
    | none => restr T s l)
/-- Operations that may write. -/
def isWriter : Op → Bool
  | .store _ _ _ => true
  | .call { callee := .builtin .len, .. } | .call { callee := .builtin .min, .. } | .call { callee := .builtin .max, .. } => false
  | .call { callee := .builtin _, .. } => true
  | .call _ => false
  | _ => false
def ordB (masks : List Nat) (i j : Nat) : Bool := Nat.beq i j || ((masks.getD i 0).testBit j || (masks.getD j 0).testBit i)
/-- Some writer is not in order with number i. -/
def blindB (masks : List Nat) (i : Nat) : Nat → List Oper → Bool
  | _, [] => false
  | j, o :: l => cond (isWriter o.op) (cond (ordB masks i j) (blindB masks i (j + 1) l) true) (blindB masks i (j + 1) l)
def okW (op : Op) (c : CR) : Bool := cond (isWriter op) true (isNil c.kil.2 && isNil c.upd)
/-- The two may come in either order. -/
def commB (a b : DR) : Bool := (isNil a.c.kil.2 && isNil b.c.kil.2) && ((isNil a.c.upd && isNil b.c.upd) || ((isNil a.c.upd && isNil a.c.news) || (isNil b.c.upd && isNil b.c.news)))
def pairs1 (masks : List Nat) (i : Nat) (r : DR) : Nat → List DR → Bool
  | _, [] => true
  | j, b :: l => cond ((masks.getD j 0).testBit i) (pairs1 masks i r (j + 1) l) (cond (commB r b) (pairs1 masks i r (j + 1) l) false)
def pairsB (masks : List Nat) : Nat → List DR → Bool
  | _, [] => true
  | i, r :: l => cond (pairs1 masks i r (i + 1) l) (pairsB masks (i + 1) l) false
def setV : List DR → Nat → SV → List DR
  | [], _, _ => []
  | r :: l, 0, v => { r with c := { r.c with v := v } } :: l
  | r :: l, n + 1, v => r :: setV l n v
def evDraw (E : Env) (ops : List Oper) (masks dsts : List Nat) (s0 : List (Nat × SV)) (h0 : Heap) : Nat → List Oper → Nat → List DR → (List DR → Nat → Option ρ) → Option ρ
  | _, [], nid, rs, K => K rs nid
  | i, o :: rest, nid, rs, K =>
    (replay (Nat.testBit (masks.getD i 0)) 0 rs (restr dsts s0 (tempsOf o.op.operands.toList), h0)).bind fun x =>
    match o.guard with
    | none => evMem E x.1 (cond (blindB masks i 0 ops) [] x.2) nid o.op fun c => cond (okW o.op c) (evDraw E ops masks dsts s0 h0 (i + 1) rest (nid + c.news.length) (rs ++ [⟨o.dst, nid, c⟩]) K) none
    | some (g, want) => cond (Nat.testBit (masks.getD i 0) g) ((rs[g]?).bind fun r => r.dst.bind fun _ => match r.c.v with
      | .r [] (.bool b) => cond b
        (cond want
          (evMem E x.1 (cond (blindB masks i 0 ops) [] x.2) nid o.op fun c => cond (okW o.op c) (evDraw E ops masks dsts s0 h0 (i + 1) rest (nid + c.news.length) (setV rs g (.b true) ++ [⟨o.dst, nid, c⟩]) K) none)
          (evDraw E ops masks dsts s0 h0 (i + 1) rest nid (setV rs g (.b true) ++ [⟨o.dst, nid, { v := .undef }⟩]) K))
        (cond want
          (evDraw E ops masks dsts s0 h0 (i + 1) rest nid (setV rs g (.b false) ++ [⟨o.dst, nid, { v := .undef }⟩]) K)
          (evMem E x.1 (cond (blindB masks i 0 ops) [] x.2) nid o.op fun c => cond (okW o.op c) (evDraw E ops masks dsts s0 h0 (i + 1) rest (nid + c.news.length) (setV rs g (.b false) ++ [⟨o.dst, nid, c⟩]) K) none))
      | _ => none) none
def evDrawn (E : Env) (ops : List Oper) (st : St) (K : St → Option ρ) : Option ρ :=
  cond (E.P.follows .mixedOrders) ((masksOf [] ops).bind fun masks =>
    cond (nodupB (dstsOf ops)) (cond (ltAll st.n (dstsOf ops))
      (evDraw E ops masks (dstsOf ops) st.slots st.heap 0 ops st.nid [] fun rs nid => cond (pairsB masks 0 rs)
        ((replay (fun _ => true) 0 rs (delAll (dstsOf ops) st.slots, st.heap)).bind fun x => K { st with slots := x.1, heap := x.2, nid := nid }) none) none) none) none
inductive Ex where
  | normal
  | exit (id : Nat)
  | ret
def refine (c : Operand) (b : Bool) (st : St) : St :=
  match c with
  | .tmp t => { st with slots := put st.slots t (.b b) }
  | _ => st
abbrev Ev (ρ : Type) := St → (Ex → St → Option ρ) → Option ρ
def inBlock (id : Nat) (K : Ex → St → Option ρ) : Ex → St → Option ρ
  | .exit j, st => cond (Nat.beq j id) (K .normal st) (K (.exit j) st)
  | e, st => K e st
def ev (E : Env) (LP : Nat → Ev ρ → Ev ρ) (cb : Nat) : Code → Ev ρ
  | .skip, st, K => K .normal st
  | .label _, st, K => K .normal st
  | .region _ ops false, st, K => evOps E ops.toList ops.toList st (K .normal)
  | .region _ ops true, st, K => evDrawn E ops.toList st (K .normal)
  | .seq a b, st, K => ev E LP cb a st fun e st => match e with
    | .normal => ev E LP cb b st K
    | e => K e st
  | .cond c t f, st, K => (opd st.slots c).bind fun v => v.asB.bind fun b => cond b (ev E LP cb t (refine c true st) K) (ev E LP cb f (refine c false st) K)
  | .block id c, st, K => ev E LP id c st (inBlock id K)
  | .loop c, st, K => LP cb (fun st K => ev E LP cb c st K) st K
  | .exit id, st, K => K (.exit id) st
  | .scope c, st, K => ev E LP cb c st K
  | .ret, st, K => K .ret st
  | _, _, _ => none
def loopN (body : Ev ρ) : Nat → Ev ρ
  | 0, _, _ => none
  | n + 1, st, K => body st fun e st => match e with
    | .normal => loopN body n st K
    | e => K e st
end Go.Proofs.Ev
