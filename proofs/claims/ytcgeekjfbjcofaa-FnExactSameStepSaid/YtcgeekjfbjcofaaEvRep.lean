/- What a symbolic value says of a world. -/
import Derived.Test.YtcgeekjfbjcofaaEvEv
set_option linter.unusedVariables false
set_option linter.unusedSimpArgs false
namespace Go.Proofs.Ev
abbrev Cell := Nat × Nat
def _root_.Go.World.at? (w : World) (p : Cell) : Option Value := w.cell? ⟨p.1, p.2, none⟩
def _root_.Go.World.ice? (w : World) (p : Cell) : Bool := w.frozen? ⟨p.1, p.2, none⟩
def one : Value → Bool
  | .agg _ | .tuple _ => false
  | _ => true
def reg (b o n : Nat) (p : Cell) : Prop := p.1 = b ∧ o ≤ p.2 ∧ p.2 < o + n
/-- The cell (i, j) of a list of elements. -/
def cellIn (t : Ty) (xs : List t.El) (i j : Nat) (r : R) : Prop := ∃ x, xs[i]? = some x ∧ (t.cells x)[j]? = some r
theorem cellIn_lt {t : Ty} {xs : List t.El} {i j : Nat} {r : R} (h : cellIn t xs i j r) : i < xs.length ∧ j < t.sz := by
  obtain ⟨x, hx, hr⟩ := h
  refine ⟨(List.getElem?_eq_some_iff.1 hx).1, ?_⟩
  have := (List.getElem?_eq_some_iff.1 hr).1
  rwa [Ty.cells_length] at this
theorem cellIn_of {t : Ty} {xs : List t.El} {i j : Nat} (hi : i < xs.length) (hj : j < t.sz) : ∃ r, cellIn t xs i j r := by
  refine ⟨(t.cells xs[i])[j]'(by rw [Ty.cells_length]; exact hj), xs[i], ?_, ?_⟩ <;> simp
theorem off_lt {i j n s c : Nat} (hi : i < n) (hj : j < s) (h : n ≤ c) : i * s + j < c * s := by
  have h1 : (i + 1) * s ≤ c * s := Nat.mul_le_mul_right s (by omega)
  have : (i + 1) * s = i * s + s := Nat.succ_mul i s
  omega

/-- Read only: 'ok' holds of each cell that is read. -/
inductive RepR (w : World) (ok : Cell → Prop) : R → Value → Prop
  | int (k : IntKind) (n : Int) : RepR w ok (.int k n) (.int k n)
  | bool (b : Bool) : RepR w ok (.bool b) (.bool b)
  | str (l : List UInt8) : RepR w ok (.str l) (.string ⟨l.toArray⟩)
  | sl (t : Ty) (xs : List t.El) (a : Option Addr) (cap b o : Nat) (vs : Nat → Nat → Value)
      (hcap : xs.length ≤ cap) (ha : xs = [] ∨ a = some ⟨b, o, none⟩)
      (hc : ∀ i j r, cellIn t xs i j r → ok (b, o + (i * t.sz + j)) ∧ w.at? (b, o + (i * t.sz + j)) = some (vs i j))
      (hr : ∀ i j r, cellIn t xs i j r → RepR w ok r (vs i j)) : RepR w ok (.sl t xs) (.slice a xs.length cap)
theorem RepR.frame {w w' : World} {ok ok' : Cell → Prop} {r : R} {v : Value} (h : RepR w ok r v)
    (hf : ∀ p u, ok p → w.at? p = some u → ok' p ∧ w'.at? p = some u) : RepR w' ok' r v := by
  induction h with
  | int => exact .int _ _
  | bool => exact .bool _
  | str => exact .str _
  | sl t xs a cap b o vs hcap ha hc _ ih =>
    exact .sl t xs a cap b o vs hcap ha (fun i j r hr => hf _ _ (hc i j r hr).1 (hc i j r hr).2) ih

/-- A row of elements that is owned with all its spare room; 'inner' says what its cells are, with what each owns. -/
structure Row (w : World) (inner : R → Value → (Cell → Prop) → Prop) (t : Ty) (xs : List t.El) (hdr : Value) (fp : Cell → Prop) where
  a : Option Addr
  cap : Nat
  b : Nat
  o : Nat
  vs : Nat → Nat → Value
  fs : Nat → Nat → Cell → Prop
  hdr_eq : hdr = .slice a xs.length cap
  hcap : xs.length ≤ cap
  ha : cap = 0 ∨ a = some ⟨b, o, none⟩
  hreg : ∀ j, j < cap * t.sz → (∃ v, w.at? (b, o + j) = some v) ∧ w.ice? (b, o + j) = false
  hc : ∀ i j r, cellIn t xs i j r → w.at? (b, o + (i * t.sz + j)) = some (vs i j)
  hr : ∀ i j r, cellIn t xs i j r → inner r (vs i j) (fs i j)
  hd1 : ∀ i j r p, cellIn t xs i j r → fs i j p → ¬ reg b o (cap * t.sz) p
  hd2 : ∀ i j r i' j' r' p, cellIn t xs i j r → cellIn t xs i' j' r' → fs i j p → fs i' j' p → i = i' ∧ j = j'
  hfp : ∀ p, fp p ↔ reg b o (cap * t.sz) p ∨ ∃ i j r, cellIn t xs i j r ∧ fs i j p
/-- Owned through and through. -/
inductive RepD (w : World) : R → Value → (Cell → Prop) → Prop
  | int (k : IntKind) (n : Int) : RepD w (.int k n) (.int k n) (fun _ => False)
  | bool (b : Bool) : RepD w (.bool b) (.bool b) (fun _ => False)
  | str (l : List UInt8) : RepD w (.str l) (.string ⟨l.toArray⟩) (fun _ => False)
  | sl (t : Ty) (xs : List t.El) (a : Option Addr) (cap b o : Nat) (vs : Nat → Nat → Value) (fs : Nat → Nat → Cell → Prop) (fp : Cell → Prop)
      (hcap : xs.length ≤ cap) (ha : cap = 0 ∨ a = some ⟨b, o, none⟩)
      (hreg : ∀ j, j < cap * t.sz → (∃ v, w.at? (b, o + j) = some v) ∧ w.ice? (b, o + j) = false)
      (hc : ∀ i j r, cellIn t xs i j r → w.at? (b, o + (i * t.sz + j)) = some (vs i j))
      (hr : ∀ i j r, cellIn t xs i j r → RepD w r (vs i j) (fs i j))
      (hd1 : ∀ i j r p, cellIn t xs i j r → fs i j p → ¬ reg b o (cap * t.sz) p)
      (hd2 : ∀ i j r i' j' r' p, cellIn t xs i j r → cellIn t xs i' j' r' → fs i j p → fs i' j' p → i = i' ∧ j = j')
      (hfp : ∀ p, fp p ↔ reg b o (cap * t.sz) p ∨ ∃ i j r, cellIn t xs i j r ∧ fs i j p) : RepD w (.sl t xs) (.slice a xs.length cap) fp
theorem RepD.row {w : World} {t : Ty} {xs : List t.El} {v : Value} {fp : Cell → Prop} (h : RepD w (.sl t xs) v fp) : Nonempty (Row w (RepD w) t xs v fp) := by
  cases h with
  | sl t xs a cap b o vs fs fp hcap ha hreg hc hr hd1 hd2 hfp => exact ⟨⟨a, cap, b, o, vs, fs, rfl, hcap, ha, hreg, hc, hr, hd1, hd2, hfp⟩⟩
theorem Row.repD {w : World} {t : Ty} {xs : List t.El} {v : Value} {fp : Cell → Prop} (h : Row w (RepD w) t xs v fp) : RepD w (.sl t xs) v fp := by
  obtain ⟨a, cap, b, o, vs, fs, rfl, hcap, ha, hreg, hc, hr, hd1, hd2, hfp⟩ := h
  exact .sl t xs a cap b o vs fs fp hcap ha hreg hc hr hd1 hd2 hfp
theorem RepD.frame {w w' : World} {r : R} {v : Value} {fp : Cell → Prop} (h : RepD w r v fp)
    (hf : ∀ p u, fp p → w.at? p = some u → w'.at? p = some u ∧ w'.ice? p = w.ice? p) : RepD w' r v fp := by
  induction h with
  | int => exact .int _ _
  | bool => exact .bool _
  | str => exact .str _
  | sl t xs a cap b o vs fs fp hcap ha hreg hc _ hd1 hd2 hfp ih =>
    have hin : ∀ i j r, cellIn t xs i j r → fp (b, o + (i * t.sz + j)) := fun i j r hr => (hfp _).2 (.inl ⟨rfl, by simp, by
      have := off_lt (cellIn_lt hr).1 (cellIn_lt hr).2 hcap; simp; omega⟩)
    refine .sl t xs a cap b o vs fs fp hcap ha (fun j hj => ?_) (fun i j r hr => (hf _ _ (hin i j r hr) (hc i j r hr)).1)
      (fun i j r hr => ih i j r hr fun p u hp => hf p u ((hfp p).2 (.inr ⟨i, j, r, hr, hp⟩))) hd1 hd2 hfp
    obtain ⟨⟨v, hv⟩, hi⟩ := hreg j hj
    have := hf (b, o + j) v ((hfp _).2 (.inl ⟨rfl, by simp, by simp; omega⟩)) hv
    exact ⟨⟨v, this.1⟩, this.2.trans hi⟩
theorem RepD.repR {w : World} {r : R} {v : Value} {fp : Cell → Prop} {ok : Cell → Prop} (h : RepD w r v fp) (hok : ∀ p, fp p → ok p) : RepR w ok r v := by
  induction h with
  | int => exact .int _ _
  | bool => exact .bool _
  | str => exact .str _
  | sl t xs a cap b o vs fs fp hcap ha hreg hc _ hd1 hd2 hfp ih =>
    refine .sl t xs a cap b o vs hcap ?_ (fun i j r hr => ⟨hok _ ((hfp _).2 (.inl ⟨rfl, by simp, by
      have := off_lt (cellIn_lt hr).1 (cellIn_lt hr).2 hcap; simp; omega⟩)), hc i j r hr⟩)
      (fun i j r hr => ih i j r hr fun p hp => hok p ((hfp p).2 (.inr ⟨i, j, r, hr, hp⟩)))
    rcases ha with rfl | h
    · exact .inl (List.length_eq_zero_iff.1 (by omega))
    · exact .inr h
/-- All that is owned is there. -/
theorem RepD.there {w : World} {r : R} {v : Value} {fp : Cell → Prop} (h : RepD w r v fp) : ∀ p, fp p → ∃ u, w.at? p = some u := by
  induction h with
  | int => exact fun _ h => h.elim
  | bool => exact fun _ h => h.elim
  | str => exact fun _ h => h.elim
  | sl t xs a cap b o vs fs fp hcap ha hreg hc _ hd1 hd2 hfp ih =>
    intro p hp
    rcases (hfp p).1 hp with ⟨h1, h2, h3⟩ | ⟨i, j, r, hr, hp⟩
    · obtain ⟨p1, p2⟩ := p
      have h1 : p1 = b := h1
      simp only at h1 h2 h3
      subst h1
      have := (hreg (p2 - o) (by omega)).1
      rwa [show o + (p2 - o) = p2 from by omega] at this
    · exact ih i j r hr p hp

/-- The placing of the owned blocks: a variable's address or a slice's header, and its cells. 'base': what may be read at all. -/
structure Pl where
  hdr : Nat → Value
  fp : Nat → Cell → Prop
  base : Cell → Prop
def Blk.isBox : Blk → Bool
  | .box _ => true
  | .arr _ _ _ => false
/-- The cells that a read-only value with the ids 'd' may read. -/
def okd (H : Heap) (pl : Pl) (d : List Nat) (p : Cell) : Prop := pl.base p ∧ ∀ i B, look H i = some B → (mem i d = true → B.isBox = true) → ¬ pl.fp i p
inductive SVRep (w : World) (H : Heap) (pl : Pl) : SV → Value → Prop
  | r (d : List Nat) (x : R) (v : Value) (h : RepR w (okd H pl d) x v) : SVRep w H pl (.r d x) v
  | nilS : SVRep w H pl .nilS (.slice none 0 0)
  | nilP : SVRep w H pl .nilP (.pointer none)
  | own (i : Nat) (sh : Option (List Nat)) (t : Ty) (xs : List t.El) (h : look H i = some (.arr sh t xs)) : SVRep w H pl (.own i) (pl.hdr i)
  | sub (i o n : Nat) (sh : Option (List Nat)) (t : Ty) (xs : List t.El) (a a' : Option Addr) (cap cap' : Nat) (h : look H i = some (.arr sh t xs))
      (hh : pl.hdr i = .slice a xs.length cap) (hn : o + n ≤ xs.length) (hc : n ≤ cap') (hc' : o + cap' ≤ cap) (ha : cap' = 0 ∨ a' = a.map (·.add (o * t.sz))) :
      SVRep w H pl (.sub i o n) (.slice a' n cap')
  | bsl (i n : Nat) (cs : List SV) (a : Addr) (h : look H i = some (.box cs)) (hh : pl.hdr i = .pointer (some a)) : SVRep w H pl (.bsl i n) (.slice (some a) n n)
  | ptrB (i o : Nat) (cs : List SV) (b k : Nat) (h : look H i = some (.box cs)) (hh : pl.hdr i = .pointer (some ⟨b, k, none⟩)) : SVRep w H pl (.ptr i 0 o) (.pointer (some ⟨b, k + o, none⟩))
  | ptrA (i x o : Nat) (sh : Option (List Nat)) (t : Ty) (xs : List t.El) (b k n cap : Nat) (h : look H i = some (.arr sh t xs)) (hx : x < xs.length)
      (hh : pl.hdr i = .slice (some ⟨b, k, none⟩) n cap) : SVRep w H pl (.ptr i x o) (.pointer (some ⟨b, k + (x * t.sz + o), none⟩))
  | rptr (d : List Nat) (cs : List R) (b o : Nat) (vs : Nat → Value) (hc : ∀ j r, cs[j]? = some r → okd H pl d (b, o + j) ∧ w.at? (b, o + j) = some (vs j))
      (hr : ∀ j r, cs[j]? = some r → RepR w (okd H pl d) r (vs j)) : SVRep w H pl (.rptr d cs) (.pointer (some ⟨b, o, none⟩))
  | agg (cs : List SV) (vs : Array Value) (hl : cs.length = vs.size) (h1 : ∀ (j : Nat) (v : Value), vs[j]? = some v → one v = true) (h : ∀ (j : Nat) (x : SV) (v : Value), cs[j]? = some x → vs[j]? = some v → SVRep w H pl x v) : SVRep w H pl (.agg cs) (.agg vs)
  | tup (cs : List SV) (vs : Array Value) (hl : cs.length = vs.size) (h : ∀ (j : Nat) (x : SV) (v : Value), cs[j]? = some x → vs[j]? = some v → SVRep w H pl x v) : SVRep w H pl (.tup cs) (.tuple vs)
  | fn (f : Fn) (as bs : List SV) (us vs : Array Value) (hl : as.length = us.size) (h : ∀ (j : Nat) (x : SV) (v : Value), as[j]? = some x → us[j]? = some v → SVRep w H pl x v)
      (hl' : bs.length = vs.size) (h' : ∀ (j : Nat) (x : SV) (v : Value), bs[j]? = some x → vs[j]? = some v → SVRep w H pl x v) : SVRep w H pl (.fn f as bs) (.func f us vs)
  | undef (v : Value) : SVRep w H pl .undef v
/-- One block. -/
def BlkRep (w : World) (H : Heap) (pl : Pl) (i : Nat) : Blk → Prop
  | .box cs => ∃ b o, pl.hdr i = .pointer (some ⟨b, o, none⟩) ∧ (∀ p, pl.fp i p ↔ reg b o cs.length p) ∧
      ∀ j v, cs[j]? = some v → ∃ u, w.at? (b, o + j) = some u ∧ w.ice? (b, o + j) = false ∧ one u = true ∧ SVRep w H pl v u
  | .arr none t xs => Nonempty (Row w (RepD w) t xs (pl.hdr i) (pl.fp i))
  | .arr (some d) t xs => Nonempty (Row w (fun r v f => RepR w (okd H pl d) r v ∧ ∀ p, ¬ f p) t xs (pl.hdr i) (pl.fp i))
structure HRel (H : Heap) (pl : Pl) (w : World) : Prop where
  blk : ∀ i B, look H i = some B → BlkRep w H pl i B
  dis : ∀ i j B B' p, look H i = some B → look H j = some B' → pl.fp i p → pl.fp j p → i = j
  ob : ∀ i B p, look H i = some B → pl.fp i p → pl.base p
  nb : ∀ p, w.at? p = none → pl.base p
end Go.Proofs.Ev
