/- The evaluator over the model's code, and that it is sound: part 6. -/
import Derived.Test.YtcihopgmgpmadaaEvK5
import GoSem.ClaimChange
import Derived.Deep.Slices
import Derived.DataReads
import Derived.ProofKit
import Derived.WideKeyArgs
import Derived.IntWalk
set_option linter.unusedVariables false
set_option linter.unusedSimpArgs false
set_option linter.unusedVariables false
set_option linter.unusedSimpArgs false
set_option linter.unusedSectionVars false
namespace Go.Proofs.Ev
/-! ### cells and numbers -/
def numCell (n : Nat) : R → R
  | .sl _ _ => .tok n
  | r => r
def numCells : Nat → List R → List R
  | _, [] => []
  | n, r :: l => numCell n r :: numCells (n + 1) l
/-- Elements, with numbers for the inner slices, counted from n on. -/
def numEls (s s' : S) : Nat → List s.E → Option (List s'.E)
  | _, [] => some []
  | n, x :: l => (s'.ofCells (numCells n (s.cells x))).bind fun y => (numEls s s' (n + s.sz) l).bind fun ys => some (y :: ys)
def allCells (s : S) : List s.E → List R
  | [] => []
  | x :: l => s.cells x ++ allCells s l
def unCell (C : List R) : R → Option R
  | .tok n => match n with
    | 0 => none
    | m + 1 => match C[m]? with
      | some (.sl t xs) => some (.sl t xs)
      | _ => none
  | .sl _ _ => none
  | r => some r
def unCells (C : List R) : List R → Option (List R)
  | [] => some []
  | r :: l => (unCell C r).bind fun x => (unCells C l).bind fun xs => some (x :: xs)
def unEls (s s' : S) (C : List R) : List s'.E → Option (List s.E)
  | [] => some []
  | y :: l => (unCells C (s'.cells y)).bind fun c => (s.ofCells c).bind fun x => (unEls s s' C l).bind fun xs => some (x :: xs)
def toks : List R → List Nat
  | [] => []
  | .tok n :: l => n :: toks l
  | _ :: l => toks l
/-! ### values without numbers -/
def Ty.plain : Ty → Bool
  | .tok => false
  | .st .taskK | .st .requestK => false
  | .sl t => t.plain
  | _ => true
def R.plain : R → Bool
  | .tok _ => false
  | .sl t _ => t.plain
  | _ => true
def plainRs : List R → Bool
  | [] => true
  | r :: l => cond r.plain (plainRs l) false
def noneOf (i : Nat) : List Nat → Bool
  | [] => true
  | k :: l => cond (Nat.beq k i) false (noneOf i l)
mutual
/-- A value without numbers that does not rest on the block 'k'. -/
def SV.less (k : Nat) : SV → Bool
  | .r d x => x.plain && noneOf k d
  | .rptr d cs => plainRs cs && noneOf k d
  | .inn _ _ _ => false
  | .agg cs => lessL k cs
  | .tup cs => lessL k cs
  | .fn _ a b => lessL k a && lessL k b
  | _ => true
def lessL (k : Nat) : List SV → Bool
  | [] => true
  | v :: l => v.less k && lessL k l
end
def Blk.less (k : Nat) : Blk → Bool
  | .box cs => lessL k cs
  | .arr none t _ => t.plain
  | .arr (some d) t _ => t.plain && noneOf k d
/-- All blocks but number 'k'. -/
def lessBs (k : Nat) : Nat → List Blk → Bool
  | _, [] => true
  | n, b :: l => (Nat.beq n k || b.less k) && lessBs k (n + 1) l
def lessKs (k : Nat) : List (Option Blk) → Bool
  | [] => true
  | none :: l => lessKs k l
  | some b :: l => b.less k && lessKs k l
variable {ρ : Type}
/-- The new blocks: the ones with numbers are put together again; K is told how many there are. -/
def unBs (s s' : S) (k : Nat) (C : List R) : List Blk → (List Blk → Nat → Option ρ) → Option ρ
  | [], K => K [] 0
  | .arr none (.st s1) zs :: l, K => if h : s1 = s' then
      cond (nodupB (toks (allCells s' (h ▸ zs)))) ((unEls s s' C (h ▸ zs)).bind fun xs => unBs s s' k C l fun l n => K (.arr none (.st s) xs :: l) (n + 1)) none
    else cond ((Ty.st s1).plain) (unBs s s' k C l fun l n => K (.arr none (.st s1) zs :: l) n) none
  | b :: l, K => cond (b.less k) (unBs s s' k C l fun l n => K (b :: l) n) none
def unOut (s s' : S) (k : Nat) (C : List R) (o : MOut) (K : MOut → Option ρ) : Option ρ :=
  cond (o.v.less k && lessKs k o.kept) (unBs s s' k C o.news fun l n => cond (Nat.ble n 1) (K ⟨o.v, o.kept, l⟩) none) none
/-- The function, handed elements themselves as the block 'kb', where G is handed the ones with numbers. -/
def numG (s s' : S) (kb : Nat) (G : MG) : MG := fun _ l b K =>
  match b[kb]? with
  | some (.arr none (.st s1) xs) => if h : s1 = s then
      cond (lessL kb l && lessBs kb 0 b) ((numEls s s' 1 (h ▸ xs)).bind fun ys => G _ l (b.set kb (.arr none (.st s') ys)) fun o => unOut s s' kb (allCells s (h ▸ xs)) o K) none
    else none
  | _ => none
/-! ### what these say -/
section
variable [Tok]
theorem cellIn_nil {t : Ty} {i j : Nat} {r : R} : ¬ cellIn t [] i j r := fun ⟨x, hx, _⟩ => by simp at hx
theorem numCells_get : ∀ {l : List R} {n j : Nat} {r' : R}, (numCells n l)[j]? = some r' → ∃ r, l[j]? = some r ∧ r' = numCell (n + j) r
  | [], n, j, r', h => by simp [numCells] at h
  | r :: l, n, 0, r', h => by simp [numCells] at h; exact ⟨r, rfl, h.symm⟩
  | r :: l, n, j + 1, r', h => by
    simp only [numCells, List.getElem?_cons_succ] at h
    obtain ⟨x, h1, h2⟩ := numCells_get h
    exact ⟨x, by simpa using h1, by rw [h2]; congr 1; omega⟩
theorem numEls_spec {s s' : S} (hsz : s'.sz = s.sz) : ∀ {xs : List s.E} {n : Nat} {ys : List s'.E}, numEls s s' n xs = some ys →
    ys.length = xs.length ∧ ∀ i j r', cellIn (.st s') ys i j r' → ∃ r, cellIn (.st s) xs i j r ∧ r' = numCell (n + (i * s.sz + j)) r
  | [], n, ys, h => by cases h; exact ⟨rfl, fun i j r' hc => (cellIn_nil hc).elim⟩
  | x :: xs, n, ys, h => by
    simp only [numEls, Option.bind_eq_some_iff, Option.some.injEq] at h
    obtain ⟨y, hy, ys', h2, rfl⟩ := h
    obtain ⟨g1, g2⟩ := numEls_spec hsz h2
    refine ⟨by simp [g1], fun i j r' hc => ?_⟩
    rcases cellIn_cons.1 hc with ⟨rfl, hj⟩ | ⟨i', rfl, hc'⟩
    · have e : (Ty.st s').cells y = numCells n (s.cells x) := S.ofCells_spec s' _ y hy
      rw [e] at hj
      obtain ⟨r, h1, h2⟩ := numCells_get hj
      exact ⟨r, cellIn_cons.2 (.inl ⟨rfl, h1⟩), by rw [h2]; congr 1; omega⟩
    · obtain ⟨r, h1, h2⟩ := g2 i' j r' hc'
      refine ⟨r, cellIn_cons.2 (.inr ⟨i', rfl, h1⟩), ?_⟩
      rw [h2, Nat.succ_mul]; congr 1; omega
theorem allCells_get {s : S} : ∀ {xs : List s.E} {k : Nat} {r : R}, (allCells s xs)[k]? = some r → cellIn (.st s) xs (k / s.sz) (k % s.sz) r
  | [], k, r, h => by simp [allCells] at h
  | x :: xs, k, r, h => by
    have hl : (s.cells x).length = s.sz := Ty.cells_length (.st s) x
    have hp : 0 < s.sz := Ty.sz_pos (.st s)
    simp only [allCells] at h
    by_cases c : k < s.sz
    · rw [List.getElem?_append_left (by omega)] at h
      rw [Nat.div_eq_of_lt c, Nat.mod_eq_of_lt c]
      exact cellIn_cons.2 (.inl ⟨rfl, h⟩)
    · rw [List.getElem?_append_right (by omega), hl] at h
      have := allCells_get h
      have e1 : k / s.sz = (k - s.sz) / s.sz + 1 := by
        conv => lhs; rw [show k = (k - s.sz) + s.sz from by omega]
        exact Nat.add_div_right _ hp
      have e2 : k % s.sz = (k - s.sz) % s.sz := by
        conv => lhs; rw [show k = (k - s.sz) + s.sz from by omega]
        exact Nat.add_mod_right _ _
      rw [e1, e2]
      exact cellIn_cons.2 (.inr ⟨_, rfl, this⟩)
theorem allCells_of {s : S} : ∀ {xs : List s.E} {i j : Nat} {r : R}, cellIn (.st s) xs i j r → (allCells s xs)[i * s.sz + j]? = some r
  | [], i, j, r, h => (cellIn_nil h).elim
  | x :: xs, i, j, r, h => by
    have hl : (s.cells x).length = s.sz := Ty.cells_length (.st s) x
    have hj : j < s.sz := (cellIn_lt h).2
    simp only [allCells]
    rcases cellIn_cons.1 h with ⟨rfl, h1⟩ | ⟨i', rfl, h1⟩
    · rw [List.getElem?_append_left (by omega), Nat.zero_mul, Nat.zero_add]; exact h1
    · rw [Nat.succ_mul, List.getElem?_append_right (by omega), hl, show i' * s.sz + s.sz + j - s.sz = i' * s.sz + j from by omega]
      exact allCells_of h1
theorem unCells_get {C : List R} : ∀ {l l' : List R}, unCells C l = some l' → l'.length = l.length ∧ ∀ (j : Nat) (r : R), l'[j]? = some r → ∃ r', l[j]? = some r' ∧ unCell C r' = some r
  | [], l', h => by cases h; exact ⟨rfl, fun j r hj => by simp at hj⟩
  | r0 :: l, l', h => by
    simp only [unCells, Option.bind_eq_some_iff, Option.some.injEq] at h
    obtain ⟨x, hx, xs, h2, rfl⟩ := h
    obtain ⟨g1, g2⟩ := unCells_get h2
    refine ⟨by simp [g1], fun j r hj => ?_⟩
    cases j with
    | zero => simp at hj; subst hj; exact ⟨r0, rfl, hx⟩
    | succ j => exact g2 j r (by simpa using hj)
theorem unEls_spec {s s' : S} {C : List R} : ∀ {ys : List s'.E} {xs : List s.E}, unEls s s' C ys = some xs →
    xs.length = ys.length ∧ ∀ i j r, cellIn (.st s) xs i j r → ∃ r', cellIn (.st s') ys i j r' ∧ unCell C r' = some r
  | [], xs, h => by cases h; exact ⟨rfl, fun i j r hc => (cellIn_nil hc).elim⟩
  | y :: ys, xs, h => by
    simp only [unEls, Option.bind_eq_some_iff, Option.some.injEq] at h
    obtain ⟨c, hc, x, hx, xs', h2, rfl⟩ := h
    obtain ⟨g1, g2⟩ := unEls_spec h2
    refine ⟨by simp [g1], fun i j r hcell => ?_⟩
    rcases cellIn_cons.1 hcell with ⟨rfl, hj⟩ | ⟨i', rfl, hc'⟩
    · have e : (Ty.st s).cells x = c := S.ofCells_spec s _ x hx
      rw [e] at hj
      obtain ⟨r', h1, h2⟩ := (unCells_get hc).2 j r hj
      exact ⟨r', cellIn_cons.2 (.inl ⟨rfl, h1⟩), h2⟩
    · obtain ⟨r', h1, h2⟩ := g2 i' j r hc'
      exact ⟨r', cellIn_cons.2 (.inr ⟨i', rfl, h1⟩), h2⟩
theorem toks_mem : ∀ {l : List R} {k n : Nat}, l[k]? = some (.tok n) → n ∈ toks l
  | [], k, n, h => by simp at h
  | r :: l, 0, n, h => by simp at h; subst h; simp [toks]
  | r :: l, k + 1, n, h => by
    have := toks_mem (l := l) (k := k) (by simpa using h)
    cases r <;> simp [toks, this]
theorem toks_inj : ∀ {l : List R} {a b n : Nat}, (toks l).Nodup → l[a]? = some (.tok n) → l[b]? = some (.tok n) → a = b
  | [], a, b, n, _, h, _ => by simp at h
  | r :: l, 0, 0, n, _, _, _ => rfl
  | r :: l, 0, b + 1, n, hn, h, h' => by
    simp at h; subst h
    have := toks_mem (l := l) (k := b) (by simpa using h')
    simp only [toks, List.nodup_cons] at hn
    exact (hn.1 this).elim
  | r :: l, a + 1, 0, n, hn, h, h' => by
    simp at h'; subst h'
    have := toks_mem (l := l) (k := a) (by simpa using h)
    simp only [toks, List.nodup_cons] at hn
    exact (hn.1 this).elim
  | r :: l, a + 1, b + 1, n, hn, h, h' => by
    have hl : (toks l).Nodup := by
      cases r <;> simp only [toks, List.nodup_cons] at hn <;> first | exact hn | exact hn.2
    exact congrArg (· + 1) (toks_inj (l := l) hl (by simpa using h) (by simpa using h'))
theorem unCell_sl {C : List R} {r' r : R} (h : unCell C r' = some r) : (∃ n t xs, r' = .tok (n + 1) ∧ C[n]? = some (.sl t xs) ∧ r = .sl t xs) ∨ ((∀ n, r' ≠ .tok n) ∧ (∀ t xs, r' ≠ .sl t xs) ∧ r = r') := by
  cases r' with
  | tok n =>
    cases n with
    | zero => exact nomatch h
    | succ m =>
      have h : (match C[m]? with | some (.sl t xs) => some (R.sl t xs) | _ => none) = some r := h
      split at h
      · rename_i t xs hc
        cases h
        exact .inl ⟨m, t, xs, rfl, hc, rfl⟩
      · exact nomatch h
  | sl t xs => exact nomatch h
  | int k n => cases h; exact .inr ⟨(fun _ e => nomatch e), (fun _ _ e => nomatch e), rfl⟩
  | bool b => cases h; exact .inr ⟨(fun _ e => nomatch e), (fun _ _ e => nomatch e), rfl⟩
  | str l => cases h; exact .inr ⟨(fun _ e => nomatch e), (fun _ _ e => nomatch e), rfl⟩
theorem noneOf_spec {k : Nat} : ∀ {d : List Nat}, noneOf k d = true → mem k d = false
  | [], _ => rfl
  | x :: l, h => by
    simp only [noneOf] at h
    cases hb : Nat.beq x k <;> simp only [hb, cond_true, cond_false] at h
    · simp only [mem, hb, cond_false]; exact noneOf_spec h
    · exact nomatch h
theorem plainRs_spec : ∀ {l : List R}, plainRs l = true → ∀ (j : Nat) (r : R), l[j]? = some r → r.plain = true
  | [], _, j, r, h => by simp at h
  | x :: l, h, j, r, hj => by
    simp only [plainRs] at h
    cases hx : x.plain <;> simp only [hx, cond_true, cond_false] at h
    · exact nomatch h
    · cases j with
      | zero => simp at hj; subst hj; exact hx
      | succ j => exact plainRs_spec h j r (by simpa using hj)
theorem cells_plain {t : Ty} (h : t.plain = true) {xs : List t.El} {i j : Nat} {r : R} (hc : cellIn t xs i j r) : r.plain = true := by
  obtain ⟨x, _, hr⟩ := hc
  have hm := List.mem_of_getElem? hr
  cases t with
  | tok => exact nomatch h
  | sl t => simp [Ty.cells] at hm; subst hm; exact h
  | int k => simp [Ty.cells] at hm; subst hm; rfl
  | bool => simp [Ty.cells] at hm; subst hm; rfl
  | str => simp [Ty.cells] at hm; subst hm; rfl
  | st s =>
    have key : ∀ l : List R, plainRs l = true → r ∈ l → r.plain = true := fun l hl hrl => by
      obtain ⟨j, hj⟩ := List.getElem?_of_mem hrl
      exact plainRs_spec hl j r hj
    cases s <;> first | (refine key _ ?_ hm; rfl) | exact nomatch h
theorem lessL_get {k : Nat} : ∀ {l : List SV}, lessL k l = true → ∀ (j : Nat) (x : SV), l[j]? = some x → x.less k = true
  | [], _, j, x, h => by simp at h
  | v :: l, h, j, x, hj => by
    simp only [lessL, Bool.and_eq_true] at h
    cases j with
    | zero => simp at hj; subst hj; exact h.1
    | succ j => exact lessL_get h.2 j x (by simpa using hj)
theorem lessBs_get {k : Nat} : ∀ {l : List Blk} {n : Nat}, lessBs k n l = true → ∀ (j : Nat) (b : Blk), l[j]? = some b → n + j ≠ k → b.less k = true
  | [], n, _, j, b, h, _ => by simp at h
  | x :: l, n, h, j, b, hj, hne => by
    simp only [lessBs, Bool.and_eq_true, Bool.or_eq_true] at h
    cases j with
    | zero =>
      simp at hj; subst hj
      rcases h.1 with h1 | h1
      · exact (hne (by simpa using Nat.eq_of_beq_eq_true h1)).elim
      · exact h1
    | succ j => exact lessBs_get h.2 j b (by simpa using hj) (by omega)
theorem lessKs_get {k : Nat} : ∀ {l : List (Option Blk)}, lessKs k l = true → ∀ (j : Nat) (b : Blk), l[j]? = some (some b) → b.less k = true
  | [], _, j, b, h => by simp at h
  | none :: l, h, j, b, hj => by
    cases j with
    | zero => simp at hj
    | succ j => exact lessKs_get (l := l) h j b (by simpa using hj)
  | some x :: l, h, j, b, hj => by
    simp only [lessKs, Bool.and_eq_true] at h
    cases j with
    | zero => simp at hj; subst hj; exact h.1
    | succ j => exact lessKs_get h.2 j b (by simpa using hj)
end
/-! ### other numbers -/
theorem RepR_other {T T' : Tok} {w : World} {ok : Cell → Prop} {r : R} {v : Value} (h : @RepR T w ok r v) : r.plain = true → @RepR T' w ok r v := by
  induction h with
  | int => exact fun _ => .int _ _
  | bool => exact fun _ => .bool _
  | str => exact fun _ => .str _
  | tok => exact fun h => nomatch h
  | sl t xs a cap b o vs hcap ha hc _ ih => exact fun h => .sl t xs a cap b o vs hcap ha hc fun i j r hr => ih i j r hr (cells_plain h hr)
theorem RepD_other {T T' : Tok} {w : World} {r : R} {v : Value} {fp : Cell → Prop} (h : @RepD T w r v fp) : r.plain = true → @RepD T' w r v fp := by
  induction h with
  | int => exact fun _ => .int _ _
  | bool => exact fun _ => .bool _
  | str => exact fun _ => .str _
  | tok => exact fun h => nomatch h
  | sl t xs a cap b o vs fs fp hcap ha hreg hc _ hd1 hd2 hfp ih => exact fun h => .sl t xs a cap b o vs fs fp hcap ha hreg hc (fun i j r hr => ih i j r hr (cells_plain h hr)) hd1 hd2 hfp
/-- Blocks that hold as many. -/
def Blk.sim : Blk → Blk → Prop
  | .box _, .box _ => True
  | .arr _ t xs, .arr _ t' ys => t.sz = t'.sz ∧ xs.length = ys.length
  | _, _ => False
theorem Blk.sim_refl (b : Blk) : b.sim b := by cases b <;> simp [Blk.sim]
theorem Blk.sim_box {b b' : Blk} (h : b.sim b') : b.isBox = b'.isBox := by cases b <;> cases b' <;> first | rfl | exact h.elim
theorem sim_arr {sh : Option (List Nat)} {t : Ty} {xs : List t.El} {B : Blk} (h : (Blk.arr sh t xs).sim B) : ∃ sh' t' xs', B = .arr sh' t' xs' ∧ t.sz = t'.sz ∧ xs.length = xs'.length := by
  cases B with
  | box => exact h.elim
  | arr sh' t' xs' => exact ⟨sh', t', xs', rfl, h.1, h.2⟩
theorem sim_bx {cs : List SV} {B : Blk} (h : (Blk.box cs).sim B) : ∃ cs', B = .box cs' := by
  cases B with
  | box cs' => exact ⟨cs', rfl⟩
  | arr => exact h.elim
/-- A value among blocks that hold as many, with other numbers. -/
theorem SVRep.move {T T' : Tok} {w : World} {H H' : Heap} {pl pl' : Pl} {k : Nat} (hH : ∀ i B, look H i = some B → ∃ B', look H' i = some B' ∧ B.sim B') (hh : ∀ i, pl'.hdr i = pl.hdr i)
    (ho : ∀ d p, mem k d = false → okd H pl d p → okd H' pl' d p) {v : SV} {u : Value} (h : @SVRep T w H pl v u) : v.less k = true → @SVRep T' w H' pl' v u := by
  induction h with
  | r d x v hx =>
    intro hl
    simp only [SV.less, Bool.and_eq_true] at hl
    exact .r d x v ((RepR_other hx hl.1).frame fun p u hp hu => ⟨ho d p (noneOf_spec hl.2) hp, hu⟩)
  | nilS => exact fun _ => .nilS
  | nilP => exact fun _ => .nilP
  | own i sh t xs hi =>
    intro _
    obtain ⟨B', h1, h2⟩ := hH i _ hi
    obtain ⟨sh', t', xs', rfl, h3, h4⟩ := sim_arr h2
    rw [← hh i]
    exact .own i sh' t' xs' h1
  | sub i o n sh t xs a a' cap cap' hi hhd hn hc hc' ha =>
    intro _
    obtain ⟨B', h1, h2⟩ := hH i _ hi
    obtain ⟨sh', t', xs', rfl, h3, h4⟩ := sim_arr h2
    exact .sub i o n sh' t' xs' a a' cap cap' h1 (by rw [hh i, hhd, h4]) (by omega) hc hc' (by rw [← h3]; exact ha)
  | bsl i n cs a hi hhd =>
    intro _
    obtain ⟨B', h1, h2⟩ := hH i _ hi
    obtain ⟨cs', rfl⟩ := sim_bx h2
    exact .bsl i n cs' a h1 ((hh i).trans hhd)
  | ptrB i o cs b m hi hhd =>
    intro _
    obtain ⟨B', h1, h2⟩ := hH i _ hi
    obtain ⟨cs', rfl⟩ := sim_bx h2
    exact .ptrB i o cs' b m h1 ((hh i).trans hhd)
  | ptrA i x o sh t xs b m n cap hi hx hhd =>
    intro _
    obtain ⟨B', h1, h2⟩ := hH i _ hi
    obtain ⟨sh', t', xs', rfl, h3, h4⟩ := sim_arr h2
    rw [h3]
    exact .ptrA i x o sh' t' xs' b m n cap h1 (by omega) ((hh i).trans hhd)
  | inn => exact fun h => nomatch h
  | rptr d cs b o vs hc hr =>
    intro hl
    simp only [SV.less, Bool.and_eq_true] at hl
    have hk := noneOf_spec hl.2
    exact .rptr d cs b o vs (fun j r hj => ⟨ho d _ hk (hc j r hj).1, (hc j r hj).2⟩) fun j r hj => (RepR_other (hr j r hj) (plainRs_spec hl.1 j r hj)).frame fun p u hp hu => ⟨ho d p hk hp, hu⟩
  | agg cs vs h1 h2 _ ih => exact fun hl => .agg cs vs h1 h2 fun j x v hx hv => ih j x v hx hv (lessL_get hl j x hx)
  | tup cs vs h1 _ ih => exact fun hl => .tup cs vs h1 fun j x v hx hv => ih j x v hx hv (lessL_get hl j x hx)
  | fn f as bs us vs h1 _ h2 _ ih1 ih2 =>
    intro hl
    have hl : (lessL k as && lessL k bs) = true := hl
    rw [Bool.and_eq_true] at hl
    exact .fn f as bs us vs h1 (fun j x v hx hv => ih1 j x v hx hv (lessL_get hl.1 j x hx)) h2 fun j x v hx hv => ih2 j x v hx hv (lessL_get hl.2 j x hx)
  | undef v => exact fun _ => .undef v
/-- A block that has no numbers, likewise. -/
theorem BlkRep.move {T T' : Tok} {w : World} {H H' : Heap} {pl pl' : Pl} {k i : Nat} (hH : ∀ i B, look H i = some B → ∃ B', look H' i = some B' ∧ B.sim B') (hh : ∀ i, pl'.hdr i = pl.hdr i)
    (ho : ∀ d p, mem k d = false → okd H pl d p → okd H' pl' d p) {B : Blk} (hf : pl'.fp i = pl.fp i) (h : @BlkRep T w H pl i B) (hl : B.less k = true) : @BlkRep T' w H' pl' i B := by
  cases B with
  | box cs =>
    obtain ⟨b, o, h1, h2, h3⟩ := h
    refine ⟨b, o, (hh i).trans h1, fun p => by rw [hf]; exact h2 p, fun j v hv => ?_⟩
    obtain ⟨u, g1, g2, g3, g4⟩ := h3 j v hv
    exact ⟨u, g1, g2, g3, g4.move hH hh ho (lessL_get hl j v hv)⟩
  | arr sh t xs =>
    cases sh with
    | none =>
      obtain ⟨⟨a, cap, b, o, vs, fs, q1, q2, q3, q4, q5, q6, q7, q8, q9⟩⟩ := h
      exact ⟨⟨a, cap, b, o, vs, fs, (hh i).trans q1, q2, q3, q4, q5, fun i j r hc => RepD_other (q6 i j r hc) (cells_plain hl hc), q7, q8, fun p => by rw [hf]; exact q9 p⟩⟩
    | some d =>
      simp only [Blk.less, Bool.and_eq_true] at hl
      obtain ⟨⟨a, cap, b, o, vs, fs, q1, q2, q3, q4, q5, q6, q7, q8, q9⟩⟩ := h
      exact ⟨⟨a, cap, b, o, vs, fs, (hh i).trans q1, q2, q3, q4, q5, fun i j r hc => ⟨(RepR_other (q6 i j r hc).1 (cells_plain hl.1 hc)).frame fun p u hp hu => ⟨ho d p (noneOf_spec hl.2) hp, hu⟩, (q6 i j r hc).2⟩, q7, q8, fun p => by rw [hf]; exact q9 p⟩⟩
/-! ### what comes out -/
section
variable [Tok]
inductive UnB (s s' : S) (k : Nat) (C : List R) : Blk → Blk → Prop
  | num (zs : List s'.E) (xs : List s.E) (hn : (toks (allCells s' zs)).Nodup) (hu : unEls s s' C zs = some xs) : UnB s s' k C (.arr none (.st s') zs) (.arr none (.st s) xs)
  | same (b : Blk) (h : b.less k = true) : UnB s s' k C b b
def numAt (s' : S) (l : List Blk) (a : Nat) : Prop := ∃ zs : List s'.E, l[a]? = some (.arr none (.st s') zs)
theorem unBs_spec {s s' : S} {k : Nat} {C : List R} : ∀ {l : List Blk} {K : List Blk → Nat → Option ρ} {out : ρ}, unBs s s' k C l K = some out →
    ∃ l' n, K l' n = some out ∧ l'.length = l.length ∧ (∀ (j : Nat) (B : Blk), l[j]? = some B → ∃ B', l'[j]? = some B' ∧ UnB s s' k C B B') ∧ (∀ a, numAt s' l a → 1 ≤ n) ∧ (n ≤ 1 → ∀ a b, numAt s' l a → numAt s' l b → a = b) := by
  intro l
  induction l with
  | nil =>
    intro K out h
    exact ⟨[], 0, h, rfl, fun j B hj => by simp at hj, fun a ⟨zs, h⟩ => by simp at h, fun _ a b ⟨zs, h⟩ => by simp at h⟩
  | cons x l ih =>
    intro K out h
    have step : ∀ (x' : Blk) (m : Nat), UnB s s' k C x x' → (∀ zs : List s'.E, x = .arr none (.st s') zs → m = 1) → (unBs s s' k C l fun l n => K (x' :: l) (n + m)) = some out →
        ∃ l' n, K l' n = some out ∧ l'.length = (x :: l).length ∧ (∀ (j : Nat) (B : Blk), (x :: l)[j]? = some B → ∃ B', l'[j]? = some B' ∧ UnB s s' k C B B') ∧ (∀ a, numAt s' (x :: l) a → 1 ≤ n) ∧ (n ≤ 1 → ∀ a b, numAt s' (x :: l) a → numAt s' (x :: l) b → a = b) := by
      intro x' m hU hm h
      obtain ⟨l', n, h1, h2, h3, h4, h5⟩ := ih h
      refine ⟨x' :: l', n + m, h1, by simp [h2], fun j B hj => ?_, fun a ha => ?_, fun hn a b ha hb => ?_⟩
      · cases j with
        | zero => simp at hj; subst hj; exact ⟨x', rfl, hU⟩
        | succ j => exact h3 j B (by simpa using hj)
      · obtain ⟨zs, ha⟩ := ha
        cases a with
        | zero => simp at ha; have := hm zs ha; omega
        | succ a => have := h4 a ⟨zs, by simpa using ha⟩; omega
      · obtain ⟨zs, ha⟩ := ha
        obtain ⟨zs', hb⟩ := hb
        cases a with
        | zero =>
          cases b with
          | zero => rfl
          | succ b =>
            simp at ha
            have q1 := hm zs ha
            have q2 := h4 b ⟨zs', by simpa using hb⟩
            omega
        | succ a =>
          cases b with
          | zero =>
            simp at hb
            have q1 := hm zs' hb
            have q2 := h4 a ⟨zs, by simpa using ha⟩
            omega
          | succ b => rw [h5 (by omega) a b ⟨zs, by simpa using ha⟩ ⟨zs', by simpa using hb⟩]
    cases x with
    | box cs =>
      have h : cond ((Blk.box cs).less k) (unBs s s' k C l fun l n => K (.box cs :: l) n) none = some out := h
      cases hl : (Blk.box cs).less k <;> rw [hl] at h
      · exact nomatch h
      · exact step (.box cs) 0 (.same _ hl) (fun zs e => nomatch e) h
    | arr sh t xs =>
      have plain : (∀ zs : List s'.E, Blk.arr sh t xs = .arr none (.st s') zs → False) → cond ((Blk.arr sh t xs).less k) (unBs s s' k C l fun l n => K (.arr sh t xs :: l) n) none = some out →
          ∃ l' n, K l' n = some out ∧ l'.length = (Blk.arr sh t xs :: l).length ∧ (∀ (j : Nat) (B : Blk), (Blk.arr sh t xs :: l)[j]? = some B → ∃ B', l'[j]? = some B' ∧ UnB s s' k C B B') ∧ (∀ a, numAt s' (Blk.arr sh t xs :: l) a → 1 ≤ n) ∧ (n ≤ 1 → ∀ a b, numAt s' (Blk.arr sh t xs :: l) a → numAt s' (Blk.arr sh t xs :: l) b → a = b) := by
        intro hne h
        cases hl : (Blk.arr sh t xs).less k <;> rw [hl] at h
        · exact nomatch h
        · exact step _ 0 (.same _ hl) (fun zs e => (hne zs e).elim) h
      cases sh with
      | some d => exact plain (fun zs e => nomatch e) h
      | none =>
        cases t with
        | st s1 =>
          have h : (if hs : s1 = s' then
              cond (nodupB (toks (allCells s' (hs ▸ xs)))) ((unEls s s' C (hs ▸ xs)).bind fun xs => unBs s s' k C l fun l n => K (.arr none (.st s) xs :: l) (n + 1)) none
            else cond ((Ty.st s1).plain) (unBs s s' k C l fun l n => K (.arr none (.st s1) xs :: l) n) none) = some out := h
          by_cases hs : s1 = s'
          · subst hs
            rw [dif_pos rfl] at h
            have h : cond (nodupB (toks (allCells s1 xs))) ((unEls s s1 C xs).bind fun xs => unBs s s1 k C l fun l n => K (.arr none (.st s) xs :: l) (n + 1)) none = some out := h
            cases hn : nodupB (toks (allCells s1 xs)) <;> rw [hn] at h
            · exact nomatch h
            · rw [cond_true, Option.bind_eq_some_iff] at h
              obtain ⟨ys, hy, h⟩ := h
              exact step _ 1 (.num xs ys (nodupB_spec hn) hy) (fun _ _ => rfl) h
          · rw [dif_neg hs] at h
            exact plain (fun zs e => by cases e; exact hs rfl) h
        | int k => exact plain (fun zs e => nomatch e) h
        | bool => exact plain (fun zs e => nomatch e) h
        | str => exact plain (fun zs e => nomatch e) h
        | sl t => exact plain (fun zs e => nomatch e) h
        | tok => exact plain (fun zs e => nomatch e) h
theorem unOut_spec {s s' : S} {k : Nat} {C : List R} {o : MOut} {K : MOut → Option ρ} {out : ρ} (h : unOut s s' k C o K = some out) :
    ∃ l', K ⟨o.v, o.kept, l'⟩ = some out ∧ o.v.less k = true ∧ lessKs k o.kept = true ∧ l'.length = o.news.length ∧ (∀ (j : Nat) (B : Blk), o.news[j]? = some B → ∃ B', l'[j]? = some B' ∧ UnB s s' k C B B') ∧
      (∀ a b, numAt s' o.news a → numAt s' o.news b → a = b) := by
  unfold unOut at h
  cases hc : (o.v.less k && lessKs k o.kept) <;> rw [hc] at h
  · exact nomatch h
  rw [cond_true] at h
  obtain ⟨l', n, h1, h2, h3, h4, h5⟩ := unBs_spec h
  rw [Bool.and_eq_true] at hc
  cases hn : Nat.ble n 1 <;> rw [hn] at h1
  · exact nomatch h1
  · exact ⟨l', h1, hc.1, hc.2, h2, h3, h5 (Nat.le_of_ble_eq_true hn)⟩
theorem cellIn_fun {t : Ty} {xs : List t.El} {i j : Nat} {r r' : R} (h : cellIn t xs i j r) (h' : cellIn t xs i j r') : r = r' := by
  obtain ⟨x, hx, hr⟩ := h
  obtain ⟨x', hx', hr'⟩ := h'
  rw [hx] at hx'; cases hx'
  rw [hr] at hr'; cases hr'; rfl
end
theorem RepD_flat {T T' : Tok} {w w' : World} {r : R} {v : Value} {f : Cell → Prop} (h : @RepD T w r v f) (h1 : ∀ n, r ≠ .tok n) (h2 : ∀ t xs, r ≠ .sl t xs) : @RepD T' w' r v (fun _ => False) := by
  cases h with
  | int => exact .int _ _
  | bool => exact .bool _
  | str => exact .str _
  | tok n => exact (h1 n rfl).elim
  | sl t xs => exact (h2 t xs rfl).elim
theorem RepD_nosl {T : Tok} {w : World} {r : R} {v : Value} {f : Cell → Prop} (h : @RepD T w r v f) (h2 : ∀ t xs, r ≠ .sl t xs) : ∀ p, ¬ f p := by
  cases h with
  | int => exact fun _ h => h
  | bool => exact fun _ h => h
  | str => exact fun _ h => h
  | tok n => exact fun _ h => h
  | sl t xs => exact (h2 t xs rfl).elim
theorem RepD_tokv {T : Tok} {w : World} {n : Nat} {v : Value} {f : Cell → Prop} (h : @RepD T w (.tok n) v f) : v = T.env n := by cases h; rfl
theorem look_bs [Tok] (l : List Blk) (k : Nat) : look (newsH 0 l) k = l[k]? := by rw [look_newsH, if_pos (Nat.zero_le _), Nat.sub_zero]
abbrev mkTok (env : Nat → Value) (h1 : ∀ n, one (env n) = true) (h2 : env 0 = .slice none 0 0) : Tok := ⟨env, h1, h2⟩
theorem numOk {P : Program} {g : FuncId} {G : MG} {s s' : S} (hsz : s'.sz = s.sz) (hps : (Ty.st s).plain = true) (hps' : (Ty.st s').plain = false) (kb : Nat)
    (hdet : ∀ (ρ : Type) l b (K : MOut → Option ρ), G ρ l b K = (G MOut l b some).bind K) (h : ∀ T : Tok, @MutOk T P g G) [T0 : Tok] : MutOk P g (numG s s' kb G) := by
  intro ρ args bs K out hG
  unfold numG at hG
  split at hG
  rotate_left
  · exact nomatch hG
  rename_i s1 xs hkb
  split at hG
  rotate_left
  · exact nomatch hG
  rename_i hs
  subst hs
  have hG : cond (lessL kb args && lessBs kb 0 bs) ((numEls s1 s' 1 xs).bind fun ys => G ρ args (bs.set kb (.arr none (.st s') ys)) fun o => unOut s1 s' kb (allCells s1 xs) o K) none = some out := hG
  cases hless : (lessL kb args && lessBs kb 0 bs) <;> rw [hless] at hG
  · exact nomatch hG
  rw [cond_true, Option.bind_eq_some_iff] at hG
  obtain ⟨ys, hys, hG⟩ := hG
  rw [hdet, Option.bind_eq_some_iff] at hG
  obtain ⟨o, ho, hun⟩ := hG
  obtain ⟨l', hK, hlv, hlk, hln, hU, huniq⟩ := unOut_spec hun
  rw [Bool.and_eq_true] at hless
  obtain ⟨hla, hlb⟩ := hless
  obtain ⟨hny, hcy⟩ := numEls_spec hsz hys
  have hny' : @List.length (Ty.st s').El ys = @List.length (Ty.st s1).El xs := hny
  have hkl : kb < bs.length := (List.getElem?_eq_some_iff.1 hkb).1
  have hszT : (Ty.st s').sz = (Ty.st s1).sz := hsz
  have hszE : (Ty.st s1).sz = s1.sz := rfl
  have hpos : 0 < s1.sz := Ty.sz_pos (.st s1)
  refine ⟨⟨o.v, o.kept, l'⟩, hK, ?_⟩
  generalize ho' : (⟨o.v, o.kept, l'⟩ : MOut) = o'
  have hv' : o'.v = o.v := by rw [← ho']
  have hk' : o'.kept = o.kept := by rw [← ho']
  have hn' : o'.news = l' := by rw [← ho']
  have hfw : ∀ k B, look o.heap k = some B → ∃ B', look o'.heap k = some B' ∧ UnB s1 s' kb (allCells s1 xs) B B' := fun k B hB => by
    by_cases c : k < o.kept.length
    · rw [MOut.look_low o c] at hB
      rw [MOut.look_low o' (by rw [hk']; exact c), hk']
      refine ⟨B, hB, .same B ?_⟩
      rw [Option.bind_eq_some_iff] at hB
      obtain ⟨x, hx, rfl⟩ := hB
      exact lessKs_get hlk k B hx
    · rw [MOut.look_high o (by omega)] at hB
      rw [MOut.look_high o' (by rw [hk']; omega), hk', hn']
      exact hU _ B hB
  have hbw : ∀ k B', look o'.heap k = some B' → ∃ B, look o.heap k = some B ∧ UnB s1 s' kb (allCells s1 xs) B B' := fun k B' hB' => by
    cases hq : look o.heap k with
    | some B =>
      obtain ⟨B2, h2, h3⟩ := hfw k B hq
      rw [hB'] at h2; cases h2
      exact ⟨B, rfl, h3⟩
    | none =>
      by_cases c : k < o.kept.length
      · rw [MOut.look_low o c] at hq
        rw [MOut.look_low o' (by rw [hk']; exact c), hk', hq] at hB'
        exact nomatch hB'
      · rw [MOut.look_high o (by omega), List.getElem?_eq_none_iff] at hq
        rw [MOut.look_high o' (by rw [hk']; omega), hk', hn', List.getElem?_eq_none (by omega)] at hB'
        exact nomatch hB'
  have hnum1 : ∀ k k' (zs zs' : List s'.E), look o.heap k = some (.arr none (.st s') zs) → look o.heap k' = some (.arr none (.st s') zs') → k = k' := fun k k' zs zs' h1 h2 => by
    have low : ∀ k (zs : List s'.E), look o.heap k = some (.arr none (.st s') zs) → o.kept.length ≤ k ∧ numAt s' o.news (k - o.kept.length) := fun k zs h1 => by
      by_cases c : k < o.kept.length
      · rw [MOut.look_low o c, Option.bind_eq_some_iff] at h1
        obtain ⟨x, hx, rfl⟩ := h1
        have := lessKs_get hlk k _ hx
        rw [show Blk.less kb (Blk.arr none (Ty.st s') zs) = (Ty.st s').plain from rfl, hps'] at this
        exact nomatch this
      · rw [MOut.look_high o (by omega)] at h1
        exact ⟨by omega, zs, h1⟩
    obtain ⟨a1, a2⟩ := low k zs h1
    obtain ⟨b1, b2⟩ := low k' zs' h2
    have := huniq _ _ a2 b2
    omega
  obtain ⟨o2, ho2, hM⟩ := h T0 MOut args _ some o ho
  rw [Option.some.inj ho2] at hM
  obtain ⟨hE, hkeptl, _⟩ := hM
  refine ⟨hE, by rw [hk', hkeptl, List.length_set], ?_⟩
  intro w us pl hr hlen hargs
  have hlkb : look (newsH 0 bs) kb = some (.arr none (.st s1) xs) := by rw [look_bs]; exact hkb
  obtain ⟨R0⟩ := hr.blk kb _ hlkb
  let env : Nat → Value := fun n => match n with
    | 0 => .slice none 0 0
    | n + 1 => if n / s1.sz < xs.length then R0.vs (n / s1.sz) (n % s1.sz) else .slice none 0 0
  have henv1 : ∀ n, one (env n) = true := fun n => by
    cases n with
    | zero => rfl
    | succ n =>
      show one (if n / s1.sz < xs.length then R0.vs (n / s1.sz) (n % s1.sz) else .slice none 0 0) = true
      by_cases c : n / s1.sz < xs.length
      · rw [if_pos c]
        obtain ⟨r, hc⟩ := cellIn_of (t := .st s1) (xs := xs) c (Nat.mod_lt n hpos)
        exact (R0.hr _ _ r hc).isOne
      · rw [if_neg c]; rfl
  have hTenv : ∀ n, n / s1.sz < xs.length → env (n + 1) = R0.vs (n / s1.sz) (n % s1.sz) := fun n c => by
    show (if n / s1.sz < xs.length then R0.vs (n / s1.sz) (n % s1.sz) else .slice none 0 0) = _
    rw [if_pos c]
  let inner : Cell → Prop := fun p => ∃ i j r, cellIn (.st s1) xs i j r ∧ R0.fs i j p
  have hinner : ∀ p, inner p → pl.fp kb p := fun p hp => (R0.hfp p).2 (.inr hp)
  let plT : Pl := ⟨pl.hdr, fun k p => if k = kb then reg R0.b R0.o (R0.cap * (Ty.st s1).sz) p else pl.fp k p, fun p => pl.base p ∧ ¬ inner p⟩
  have hfpT : ∀ k p, plT.fp k p → pl.fp k p := fun k p hp => by
    have hp : if k = kb then reg R0.b R0.o (R0.cap * (Ty.st s1).sz) p else pl.fp k p := hp
    by_cases c : k = kb
    · rw [if_pos c] at hp; rw [c]; exact (R0.hfp p).2 (.inl hp)
    · rw [if_neg c] at hp; exact hp
  have hfpN : ∀ k, k ≠ kb → plT.fp k = pl.fp k := fun k c => by
    funext p
    show (if k = kb then reg R0.b R0.o (R0.cap * (Ty.st s1).sz) p else pl.fp k p) = _
    rw [if_neg c]
  have hbsT : ∀ k, k ≠ kb → look (newsH 0 (bs.set kb (.arr none (.st s') ys))) k = look (newsH 0 bs) k := fun k c => by
    rw [look_bs, look_bs, List.getElem?_set_ne (fun e => c e.symm)]
  have hbsK : look (newsH 0 (bs.set kb (.arr none (.st s') ys))) kb = some (.arr none (.st s') ys) := by
    rw [look_bs, List.getElem?_set_self hkl]
  have hHT : ∀ i B, look (newsH 0 bs) i = some B → ∃ B', look (newsH 0 (bs.set kb (.arr none (.st s') ys))) i = some B' ∧ B.sim B' := fun i B hB => by
    by_cases c : i = kb
    · subst c
      rw [hlkb] at hB; cases hB
      exact ⟨_, hbsK, hszT.symm, hny.symm⟩
    · exact ⟨B, by rw [hbsT i c]; exact hB, B.sim_refl⟩
  have hoT : ∀ d p, mem kb d = false → okd (newsH 0 bs) pl d p → okd (newsH 0 (bs.set kb (.arr none (.st s') ys))) plT d p := fun d p hd hp => by
    have hno : ¬ pl.fp kb p := hp.2 kb _ hlkb fun hm => by rw [hd] at hm; exact nomatch hm
    refine ⟨⟨hp.1, fun hi => hno (hinner p hi)⟩, fun i B hB hm hf => ?_⟩
    by_cases c : i = kb
    · subst c; exact hno (hfpT _ p hf)
    · rw [hbsT i c] at hB
      exact hp.2 i B hB hm (hfpT i p hf)
  have hown := hr.own_there
  have hrT : @HRel (mkTok env henv1 rfl) (newsH 0 (bs.set kb (.arr none (.st s') ys))) plT w := by
    refine @HRel.mk (mkTok env henv1 rfl) (newsH 0 (bs.set kb (.arr none (.st s') ys))) plT w (fun i B hB => ?_) (fun i j B B' p h1 h2 f1 f2 => ?_) (fun i B p hB hf => (show pl.base p ∧ ¬ inner p from ⟨?_, fun hi => ?_⟩)) (fun p hp => (show pl.base p ∧ ¬ inner p from ⟨hr.nb p hp, fun hi => ?_⟩))
    · by_cases c : i = kb
      · subst c
        rw [hbsK] at hB; cases hB
        refine ⟨⟨R0.a, R0.cap, R0.b, R0.o, R0.vs, fun _ _ _ => False, by rw [hny']; exact R0.hdr_eq, by rw [hny']; exact R0.hcap, R0.ha, by rw [hszT]; exact R0.hreg, fun i j r' hc => ?_, fun i j r' hc => ?_, fun i j r p hc hf => hf.elim, fun i j r i' j' r' p _ _ hf => hf.elim, fun p => ?_⟩⟩
        · obtain ⟨r, h1, _⟩ := hcy i j r' hc
          rw [hszT]; exact R0.hc i j r h1
        · obtain ⟨r, h1, h2⟩ := hcy i j r' hc
          have h0 := R0.hr i j r h1
          have hpr := cells_plain hps h1
          have hij := cellIn_lt h1
          subst h2
          cases r with
          | sl t l =>
            have e : env (1 + (i * s1.sz + j)) = R0.vs i j := by
              have hj : j < s1.sz := hij.2
              have d1 : (i * s1.sz + j) / s1.sz = i := by rw [Nat.mul_comm, Nat.mul_add_div hpos, Nat.div_eq_of_lt hj]; omega
              have d2 : (i * s1.sz + j) % s1.sz = j := by rw [Nat.mul_comm, Nat.mul_add_mod, Nat.mod_eq_of_lt hj]
              rw [show 1 + (i * s1.sz + j) = (i * s1.sz + j) + 1 from by omega, hTenv _ (by rw [d1]; exact hij.1), d1, d2]
            show @RepD (mkTok env henv1 rfl) w (.tok (1 + (i * s1.sz + j))) (R0.vs i j) _
            rw [← e]
            exact @RepD.tok (mkTok env henv1 rfl) w _
          | int k n => exact RepD_flat h0 (fun _ e => nomatch e) (fun _ _ e => nomatch e)
          | bool b => exact RepD_flat h0 (fun _ e => nomatch e) (fun _ _ e => nomatch e)
          | str l => exact RepD_flat h0 (fun _ e => nomatch e) (fun _ _ e => nomatch e)
          | tok n => exact nomatch hpr
        · show (if i = i then reg R0.b R0.o (R0.cap * (Ty.st s1).sz) p else pl.fp i p) ↔ _
          rw [if_pos rfl, hszT]
          exact ⟨fun h => .inl h, fun h => h.elim id fun ⟨_, _, _, _, hf⟩ => hf.elim⟩
      · rw [hbsT i c] at hB
        have hl := lessBs_get hlb i B (by rw [← look_bs]; exact hB) (by rw [Nat.zero_add]; exact c)
        exact BlkRep.move (pl := pl) (pl' := plT) hHT (fun _ => rfl) hoT (hfpN i c) (hr.blk i B hB) hl
    · have low : ∀ {i B}, look (newsH 0 (bs.set kb (.arr none (.st s') ys))) i = some B → ∃ B, look (newsH 0 bs) i = some B := fun {i B} hB => by
        by_cases c : i = kb
        · subst c; exact ⟨_, hlkb⟩
        · rw [hbsT i c] at hB; exact ⟨_, hB⟩
      obtain ⟨B1, g1⟩ := low h1
      obtain ⟨B2, g2⟩ := low h2
      exact hr.dis i j B1 B2 p g1 g2 (hfpT i p f1) (hfpT j p f2)
    · by_cases c : i = kb
      · subst c; exact hr.ob _ _ p hlkb (hfpT _ p hf)
      · rw [hbsT i c] at hB; exact hr.ob i B p hB (hfpT i p hf)
    · by_cases c : i = kb
      · subst c
        have hf : if i = i then reg R0.b R0.o (R0.cap * (Ty.st s1).sz) p else pl.fp i p := hf
        rw [if_pos rfl] at hf
        obtain ⟨i, j, r, hc, hfs⟩ := hi
        exact R0.hd1 i j r p hc hfs hf
      · rw [hbsT i c] at hB
        exact c (hr.dis i kb B _ p hB hlkb (hfpT i p hf) (hinner p hi))
    · obtain ⟨u, hu⟩ := hown kb _ p hlkb (hinner p hi)
      rw [hp] at hu; exact nomatch hu
  obtain ⟨o2, ho2, hM⟩ := h (mkTok env henv1 rfl) MOut args _ some o ho
  rw [Option.some.inj ho2] at hM
  obtain ⟨_, _, hcalls⟩ := hM
  refine Calls.mono (hcalls w us plT hrT hlen fun j x u hx hu => (hargs j x u hx hu).move (pl := pl) (pl' := plT) hHT (fun _ => rfl) hoT (lessL_get hla j x hx)) ?_
  intro e w' hpost
  obtain ⟨u, pl', he, hr', hvr, hbase, hgrow, hkept, hframe⟩ := hpost
  have hin : ∀ p, inner p → (∀ u, w.at? p = some u → w'.at? p = some u ∧ w'.ice? p = w.ice? p) ∧ ∀ k B, look o.heap k = some B → ¬ pl'.fp k p := fun p hp => by
    have hno : ∀ k B, look (newsH 0 (bs.set kb (.arr none (.st s') ys))) k = some B → ¬ plT.fp k p := fun k B hB hf => (@HRel.ob (mkTok env henv1 rfl) _ plT w hrT k B p hB hf).2 hp
    obtain ⟨u, hu⟩ := hown kb _ p hlkb (hinner p hp)
    refine ⟨fun u hu => (hframe p u hu hno).2, (hframe p u hu hno).1⟩
  have hnb := @HRel.nb (mkTok env henv1 rfl) _ _ _ hr'
  have hblk := @HRel.blk (mkTok env henv1 rfl) _ _ _ hr'
  have hdis := @HRel.dis (mkTok env henv1 rfl) _ _ _ hr'
  have hob := @HRel.ob (mkTok env henv1 rfl) _ _ _ hr'
  let plD : Pl := ⟨pl'.hdr, fun k p => pl'.fp k p ∨ ∃ (zs : List s'.E) (i j n : Nat) (r : R), look o.heap k = some (.arr none (.st s') zs) ∧ cellIn (.st s') zs i j (.tok (n + 1)) ∧ cellIn (.st s1) xs (n / s1.sz) (n % s1.sz) r ∧ R0.fs (n / s1.sz) (n % s1.sz) p, pl.base⟩
  have hbs : ∀ p, pl'.base p → pl.base p ∧ ¬ inner p := fun p hp => by rw [hbase] at hp; exact hp
  have hHD : ∀ i B, look o.heap i = some B → ∃ B', look o'.heap i = some B' ∧ B.sim B' := fun i B hB => by
    obtain ⟨B', h1, h2⟩ := hfw i B hB
    refine ⟨B', h1, ?_⟩
    cases h2 with
    | num zs xs' hn hu => exact ⟨hszT, (unEls_spec hu).1.symm⟩
    | same => exact B.sim_refl
  have hoD : ∀ d p, mem kb d = false → okd o.heap pl' d p → okd o'.heap plD d p := fun d p _ hp => by
    refine ⟨(hbs p hp.1).1, fun i B' hB' hm hf => ?_⟩
    obtain ⟨B, hB, hUB⟩ := hbw i B' hB'
    rcases hf with hf | ⟨zs, i', j, n, r, _, _, h3, h4⟩
    · refine hp.2 i B hB (fun hd => ?_) hf
      rw [← hm hd]
      obtain ⟨B2, g1, g2⟩ := hHD i B hB
      rw [hB'] at g1; cases g1
      exact Blk.sim_box g2
    · exact (hbs p hp.1).2 ⟨_, _, r, h3, h4⟩
  refine ⟨u, plD, he, ?_, ?_, rfl, hgrow, ?_, ?_⟩
  · refine ⟨fun i B' hB' => ?_, fun i j B B' p h1 h2 f1 f2 => ?_, fun i B' p hB' hf => ?_, fun p hp => (hbs p (hnb p hp)).1⟩
    · obtain ⟨B, hB, hUB⟩ := hbw i B' hB'
      cases hUB with
      | same _ hl =>
        refine BlkRep.move (pl := pl') (pl' := plD) hHD (fun _ => rfl) hoD ?_ (hblk i B' hB) hl
        funext p
        apply propext
        refine ⟨fun hp => hp.elim id fun ⟨zs, i', j, n, r, h1, _⟩ => ?_, fun hp => .inl hp⟩
        rw [hB] at h1; cases h1
        rw [show Blk.less kb (Blk.arr none (Ty.st s') zs) = (Ty.st s').plain from rfl, hps'] at hl
        exact nomatch hl
      | num zs xs' hn hu =>
        obtain ⟨hlx, hcx⟩ := unEls_spec hu
        have hlx' : @List.length (Ty.st s1).El xs' = @List.length (Ty.st s').El zs := hlx
        obtain ⟨R1⟩ := hblk i _ hB
        have hexist : ∀ i j r', cellIn (.st s') zs i j r' → ∃ r, cellIn (.st s1) xs' i j r ∧ unCell (allCells s1 xs) r' = some r := fun i j r' hc => by
          obtain ⟨g1, g2⟩ := cellIn_lt hc
          obtain ⟨r, hr⟩ := cellIn_of (t := .st s1) (xs := xs') (i := i) (j := j) (by omega) (by rw [← hszT]; exact g2)
          obtain ⟨r2, h1, h2⟩ := hcx i j r hr
          rw [cellIn_fun hc h1]
          exact ⟨r, hr, h2⟩
        have htok : ∀ i j n, cellIn (.st s') zs i j (.tok (n + 1)) → ∃ t l, cellIn (.st s1) xs (n / s1.sz) (n % s1.sz) (.sl t l) ∧ cellIn (.st s1) xs' i j (.sl t l) := fun i j n hc => by
          obtain ⟨r, h1, h2⟩ := hexist i j _ hc
          rcases unCell_sl h2 with ⟨n', t, l, e1, e2, rfl⟩ | ⟨e1, _, _⟩
          · cases e1
            exact ⟨t, l, allCells_get e2, h1⟩
          · exact (e1 _ rfl).elim
        refine ⟨⟨R1.a, R1.cap, R1.b, R1.o, R1.vs, fun i j p => ∃ n r, cellIn (.st s') zs i j (.tok (n + 1)) ∧ cellIn (.st s1) xs (n / s1.sz) (n % s1.sz) r ∧ R0.fs (n / s1.sz) (n % s1.sz) p,
          by rw [hlx']; exact R1.hdr_eq, by rw [hlx']; exact R1.hcap, R1.ha, by rw [← hszT]; exact R1.hreg, fun i j r hc => ?_, fun i j r hc => ?_, fun i' j r p hc hf => ?_, fun i1 j1 r1 i2 j2 r2 p hc1 hc2 hf1 hf2 => ?_, fun p => ?_⟩⟩
        · obtain ⟨r', h1, _⟩ := hcx i j r hc
          rw [← hszT]; exact R1.hc i j r' h1
        · obtain ⟨r', h1, h2⟩ := hcx i j r hc
          have hR := R1.hr i j r' h1
          rcases unCell_sl h2 with ⟨n, t, l, rfl, e2, rfl⟩ | ⟨e1, e2, rfl⟩
          · have hcell := allCells_get e2
            have hval : R1.vs i j = R0.vs (n / s1.sz) (n % s1.sz) := (RepD_tokv hR).trans (hTenv n (cellIn_lt hcell).1)
            have hD := (R0.hr _ _ _ hcell).frame (w' := w') fun p u hp hu => (hin p ⟨_, _, _, hcell, hp⟩).1 u hu
            rw [hval]
            refine hD.congr fun p => ⟨fun hp => ⟨n, _, h1, hcell, hp⟩, fun ⟨n', r2, g1, g2, g3⟩ => ?_⟩
            have := cellIn_fun h1 g1
            cases this
            exact g3
          · refine (RepD_flat hR e1 e2).congr fun p => ⟨fun hf => hf.elim, fun ⟨n', r2, g1, _⟩ => ?_⟩
            exact e1 _ (cellIn_fun h1 g1)
        · obtain ⟨n, r2, g1, g2, g3⟩ := hf
          intro hreg
          exact (hin p ⟨_, _, r2, g2, g3⟩).2 i _ hB ((R1.hfp p).2 (.inl (by rw [hszT]; exact hreg)))
        · obtain ⟨n1, q1, g1, g2, g3⟩ := hf1
          obtain ⟨n2, q2, k1, k2, k3⟩ := hf2
          obtain ⟨d1, d2⟩ := R0.hd2 _ _ q1 _ _ q2 p g2 k2 g3 k3
          have hnn : n1 = n2 := by
            rw [← Nat.div_add_mod n1 s1.sz, ← Nat.div_add_mod n2 s1.sz, d1, d2]
          subst hnn
          have e1 := allCells_of g1
          have e2 := allCells_of k1
          have hi := toks_inj hn e1 e2
          have l1 : j1 < s'.sz := (cellIn_lt g1).2
          have l2 : j2 < s'.sz := (cellIn_lt k1).2
          have hp' : 0 < s'.sz := Ty.sz_pos (.st s')
          have m1 : (i1 * s'.sz + j1) / s'.sz = i1 := by rw [Nat.mul_comm, Nat.mul_add_div hp', Nat.div_eq_of_lt l1]; omega
          have m2 : (i2 * s'.sz + j2) / s'.sz = i2 := by rw [Nat.mul_comm, Nat.mul_add_div hp', Nat.div_eq_of_lt l2]; omega
          have m3 : (i1 * s'.sz + j1) % s'.sz = j1 := by rw [Nat.mul_comm, Nat.mul_add_mod, Nat.mod_eq_of_lt l1]
          have m4 : (i2 * s'.sz + j2) % s'.sz = j2 := by rw [Nat.mul_comm, Nat.mul_add_mod, Nat.mod_eq_of_lt l2]
          exact ⟨by rw [← m1, ← m2, hi], by rw [← m3, ← m4, hi]⟩
        · constructor
          · rintro (hp | ⟨zs0, i', j, n, r, h1, h2, h3, h4⟩)
            · rcases (R1.hfp p).1 hp with hreg | ⟨i', j, r', hc, hf⟩
              · exact .inl (by rw [← hszT]; exact hreg)
              · obtain ⟨r, _, hu'⟩ := hexist i' j r' hc
                refine (RepD_nosl (R1.hr i' j r' hc) (fun t l e => ?_) p hf).elim
                rw [e] at hu'; exact nomatch hu'
            · rw [hB] at h1; cases h1
              obtain ⟨t, l, _, hx⟩ := htok i' j n h2
              exact .inr ⟨i', j, _, hx, n, r, h2, h3, h4⟩
          · rintro (hreg | ⟨i', j, r, hc, n, r2, g1, g2, g3⟩)
            · exact .inl ((R1.hfp p).2 (.inl (by rw [hszT]; exact hreg)))
            · exact .inr ⟨zs, i', j, n, r2, hB, g1, g2, g3⟩
    · obtain ⟨B1, g1, _⟩ := hbw i B h1
      obtain ⟨B2, g2, _⟩ := hbw j B' h2
      rcases f1 with f1 | ⟨zs, i', j', n, r, a1, a2, a3, a4⟩
      · rcases f2 with f2 | ⟨zs, i', j', n, r, a1, a2, a3, a4⟩
        · exact hdis i j B1 B2 p g1 g2 f1 f2
        · exact ((hin p ⟨_, _, r, a3, a4⟩).2 i B1 g1 f1).elim
      · rcases f2 with f2 | ⟨zs2, i2, j2, n2, r2, b1, b2, b3, b4⟩
        · exact ((hin p ⟨_, _, r, a3, a4⟩).2 j B2 g2 f2).elim
        · exact hnum1 i j zs zs2 a1 b1
    · obtain ⟨B, hB, _⟩ := hbw i B' hB'
      rcases hf with hf | ⟨zs, i', j', n, r, a1, a2, a3, a4⟩
      · exact (hbs p (hob i B p hB hf)).1
      · exact hr.ob kb _ p hlkb (hinner p ⟨_, _, r, a3, a4⟩)
  · rw [hv']
    exact hvr.move (pl := pl') (pl' := plD) hHD (fun _ => rfl) hoD hlv
  · intro k B hB
    rw [hk'] at hB
    obtain ⟨h1, B0, h2, h3⟩ := hkept k B hB
    refine ⟨h1, B0, ?_, h3⟩
    by_cases c : k = kb
    · subst c
      rw [List.getElem?_set_self hkl] at h2
      cases h2
      have hl := lessKs_get hlk k B hB
      cases B with
      | box => exact h3.elim
      | arr sh t zs =>
        obtain ⟨rfl, _⟩ := h3
        cases sh with
        | none => rw [show Blk.less k (Blk.arr none (Ty.st s') zs) = (Ty.st s').plain from rfl, hps'] at hl; exact nomatch hl
        | some d => rw [show Blk.less k (Blk.arr (some d) (Ty.st s') zs) = ((Ty.st s').plain && noneOf k d) from rfl, hps'] at hl; exact nomatch hl
    · rwa [List.getElem?_set_ne (fun e => c e.symm)] at h2
  · intro p u hu hno
    have hnoT : ∀ k B, look (newsH 0 (bs.set kb (.arr none (.st s') ys))) k = some B → ¬ plT.fp k p := fun k B hB hf => by
      by_cases c : k = kb
      · subst c; exact hno _ _ hlkb (hfpT _ p hf)
      · rw [hbsT k c] at hB; exact hno k B hB (hfpT k p hf)
    obtain ⟨g1, g2⟩ := hframe p u hu hnoT
    refine ⟨fun k B' hB' hf => ?_, g2⟩
    obtain ⟨B, hB, _⟩ := hbw k B' hB'
    rcases hf with hf | ⟨zs, i', j', n, r, a1, a2, a3, a4⟩
    · exact g1 k B hB hf
    · exact hno kb _ hlkb (hinner p ⟨_, _, r, a3, a4⟩)
/-! ### the same, for tasks and requests -/
def numTask (xs : List Task) : Option (List TaskK) := numEls .task .taskK 1 xs
def nodTask (zs : List TaskK) : Bool := nodupB (toks (allCells .taskK zs))
def unTask (xs : List Task) (zs : List TaskK) : Option (List Task) := unEls .task .taskK (allCells .task xs) zs
def numRequest (xs : List Request) : Option (List RequestK) := numEls .request .requestK 1 xs
def nodRequest (zs : List RequestK) : Bool := nodupB (toks (allCells .requestK zs))
def unRequest (xs : List Request) (zs : List RequestK) : Option (List Request) := unEls .request .requestK (allCells .request xs) zs
end Go.Proofs.Ev

set_option linter.unusedVariables false
set_option linter.unusedSimpArgs false
namespace Go.Proofs.Ev
variable [Tok]
set_option linter.unusedSectionVars false
def R.ty : R → Ty
  | .int k _ => .int k
  | .bool _ => .bool
  | .str _ => .str
  | .sl t _ => .sl t
  | .tok _ => .tok
/-- All numbers lie in their kind's range. -/
inductive R.Wf : R → Prop
  | int (k : IntKind) (n : Int) (h : (Lit.int k n).wf = true) : R.Wf (.int k n)
  | bool (b : Bool) : R.Wf (.bool b)
  | str (l : List UInt8) (h : l.length ≤ maxLen) : R.Wf (.str l)
  | sl (t : Ty) (xs : List t.El) (h : ∀ i j r, cellIn t xs i j r → R.Wf r) (hl : xs.length ≤ maxLen) : R.Wf (.sl t xs)
theorem ofCell_total (t : Ty) (r : R) (h : r.ty = t) (hs : ∀ s, t ≠ .st s) : ∃ x, t.ofCell r = some x := by
  subst h
  cases r with
  | int k n => exact ⟨n, by simp [Ty.ofCell, R.ty]⟩
  | bool b => exact ⟨b, by simp [Ty.ofCell, R.ty]⟩
  | str l => exact ⟨l, by simp [Ty.ofCell, R.ty]⟩
  | sl t xs => exact ⟨xs, by simp [Ty.ofCell, R.ty]⟩
  | tok n => exact ⟨n, by simp [Ty.ofCell, R.ty]⟩
theorem inv_t {r : R} (h : r.ty = .tok) : ∃ n, r = .tok n := by cases r <;> simp_all [R.ty]
theorem inv_i {r : R} {k : IntKind} (h : r.ty = .int k) : ∃ n, r = .int k n := by cases r <;> simp_all [R.ty]
theorem inv_b {r : R} (h : r.ty = .bool) : ∃ n, r = .bool n := by cases r <;> simp_all [R.ty]
theorem inv_s {r : R} {t : Ty} (h : r.ty = .sl t) : ∃ xs, r = .sl t xs := by
  cases r with
  | sl t' xs => cases h; exact ⟨xs, rfl⟩
  | _ => exact nomatch h
theorem shape_total : (rs : List R) → rs.map R.ty = S.tys .shape → ∃ x, shapeU rs = some x
  | [x0, x1, x2], h => by
    simp only [S.tys, List.map_cons, List.map_nil, List.cons.injEq, and_true] at h
    obtain ⟨h0, h1, h2⟩ := h
    obtain ⟨_, rfl⟩ := inv_i h0
    obtain ⟨_, rfl⟩ := inv_i h1
    obtain ⟨_, rfl⟩ := inv_i h2
    simp [shapeU, R.asI, R.asB, R.asL]
  | [], h => by have := congrArg List.length h; simp [S.tys] at this
  | [_], h => by have := congrArg List.length h; simp [S.tys] at this
  | [_, _], h => by have := congrArg List.length h; simp [S.tys] at this
  | _ :: _ :: _ :: _ :: _, h => by have := congrArg List.length h; simp [S.tys] at this
theorem tensor_total : (rs : List R) → rs.map R.ty = S.tys .tensor → ∃ x, tensorU rs = some x
  | [x0, x1, x2, x3], h => by
    simp only [S.tys, List.map_cons, List.map_nil, List.cons.injEq, and_true] at h
    obtain ⟨h0, h1, h2, h3⟩ := h
    obtain ⟨_, rfl⟩ := inv_i h0
    obtain ⟨_, rfl⟩ := inv_i h1
    obtain ⟨_, rfl⟩ := inv_i h2
    obtain ⟨_, rfl⟩ := inv_s h3
    simp [tensorU, R.asI, R.asB, R.asL]
  | [], h => by have := congrArg List.length h; simp [S.tys] at this
  | [_], h => by have := congrArg List.length h; simp [S.tys] at this
  | [_, _], h => by have := congrArg List.length h; simp [S.tys] at this
  | [_, _, _], h => by have := congrArg List.length h; simp [S.tys] at this
  | _ :: _ :: _ :: _ :: _ :: _, h => by have := congrArg List.length h; simp [S.tys] at this
theorem layer_total : (rs : List R) → rs.map R.ty = S.tys .layer → ∃ x, layerU rs = some x
  | [x0, x1, x2, x3, x4, x5, x6, x7, x8], h => by
    simp only [S.tys, List.map_cons, List.map_nil, List.cons.injEq, and_true] at h
    obtain ⟨h0, h1, h2, h3, h4, h5, h6, h7, h8⟩ := h
    obtain ⟨_, rfl⟩ := inv_i h0
    obtain ⟨_, rfl⟩ := inv_i h1
    obtain ⟨_, rfl⟩ := inv_i h2
    obtain ⟨_, rfl⟩ := inv_i h3
    obtain ⟨_, rfl⟩ := inv_i h4
    obtain ⟨_, rfl⟩ := inv_i h5
    obtain ⟨_, rfl⟩ := inv_i h6
    obtain ⟨_, rfl⟩ := inv_s h7
    obtain ⟨_, rfl⟩ := inv_s h8
    simp [layerU, R.asI, R.asB, R.asL]
  | [], h => by have := congrArg List.length h; simp [S.tys] at this
  | [_], h => by have := congrArg List.length h; simp [S.tys] at this
  | [_, _], h => by have := congrArg List.length h; simp [S.tys] at this
  | [_, _, _], h => by have := congrArg List.length h; simp [S.tys] at this
  | [_, _, _, _], h => by have := congrArg List.length h; simp [S.tys] at this
  | [_, _, _, _, _], h => by have := congrArg List.length h; simp [S.tys] at this
  | [_, _, _, _, _, _], h => by have := congrArg List.length h; simp [S.tys] at this
  | [_, _, _, _, _, _, _], h => by have := congrArg List.length h; simp [S.tys] at this
  | [_, _, _, _, _, _, _, _], h => by have := congrArg List.length h; simp [S.tys] at this
  | _ :: _ :: _ :: _ :: _ :: _ :: _ :: _ :: _ :: _ :: _, h => by have := congrArg List.length h; simp [S.tys] at this
theorem model_total : (rs : List R) → rs.map R.ty = S.tys .model → ∃ x, modelU rs = some x
  | [x0, x1, x2, x3], h => by
    simp only [S.tys, List.map_cons, List.map_nil, List.cons.injEq, and_true] at h
    obtain ⟨h0, h1, h2, h3⟩ := h
    obtain ⟨_, rfl⟩ := inv_i h0
    obtain ⟨_, rfl⟩ := inv_i h1
    obtain ⟨_, rfl⟩ := inv_i h2
    obtain ⟨_, rfl⟩ := inv_s h3
    simp [modelU, R.asI, R.asB, R.asL]
  | [], h => by have := congrArg List.length h; simp [S.tys] at this
  | [_], h => by have := congrArg List.length h; simp [S.tys] at this
  | [_, _], h => by have := congrArg List.length h; simp [S.tys] at this
  | [_, _, _], h => by have := congrArg List.length h; simp [S.tys] at this
  | _ :: _ :: _ :: _ :: _ :: _, h => by have := congrArg List.length h; simp [S.tys] at this
theorem task_total : (rs : List R) → rs.map R.ty = S.tys .task → ∃ x, taskU rs = some x
  | [x0, x1, x2, x3, x4], h => by
    simp only [S.tys, List.map_cons, List.map_nil, List.cons.injEq, and_true] at h
    obtain ⟨h0, h1, h2, h3, h4⟩ := h
    obtain ⟨_, rfl⟩ := inv_i h0
    obtain ⟨_, rfl⟩ := inv_s h1
    obtain ⟨_, rfl⟩ := inv_i h2
    obtain ⟨_, rfl⟩ := inv_i h3
    obtain ⟨_, rfl⟩ := inv_i h4
    simp [taskU, R.asI, R.asB, R.asL]
  | [], h => by have := congrArg List.length h; simp [S.tys] at this
  | [_], h => by have := congrArg List.length h; simp [S.tys] at this
  | [_, _], h => by have := congrArg List.length h; simp [S.tys] at this
  | [_, _, _], h => by have := congrArg List.length h; simp [S.tys] at this
  | [_, _, _, _], h => by have := congrArg List.length h; simp [S.tys] at this
  | _ :: _ :: _ :: _ :: _ :: _ :: _, h => by have := congrArg List.length h; simp [S.tys] at this
theorem request_total : (rs : List R) → rs.map R.ty = S.tys .request → ∃ x, requestU rs = some x
  | [x0, x1, x2, x3, x4, x5, x6, x7, x8, x9, x10, x11, x12], h => by
    simp only [S.tys, List.map_cons, List.map_nil, List.cons.injEq, and_true] at h
    obtain ⟨h0, h1, h2, h3, h4, h5, h6, h7, h8, h9, h10, h11, h12⟩ := h
    obtain ⟨_, rfl⟩ := inv_i h0
    obtain ⟨_, rfl⟩ := inv_i h1
    obtain ⟨_, rfl⟩ := inv_i h2
    obtain ⟨_, rfl⟩ := inv_i h3
    obtain ⟨_, rfl⟩ := inv_i h4
    obtain ⟨_, rfl⟩ := inv_s h5
    obtain ⟨_, rfl⟩ := inv_i h6
    obtain ⟨_, rfl⟩ := inv_i h7
    obtain ⟨_, rfl⟩ := inv_i h8
    obtain ⟨_, rfl⟩ := inv_i h9
    obtain ⟨_, rfl⟩ := inv_s h10
    obtain ⟨_, rfl⟩ := inv_i h11
    obtain ⟨_, rfl⟩ := inv_i h12
    simp [requestU, R.asI, R.asB, R.asL]
  | [], h => by have := congrArg List.length h; simp [S.tys] at this
  | [_], h => by have := congrArg List.length h; simp [S.tys] at this
  | [_, _], h => by have := congrArg List.length h; simp [S.tys] at this
  | [_, _, _], h => by have := congrArg List.length h; simp [S.tys] at this
  | [_, _, _, _], h => by have := congrArg List.length h; simp [S.tys] at this
  | [_, _, _, _, _], h => by have := congrArg List.length h; simp [S.tys] at this
  | [_, _, _, _, _, _], h => by have := congrArg List.length h; simp [S.tys] at this
  | [_, _, _, _, _, _, _], h => by have := congrArg List.length h; simp [S.tys] at this
  | [_, _, _, _, _, _, _, _], h => by have := congrArg List.length h; simp [S.tys] at this
  | [_, _, _, _, _, _, _, _, _], h => by have := congrArg List.length h; simp [S.tys] at this
  | [_, _, _, _, _, _, _, _, _, _], h => by have := congrArg List.length h; simp [S.tys] at this
  | [_, _, _, _, _, _, _, _, _, _, _], h => by have := congrArg List.length h; simp [S.tys] at this
  | [_, _, _, _, _, _, _, _, _, _, _, _], h => by have := congrArg List.length h; simp [S.tys] at this
  | _ :: _ :: _ :: _ :: _ :: _ :: _ :: _ :: _ :: _ :: _ :: _ :: _ :: _ :: _, h => by have := congrArg List.length h; simp [S.tys] at this
theorem step_total : (rs : List R) → rs.map R.ty = S.tys .step → ∃ x, stepU rs = some x
  | [x0, x1, x2, x3, x4, x5, x6, x7], h => by
    simp only [S.tys, List.map_cons, List.map_nil, List.cons.injEq, and_true] at h
    obtain ⟨h0, h1, h2, h3, h4, h5, h6, h7⟩ := h
    obtain ⟨_, rfl⟩ := inv_i h0
    obtain ⟨_, rfl⟩ := inv_i h1
    obtain ⟨_, rfl⟩ := inv_i h2
    obtain ⟨_, rfl⟩ := inv_s h3
    obtain ⟨_, rfl⟩ := inv_i h4
    obtain ⟨_, rfl⟩ := inv_i h5
    obtain ⟨_, rfl⟩ := inv_i h6
    obtain ⟨_, rfl⟩ := inv_s h7
    simp [stepU, R.asI, R.asB, R.asL]
  | [], h => by have := congrArg List.length h; simp [S.tys] at this
  | [_], h => by have := congrArg List.length h; simp [S.tys] at this
  | [_, _], h => by have := congrArg List.length h; simp [S.tys] at this
  | [_, _, _], h => by have := congrArg List.length h; simp [S.tys] at this
  | [_, _, _, _], h => by have := congrArg List.length h; simp [S.tys] at this
  | [_, _, _, _, _], h => by have := congrArg List.length h; simp [S.tys] at this
  | [_, _, _, _, _, _], h => by have := congrArg List.length h; simp [S.tys] at this
  | [_, _, _, _, _, _, _], h => by have := congrArg List.length h; simp [S.tys] at this
  | _ :: _ :: _ :: _ :: _ :: _ :: _ :: _ :: _ :: _, h => by have := congrArg List.length h; simp [S.tys] at this
theorem event_total : (rs : List R) → rs.map R.ty = S.tys .event → ∃ x, eventU rs = some x
  | [x0, x1, x2, x3, x4, x5, x6], h => by
    simp only [S.tys, List.map_cons, List.map_nil, List.cons.injEq, and_true] at h
    obtain ⟨h0, h1, h2, h3, h4, h5, h6⟩ := h
    obtain ⟨_, rfl⟩ := inv_i h0
    obtain ⟨_, rfl⟩ := inv_i h1
    obtain ⟨_, rfl⟩ := inv_i h2
    obtain ⟨_, rfl⟩ := inv_i h3
    obtain ⟨_, rfl⟩ := inv_i h4
    obtain ⟨_, rfl⟩ := inv_i h5
    obtain ⟨_, rfl⟩ := inv_s h6
    simp [eventU, R.asI, R.asB, R.asL]
  | [], h => by have := congrArg List.length h; simp [S.tys] at this
  | [_], h => by have := congrArg List.length h; simp [S.tys] at this
  | [_, _], h => by have := congrArg List.length h; simp [S.tys] at this
  | [_, _, _], h => by have := congrArg List.length h; simp [S.tys] at this
  | [_, _, _, _], h => by have := congrArg List.length h; simp [S.tys] at this
  | [_, _, _, _, _], h => by have := congrArg List.length h; simp [S.tys] at this
  | [_, _, _, _, _, _], h => by have := congrArg List.length h; simp [S.tys] at this
  | _ :: _ :: _ :: _ :: _ :: _ :: _ :: _ :: _, h => by have := congrArg List.length h; simp [S.tys] at this
theorem entry_total : (rs : List R) → rs.map R.ty = S.tys .entry → ∃ x, entryU rs = some x
  | [x0, x1, x2, x3, x4, x5, x6, x7, x8, x9, x10, x11, x12], h => by
    simp only [S.tys, List.map_cons, List.map_nil, List.cons.injEq, and_true] at h
    obtain ⟨h0, h1, h2, h3, h4, h5, h6, h7, h8, h9, h10, h11, h12⟩ := h
    obtain ⟨_, rfl⟩ := inv_i h0
    obtain ⟨_, rfl⟩ := inv_i h1
    obtain ⟨_, rfl⟩ := inv_i h2
    obtain ⟨_, rfl⟩ := inv_i h3
    obtain ⟨_, rfl⟩ := inv_s h4
    obtain ⟨_, rfl⟩ := inv_i h5
    obtain ⟨_, rfl⟩ := inv_i h6
    obtain ⟨_, rfl⟩ := inv_i h7
    obtain ⟨_, rfl⟩ := inv_s h8
    obtain ⟨_, rfl⟩ := inv_i h9
    obtain ⟨_, rfl⟩ := inv_i h10
    obtain ⟨_, rfl⟩ := inv_i h11
    obtain ⟨_, rfl⟩ := inv_b h12
    simp [entryU, R.asI, R.asB, R.asL]
  | [], h => by have := congrArg List.length h; simp [S.tys] at this
  | [_], h => by have := congrArg List.length h; simp [S.tys] at this
  | [_, _], h => by have := congrArg List.length h; simp [S.tys] at this
  | [_, _, _], h => by have := congrArg List.length h; simp [S.tys] at this
  | [_, _, _, _], h => by have := congrArg List.length h; simp [S.tys] at this
  | [_, _, _, _, _], h => by have := congrArg List.length h; simp [S.tys] at this
  | [_, _, _, _, _, _], h => by have := congrArg List.length h; simp [S.tys] at this
  | [_, _, _, _, _, _, _], h => by have := congrArg List.length h; simp [S.tys] at this
  | [_, _, _, _, _, _, _, _], h => by have := congrArg List.length h; simp [S.tys] at this
  | [_, _, _, _, _, _, _, _, _], h => by have := congrArg List.length h; simp [S.tys] at this
  | [_, _, _, _, _, _, _, _, _, _], h => by have := congrArg List.length h; simp [S.tys] at this
  | [_, _, _, _, _, _, _, _, _, _, _], h => by have := congrArg List.length h; simp [S.tys] at this
  | [_, _, _, _, _, _, _, _, _, _, _, _], h => by have := congrArg List.length h; simp [S.tys] at this
  | _ :: _ :: _ :: _ :: _ :: _ :: _ :: _ :: _ :: _ :: _ :: _ :: _ :: _ :: _, h => by have := congrArg List.length h; simp [S.tys] at this
theorem wish_total : (rs : List R) → rs.map R.ty = S.tys .wish → ∃ x, wishU rs = some x
  | [x0, x1, x2], h => by
    simp only [S.tys, List.map_cons, List.map_nil, List.cons.injEq, and_true] at h
    obtain ⟨h0, h1, h2⟩ := h
    obtain ⟨_, rfl⟩ := inv_i h0
    obtain ⟨_, rfl⟩ := inv_i h1
    obtain ⟨_, rfl⟩ := inv_i h2
    simp [wishU, R.asI, R.asB, R.asL]
  | [], h => by have := congrArg List.length h; simp [S.tys] at this
  | [_], h => by have := congrArg List.length h; simp [S.tys] at this
  | [_, _], h => by have := congrArg List.length h; simp [S.tys] at this
  | _ :: _ :: _ :: _ :: _, h => by have := congrArg List.length h; simp [S.tys] at this
theorem map_cons_inv {α β : Type} {f : α → β} {rs : List α} {t : β} {ts : List β} (h : rs.map f = t :: ts) : ∃ r rs', rs = r :: rs' ∧ f r = t ∧ rs'.map f = ts := by
  cases rs with
  | nil => exact nomatch h
  | cons r rs => rw [List.map_cons, List.cons.injEq] at h; exact ⟨r, rs, rfl, h.1, h.2⟩
theorem taskK_total (rs : List R) (h : rs.map R.ty = S.tys .taskK) : ∃ x, taskKU rs = some x := by
  obtain ⟨a0, rs, rfl, g0, h⟩ := map_cons_inv h
  obtain ⟨a1, rs, rfl, g1, h⟩ := map_cons_inv h
  obtain ⟨a2, rs, rfl, g2, h⟩ := map_cons_inv h
  obtain ⟨a3, rs, rfl, g3, h⟩ := map_cons_inv h
  obtain ⟨a4, rs, rfl, g4, h⟩ := map_cons_inv h
  rw [List.map_eq_nil_iff] at h
  subst h
  obtain ⟨x0, rfl⟩ := inv_i g0
  obtain ⟨x1, rfl⟩ := inv_t g1
  obtain ⟨x2, rfl⟩ := inv_i g2
  obtain ⟨x3, rfl⟩ := inv_i g3
  obtain ⟨x4, rfl⟩ := inv_i g4
  exact ⟨_, rfl⟩
theorem requestK_total (rs : List R) (h : rs.map R.ty = S.tys .requestK) : ∃ x, requestKU rs = some x := by
  obtain ⟨a0, rs, rfl, g0, h⟩ := map_cons_inv h
  obtain ⟨a1, rs, rfl, g1, h⟩ := map_cons_inv h
  obtain ⟨a2, rs, rfl, g2, h⟩ := map_cons_inv h
  obtain ⟨a3, rs, rfl, g3, h⟩ := map_cons_inv h
  obtain ⟨a4, rs, rfl, g4, h⟩ := map_cons_inv h
  obtain ⟨a5, rs, rfl, g5, h⟩ := map_cons_inv h
  obtain ⟨a6, rs, rfl, g6, h⟩ := map_cons_inv h
  obtain ⟨a7, rs, rfl, g7, h⟩ := map_cons_inv h
  obtain ⟨a8, rs, rfl, g8, h⟩ := map_cons_inv h
  obtain ⟨a9, rs, rfl, g9, h⟩ := map_cons_inv h
  obtain ⟨a10, rs, rfl, g10, h⟩ := map_cons_inv h
  obtain ⟨a11, rs, rfl, g11, h⟩ := map_cons_inv h
  obtain ⟨a12, rs, rfl, g12, h⟩ := map_cons_inv h
  rw [List.map_eq_nil_iff] at h
  subst h
  obtain ⟨x0, rfl⟩ := inv_i g0
  obtain ⟨x1, rfl⟩ := inv_i g1
  obtain ⟨x2, rfl⟩ := inv_i g2
  obtain ⟨x3, rfl⟩ := inv_i g3
  obtain ⟨x4, rfl⟩ := inv_i g4
  obtain ⟨x5, rfl⟩ := inv_t g5
  obtain ⟨x6, rfl⟩ := inv_i g6
  obtain ⟨x7, rfl⟩ := inv_i g7
  obtain ⟨x8, rfl⟩ := inv_i g8
  obtain ⟨x9, rfl⟩ := inv_i g9
  obtain ⟨x10, rfl⟩ := inv_t g10
  obtain ⟨x11, rfl⟩ := inv_i g11
  obtain ⟨x12, rfl⟩ := inv_i g12
  exact ⟨_, rfl⟩
theorem ofCells_total (t : Ty) (rs : List R) (h : rs.map R.ty = t.tys) : ∃ x, t.ofCells rs = some x := by
  have single : ∀ {t : Ty}, (∀ s, t ≠ .st s) → t.tys = [t] → rs.map R.ty = t.tys → ∃ r, rs = [r] ∧ r.ty = t := fun {t} _ e h => by
    rw [e] at h
    match rs, h with
    | [r], h => simp at h; exact ⟨r, rfl, h⟩
  cases t with
  | st s => cases s with
    | shape => exact shape_total rs h
    | tensor => exact tensor_total rs h
    | layer => exact layer_total rs h
    | model => exact model_total rs h
    | task => exact task_total rs h
    | request => exact request_total rs h
    | step => exact step_total rs h
    | event => exact event_total rs h
    | entry => exact entry_total rs h
    | wish => exact wish_total rs h
    | taskK => exact taskK_total rs h
    | requestK => exact requestK_total rs h
  | tok => obtain ⟨r, rfl, e⟩ := single (t := .tok) (fun s h => nomatch h) rfl h; exact ofCell_total _ r e (fun s h => nomatch h)
  | int k => obtain ⟨r, rfl, e⟩ := single (t := .int k) (fun s h => nomatch h) rfl h; exact ofCell_total _ r e (fun s h => nomatch h)
  | bool => obtain ⟨r, rfl, e⟩ := single (t := .bool) (fun s h => nomatch h) rfl h; exact ofCell_total _ r e (fun s h => nomatch h)
  | str => obtain ⟨r, rfl, e⟩ := single (t := .str) (fun s h => nomatch h) rfl h; exact ofCell_total _ r e (fun s h => nomatch h)
  | sl t => obtain ⟨r, rfl, e⟩ := single (t := .sl t) (fun s h => nomatch h) rfl h; exact ofCell_total _ r e (fun s h => nomatch h)
/-- The fields' cells, one after the other. -/
def flatFs (P : Program) (g : TypeId → Option (List Ty)) : Nat → List Field → Option (List Ty)
  | _, [] => some []
  | off, f :: l => cond (Nat.beq f.offset off) ((g f.type).bind fun ts => cond (Nat.beq (P.cellsOf f.type) ts.length) ((flatFs P g (off + ts.length) l).bind fun us => some (ts ++ us)) none) none
/-- A type's cells. -/
def flatT (P : Program) (tt : TT) : Nat → TypeId → Option (List Ty)
  | 0, _ => none
  | n + 1, T => match P.underlying T with
    | some (.int k) => some [.int k]
    | some .bool => some [.bool]
    | some .string => some [.str]
    | some (.slice e) => (tt e).bind fun t => (flatT P tt n e).bind fun ts => if ts = t.tys ∧ P.cellsOf e = ts.length then some [.sl t] else none
    | some (.struct fs) => (flatFs P (flatT P tt n) 0 fs.toList).bind fun ts => cond (Nat.beq (P.cellsOf T) ts.length) (some ts) none
    | _ => none
/-- What stands behind a list of cells. -/
def Opened (w : World) (ts : List Ty) (cs : List Value) : Prop :=
  ∃ rs : List R, rs.map R.ty = ts ∧ rs.length = cs.length ∧ ∀ (j : Nat) (r : R) (v : Value), rs[j]? = some r → cs[j]? = some v → RepR w (fun _ => True) r v ∧ r.Wf
theorem Opened.one {w : World} {r : R} {v : Value} (h : RepR w (fun _ => True) r v) (hw : r.Wf) : Opened w [r.ty] [v] :=
  ⟨[r], rfl, rfl, fun j r' v' h1 h2 => by
    cases j with
    | zero => simp at h1 h2; subst h1 h2; exact ⟨h, hw⟩
    | succ j => simp at h1⟩
theorem Opened.append {w : World} {ts us : List Ty} {cs ds : List Value} (h : Opened w ts cs) (g : Opened w us ds) : Opened w (ts ++ us) (cs ++ ds) := by
  obtain ⟨rs, h1, h2, h3⟩ := h
  obtain ⟨qs, g1, g2, g3⟩ := g
  refine ⟨rs ++ qs, by simp [h1, g1], by simp [h2, g2], fun j r v hr hv => ?_⟩
  by_cases c : j < rs.length
  · rw [List.getElem?_append_left c] at hr
    rw [List.getElem?_append_left (by omega)] at hv
    exact h3 j r v hr hv
  · rw [List.getElem?_append_right (by omega)] at hr
    rw [List.getElem?_append_right (by omega), ← h2] at hv
    exact g3 _ r v hr hv
section
variable {H : Type} {enc : TypeId × Value → H} {P : Program} {tt : TT} {w : World} {base : Nat} {sp : Nat → Bool} {held : Bool}
theorem open_fields {g : TypeId → Option (List Ty)} {F : TypeId → List Value → Option (DataW H × List MemPlace)} (hg : ∀ T cs x ts, F T cs = some x → g T = some ts → cs.length = P.cellsOf T → Opened w ts cs) (cs : List Value) :
    ∀ (fs : List Field) (off : Nat) (ts : List Ty) (xs : List (DataW H × List MemPlace)), flatFs P g off fs = some ts → fs.mapM (fun f => F f.type ((cs.drop f.offset).take (P.cellsOf f.type))) = some xs → off + ts.length = cs.length → Opened w ts (cs.drop off)
  | [], off, ts, xs, h, _, hl => by
    cases h
    have : cs.drop off = [] := List.drop_eq_nil_of_le (by simp at hl; omega)
    rw [this]; exact ⟨[], rfl, rfl, fun j r v hr _ => by simp at hr⟩
  | f :: fs, off, ts, xs, h, hm, hl => by
    simp only [flatFs] at h
    cases ho : Nat.beq f.offset off <;> simp only [ho, cond_true, cond_false, Option.bind_eq_some_iff] at h
    · exact nomatch h
    have ho := Nat.eq_of_beq_eq_true ho
    obtain ⟨us, hu, h⟩ := h
    cases hc : Nat.beq (P.cellsOf f.type) us.length <;> simp only [hc, cond_true, cond_false, Option.bind_eq_some_iff, Option.some.injEq] at h
    · exact nomatch h
    have hc := Nat.eq_of_beq_eq_true hc
    obtain ⟨vs, hv, rfl⟩ := h
    rw [List.mapM_cons] at hm
    cases hF : F f.type ((cs.drop f.offset).take (P.cellsOf f.type)) with
    | none => rw [hF] at hm; exact nomatch hm
    | some y =>
      cases hR : fs.mapM (fun f => F f.type ((cs.drop f.offset).take (P.cellsOf f.type))) with
      | none => rw [hF, hR] at hm; exact nomatch hm
      | some ys =>
        rw [List.length_append] at hl
        have h1 := hg _ _ _ _ hF hu (by rw [List.length_take, List.length_drop]; omega)
        have h2 := open_fields hg cs fs (off + us.length) vs ys hv hR (by omega)
        rw [ho, hc] at h1
        have := h1.append h2
        rwa [← List.drop_drop, List.take_append_drop] at this
theorem trod_int {fuel : Nat} {T : TypeId} {cs : List Value} {x : DataW H × List MemPlace} {k : IntKind} (hu : P.underlying T = some (.int k)) (h : DataW.trod enc P w base sp held fuel T cs = some x) : ∃ n, cs = [.int k n] ∧ (Lit.int k n).wf = true := by
  cases fuel with
  | zero => exact nomatch h
  | succ fuel =>
    unfold DataW.trod at h
    simp only [hu] at h
    match cs, h with
    | [.int k' n], h =>
      simp only at h
      split at h
      · rename_i hc; obtain ⟨rfl, hw⟩ := hc; exact ⟨n, rfl, hw⟩
      · exact nomatch h
theorem trod_bool {fuel : Nat} {T : TypeId} {cs : List Value} {x : DataW H × List MemPlace} (hu : P.underlying T = some .bool) (h : DataW.trod enc P w base sp held fuel T cs = some x) : ∃ b, cs = [.bool b] := by
  cases fuel with
  | zero => exact nomatch h
  | succ fuel =>
    unfold DataW.trod at h
    simp only [hu] at h
    match cs, h with
    | [.bool b], h => exact ⟨b, rfl⟩
theorem trod_str {fuel : Nat} {T : TypeId} {cs : List Value} {x : DataW H × List MemPlace} (hu : P.underlying T = some .string) (h : DataW.trod enc P w base sp held fuel T cs = some x) : ∃ s, cs = [.string s] ∧ s.size ≤ maxLen := by
  cases fuel with
  | zero => exact nomatch h
  | succ fuel =>
    unfold DataW.trod at h
    simp only [hu] at h
    match cs, h with
    | [.string s], h =>
      simp only at h
      split at h
      · rename_i hc; exact ⟨s, rfl, hc⟩
      · exact nomatch h
theorem trod_fields {fuel : Nat} {T : TypeId} {cs : List Value} {x : DataW H × List MemPlace} {fs : Array Field} (hu : P.underlying T = some (.struct fs)) (h : DataW.trod enc P w base sp held fuel T cs = some x) :
    ∃ fuel' xs, cs.length = P.cellsOf T ∧ fs.toList.mapM (fun f => DataW.trod enc P w base sp held fuel' f.type ((cs.drop f.offset).take (P.cellsOf f.type))) = some xs := by
  cases fuel with
  | zero => exact nomatch h
  | succ fuel =>
    unfold DataW.trod at h
    simp only [hu] at h
    split at h
    · rename_i hl
      obtain ⟨xs, hx, _⟩ := Option.map_eq_some_iff.1 h
      exact ⟨fuel, xs, hl, hx⟩
    · exact nomatch h
theorem exists_list {α : Type} {Q : Nat → α → Prop} : ∀ (n : Nat), (∀ i, i < n → ∃ x, Q i x) → ∃ l : List α, l.length = n ∧ ∀ (i : Nat) (x : α), l[i]? = some x → Q i x
  | 0, _ => ⟨[], rfl, fun i x h => by simp at h⟩
  | n + 1, h => by
    obtain ⟨l, h1, h2⟩ := exists_list n fun i hi => h i (by omega)
    obtain ⟨x, hx⟩ := h n (by omega)
    refine ⟨l ++ [x], by simp [h1], fun i y hy => ?_⟩
    by_cases c : i < l.length
    · rw [List.getElem?_append_left c] at hy; exact h2 i y hy
    · rw [List.getElem?_append_right (by omega)] at hy
      have hi : i - l.length < 1 := by have := (List.getElem?_eq_some_iff.1 hy).1; simpa using this
      have : i = n := by omega
      subst this
      have : i - l.length = 0 := by omega
      rw [this] at hy; simp at hy; subst hy; exact hx
theorem spot_none {a : Addr} {v : Value} (h : w.cell? a = some v) : a.spot = none := by
  unfold World.cell? at h
  cases hs : a.spot with
  | none => rfl
  | some s => simp [hs] at h; split at h <;> simp_all
theorem range_getN {n j : Nat} (h : j < n) : (List.range n)[j]? = some j := by rw [List.getElem?_eq_getElem (by simpa using h)]; simp
theorem open_cells : ∀ (n fuel : Nat) (T : TypeId) (cs : List Value) (x : DataW H × List MemPlace) (ts : List Ty), DataW.trod enc P w base sp held fuel T cs = some x → flatT P tt n T = some ts → Opened w ts cs
  | 0, _, _, _, _, _, _, h => nomatch h
  | n + 1, fuel, T, cs, x, ts, h, hf => by
    unfold flatT at hf
    split at hf
    · rename_i k hu
      cases hf
      obtain ⟨m, rfl, hw⟩ := trod_int hu h
      exact Opened.one (.int k m) (.int k m hw)
    · rename_i hu
      cases hf
      obtain ⟨b, rfl⟩ := trod_bool hu h
      exact Opened.one (.bool b) (.bool b)
    · rename_i hu
      cases hf
      obtain ⟨s, rfl, hsl⟩ := trod_str hu h
      have : s = ⟨s.data.toList.toArray⟩ := by simp
      rw [this]
      exact Opened.one (.str s.data.toList) (.str _ (by simpa using hsl))
    · rename_i e hu
      simp only [Option.bind_eq_some_iff] at hf
      obtain ⟨t, ht, us, hus, hf⟩ := hf
      split at hf
      · rename_i hc
        obtain ⟨rfl, hsz⟩ := hc
        cases hf
        rw [Ty.tys_length] at hsz
        rcases DataW.trod_slice hu h with ⟨rfl, _⟩ | ⟨a, len, cap, elems, rest, n', _, rfl, _, hb, hlc, hcap, hlen, hel, _⟩
        · exact Opened.one (.sl t [] none 0 0 0 (fun _ _ => undef) (Nat.le_refl _) (.inl rfl) (fun i j r ⟨x, hx, _⟩ => by simp at hx) (fun i j r ⟨x, hx, _⟩ => by simp at hx)) (.sl t [] (fun i j r ⟨x, hx, _⟩ => by simp at hx) (Nat.zero_le _))
        · subst hlen
          have hel' : ∀ i, i < elems.length → ∃ x : t.El, ∃ ds, w.cells? base (a.add (i * P.cellsOf e)) (P.cellsOf e) = some ds ∧ (t.cells x).length = ds.length ∧
              ∀ (j : Nat) (r : R) (v : Value), (t.cells x)[j]? = some r → ds[j]? = some v → RepR w (fun _ => True) r v ∧ r.Wf := fun i hi => by
            have := hel i hi
            rw [List.getElem?_eq_getElem hi] at this
            obtain ⟨ds, h1, h2⟩ := Option.bind_eq_some_iff.1 this
            obtain ⟨rs, g1, g2, g3⟩ := open_cells n n' e ds _ _ h2 hus
            obtain ⟨x, hx⟩ := ofCells_total t rs g1
            have hc := Ty.ofCells_spec t rs x hx
            exact ⟨x, ds, h1, by rw [hc]; exact g2, by rw [hc]; exact g3⟩
          obtain ⟨xs, hxl, hxs⟩ := exists_list elems.length hel'
          have key : ∀ i j r, cellIn t xs i j r → a.spot = none ∧ ∃ v, w.at? (a.block, a.off + (i * t.sz + j)) = some v ∧ RepR w (fun _ => True) r v ∧ r.Wf := fun i j r ⟨x, hx, hr⟩ => by
            obtain ⟨ds, h1, h2, h3⟩ := hxs i x hx
            have hj : j < ds.length := by rw [← h2]; exact (List.getElem?_eq_some_iff.1 hr).1
            unfold World.cells? at h1
            rw [if_pos (by unfold Addr.add; split <;> exact hb)] at h1
            have hl := mapM_some_length h1
            rw [List.length_range] at hl
            have hg := mapM_some_get h1 j j (range_getN (by omega))
            rw [List.getElem?_eq_getElem hj] at hg
            have hsp : a.spot = none := by
              have hi : i < xs.length := (List.getElem?_eq_some_iff.1 hx).1
              obtain ⟨es, q1, q2, _⟩ := hxs 0 _ (List.getElem?_eq_getElem (by omega))
              have hpos := t.sz_pos
              rw [Ty.cells_length] at q2
              unfold World.cells? at q1
              rw [if_pos (by unfold Addr.add; split <;> exact hb)] at q1
              have h0 := mapM_some_get q1 0 0 (range_getN (by omega))
              rw [List.getElem?_eq_getElem (by omega)] at h0
              have hs := spot_none h0
              simpa [Addr.add] using hs
            refine ⟨hsp, ds[j], ?_, h3 j r _ hr (List.getElem?_eq_getElem hj)⟩
            have : (a.add (i * P.cellsOf e)).add j = ⟨a.block, a.off + (i * t.sz + j), none⟩ := by
              obtain ⟨b0, o0, s0⟩ := a
              simp only at hsp; subst hsp
              rw [hsz]
              simp only [Addr.add]
              split <;> split <;> simp <;> omega
            rw [this] at hg
            exact hg
          rw [← hxl]
          have hrep : RepR w (fun _ => True) (.sl t xs) (.slice (some a) xs.length cap) := by
            refine .sl t xs (some a) cap a.block a.off (fun i j => (w.at? (a.block, a.off + (i * t.sz + j))).getD undef) (by omega) ?_ (fun i j r hc => ?_) (fun i j r hc => ?_)
            · cases xs with
              | nil => exact .inl rfl
              | cons x l =>
                right
                obtain ⟨r, hr⟩ := cellIn_of (t := t) (xs := x :: l) (i := 0) (j := 0) (by simp) t.sz_pos
                have := (key 0 0 r hr).1
                obtain ⟨b0, o0, s0⟩ := a
                simp only at this; subst this; rfl
            · obtain ⟨_, v, hv, _⟩ := key i j r hc
              exact ⟨trivial, by rw [hv]; rfl⟩
            · obtain ⟨_, v, hv, hr, _⟩ := key i j r hc
              rw [hv]; exact hr
          exact Opened.one hrep (.sl t xs (fun i j r hc => by obtain ⟨_, v, _, _, hw⟩ := key i j r hc; exact hw) (by omega))
      · exact nomatch hf
    · rename_i fs hu
      simp only [Option.bind_eq_some_iff] at hf
      obtain ⟨us, hus, hf⟩ := hf
      cases hc : Nat.beq (P.cellsOf T) us.length <;> simp only [hc, cond_true, cond_false] at hf
      · exact nomatch hf
      cases hf
      have hc := Nat.eq_of_beq_eq_true hc
      obtain ⟨fuel', xs, hl, hx⟩ := trod_fields hu h
      have := open_fields (F := DataW.trod enc P w base sp held fuel') (fun T cs x ts h1 h2 _ => open_cells n fuel' T cs x ts h1 h2) cs fs.toList 0 _ xs hus hx (by omega)
      simpa using this
    · exact nomatch hf
end
end Go.Proofs.Ev

set_option linter.unusedVariables false
set_option linter.unusedSimpArgs false
namespace Go.Proofs.Ev
variable [Tok]
set_option linter.unusedSectionVars false
open Go.ChangeShapes Go.WideShapes Go.ChangeAt Go.RowKit
/-- What an argument of type T reads as. -/
def ArgIs (P : Program) (tt : TT) (T : TypeId) (a : Arg) : Prop :=
  ∃ ts, flatT P tt 8 T = some ts ∧ ((∃ fs, P.underlying T = some (.struct fs)) → ∃ rs : List R, a = .agg rs ∧ rs.map R.ty = ts ∧ ∀ r ∈ rs, r.Wf) ∧
    ((∀ fs, P.underlying T ≠ some (.struct fs)) → ∃ r : R, a = .one r ∧ [r.ty] = ts ∧ r.Wf)
def ArgsAre (P : Program) (tt : TT) : List TypeId → List Arg → Prop
  | [], [] => True
  | T :: Ts, a :: as => ArgIs P tt T a ∧ ArgsAre P tt Ts as
  | _, _ => False
section
variable {H : Type} {enc : TypeId × Value → H} {P : Program} {tt : TT} {w : World} {base : Nat} {sp : Nat → Bool} {held : Bool}
theorem arg_open {b0 : Nat} {T : TypeId} {v : Value} {d : DataW H} {p : List MemPlace} {ts : List Ty} (hd : DataW.Trod enc P w base sp held T v d p) (hv : Value.okWide P w .any b0 T v) (hf : flatT P tt 8 T = some ts) :
    ∃ a, ArgIs P tt T a ∧ RepArg w (fun _ => True) a v := by
  obtain ⟨fuel, hd⟩ := hd
  obtain ⟨rs, h1, h2, h3⟩ := open_cells 8 fuel T _ _ ts hd hf
  by_cases hs : ∃ fs, P.underlying T = some (.struct fs)
  · obtain ⟨fs, hfs⟩ := hs
    simp only [Value.okWide, hfs] at hv
    obtain ⟨cs, rfl, hsz, _⟩ := hv
    refine ⟨.agg rs, ⟨ts, hf, fun _ => ⟨rs, rfl, h1, fun r hr => ?_⟩, fun h => (h fs hfs).elim⟩, cs, rfl, by simpa [Value.cells] using h2, fun j r u hr hu => ?_⟩
    · obtain ⟨j, hj⟩ := List.getElem?_of_mem hr
      have hlt : j < cs.size := by
        have := (List.getElem?_eq_some_iff.1 hj).1
        simp [Value.cells] at h2; omega
      exact (h3 j r cs[j] hj (by simp [Value.cells, hlt])).2
    · exact (h3 j r u hr (by simpa [Value.cells] using hu)).1
  · have one1 : ∀ {t}, rs.map R.ty = [t] → ∃ r, rs = [r] := fun h => List.length_eq_one_iff.1 (by simpa using congrArg List.length h)
    have hone : ∃ r, rs = [r] := by
      unfold flatT at hf
      split at hf
      · cases hf; exact one1 h1
      · cases hf; exact one1 h1
      · cases hf; exact one1 h1
      · simp only [Option.bind_eq_some_iff] at hf
        obtain ⟨t, _, us, _, hf⟩ := hf
        split at hf
        · cases hf; exact one1 h1
        · exact nomatch hf
      · rename_i fs hu; exact (hs ⟨fs, hu⟩).elim
      · exact nomatch hf
    obtain ⟨r, rfl⟩ := hone
    have hcells : v.cells.toList = [v] := by
      have hnag : ∀ cs, v ≠ .agg cs := fun cs e => by
        subst e
        unfold flatT at hf
        split at hf
        · rename_i k hu; obtain ⟨n, e⟩ := okWide_int hu hv; exact nomatch e
        · rename_i hu; obtain ⟨n, e⟩ := okWide_bool hu hv; exact nomatch e
        · rename_i hu; obtain ⟨n, e⟩ := okWide_string hu hv; exact nomatch e
        · rename_i e hu; obtain ⟨a, l, c, e⟩ := okWide_slice hu hv; exact nomatch e
        · rename_i fs hu; exact (hs ⟨fs, hu⟩).elim
        · exact nomatch hf
      cases v <;> first | rfl | exact (hnag _ rfl).elim
    rw [hcells] at h3
    have := h3 0 r v rfl rfl
    exact ⟨.one r, ⟨ts, hf, fun h => (hs h).elim, fun _ => ⟨r, rfl, by simpa using h1, this.2⟩⟩, this.1⟩
theorem args_open {b0 : Nat} : ∀ {Ts : List TypeId} {vs : List Value} {ds : List (DataW H)} {ps : List MemPlace}, DataW.TrodAll enc P w base sp held Ts vs ds ps →
    (∀ (j : Nat) t v, Ts[j]? = some t → vs[j]? = some v → Value.okWide P w .any b0 t v) → (Ts.all fun T => (flatT P tt 8 T).isSome) = true →
    ∃ as, ArgsAre P tt Ts as ∧ as.length = vs.length ∧ ds.length = Ts.length ∧ ∀ (j : Nat) (x : Arg) (u : Value), as[j]? = some x → vs[j]? = some u → RepArg w (fun _ => True) x u
  | [], [], [], _, _, _, _ => ⟨[], trivial, rfl, rfl, fun j x u h => by simp at h⟩
  | T :: Ts, v :: vs, d :: ds, ps, ⟨p, q, h1, h2, _⟩, hv, hf => by
    simp only [List.all_cons, Bool.and_eq_true] at hf
    obtain ⟨ts, hts⟩ := Option.isSome_iff_exists.1 hf.1
    obtain ⟨a, g1, g2⟩ := arg_open h1 (hv 0 T v rfl rfl) hts
    obtain ⟨as, g3, g4, g5, g6⟩ := args_open h2 (fun j t v ht hw => hv (j + 1) t v (by simpa using ht) (by simpa using hw)) hf.2
    refine ⟨a :: as, ⟨g1, g3⟩, by simp [g4], by simp [g5], fun j x u hx hu => ?_⟩
    cases j with
    | zero => simp at hx hu; subst hx hu; exact g2
    | succ j => exact g6 j x u (by simpa using hx) (by simpa using hu)
  | [], _ :: _, _, _, h, _, _ => nomatch h
  | [], [], _ :: _, _, h, _, _ => nomatch h
  | _ :: _, [], _, _, h, _, _ => nomatch h
  | _ :: _, _ :: _, [], _, h, _, _ => nomatch h
variable {w' : World}
theorem kept_of (hg : Grown w w') (hc : ∀ (p : Cell) x, w.at? p = some x → w'.at? p = some x ∧ w'.ice? p = w.ice? p) (may : MemPlace → Prop) : w.keptBut w' may := by
  obtain ⟨h1, h2, h3⟩ := hg
  refine ⟨h1, h2, fun i hi => ?_⟩
  have := h3 i hi
  split at this
  · rename_i c t fr c' t' fr' e1 e2
    obtain ⟨q1, q2, q3⟩ := this
    rw [e1, e2]
    refine ⟨q1, ?_, q3, fun j _ => ?_⟩
    · rcases q2 with q2 | q2
      · exact q2
      · have h0 : w.at? (i, 0) = some c[0] := by simp [World.at?, World.cell?, e1, q2]
        have := (hc _ _ h0).2
        simp only [World.ice?, e1, e2, Prod.mk.injEq] at this
        exact Prod.ext this.1 this.2.1
    · by_cases hj : j < c.size
      · have : w.at? (i, j) = some c[j] := by simp [World.at?, World.cell?, e1, hj]
        have := (hc _ _ this).1
        simp only [World.at?, World.cell?, e2, Option.isSome_none, Bool.false_eq_true, if_false] at this
        rw [this, Array.getElem?_eq_getElem hj]
      · rw [Array.getElem?_eq_none (by omega), Array.getElem?_eq_none (by omega)]
  · rename_i x y h4
    rw [this]
    split
    · rename_i e1 e2
      rw [e1] at e2; cases e2
      exact ⟨rfl, rfl, rfl, fun _ _ => rfl⟩
    · rename_i e1 e2
      rw [e1] at e2; cases e2
      exact .inr ⟨rfl, rfl⟩
    · rfl
theorem frozen_of {may : MemPlace → Prop} (h : w.keptBut w' may) {a : Addr} (ha : a.block < w.heap.size) : w'.frozen? a = w.frozen? a := by
  have := h.2.2 a.block ha
  unfold World.frozen?
  split at this
  · rename_i e1 e2
    obtain ⟨_, q2, _⟩ := this
    rw [e1, e2, q2]
  · rename_i e1 e2
    rw [e1, e2]
  · rw [this]
theorem same_of (hg : Grown w w') (hc : ∀ (p : Cell) x, w.at? p = some x → w'.at? p = some x ∧ w'.ice? p = w.ice? p) {p : MemPlace} (hp : p.block < w.heap.size) : w.sameAt w' p := by
  obtain ⟨_, _, h3⟩ := kept_of hg hc fun _ => False
  cases p with
  | cell b o =>
    have := h3 b hp
    show w'.cell? ⟨b, o, none⟩ = w.cell? ⟨b, o, none⟩
    split at this
    · rename_i c t fr c' t' fr' e1 e2
      obtain ⟨q1, q2, q3, q4⟩ := this
      simp only [World.cell?, e1, e2, Option.isSome_none, Bool.false_eq_true, if_false]
      exact q4 o (fun h => h)
    · rename_i es ck es' ck' e1 e2
      simp [World.cell?, e1, e2]
    · simp only [World.cell?, this]
  | map b =>
    have := h3 b hp
    show w'.heap[b]? = w.heap[b]?
    split at this
    · rename_i c t fr c' t' fr' e1 e2
      obtain ⟨rfl, rfl, q3, q4⟩ := this
      rw [e1, e2]
      have : c' = c := Array.ext_getElem? fun j => q4 j (fun h => h)
      rw [this]
    · rename_i es ck es' ck' e1 e2
      rcases this with h | ⟨rfl, rfl⟩
      · exact h.elim
      · rw [e1, e2]
    · exact this
theorem trodAll_stays (hl : laidOutB P = true) : ∀ {Ts : List TypeId} {vs : List Value} {ds : List (DataW H)} {ps : List MemPlace}, (∀ t ∈ Ts, P.readableRec t = true ∧ t < P.types.size) →
    DataW.TrodAll enc P w 0 (fun _ => true) true Ts vs ds ps → (∀ p ∈ ps, w.sameAt w' p) → (∀ p ∈ ps, sp p.block = true) → DataW.TrodAll enc P w' 0 sp true Ts vs ds ps
  | [], [], [], _, _, h, _, _ => h
  | T :: Ts, v :: vs, d :: ds, ps, hT, ⟨p, q, h1, h2, e⟩, hs, hp =>
    ⟨p, q, WideElems.Trod_stays hl (hT T (by simp)).1 (hT T (by simp)).2 h1 (fun x hx => hs x (by rw [e]; exact List.mem_append_left _ hx)) (fun x hx => hp x (by rw [e]; exact List.mem_append_left _ hx)),
      trodAll_stays hl (fun t ht => hT t (by simp [ht])) h2 (fun x hx => hs x (by rw [e]; exact List.mem_append_right _ hx)) (fun x hx => hp x (by rw [e]; exact List.mem_append_right _ hx)), e⟩
  | [], _ :: _, _, _, _, h, _, _ => nomatch h
  | [], [], _ :: _, _, _, h, _, _ => nomatch h
  | _ :: _, [], _, _, _, h, _, _ => nomatch h
  | _ :: _, _ :: _, [], _, _, h, _, _ => nomatch h
end
theorem post_same {H : Type} {enc : TypeId × Value → H} {P : Program} {f : Func} {s : ChangeSpec} {apart fresh handsOn again : Bool} {W W' : World} {args : Array Value} {v : Value} {ds gs : List (DataW H)} {before pa pv : List MemPlace}
    (hW : DataW.Whole enc P f.params.toList s.vars apart W args.toList ds gs before)
    (hres : ∀ (b : Nat) (sp : Nat → Bool) (hd : Bool), DataW.TrodAll enc P W' b sp hd f.resultTypes.toList (v.resultList f.resultTypes.size) (s.fn H (ds ++ gs)).results [])
    (hargs : ∀ sp : Nat → Bool, (∀ p ∈ before, sp p.block = true) → DataW.TrodAll enc P W' 0 sp true f.params.toList args.toList (s.fn H (ds ++ gs)).args pa)
    (hvars : ∀ sp : Nat → Bool, (∀ p ∈ before, sp p.block = true) → DataW.TrodVars enc P W' sp s.vars (s.fn H (ds ++ gs)).vars pv)
    (hps : before = pa ++ pv) (hk : W.keptBut W' (· ∈ before)) (hfz : ∀ b off, MemPlace.cell b off ∈ before → W'.frozen? ⟨b, off, none⟩ = W.frozen? ⟨b, off, none⟩)
    (hok : ∀ (j : Nat) (t : TypeId) (r : Value), f.resultTypes[j]? = some t → (v.resultList f.resultTypes.size)[j]? = some r → Value.okWide P W' .any 0 t r) : s.post enc P f apart fresh handsOn again W args v W' := by
  have hin : ∀ p ∈ before, (decide (p.block < W.heap.size)) = true := fun p hp => decide_eq_true (hW.lt p hp)
  subst hps
  refine ⟨ds, gs, _, [], pa, pv, hW, hres _ _ _, hargs (fun b => decide (b < W.heap.size)) hin, hvars _ hin, World.keptBut_mono (fun p hp => ⟨hp, .inr (List.mem_append.1 hp)⟩) hk, fun _ => ?_⟩
  obtain ⟨_, _, _, _, _, hz, hn⟩ := id hW
  refine ⟨hok, _, _, ([] ++ pa) ++ pv, ⟨[] ++ pa, pv, trodAll_append (hargs _ fun _ _ => rfl) (hres _ _ _), hvars _ fun _ _ => rfl, rfl, fun b off hp => ?_, fun ha => ?_⟩, fun p hp _ => ?_⟩
  · have hp : MemPlace.cell b off ∈ pa ++ pv := by simpa using hp
    rw [hfz b off hp]; exact hz b off hp
  · simpa using hn ha
  · simpa using hp
/-- A LAW: what it is called with is typed; it answers true; nothing has turned. -/
theorem law_lifted {C : Checked} {os : Os} {g : FuncId} {fn : Func} {s : ChangeSpec} {tt : TT} {H : Type} {enc : TypeId × Value → H} {conds : List PathCond} {apart fresh handsOn again : Bool}
    (own : ownKnob C.prog.godebug = none) (started : os.Started) (noInit : C.prog.inits.idxOf? g = none) (hfn : C.prog.funcs[g]? = some fn)
    (witness : ∃ (w : World) (tape : Tape) (i : Input), w.os = os ∧ (w.forCall tape i).Shaped C.prog ∧ i.vars = [] ∧ Input.okWide C.prog (w.forCall tape i) .any w.heap.size g i ∧
      s.pre6 enc C.prog fn conds apart (w.forCall tape i).memory i.args ∧ Assume.holds {} C.prog (lone (Frame.enter C.prog g i.args .normal) [] (w.forCall tape i)))
    (hlaid : laidOutB C.prog = true) (hread : ∀ t ∈ fn.params.toList, C.prog.readableRec t = true ∧ t < C.prog.types.size) (hflat : (fn.params.toList.all fun T => (flatT C.prog tt 8 T).isSome) = true)
    (hvars : s.vars = []) (hspec : ∀ ds : List (DataW H), ds.length = fn.params.toList.length → s.fn H (ds ++ []) = { results := [.lit (.bool true)], args := ds, vars := [] })
    {bt : TypeId} (hres : fn.resultTypes = #[bt]) (hbt : C.prog.underlying bt = some .bool)
    (hcon : ∀ as : List Arg, ArgsAre C.prog tt fn.params.toList as → PureCalls C.prog g as (.b true, [])) :
    ReturnsInHanded {} C os g .any (s.pre6 enc C.prog fn conds apart) (s.post enc C.prog fn apart fresh handsOn again) := by
  refine returnsInHanded_of_change (C := C) own started noInit hfn witness ?_
  intro W base args ds gs before hval hW _ _
  have hW' := hW
  obtain ⟨p, q, hA, hV, rfl, hfz, _⟩ := hW
  rw [hvars] at hV
  obtain ⟨rfl, rfl⟩ := trodVars_none hV
  obtain ⟨as, g1, g2, g3, g4⟩ := args_open hA (fun j t v ht hv => hval j t v (by simpa using ht) (by simpa using hv)) hflat
  obtain ⟨_, hc⟩ := hcon as g1
  refine (hc W args (fun _ => True) (by simpa using g2) (fun j x u hx hu => g4 j x u hx (by simpa using hu))).mono fun e W' ⟨u, pl, he, _, hu, _, hkeep, _, hgr⟩ => ?_
  have hu : u = .bool true := by
    cases hu with
    | r _ _ _ h => cases h; rfl
  subst hu he
  have hc' : ∀ (p : Cell) x, W.at? p = some x → W'.at? p = some x ∧ W'.ice? p = W.ice? p := hkeep
  have hlt : ∀ x ∈ p, x.block < W.heap.size := fun x hx => hW'.lt x (by simpa using hx)
  refine ⟨_, rfl, post_same (pa := p) (pv := []) hW' (fun _ _ _ => ?_) (fun sp hsp => ?_) (fun _ _ => ?_) rfl (kept_of hgr hc' _) (fun b off hp => frozen_of (kept_of hgr hc' fun _ => False) (hW'.lt _ hp)) (ok_one hres rfl (okWide_bool_mk hbt true))⟩
  · rw [hspec ds g3, hres]
    exact trodAll_mk1 (shut_bool hbt true)
  · rw [hspec ds g3]
    exact trodAll_stays hlaid hread hA (fun x hx => same_of hgr hc' (hlt x hx)) (fun x hx => hsp x (by simpa using hx))
  · rw [hspec ds g3, hvars]
    exact rfl
end Go.Proofs.Ev

namespace Go.Proofs.Ev
instance plainTok : Tok := ⟨fun _ => .slice none 0 0, fun _ => rfl, rfl⟩
def okI (n : Int) : Prop := -9223372036854775808 ≤ n ∧ n ≤ 9223372036854775807
theorem wrapI {n : Int} (h1 : -9223372036854775808 ≤ n) (h2 : n ≤ 9223372036854775807) : IntKind.i64.wrap n = n := Go.IntWalk.i64_in n ⟨h1, h2⟩
theorem wrapU8 {n : Int} (h1 : 0 ≤ n) (h2 : n ≤ 255) : IntKind.u8.wrap n = n := Go.IntWalk.u8_in n ⟨h1, h2⟩
theorem wrapNat1 {n m : Nat} (h : n < m) (hm : m ≤ 9223372036854775807) : IntKind.i64.wrap ((n : Int) + 1) = ((n + 1 : Nat) : Int) := by
  rw [wrapI (by omega) (by omega)]; omega
@[simp] theorem idx_nat {α : Type} (xs : List α) (i : Nat) : idx xs (i : Int) = xs[i]? := by
  have : (0 : Int) ≤ (i : Int) := by omega
  simp [idx, this]
theorem idx_zero {α : Type} (xs : List α) : idx xs 0 = xs[0]? := rfl
theorem idx_one {α : Type} (xs : List α) : idx xs 1 = xs[1]? := rfl
theorem idx_pos {α : Type} (xs : List α) {i : Int} (h : 0 ≤ i) : idx xs i = xs[i.toNat]? := by simp [idx, h]
section
variable {R V : Type} {g : V → (V → Option R) → Option R}
theorem iter_succ (k : Nat) (v : V) : iter g (k + 1) v = g v (iter g k) := rfl
/-- A loop that goes through known states, with what comes of each. -/
theorem iter_rec {st : Nat → V} {n : Nat} {P : Nat → Option R} (h : ∀ i, i < n → ∀ next : V → Option R, next (st (i + 1)) = P (i + 1) → g (st i) next = P i)
    (hn : ∀ next, g (st n) next = P n) : ∀ (k i : Nat), i ≤ n → n - i < k → iter g k (st i) = P i
  | 0, i, hi, hk => by omega
  | k + 1, i, hi, hk => by
    rw [iter_succ]
    by_cases c : i < n
    · exact h i c _ (iter_rec h hn k (i + 1) (by omega) (by omega))
    · have : i = n := by omega
      subst this; exact hn _
/-- .. whose end is one. -/
theorem iter_run {st : Nat → V} {n : Nat} {r : Option R} (h : ∀ i, i < n → ∀ next : V → Option R, g (st i) next = next (st (i + 1))) (hn : ∀ next, g (st n) next = r) {k : Nat} (hk : n < k) :
    iter g k (st 0) = r := iter_rec (P := fun _ => r) (fun i hi next e => (h i hi next).trans e) hn k 0 (Nat.zero_le _) (by omega)
/-- .. from a state on, by a measure. -/
theorem iter_ind {Inv : V → Prop} {m : V → Nat} {P : V → Option R} (h : ∀ v, Inv v → ∀ next : V → Option R, (∀ u, Inv u → m u < m v → next u = P u) → g v next = P v) :
    ∀ (k : Nat) (v : V), Inv v → m v < k → iter g k v = P v
  | 0, _, _, hk => by omega
  | k + 1, v, hv, hk => by
    rw [iter_succ]
    exact h v hv _ fun u hu hm => iter_ind h k u hu (by omega)
end
theorem cond_dec {α : Type} {p : Prop} [Decidable p] (x y : α) : cond (decide p) x y = if p then x else y := by by_cases h : p <;> simp [h]
theorem cond_bne {α : Type} (a b : Int) (x y : α) : cond (a != b) x y = if a = b then y else x := by
  by_cases h : a = b
  · simp [h]
  · have : (a != b) = true := by simpa using h
    rw [this, if_neg h]; rfl
theorem cond_beq {α : Type} (a b : Int) (x y : α) : cond (a == b) x y = if a = b then x else y := by
  by_cases h : a = b
  · simp [h]
  · have : (a == b) = false := by simpa using h
    rw [this, if_neg h]; rfl
theorem cond_not {α : Type} (b : Bool) (x y : α) : cond (!b) x y = cond b y x := by cases b <;> rfl
theorem beq_dec (a b : Int) : (a == b) = decide (a = b) := by
  by_cases h : a = b
  · simp [h]
  · rw [decide_eq_false h]; simpa using h
theorem bne_dec (a b : Int) : (a != b) = decide (a ≠ b) := by
  by_cases h : a = b
  · simp [h]
  · rw [decide_eq_true h]; simpa using h
theorem cond_if {α : Type} (p : Prop) [Decidable p] (u v : Bool) (x y : α) : cond (if p then u else v) x y = if p then cond u x y else cond v x y := by split <;> rfl
theorem getD_get {α : Type} {xs : List α} {i : Nat} (h : i < xs.length) : xs[i]? = some xs[i] := List.getElem?_eq_getElem h
theorem drop_step {α : Type} {xs : List α} {i : Nat} (h : i < xs.length) : xs.drop i = xs[i] :: xs.drop (i + 1) := (List.getElem_cons_drop h).symm
theorem take_step {α : Type} {xs : List α} {i : Nat} (h : i < xs.length) : xs.take (i + 1) = xs.take i ++ [xs[i]] := (List.take_append_getElem h).symm
/-- A list that is filled place by place. -/
theorem set_fill {α : Type} (xs : List α) (z : α) {i : Nat} (h : i < xs.length) : (xs.take i ++ List.replicate (xs.length - i) z).set i xs[i] = xs.take (i + 1) ++ List.replicate (xs.length - (i + 1)) z := by
  rw [List.set_append_right _ _ (by simp; omega)]
  have e : i - (xs.take i).length = 0 := by simp; omega
  rw [e, show xs.length - i = (xs.length - (i + 1)) + 1 from by omega, List.replicate_succ, List.set_cons_zero, take_step h, List.append_assoc]
  rfl
/-- How a loop copies a list. -/
theorem copy_loop {α R : Type} (xs : List α) (z : α) {g : Int × List α → (Int × List α → Option R) → Option R} {fin : List α → Option R}
    (h : ∀ (i : Nat) (ys : List α) (hi : i < xs.length) (next : Int × List α → Option R), ys.length = xs.length → g ((i : Int), ys) next = next (((i + 1 : Nat) : Int), ys.set i xs[i]))
    (hn : ∀ ys next, g ((xs.length : Int), ys) next = fin ys) {k : Nat} (hk : xs.length < k) : iter g k (0, List.replicate xs.length z) = fin xs := by
  have := iter_run (g := g) (st := fun i => ((i : Int), xs.take i ++ List.replicate (xs.length - i) z)) (n := xs.length) (r := fin xs) (fun i hi next => by
    rw [h i _ hi next (by simp; omega), set_fill xs z hi]) (fun next => by
    simp only [List.take_length, Nat.sub_self, List.replicate_zero, List.append_nil]; exact hn _ _) hk
  simpa using this
/-- How a loop compares two lists. -/
theorem same_loop {α R : Type} [DecidableEq α] (xs ys : List α) (hl : xs.length = ys.length) {g : Int → (Int → Option R) → Option R} {yes no : Option R}
    (h : ∀ (i : Nat) (hi : i < xs.length) (hi' : i < ys.length) (next : Int → Option R), g (i : Int) next = if xs[i] = ys[i] then next ((i + 1 : Nat) : Int) else no)
    (hn : ∀ next, g (xs.length : Int) next = yes) {k : Nat} (hk : xs.length < k) : iter g k 0 = if xs = ys then yes else no := by
  have := iter_rec (g := g) (st := fun i => (i : Int)) (n := xs.length) (P := fun i => if xs.drop i = ys.drop i then yes else no) (fun i hi next e => by
    have hi' : i < ys.length := by omega
    rw [h i hi hi' next]
    have he : (xs.drop i = ys.drop i) ↔ (xs[i] = ys[i] ∧ xs.drop (i + 1) = ys.drop (i + 1)) := by rw [drop_step hi, drop_step hi', List.cons.injEq]
    by_cases c : xs[i] = ys[i]
    · rw [if_pos c, e]; simp only [he, c, true_and]
    · rw [if_neg c, if_neg (fun q => c (he.1 q).1)]) (fun next => by
    rw [List.drop_length, List.drop_of_length_le (by omega)]; simp; exact hn next) k 0 (Nat.zero_le _) (by omega)
  simpa using this
end Go.Proofs.Ev

set_option linter.unusedVariables false
namespace Go.Proofs.Ev
theorem bind_some' {α β : Type} (a : α) (f : α → Option β) : (some a).bind f = f a := rfl
/-- A loop that looks for the first element that fails. -/
theorem all_loop {α R : Type} (xs : List α) (p : α → Bool) {g : Int → (Int → Option R) → Option R} {yes no : Option R}
    (h : ∀ (i : Nat) (hi : i < xs.length) (next : Int → Option R), g (i : Int) next = cond (p xs[i]) (next ((i + 1 : Nat) : Int)) no)
    (hn : ∀ next, g (xs.length : Int) next = yes) {k : Nat} (hk : xs.length < k) : iter g k 0 = cond (xs.all p) yes no := by
  have := iter_rec (g := g) (st := fun i => (i : Int)) (n := xs.length) (P := fun i => cond ((xs.drop i).all p) yes no) (fun i hi next e => by
    rw [h i hi next, drop_step hi, List.all_cons]
    cases hp : p xs[i]
    · rfl
    · simp only [cond_true, Bool.true_and]; exact e) (fun next => by rw [List.drop_length]; exact hn next) k 0 (Nat.zero_le _) (by omega)
  simpa using this
/-- .. its place. -/
theorem find_loop {α R : Type} (xs : List α) (p : α → Bool) {g : Int → (Int → Option R) → Option R} {yes : Option R} {no : Int → Option R}
    (h : ∀ (i : Nat) (hi : i < xs.length) (next : Int → Option R), g (i : Int) next = cond (p xs[i]) (no (i : Int)) (next ((i + 1 : Nat) : Int)))
    (hn : ∀ next, g (xs.length : Int) next = yes) {k : Nat} (hk : xs.length < k) : iter g k 0 = (xs.findIdx? p).elim yes fun i => no (i : Int) := by
  have := iter_rec (g := g) (st := fun i => (i : Int)) (n := xs.length) (P := fun i => ((xs.drop i).findIdx? p).elim yes fun j => no ((i + j : Nat) : Int)) (fun i hi next e => by
    rw [h i hi next, drop_step hi, List.findIdx?_cons]
    cases hp : p xs[i]
    · simp only [cond_false, Bool.false_eq_true, if_false]
      rw [e]
      cases (xs.drop (i + 1)).findIdx? p with
      | none => rfl
      | some j => simp only [Option.map_some, Option.elim_some]; congr 2; omega
    · simp) (fun next => by rw [List.drop_length]; simpa using hn next) k 0 (Nat.zero_le _) (by omega)
  simpa using this
/-- A loop that appends what comes of each element. -/
theorem app_loop {α β R : Type} (xs : List α) (f : α → β) {g : Int × List β → (Int × List β → Option R) → Option R} {fin : List β → Option R}
    (h : ∀ (i : Nat) (ys : List β) (hi : i < xs.length) (next : Int × List β → Option R), ys.length = i → g ((i : Int), ys) next = next (((i + 1 : Nat) : Int), ys ++ [f xs[i]]))
    (hn : ∀ ys next, g ((xs.length : Int), ys) next = fin ys) {k : Nat} (hk : xs.length < k) : iter g k (0, []) = fin (xs.map f) := by
  have := iter_run (g := g) (st := fun i => ((i : Int), (xs.take i).map f)) (n := xs.length) (r := fin (xs.map f)) (fun i hi next => by
    rw [h i _ hi next (by simp; omega), take_step hi, List.map_append]; rfl) (fun next => by rw [List.take_length]; exact hn _ _) hk
  simpa using this
/-- A loop that goes through a list with a state. -/
theorem fold_loop {α S R : Type} (xs : List α) (f : S → α → S) {g : S × Int → (S × Int → Option R) → Option R} {fin : S → Option R} (s0 : S)
    (h : ∀ (i : Nat) (s : S) (hi : i < xs.length) (next : S × Int → Option R), s = (xs.take i).foldl f s0 → g (s, (i : Int)) next = next (f s xs[i], ((i + 1 : Nat) : Int)))
    (hn : ∀ next, g (xs.foldl f s0, (xs.length : Int)) next = fin (xs.foldl f s0)) {k : Nat} (hk : xs.length < k) : iter g k (s0, 0) = fin (xs.foldl f s0) := by
  have := iter_run (g := g) (st := fun i => ((xs.take i).foldl f s0, (i : Int))) (n := xs.length) (r := fin (xs.foldl f s0)) (fun i hi next => by
    rw [h i _ hi next rfl, take_step hi, List.foldl_append]; rfl) (fun next => by
    simp only [List.take_length]; exact hn next) hk
  simpa using this
theorem mul_bd {a b A B : Int} (h1 : 0 ≤ a) (h2 : a ≤ A) (h3 : 0 ≤ b) (h4 : b ≤ B) : 0 ≤ a * b ∧ a * b ≤ A * B :=
  ⟨Int.mul_nonneg h1 h3, Int.mul_le_mul h2 h4 h3 (by omega)⟩
theorem set_map {α : Type} (xs : List α) (f : α → α) (z : α) {i : Nat} (h : i < xs.length) :
    ((xs.take i).map f ++ List.replicate (xs.length - i) z).set i (f xs[i]) = (xs.take (i + 1)).map f ++ List.replicate (xs.length - (i + 1)) z := by
  rw [List.set_append_right _ _ (by simp; omega)]
  have e : i - ((xs.take i).map f).length = 0 := by simp; omega
  rw [e, show xs.length - i = (xs.length - (i + 1)) + 1 from by omega, List.replicate_succ, List.set_cons_zero, take_step h, List.map_append, List.append_assoc]
  rfl
/-- How a list of what is copied is made, element by element. -/
theorem copy_loopF {α R : Type} (xs : List α) (z : α) {g : Int × List α → (Int × List α → Option R) → Option R} {fin : List α → Option R}
    (h : ∀ (i : Nat) (ys : List α) (hi : i < xs.length) (next : Int × List α → Option R), ys.length = xs.length → g ((i : Int), ys) next = next (((i + 1 : Nat) : Int), ys.set i xs[i]))
    (hn : ∀ ys next, g ((xs.length : Int), ys) next = fin ys) {k : Nat} (hk : xs.length < k) : iter g k (0, List.replicate xs.length z) = fin xs := copy_loop xs z h hn hk
theorem iter_ex {V R : Type} {g : V → (V → Option R) → Option R} {Inv : V → Prop} {m : V → Nat} {Q : R → Prop} (h : ∀ v, Inv v → ∀ next : V → Option R, (∀ u, Inv u → m u < m v → ∃ r, next u = some r ∧ Q r) → ∃ r, g v next = some r ∧ Q r) :
    ∀ (k : Nat) (v : V), Inv v → m v < k → ∃ r, iter g k v = some r ∧ Q r
  | 0, _, _, hk => by omega
  | k + 1, v, hv, hk => by
    rw [iter_succ]
    exact h v hv _ fun u hu hm => iter_ex h k u hu (by omega)
/-- What the counting of a size says: an answer below 0, or what is left, and then all is bounded. -/
def Sized (r n : Int) (W : Prop) : Prop := r < 0 ∨ (0 ≤ r ∧ r ≤ n ∧ W)
theorem sz_loop {α : Type} {xs : List α} {W : α → Int → Prop} (mono : ∀ x a b, a ≤ b → W x a → W x b) {f : α → Int → Option Int}
    (hs : ∀ x ∈ xs, ∀ n, 0 ≤ n → n ≤ 1048576 → ∃ r, f x n = some r ∧ Sized r n (W x n)) {g : Int × Int → (Int × Int → Option Int) → Option Int}
    (h : ∀ (i : Nat) (left : Int) (hi : i < xs.length) (next : Int × Int → Option Int), g (left, (i : Int)) next = (f xs[i] left).bind fun r => cond (decide (r < 0)) (some (-1)) (next (r, ((i + 1 : Nat) : Int))))
    (hn : ∀ left next, g (left, (xs.length : Int)) next = some left) {k : Nat} (hk : xs.length < k) {n : Int} (h1 : 0 ≤ n) (h2 : n ≤ 1048576) :
    ∃ r, iter g k (n, 0) = some r ∧ Sized r n (∀ x ∈ xs, W x n) := by
  refine iter_ex (Inv := fun v => ∃ i : Nat, v.2 = (i : Int) ∧ i ≤ xs.length ∧ 0 ≤ v.1 ∧ v.1 ≤ n ∧ ∀ x ∈ xs.take i, W x n) (m := fun v => xs.length - v.2.toNat) (fun v hv next hnext => ?_) k (n, 0) ⟨0, rfl, Nat.zero_le _, h1, Int.le_refl _, fun x hx => by simp at hx⟩ (by simpa using hk)
  obtain ⟨left, j⟩ := v
  obtain ⟨i, rfl, hi, a1, a2, a3⟩ := hv
  simp only at a1 a2
  by_cases c : i < xs.length
  · rw [h i left c next]
    obtain ⟨r, q1, q2⟩ := hs xs[i] (List.getElem_mem c) left a1 (by omega)
    rw [q1, Option.bind_some, cond_dec]
    rcases q2 with q2 | ⟨q2, q3, q4⟩
    · rw [if_pos q2]; exact ⟨-1, rfl, .inl (by omega)⟩
    · rw [if_neg (by omega)]
      refine hnext _ ⟨i + 1, rfl, by omega, q2, by simp only; omega, fun x hx => ?_⟩ (by simp only [Int.toNat_natCast]; omega)
      rw [take_step c, List.mem_append] at hx
      rcases hx with hx | hx
      · exact a3 x hx
      · simp at hx; subst hx; exact mono _ _ _ a2 q4
  · have : i = xs.length := by omega
    subst this
    rw [hn]
    exact ⟨left, rfl, .inr ⟨a1, a2, fun x hx => a3 x (by rw [List.take_length]; exact hx)⟩⟩
end Go.Proofs.Ev

set_option linter.unusedVariables false
namespace Go.Proofs.Ev
theorem maxN_eq : maxN = 274877906944 := rfl
/-! ### sizes -/
def Sz (r : Option Int) (n : Int) (t : Nat) : Prop := r = some (if n < (t : Int) then -1 else n - t)
theorem sz_seq {o : Option Int} {t u : Nat} {n : Int} {G : Int → Option Int} (hn : 0 ≤ n) (h : Sz o n t) (hG : (t : Int) ≤ n → Sz (G (n - t)) (n - t) u) :
    Sz (o.bind fun r => cond (decide (r < 0)) (some (-1)) (G r)) n (t + u) := by
  unfold Sz at *
  subst h
  rw [bind_some', cond_dec]
  by_cases c : n < (t : Int)
  · rw [if_pos c, if_pos (by omega), if_pos (by omega)]
  · rw [if_neg c, if_neg (by omega), hG (by omega)]
    congr 1
    split <;> split <;> omega
theorem sz_end {n : Int} (hn : 0 ≤ n) : Sz (some n) n 0 := by unfold Sz; rw [if_neg (by omega)]; simp
def totL {α : Type} (t : α → Nat) (xs : List α) : Nat := xs.length + (xs.map t).sum
theorem sum_mem {α : Type} (t : α → Nat) : ∀ {xs : List α} {x : α}, x ∈ xs → t x ≤ (xs.map t).sum
  | y :: xs, x, h => by
    simp only [List.map_cons, List.sum_cons]
    rcases List.mem_cons.1 h with rfl | h
    · omega
    · have := sum_mem t h; omega
theorem totL_mem {α : Type} (t : α → Nat) {xs : List α} {x : α} (h : x ∈ xs) : t x + 1 ≤ totL t xs := by
  have := sum_mem t h
  have := List.length_pos_of_mem h
  unfold totL; omega
theorem totL_len {α : Type} (t : α → Nat) (xs : List α) : xs.length ≤ totL t xs := by unfold totL; omega
theorem totL_zero {α : Type} (xs : List α) : totL (fun _ => 0) xs = xs.length := by
  unfold totL
  induction xs with
  | nil => rfl
  | cons x xs ih => simp only [List.map_cons, List.sum_cons, List.length_cons] at *; omega
theorem totL_cons {α : Type} (t : α → Nat) (x : α) (xs : List α) : totL t (x :: xs) = t x + 1 + totL t xs := by simp [totL]; omega
theorem totL_append {α : Type} (t : α → Nat) (xs ys : List α) : totL t (xs ++ ys) = totL t xs + totL t ys := by simp [totL]; omega
theorem sz_list {α : Type} {t : α → Nat} {f : α → Int → Option Int} {xs : List α} {g : Int × Int → (Int × Int → Option Int) → Option Int} {k : Nat} {n : Int} (hx : xs.length ≤ 9223372036854775807)
    (hs : ∀ x ∈ xs, ∀ n, 0 ≤ n → n ≤ 1048576 → Sz (f x n) n (t x))
    (h : ∀ (i : Nat) (left : Int) (hi : i < xs.length) (next : Int × Int → Option Int), g (left, (i : Int)) next = (f xs[i] left).bind fun r => cond (decide (r < 0)) (some (-1)) (next (r, IntKind.i64.wrap ((i : Int) + 1))))
    (hn : ∀ left next, g (left, (xs.length : Int)) next = some left) (hk : xs.length < k) (h1 : 0 ≤ n) (h2 : n ≤ 1048576) :
    Sz (cond (decide (IntKind.i64.wrap (n - (xs.length : Int)) < (0 : Int))) (some (-1)) (iter g k (IntKind.i64.wrap (n - (xs.length : Int)), (0 : Int)))) n (totL t xs) := by
  unfold Sz totL
  rw [wrapI (by omega) (by omega), cond_dec]
  by_cases c : n - xs.length < 0
  · rw [if_pos c, if_pos (by omega)]
  rw [if_neg c]
  have := iter_ind (g := g) (Inv := fun v => ∃ i : Nat, v.2 = (i : Int) ∧ i ≤ xs.length ∧ 0 ≤ v.1 ∧ v.1 ≤ 1048576) (m := fun v => xs.length - v.2.toNat)
    (P := fun v => some (if v.1 < (((xs.drop v.2.toNat).map t).sum : Int) then -1 else v.1 - ((xs.drop v.2.toNat).map t).sum)) (fun v hv next hnext => by
      obtain ⟨left, j⟩ := v
      obtain ⟨i, rfl, hi, a1, a2⟩ := hv
      simp only at a1 a2 ⊢
      simp only [Int.toNat_natCast] at hnext ⊢
      by_cases c : i < xs.length
      · rw [h i left c next, hs _ (List.getElem_mem c) left a1 a2, bind_some', cond_dec, drop_step c, List.map_cons, List.sum_cons]
        by_cases c2 : left < (t xs[i] : Int)
        · rw [if_pos c2, if_pos (by omega), if_pos (by omega)]
        · rw [if_neg c2, if_neg (by omega), wrapNat1 c hx, hnext _ ⟨i + 1, rfl, by omega, by simp only; omega, by simp only; omega⟩ (by simp only [Int.toNat_natCast]; omega)]
          simp only [Int.toNat_natCast]
          congr 1
          split <;> split <;> omega
      · have : i = xs.length := by omega
        subst this
        rw [hn]
        simp only [List.drop_length, List.map_nil, List.sum_nil]
        rw [if_neg (by omega)]; simp) k (n - xs.length, 0) ⟨0, rfl, by omega, by simp only; omega, by simp only; omega⟩ (by simp; omega)
  rw [this]
  simp only [Int.toNat_zero, List.drop_zero]
  congr 1
  split <;> split <;> omega
/-! ### copies -/
theorem to_list {α : Type} (xs : List α) (z : α) {f : α → Option α} {g : Int × List α → (Int × List α → Option (List α)) → Option (List α)} {k : Nat} (hl : xs.length ≤ maxN) (hf : ∀ x ∈ xs, f x = some x)
    (h : ∀ (i : Nat) (ys : List α) (hi : i < xs.length) (next : Int × List α → Option (List α)), g ((i : Int), ys) next = (f xs[i]).bind fun r => cond (decide (0 ≤ (i : Int) ∧ (i : Int) < (ys.length : Int))) (next (IntKind.i64.wrap ((i : Int) + 1), ys.set (i : Int).toNat r)) none)
    (hn : ∀ ys next, g ((xs.length : Int), ys) next = some ys) (hk : xs.length < k) :
    cond (decide (0 ≤ (xs.length : Int) ∧ (xs.length : Int) ≤ (xs.length : Int) ∧ (xs.length : Int) ≤ (maxN : Int))) (iter g k ((0 : Int), List.replicate ((xs.length : Int).toNat) z)) none = some xs := by
  rw [maxN_eq] at hl
  rw [cond_dec, if_pos (by rw [maxN_eq]; omega)]
  exact copy_loop xs z (fin := some) (fun i ys hi next hly => by
    rw [h i ys hi next, hf _ (List.getElem_mem hi), bind_some', cond_dec, if_pos (by omega), wrapNat1 hi (by omega), Int.toNat_natCast]) hn hk
/-! ### comparisons -/
theorem eq_i {a b : Int} {G : Option Bool} {Q : Prop} [Decidable Q] (h : G = some (decide Q)) : cond (a != b) (some false) G = some (decide (a = b ∧ Q)) := by
  rw [cond_bne, h]
  by_cases c : a = b <;> simp [c]
theorem eq_b {a b : Bool} {G : Option Bool} {Q : Prop} [Decidable Q] (h : G = some (decide Q)) : cond (!(a == b)) (some false) G = some (decide (a = b ∧ Q)) := by
  rw [h]; cases a <;> cases b <;> simp
theorem eq_o {o : Option Bool} {P : Prop} [Decidable P] {G : Option Bool} {Q : Prop} [Decidable Q] (h1 : o = some (decide P)) (h : G = some (decide Q)) : (o.bind fun r => cond (!r) (some false) G) = some (decide (P ∧ Q)) := by
  rw [h1, h, bind_some']
  by_cases c : P <;> simp [c]
theorem eq_end : (some true) = some (decide True) := rfl
theorem eq_list {α : Type} [DecidableEq α] {xs ys : List α} {f : α → α → Option Bool} {g : Int → (Int → Option Bool) → Option Bool} {k : Nat} (hx : xs.length ≤ 9223372036854775807) (hf : ∀ x ∈ xs, ∀ y, f x y = some (decide (x = y)))
    (h : ∀ (i : Nat) (hi : i < xs.length) (hi' : i < ys.length) (next : Int → Option Bool), g (i : Int) next = (f xs[i] ys[i]).bind fun r => cond (!r) (some false) (next (IntKind.i64.wrap ((i : Int) + 1))))
    (hn : ∀ next, g (xs.length : Int) next = some true) (hk : xs.length < k) : cond ((xs.length : Int) != (ys.length : Int)) (some false) (iter g k (0 : Int)) = some (decide (xs = ys)) := by
  rw [cond_bne]
  by_cases c : xs.length = ys.length
  · rw [if_pos (by omega)]
    rw [same_loop xs ys c (yes := some true) (no := some false) (fun i hi hi' next => by
      rw [h i hi hi' next, hf _ (List.getElem_mem hi), bind_some', wrapNat1 hi hx]
      by_cases e : xs[i] = ys[i] <;> simp [e]) hn hk]
    split <;> simp [*]
  · rw [if_neg (by omega), decide_eq_false (fun e => c (by rw [e]))]
/-! ### marks -/
def bigB : Int := 4611686018427387904
theorem mark_list {α R : Type} {t : α → Nat} {g : Int × Int × List α → (Int × Int × List α → Option R) → Option R} {fin : Int × List α → Option R} {hd : List α → Int × Int → (Int × Int → Option Int) → Option Int} {N : Nat}
    (hg : ∀ (m : Int) (ys : List α) next, ys.length = N → g (m, (ys.length : Int), ys) next = fin (m, ys)) (hh : ∀ (ys : List α) (m : Int) next, ys.length = N → hd ys (m, (ys.length : Int)) next = some m) :
    ∀ (rest pre : List α) (m : Int) (k : Nat), pre.length + rest.length = N → rest.length < k → 0 ≤ m → m + 16 * totL t rest ≤ bigB →
    (∀ x ∈ rest, ∀ m : Int, 0 ≤ m → m + 16 * (t x + 1) ≤ bigB → ∃ r y, m ≤ r ∧ r ≤ m + 16 * (t x + 1) ∧
      (∀ (i : Nat) (ys : List α) next, ys.length = N → i < N → ys[i]? = some x → g (m, (i : Int), ys) next = next (r, (i : Int) + 1, ys.set i y)) ∧
      (∀ (i : Nat) (ys : List α) next, ys.length = N → i < N → ys[i]? = some y → hd ys (m, (i : Int)) next = next (r, (i : Int) + 1))) →
    ∃ r out, out.length = rest.length ∧ iter g k (m, (pre.length : Int), pre ++ rest) = fin (r, pre ++ out) ∧ m ≤ r ∧ r ≤ m + 16 * totL t rest ∧ ∀ k', rest.length < k' → iter (hd (pre ++ out)) k' (m, (pre.length : Int)) = some r
  | [], pre, m, 0, hN, hk, hm, hB, hs => by omega
  | _ :: _, pre, m, 0, hN, hk, hm, hB, hs => by omega
  | [], pre, m, k + 1, hN, hk, hm, hB, hs => by
    refine ⟨m, [], rfl, ?_, Int.le_refl _, by omega, fun k' hk' => ?_⟩
    · rw [iter_succ, List.append_nil]
      exact hg m pre _ (by simpa using hN)
    · cases k' with
      | zero => simp at hk'
      | succ k' =>
        rw [iter_succ, List.append_nil]
        exact hh pre m _ (by simpa using hN)
  | x :: rest, pre, m, k + 1, hN, hk, hm, hB, hs => by
    rw [totL_cons] at hB
    simp only [List.length_cons] at hN hk
    obtain ⟨r1, y, a1, a2, a3, a4⟩ := hs x (by simp) m hm (by omega)
    obtain ⟨r, out, b1, b2, b3, b4, b5⟩ := mark_list hg hh rest (pre ++ [y]) r1 k (by simp; omega) (by omega) (by omega) (by omega) fun z hz => hs z (by simp [hz])
    have e1 : ((pre ++ [y]).length : Int) = (pre.length : Int) + 1 := by simp
    have e2 : ∀ l, (pre ++ [y]) ++ l = pre ++ y :: l := fun l => by simp
    rw [e1] at b2 b5
    rw [e2] at b2
    rw [e2] at b5
    rw [e2] at b2
    refine ⟨r, y :: out, by simp [b1], ?_, by omega, by rw [totL_cons]; omega, fun k' hk' => ?_⟩
    · rw [iter_succ, a3 pre.length _ _ (by simp; omega) (by omega) (by simp), List.set_append_right _ _ (by omega), Nat.sub_self, List.set_cons_zero]
      exact b2
    · cases k' with
      | zero => simp at hk'
      | succ k' =>
        rw [iter_succ, a4 pre.length _ _ (by simp; omega) (by omega) (by simp)]
        exact b5 k' (by simp at hk'; omega)
/-- .. where nothing is held. -/
theorem mark_list0 {α R : Type} {t : α → Nat} {g : Int × Int × List α → (Int × Int × List α → Option R) → Option R} {fin : Int × List α → Option R} {N : Nat}
    (hg : ∀ (m : Int) (ys : List α) next, ys.length = N → g (m, (ys.length : Int), ys) next = fin (m, ys)) :
    ∀ (rest pre : List α) (m : Int) (k : Nat), pre.length + rest.length = N → rest.length < k → 0 ≤ m → m + 16 * totL t rest ≤ bigB →
    (∀ x ∈ rest, ∀ m : Int, 0 ≤ m → m + 16 * (t x + 1) ≤ bigB → ∃ r y, m ≤ r ∧ r ≤ m + 16 * (t x + 1) ∧
      (∀ (i : Nat) (ys : List α) next, ys.length = N → i < N → ys[i]? = some x → g (m, (i : Int), ys) next = next (r, (i : Int) + 1, ys.set i y))) →
    ∃ r out, out.length = rest.length ∧ iter g k (m, (pre.length : Int), pre ++ rest) = fin (r, pre ++ out) ∧ m ≤ r ∧ r ≤ m + 16 * totL t rest
  | [], pre, m, 0, hN, hk, hm, hB, hs => by omega
  | _ :: _, pre, m, 0, hN, hk, hm, hB, hs => by omega
  | [], pre, m, k + 1, hN, hk, hm, hB, hs => by
    refine ⟨m, [], rfl, ?_, Int.le_refl _, by omega⟩
    rw [iter_succ, List.append_nil]
    exact hg m pre _ (by simpa using hN)
  | x :: rest, pre, m, k + 1, hN, hk, hm, hB, hs => by
    rw [totL_cons] at hB
    simp only [List.length_cons] at hN hk
    obtain ⟨r1, y, a1, a2, a3⟩ := hs x (by simp) m hm (by omega)
    obtain ⟨r, out, b1, b2, b3, b4⟩ := mark_list0 hg rest (pre ++ [y]) r1 k (by simp; omega) (by omega) (by omega) (by omega) fun z hz => hs z (by simp [hz])
    have e1 : ((pre ++ [y]).length : Int) = (pre.length : Int) + 1 := by simp
    have e2 : ∀ l, (pre ++ [y]) ++ l = pre ++ y :: l := fun l => by simp
    rw [e1] at b2
    rw [e2] at b2
    rw [e2] at b2
    refine ⟨r, y :: out, by simp [b1], ?_, by omega, by rw [totL_cons]; omega⟩
    rw [iter_succ, a3 pre.length _ _ (by simp; omega) (by omega) (by simp), List.set_append_right _ _ (by omega), Nat.sub_self, List.set_cons_zero]
    exact b2
end Go.Proofs.Ev

set_option linter.unusedVariables false
namespace Go.Proofs.Ev
variable [Tok]
set_option linter.unusedSectionVars false
def maxL : Nat := 9223372036854775807
def okS {α : Type} (p : α → Prop) (xs : List α) : Prop := xs.length ≤ maxL ∧ ∀ x ∈ xs, p x
def okB (n : Int) : Prop := 0 ≤ n ∧ n ≤ 255
def Shape.Ok (s : Shape) : Prop := okI s.h ∧ okI s.w ∧ okI s.c
def Tensor.Ok (t : Tensor) : Prop := t.sh.Ok ∧ okS okI t.data
def Layer.Ok (l : Layer) : Prop := okI l.kind ∧ okI l.out ∧ okI l.size ∧ okI l.step ∧ okI l.mult ∧ okI l.shift ∧ okI l.zero ∧ okS okI l.weights ∧ okS okI l.bias
def Model.Ok (m : Model) : Prop := m.inp.Ok ∧ okS Layer.Ok m.layers
def Job.Ok (j : Job) : Prop := j.model.Ok ∧ okI j.at_ ∧ j.act.Ok ∧ okI j.spent
def Task.Ok (t : Task) : Prop := okI t.id ∧ okS okI t.costs ∧ okI t.at_ ∧ okI t.due ∧ okI t.born
def Sched.Ok (s : Sched) : Prop := okI s.now ∧ okI s.slack ∧ okI s.age ∧ okS Task.Ok s.tasks ∧ okI s.run ∧ okI s.left ∧ okI s.turns ∧ okI s.next
def Request.Ok (r : Request) : Prop := okI r.id ∧ okI r.model ∧ r.job.Ok ∧ okI r.due
def Runtime.Ok (r : Runtime) : Prop := r.sched.Ok ∧ okS Model.Ok r.models ∧ okS (fun _ => True) r.loaded ∧ okS Request.Ok r.requests
def Step.Ok (s : Step) : Prop := okI s.kind ∧ okI s.a ∧ okI s.b ∧ okS okB s.data ∧ s.input.Ok
def Event.Ok (e : Event) : Prop := okI e.kind ∧ okI e.a ∧ okI e.b ∧ e.out.Ok
def Entry.Ok (e : Entry) : Prop := okI e.id ∧ e.model.Ok ∧ e.input.Ok ∧ okI e.at_ ∧ okI e.due ∧ okI e.end_
def Wish.Ok (w : Wish) : Prop := okI w.id ∧ okI w.model ∧ okI w.due
theorem wf_i {n : Int} (h : (R.int .i64 n).Wf) : okI n := by
  cases h with
  | int _ _ h => simp [Lit.wf, IntKind.min, IntKind.max, IntKind.signed, IntKind.bits] at h; exact h
theorem wf_u8 {n : Int} (h : (R.int .u8 n).Wf) : okB n := by
  cases h with
  | int _ _ h => simp [Lit.wf, IntKind.min, IntKind.max, IntKind.signed, IntKind.bits] at h; exact h
theorem wf_sl {t : Ty} {xs : List t.El} {p : t.El → Prop} (h : (R.sl t xs).Wf) (hp : ∀ x ∈ xs, (∀ r ∈ t.cells x, r.Wf) → p x) : okS p xs := by
  cases h with
  | sl _ _ h hl =>
    refine ⟨by unfold maxL; unfold maxLen at hl; omega, fun x hx => hp x hx fun r hr => ?_⟩
    obtain ⟨i, hi⟩ := List.getElem?_of_mem hx
    obtain ⟨j, hj⟩ := List.getElem?_of_mem hr
    exact h i j r ⟨x, hi, hj⟩
theorem wf_ints {xs : List Int} (h : (R.ints xs).Wf) : okS okI xs := wf_sl h fun x _ hx => wf_i (hx _ (by simp [Ty.cells]))
theorem wf_bytes {xs : List Int} (h : (R.bytes xs).Wf) : okS okB xs := wf_sl h fun x _ hx => wf_u8 (hx _ (by simp [Ty.cells]))
theorem wf_shape {x : Shape} (h : ∀ r ∈ shapeC x, r.Wf) : x.Ok := by
  simp [shapeC] at h; exact ⟨wf_i h.1, wf_i h.2.1, wf_i h.2.2⟩
theorem wf_tensor {x : Tensor} (h : ∀ r ∈ tensorC x, r.Wf) : x.Ok := by
  simp [tensorC] at h; exact ⟨⟨wf_i h.1, wf_i h.2.1, wf_i h.2.2.1⟩, wf_ints h.2.2.2⟩
theorem wf_layer {x : Layer} (h : ∀ r ∈ layerC x, r.Wf) : x.Ok := by
  simp [layerC] at h
  obtain ⟨h1, h2, h3, h4, h5, h6, h7, h8, h9⟩ := h
  exact ⟨wf_i h1, wf_i h2, wf_i h3, wf_i h4, wf_i h5, wf_i h6, wf_i h7, wf_ints h8, wf_ints h9⟩
theorem wf_layers {xs : List Layer} (h : (R.sl (.st .layer) xs).Wf) : okS Layer.Ok xs := wf_sl h fun x _ hx => wf_layer hx
theorem wf_model {x : Model} (h : ∀ r ∈ modelC x, r.Wf) : x.Ok := by
  simp [modelC] at h; exact ⟨⟨wf_i h.1, wf_i h.2.1, wf_i h.2.2.1⟩, wf_layers h.2.2.2⟩
theorem wf_job {x : Job} (h : ∀ r ∈ jobC x, r.Wf) : x.Ok := by
  simp [jobC] at h
  obtain ⟨h1, h2, h3, h4, h5, h6, h7, h8, h9, h10⟩ := h
  exact ⟨⟨⟨wf_i h1, wf_i h2, wf_i h3⟩, wf_layers h4⟩, wf_i h5, ⟨⟨wf_i h6, wf_i h7, wf_i h8⟩, wf_ints h9⟩, wf_i h10⟩
theorem wf_task {x : Task} (h : ∀ r ∈ taskC x, r.Wf) : x.Ok := by
  simp [taskC] at h
  obtain ⟨h1, h2, h3, h4, h5⟩ := h
  exact ⟨wf_i h1, wf_ints h2, wf_i h3, wf_i h4, wf_i h5⟩
theorem wf_request {x : Request} (h : ∀ r ∈ requestC x, r.Wf) : x.Ok := by
  simp [requestC] at h
  obtain ⟨h1, h2, h3, h4, h5, h6, h7, h8, h9, h10, h11, h12, h13⟩ := h
  exact ⟨wf_i h1, wf_i h2, ⟨⟨⟨wf_i h3, wf_i h4, wf_i h5⟩, wf_layers h6⟩, wf_i h7, ⟨⟨wf_i h8, wf_i h9, wf_i h10⟩, wf_ints h11⟩, wf_i h12⟩, wf_i h13⟩
theorem wf_step {x : Step} (h : ∀ r ∈ stepC x, r.Wf) : x.Ok := by
  simp [stepC] at h
  obtain ⟨h1, h2, h3, h4, h5, h6, h7, h8⟩ := h
  exact ⟨wf_i h1, wf_i h2, wf_i h3, wf_bytes h4, ⟨wf_i h5, wf_i h6, wf_i h7⟩, wf_ints h8⟩
theorem wf_event {x : Event} (h : ∀ r ∈ eventC x, r.Wf) : x.Ok := by
  simp [eventC] at h
  obtain ⟨h1, h2, h3, h5, h6, h7, h8⟩ := h
  exact ⟨wf_i h1, wf_i h2, wf_i h3, ⟨wf_i h5, wf_i h6, wf_i h7⟩, wf_ints h8⟩
theorem wf_wish {x : Wish} (h : ∀ r ∈ wishC x, r.Wf) : x.Ok := by
  simp [wishC] at h; exact ⟨wf_i h.1, wf_i h.2.1, wf_i h.2.2⟩
theorem wf_shapes {xs : List Shape} (h : (R.sl (.st .shape) xs).Wf) : okS Shape.Ok xs := wf_sl h fun x _ hx => wf_shape hx
theorem wf_tensors {xs : List Tensor} (h : (R.sl (.st .tensor) xs).Wf) : okS Tensor.Ok xs := wf_sl h fun x _ hx => wf_tensor hx
theorem wf_models {xs : List Model} (h : (R.sl (.st .model) xs).Wf) : okS Model.Ok xs := wf_sl h fun x _ hx => wf_model hx
theorem wf_tasks {xs : List Task} (h : (R.sl (.st .task) xs).Wf) : okS Task.Ok xs := wf_sl h fun x _ hx => wf_task hx
theorem wf_requests {xs : List Request} (h : (R.sl (.st .request) xs).Wf) : okS Request.Ok xs := wf_sl h fun x _ hx => wf_request hx
theorem wf_steps {xs : List Step} (h : (R.sl (.st .step) xs).Wf) : okS Step.Ok xs := wf_sl h fun x _ hx => wf_step hx
theorem wf_events {xs : List Event} (h : (R.sl (.st .event) xs).Wf) : okS Event.Ok xs := wf_sl h fun x _ hx => wf_event hx
theorem wf_wishs {xs : List Wish} (h : (R.sl (.st .wish) xs).Wf) : okS Wish.Ok xs := wf_sl h fun x _ hx => wf_wish hx
theorem wf_bools {xs : List Bool} (h : (R.sl .bool xs).Wf) : okS (fun _ => True) xs := wf_sl h fun x _ _ => trivial
section
variable {P : Program} {tt : TT} {T : TypeId} {a : Arg}
def isStructB (P : Program) (T : TypeId) : Bool :=
  match P.underlying T with
  | some (.struct _) => true
  | _ => false
theorem argIs_st (s : S) (hf : flatT P tt 8 T = some s.tys) (hs : isStructB P T = true) (h : ArgIs P tt T a) : ∃ x : s.E, a = .agg (s.cells x) ∧ ∀ r ∈ s.cells x, r.Wf := by
  obtain ⟨ts, h1, h2, _⟩ := h
  rw [hf] at h1; cases h1
  obtain ⟨rs, rfl, g1, g2⟩ := h2 (by unfold isStructB at hs; split at hs <;> simp_all)
  obtain ⟨x, hx⟩ := ofCells_total (.st s) rs g1
  have := S.ofCells_spec s rs x hx
  exact ⟨x, by rw [this], by rw [this]; exact g2⟩
theorem argIs_one {t : Ty} (hf : flatT P tt 8 T = some [t]) (hs : isStructB P T = false) (h : ArgIs P tt T a) : ∃ r : R, a = .one r ∧ r.ty = t ∧ r.Wf := by
  obtain ⟨ts, h1, _, h3⟩ := h
  rw [hf] at h1; cases h1
  obtain ⟨r, rfl, g1, g2⟩ := h3 (fun fs e => by simp [isStructB, e] at hs)
  exact ⟨r, rfl, by simpa using g1, g2⟩
theorem argIs_i (hf : flatT P tt 8 T = some [.int .i64]) (hs : isStructB P T = false) (h : ArgIs P tt T a) : ∃ n : Int, a = .one (.i n) ∧ okI n := by
  obtain ⟨r, rfl, h1, h2⟩ := argIs_one hf hs h
  obtain ⟨n, rfl⟩ := inv_i h1
  exact ⟨n, rfl, wf_i h2⟩
theorem argIs_b (hf : flatT P tt 8 T = some [.bool]) (hs : isStructB P T = false) (h : ArgIs P tt T a) : ∃ n : Bool, a = .one (.bool n) := by
  obtain ⟨r, rfl, h1, h2⟩ := argIs_one hf hs h
  obtain ⟨n, rfl⟩ := inv_b h1
  exact ⟨n, rfl⟩
theorem argIs_sl {t : Ty} (hf : flatT P tt 8 T = some [.sl t]) (hs : isStructB P T = false) (h : ArgIs P tt T a) : ∃ xs : List t.El, a = .one (.sl t xs) ∧ (R.sl t xs).Wf := by
  obtain ⟨r, rfl, h1, h2⟩ := argIs_one hf hs h
  obtain ⟨n, rfl⟩ := inv_s h1
  exact ⟨n, rfl, h2⟩
theorem argIs_str (hf : flatT P tt 8 T = some [.str]) (hs : isStructB P T = false) (h : ArgIs P tt T a) : ∃ l : List UInt8, a = .one (.str l) ∧ l.length ≤ maxL := by
  obtain ⟨r, rfl, h1, h2⟩ := argIs_one hf hs h
  cases r with
  | str l => cases h2 with
    | str _ hl => exact ⟨l, rfl, by unfold maxL; unfold maxLen at hl; omega⟩
  | _ => exact nomatch h1
theorem argsAre_one {as : List Arg} {T : TypeId} (h : ArgsAre P tt [T] as) : ∃ a, as = [a] ∧ ArgIs P tt T a := by
  match as, h with
  | [a], h => exact ⟨a, rfl, h.1⟩
theorem argsAre_two {as : List Arg} {T U : TypeId} (h : ArgsAre P tt [T, U] as) : ∃ a b, as = [a, b] ∧ ArgIs P tt T a ∧ ArgIs P tt U b := by
  match as, h with
  | [a, b], h => exact ⟨a, b, rfl, h.1, h.2.1⟩
theorem argsAre_three {as : List Arg} {T U V : TypeId} (h : ArgsAre P tt [T, U, V] as) : ∃ a b c, as = [a, b, c] ∧ ArgIs P tt T a ∧ ArgIs P tt U b ∧ ArgIs P tt V c := by
  match as, h with
  | [a, b, c], h => exact ⟨a, b, c, rfl, h.1, h.2.1, h.2.2.1⟩
end
theorem pure_of_ok {P : Program} {g : FuncId} {G : PG} (h : PureOk P g G) {as : List Arg} {o : Out} (hG : G Out as some = some o) : PureCalls P g as o := by
  obtain ⟨o', h1, h2⟩ := h Out as some o hG
  cases h1; exact h2
theorem mem_one {p : TypeId → Prop} {a : TypeId} (h : p a) : ∀ t ∈ [a], p t := fun t ht => by simp at ht; subst ht; exact h
theorem all_list {p : TypeId → Bool} {l : List TypeId} (h : l.all p = true) : ∀ t ∈ l, p t = true := fun t ht => List.all_eq_true.1 h t ht
end Go.Proofs.Ev

set_option linter.unusedVariables false
namespace Go.Proofs.Ev
variable [Tok]
set_option linter.unusedSectionVars false
def schedC (x : Sched) : List R := [.i x.now, .i x.slack, .i x.age, .sl (.st .task) x.tasks, .i x.run, .i x.left, .i x.turns, .i x.next]
def runtimeC (x : Runtime) : List R := schedC x.sched ++ [.sl (.st .model) x.models, .sl .bool x.loaded, .sl (.st .request) x.requests]
section
variable {P : Program} {tt : TT} {T : TypeId} {a : Arg}
theorem argIs_cells {ts : List Ty} (hf : flatT P tt 8 T = some ts) (hs : isStructB P T = true) (h : ArgIs P tt T a) : ∃ rs : List R, a = .agg rs ∧ rs.map R.ty = ts ∧ ∀ r ∈ rs, r.Wf := by
  obtain ⟨ts', h1, h2, _⟩ := h
  rw [hf] at h1; cases h1
  exact h2 (by unfold isStructB at hs; split at hs <;> simp_all)
theorem argIs_sched (hf : flatT P tt 8 T = some [.int .i64, .int .i64, .int .i64, .sl (.st .task), .int .i64, .int .i64, .int .i64, .int .i64]) (hs : isStructB P T = true) (h : ArgIs P tt T a) :
    ∃ x : Sched, a = .agg (schedC x) ∧ x.Ok := by
  obtain ⟨rs, rfl, h1, h2⟩ := argIs_cells hf hs h
  obtain ⟨a1, rs, rfl, g1, h1⟩ := map_cons_inv h1
  obtain ⟨a2, rs, rfl, g2, h1⟩ := map_cons_inv h1
  obtain ⟨a3, rs, rfl, g3, h1⟩ := map_cons_inv h1
  obtain ⟨a4, rs, rfl, g4, h1⟩ := map_cons_inv h1
  obtain ⟨a5, rs, rfl, g5, h1⟩ := map_cons_inv h1
  obtain ⟨a6, rs, rfl, g6, h1⟩ := map_cons_inv h1
  obtain ⟨a7, rs, rfl, g7, h1⟩ := map_cons_inv h1
  obtain ⟨a8, rs, rfl, g8, h1⟩ := map_cons_inv h1
  rw [List.map_eq_nil_iff] at h1
  subst h1
  obtain ⟨x1, rfl⟩ := inv_i g1; obtain ⟨x2, rfl⟩ := inv_i g2; obtain ⟨x3, rfl⟩ := inv_i g3; obtain ⟨x4, rfl⟩ := inv_s g4
  obtain ⟨x5, rfl⟩ := inv_i g5; obtain ⟨x6, rfl⟩ := inv_i g6; obtain ⟨x7, rfl⟩ := inv_i g7; obtain ⟨x8, rfl⟩ := inv_i g8
  simp only [List.mem_cons, List.not_mem_nil, or_false, forall_eq_or_imp, forall_eq] at h2
  obtain ⟨k1, k2, k3, k4, k5, k6, k7, k8⟩ := h2
  exact ⟨⟨x1, x2, x3, x4, x5, x6, x7, x8⟩, rfl, wf_i k1, wf_i k2, wf_i k3, wf_tasks k4, wf_i k5, wf_i k6, wf_i k7, wf_i k8⟩
theorem argIs_job (hf : flatT P tt 8 T = some [.int .i64, .int .i64, .int .i64, .sl (.st .layer), .int .i64, .int .i64, .int .i64, .int .i64, .sl (.int .i64), .int .i64]) (hs : isStructB P T = true) (h : ArgIs P tt T a) :
    ∃ x : Job, a = .agg (jobC x) ∧ x.Ok := by
  obtain ⟨rs, rfl, h1, h2⟩ := argIs_cells hf hs h
  obtain ⟨a1, rs, rfl, g1, h1⟩ := map_cons_inv h1
  obtain ⟨a2, rs, rfl, g2, h1⟩ := map_cons_inv h1
  obtain ⟨a3, rs, rfl, g3, h1⟩ := map_cons_inv h1
  obtain ⟨a4, rs, rfl, g4, h1⟩ := map_cons_inv h1
  obtain ⟨a5, rs, rfl, g5, h1⟩ := map_cons_inv h1
  obtain ⟨a6, rs, rfl, g6, h1⟩ := map_cons_inv h1
  obtain ⟨a7, rs, rfl, g7, h1⟩ := map_cons_inv h1
  obtain ⟨a8, rs, rfl, g8, h1⟩ := map_cons_inv h1
  obtain ⟨a9, rs, rfl, g9, h1⟩ := map_cons_inv h1
  obtain ⟨a10, rs, rfl, g10, h1⟩ := map_cons_inv h1
  rw [List.map_eq_nil_iff] at h1
  subst h1
  obtain ⟨x1, rfl⟩ := inv_i g1; obtain ⟨x2, rfl⟩ := inv_i g2; obtain ⟨x3, rfl⟩ := inv_i g3; obtain ⟨x4, rfl⟩ := inv_s g4
  obtain ⟨x5, rfl⟩ := inv_i g5; obtain ⟨x6, rfl⟩ := inv_i g6; obtain ⟨x7, rfl⟩ := inv_i g7; obtain ⟨x8, rfl⟩ := inv_i g8
  obtain ⟨x9, rfl⟩ := inv_s g9; obtain ⟨x10, rfl⟩ := inv_i g10
  exact ⟨⟨⟨⟨x1, x2, x3⟩, x4⟩, x5, ⟨⟨x6, x7, x8⟩, x9⟩, x10⟩, rfl, wf_job h2⟩
theorem argIs_runtime (hf : flatT P tt 8 T = some [.int .i64, .int .i64, .int .i64, .sl (.st .task), .int .i64, .int .i64, .int .i64, .int .i64, .sl (.st .model), .sl .bool, .sl (.st .request)]) (hs : isStructB P T = true) (h : ArgIs P tt T a) :
    ∃ x : Runtime, a = .agg (runtimeC x) ∧ x.Ok := by
  obtain ⟨rs, rfl, h1, h2⟩ := argIs_cells hf hs h
  obtain ⟨a1, rs, rfl, g1, h1⟩ := map_cons_inv h1
  obtain ⟨a2, rs, rfl, g2, h1⟩ := map_cons_inv h1
  obtain ⟨a3, rs, rfl, g3, h1⟩ := map_cons_inv h1
  obtain ⟨a4, rs, rfl, g4, h1⟩ := map_cons_inv h1
  obtain ⟨a5, rs, rfl, g5, h1⟩ := map_cons_inv h1
  obtain ⟨a6, rs, rfl, g6, h1⟩ := map_cons_inv h1
  obtain ⟨a7, rs, rfl, g7, h1⟩ := map_cons_inv h1
  obtain ⟨a8, rs, rfl, g8, h1⟩ := map_cons_inv h1
  obtain ⟨a9, rs, rfl, g9, h1⟩ := map_cons_inv h1
  obtain ⟨a10, rs, rfl, g10, h1⟩ := map_cons_inv h1
  obtain ⟨a11, rs, rfl, g11, h1⟩ := map_cons_inv h1
  rw [List.map_eq_nil_iff] at h1
  subst h1
  obtain ⟨x1, rfl⟩ := inv_i g1; obtain ⟨x2, rfl⟩ := inv_i g2; obtain ⟨x3, rfl⟩ := inv_i g3; obtain ⟨x4, rfl⟩ := inv_s g4
  obtain ⟨x5, rfl⟩ := inv_i g5; obtain ⟨x6, rfl⟩ := inv_i g6; obtain ⟨x7, rfl⟩ := inv_i g7; obtain ⟨x8, rfl⟩ := inv_i g8
  obtain ⟨x9, rfl⟩ := inv_s g9; obtain ⟨x10, rfl⟩ := inv_s g10; obtain ⟨x11, rfl⟩ := inv_s g11
  simp only [List.mem_cons, List.not_mem_nil, or_false, forall_eq_or_imp, forall_eq] at h2
  obtain ⟨k1, k2, k3, k4, k5, k6, k7, k8, k9, k10, k11⟩ := h2
  exact ⟨⟨⟨x1, x2, x3, x4, x5, x6, x7, x8⟩, x9, x10, x11⟩, rfl, ⟨wf_i k1, wf_i k2, wf_i k3, wf_tasks k4, wf_i k5, wf_i k6, wf_i k7, wf_i k8⟩, wf_models k9, wf_bools k10, wf_requests k11⟩
end
end Go.Proofs.Ev
