/- The evaluator over the model's code, and that it is sound: part 7. -/
import Derived.Test.YthaamopjdieecaaEvK6
import Derived.ProofKit
import Derived.WideKeyArgs
import Derived.IntWalk
set_option linter.unusedVariables false
set_option linter.unusedSimpArgs false
set_option linter.unusedVariables false
set_option linter.unusedSimpArgs false
namespace Go.Proofs.Ev
variable [Tok]
set_option linter.unusedSectionVars false
open Go.ChangeShapes Go.WideShapes Go.ChangeAt Go.RowKit
/-- What an argument of type T reads as. -/
def ArgIs (P : Program) (tt : TT) (T : TypeId) (a : Arg) : Prop :=
  ∃ ts, flatT P tt 8 T = some ts ∧ ((∃ fs, P.underlying T = some (.struct fs)) → ∃ rs : List R, a = .agg rs ∧ rs.map R.ty = ts ∧ ∀ r ∈ rs, r.Wf) ∧
    ((∀ fs, P.underlying T ≠ some (.struct fs)) → ∃ r : R, a = .one r ∧ [r.ty] = ts ∧ r.Wf)
def ArgsAre (P : Program) (tt : TT) : List TypeId → List Arg → Prop
  | [], [] => True
  | T :: Ts, a :: as => ArgIs P tt T a ∧ ArgsAre P tt Ts as
  | _, _ => False
section
variable {H : Type} {enc : TypeId × Value → H} {P : Program} {tt : TT} {w : World} {base : Nat} {sp : Nat → Bool} {held : Bool}
theorem arg_open {b0 : Nat} {T : TypeId} {v : Value} {d : DataW H} {p : List MemPlace} {ts : List Ty} (hd : DataW.Trod enc P w base sp held T v d p) (hv : Value.okWide P w .any b0 T v) (hf : flatT P tt 8 T = some ts) :
    ∃ a, ArgIs P tt T a ∧ RepArg w (fun _ => True) a v := by
  obtain ⟨fuel, hd⟩ := hd
  obtain ⟨rs, h1, h2, h3⟩ := open_cells 8 fuel T _ _ ts hd hf
  by_cases hs : ∃ fs, P.underlying T = some (.struct fs)
  · obtain ⟨fs, hfs⟩ := hs
    simp only [Value.okWide, hfs] at hv
    obtain ⟨cs, rfl, hsz, _⟩ := hv
    refine ⟨.agg rs, ⟨ts, hf, fun _ => ⟨rs, rfl, h1, fun r hr => ?_⟩, fun h => (h fs hfs).elim⟩, cs, rfl, by simpa [Value.cells] using h2, fun j r u hr hu => ?_⟩
    · obtain ⟨j, hj⟩ := List.getElem?_of_mem hr
      have hlt : j < cs.size := by
        have := (List.getElem?_eq_some_iff.1 hj).1
        simp [Value.cells] at h2; omega
      exact (h3 j r cs[j] hj (by simp [Value.cells, hlt])).2
    · exact (h3 j r u hr (by simpa [Value.cells] using hu)).1
  · have one1 : ∀ {t}, rs.map R.ty = [t] → ∃ r, rs = [r] := fun h => List.length_eq_one_iff.1 (by simpa using congrArg List.length h)
    have hone : ∃ r, rs = [r] := by
      unfold flatT at hf
      split at hf
      · cases hf; exact one1 h1
      · cases hf; exact one1 h1
      · cases hf; exact one1 h1
      · simp only [Option.bind_eq_some_iff] at hf
        obtain ⟨t, _, us, _, hf⟩ := hf
        split at hf
        · cases hf; exact one1 h1
        · exact nomatch hf
      · rename_i fs hu; exact (hs ⟨fs, hu⟩).elim
      · exact nomatch hf
    obtain ⟨r, rfl⟩ := hone
    have hcells : v.cells.toList = [v] := by
      have hnag : ∀ cs, v ≠ .agg cs := fun cs e => by
        subst e
        unfold flatT at hf
        split at hf
        · rename_i k hu; obtain ⟨n, e⟩ := okWide_int hu hv; exact nomatch e
        · rename_i hu; obtain ⟨n, e⟩ := okWide_bool hu hv; exact nomatch e
        · rename_i hu; obtain ⟨n, e⟩ := okWide_string hu hv; exact nomatch e
        · rename_i e hu; obtain ⟨a, l, c, e⟩ := okWide_slice hu hv; exact nomatch e
        · rename_i fs hu; exact (hs ⟨fs, hu⟩).elim
        · exact nomatch hf
      cases v <;> first | rfl | exact (hnag _ rfl).elim
    rw [hcells] at h3
    have := h3 0 r v rfl rfl
    exact ⟨.one r, ⟨ts, hf, fun h => (hs h).elim, fun _ => ⟨r, rfl, by simpa using h1, this.2⟩⟩, this.1⟩
theorem args_open {b0 : Nat} : ∀ {Ts : List TypeId} {vs : List Value} {ds : List (DataW H)} {ps : List MemPlace}, DataW.TrodAll enc P w base sp held Ts vs ds ps →
    (∀ (j : Nat) t v, Ts[j]? = some t → vs[j]? = some v → Value.okWide P w .any b0 t v) → (Ts.all fun T => (flatT P tt 8 T).isSome) = true →
    ∃ as, ArgsAre P tt Ts as ∧ as.length = vs.length ∧ ds.length = Ts.length ∧ ∀ (j : Nat) (x : Arg) (u : Value), as[j]? = some x → vs[j]? = some u → RepArg w (fun _ => True) x u
  | [], [], [], _, _, _, _ => ⟨[], trivial, rfl, rfl, fun j x u h => by simp at h⟩
  | T :: Ts, v :: vs, d :: ds, ps, ⟨p, q, h1, h2, _⟩, hv, hf => by
    simp only [List.all_cons, Bool.and_eq_true] at hf
    obtain ⟨ts, hts⟩ := Option.isSome_iff_exists.1 hf.1
    obtain ⟨a, g1, g2⟩ := arg_open h1 (hv 0 T v rfl rfl) hts
    obtain ⟨as, g3, g4, g5, g6⟩ := args_open h2 (fun j t v ht hw => hv (j + 1) t v (by simpa using ht) (by simpa using hw)) hf.2
    refine ⟨a :: as, ⟨g1, g3⟩, by simp [g4], by simp [g5], fun j x u hx hu => ?_⟩
    cases j with
    | zero => simp at hx hu; subst hx hu; exact g2
    | succ j => exact g6 j x u (by simpa using hx) (by simpa using hu)
  | [], _ :: _, _, _, h, _, _ => nomatch h
  | [], [], _ :: _, _, h, _, _ => nomatch h
  | _ :: _, [], _, _, h, _, _ => nomatch h
  | _ :: _, _ :: _, [], _, h, _, _ => nomatch h
variable {w' : World}
theorem kept_of (hg : Grown w w') (hc : ∀ (p : Cell) x, w.at? p = some x → w'.at? p = some x ∧ w'.ice? p = w.ice? p) (may : MemPlace → Prop) : w.keptBut w' may := by
  obtain ⟨h1, h2, h3⟩ := hg
  refine ⟨h1, h2, fun i hi => ?_⟩
  have := h3 i hi
  split at this
  · rename_i c t fr c' t' fr' e1 e2
    obtain ⟨q1, q2, q3⟩ := this
    rw [e1, e2]
    refine ⟨q1, ?_, q3, fun j _ => ?_⟩
    · rcases q2 with q2 | q2
      · exact q2
      · have h0 : w.at? (i, 0) = some c[0] := by simp [World.at?, World.cell?, e1, q2]
        have := (hc _ _ h0).2
        simp only [World.ice?, e1, e2, Prod.mk.injEq] at this
        exact Prod.ext this.1 this.2.1
    · by_cases hj : j < c.size
      · have : w.at? (i, j) = some c[j] := by simp [World.at?, World.cell?, e1, hj]
        have := (hc _ _ this).1
        simp only [World.at?, World.cell?, e2, Option.isSome_none, Bool.false_eq_true, if_false] at this
        rw [this, Array.getElem?_eq_getElem hj]
      · rw [Array.getElem?_eq_none (by omega), Array.getElem?_eq_none (by omega)]
  · rename_i x y h4
    rw [this]
    split
    · rename_i e1 e2
      rw [e1] at e2; cases e2
      exact ⟨rfl, rfl, rfl, fun _ _ => rfl⟩
    · rename_i e1 e2
      rw [e1] at e2; cases e2
      exact .inr ⟨rfl, rfl⟩
    · rfl
theorem frozen_of {may : MemPlace → Prop} (h : w.keptBut w' may) {a : Addr} (ha : a.block < w.heap.size) : w'.frozen? a = w.frozen? a := by
  have := h.2.2 a.block ha
  unfold World.frozen?
  split at this
  · rename_i e1 e2
    obtain ⟨_, q2, _⟩ := this
    rw [e1, e2, q2]
  · rename_i e1 e2
    rw [e1, e2]
  · rw [this]
theorem same_of (hg : Grown w w') (hc : ∀ (p : Cell) x, w.at? p = some x → w'.at? p = some x ∧ w'.ice? p = w.ice? p) {p : MemPlace} (hp : p.block < w.heap.size) : w.sameAt w' p := by
  obtain ⟨_, _, h3⟩ := kept_of hg hc fun _ => False
  cases p with
  | cell b o =>
    have := h3 b hp
    show w'.cell? ⟨b, o, none⟩ = w.cell? ⟨b, o, none⟩
    split at this
    · rename_i c t fr c' t' fr' e1 e2
      obtain ⟨q1, q2, q3, q4⟩ := this
      simp only [World.cell?, e1, e2, Option.isSome_none, Bool.false_eq_true, if_false]
      exact q4 o (fun h => h)
    · rename_i es ck es' ck' e1 e2
      simp [World.cell?, e1, e2]
    · simp only [World.cell?, this]
  | map b =>
    have := h3 b hp
    show w'.heap[b]? = w.heap[b]?
    split at this
    · rename_i c t fr c' t' fr' e1 e2
      obtain ⟨rfl, rfl, q3, q4⟩ := this
      rw [e1, e2]
      have : c' = c := Array.ext_getElem? fun j => q4 j (fun h => h)
      rw [this]
    · rename_i es ck es' ck' e1 e2
      rcases this with h | ⟨rfl, rfl⟩
      · exact h.elim
      · rw [e1, e2]
    · exact this
theorem trodAll_stays (hl : laidOutB P = true) : ∀ {Ts : List TypeId} {vs : List Value} {ds : List (DataW H)} {ps : List MemPlace}, (∀ t ∈ Ts, P.readableRec t = true ∧ t < P.types.size) →
    DataW.TrodAll enc P w 0 (fun _ => true) true Ts vs ds ps → (∀ p ∈ ps, w.sameAt w' p) → (∀ p ∈ ps, sp p.block = true) → DataW.TrodAll enc P w' 0 sp true Ts vs ds ps
  | [], [], [], _, _, h, _, _ => h
  | T :: Ts, v :: vs, d :: ds, ps, hT, ⟨p, q, h1, h2, e⟩, hs, hp =>
    ⟨p, q, WideElems.Trod_stays hl (hT T (by simp)).1 (hT T (by simp)).2 h1 (fun x hx => hs x (by rw [e]; exact List.mem_append_left _ hx)) (fun x hx => hp x (by rw [e]; exact List.mem_append_left _ hx)),
      trodAll_stays hl (fun t ht => hT t (by simp [ht])) h2 (fun x hx => hs x (by rw [e]; exact List.mem_append_right _ hx)) (fun x hx => hp x (by rw [e]; exact List.mem_append_right _ hx)), e⟩
  | [], _ :: _, _, _, _, h, _, _ => nomatch h
  | [], [], _ :: _, _, _, h, _, _ => nomatch h
  | _ :: _, [], _, _, _, h, _, _ => nomatch h
  | _ :: _, _ :: _, [], _, _, h, _, _ => nomatch h
end
theorem post_same {H : Type} {enc : TypeId × Value → H} {P : Program} {f : Func} {s : ChangeSpec} {apart fresh handsOn again : Bool} {W W' : World} {args : Array Value} {v : Value} {ds gs : List (DataW H)} {before pa pv : List MemPlace}
    (hW : DataW.Whole enc P f.params.toList s.vars apart W args.toList ds gs before)
    (hres : ∀ (b : Nat) (sp : Nat → Bool) (hd : Bool), DataW.TrodAll enc P W' b sp hd f.resultTypes.toList (v.resultList f.resultTypes.size) (s.fn H (ds ++ gs)).results [])
    (hargs : ∀ sp : Nat → Bool, (∀ p ∈ before, sp p.block = true) → DataW.TrodAll enc P W' 0 sp true f.params.toList args.toList (s.fn H (ds ++ gs)).args pa)
    (hvars : ∀ sp : Nat → Bool, (∀ p ∈ before, sp p.block = true) → DataW.TrodVars enc P W' sp s.vars (s.fn H (ds ++ gs)).vars pv)
    (hps : before = pa ++ pv) (hk : W.keptBut W' (· ∈ before)) (hfz : ∀ b off, MemPlace.cell b off ∈ before → W'.frozen? ⟨b, off, none⟩ = W.frozen? ⟨b, off, none⟩)
    (hok : ∀ (j : Nat) (t : TypeId) (r : Value), f.resultTypes[j]? = some t → (v.resultList f.resultTypes.size)[j]? = some r → Value.okWide P W' .any 0 t r) : s.post enc P f apart fresh handsOn again W args v W' := by
  have hin : ∀ p ∈ before, (decide (p.block < W.heap.size)) = true := fun p hp => decide_eq_true (hW.lt p hp)
  subst hps
  refine ⟨ds, gs, _, [], pa, pv, hW, hres _ _ _, hargs (fun b => decide (b < W.heap.size)) hin, hvars _ hin, World.keptBut_mono (fun p hp => ⟨hp, .inr (List.mem_append.1 hp)⟩) hk, fun _ => ?_⟩
  obtain ⟨_, _, _, _, _, hz, hn⟩ := id hW
  refine ⟨hok, _, _, ([] ++ pa) ++ pv, ⟨[] ++ pa, pv, trodAll_append (hargs _ fun _ _ => rfl) (hres _ _ _), hvars _ fun _ _ => rfl, rfl, fun b off hp => ?_, fun ha => ?_⟩, fun p hp _ => ?_⟩
  · have hp : MemPlace.cell b off ∈ pa ++ pv := by simpa using hp
    rw [hfz b off hp]; exact hz b off hp
  · simpa using hn ha
  · simpa using hp
/-- A LAW: what it is called with is typed; it answers true; nothing has turned. -/
theorem law_lifted {C : Checked} {os : Os} {g : FuncId} {fn : Func} {s : ChangeSpec} {tt : TT} {H : Type} {enc : TypeId × Value → H} {conds : List PathCond} {apart fresh handsOn again : Bool}
    (own : ownKnob C.prog.godebug = none) (started : os.Started) (noInit : C.prog.inits.idxOf? g = none) (hfn : C.prog.funcs[g]? = some fn)
    (witness : ∃ (w : World) (tape : Tape) (i : Input), w.os = os ∧ (w.forCall tape i).Shaped C.prog ∧ i.vars = [] ∧ Input.okWide C.prog (w.forCall tape i) .any w.heap.size g i ∧
      s.pre6 enc C.prog fn conds apart (w.forCall tape i).memory i.args ∧ Assume.holds {} C.prog (lone (Frame.enter C.prog g i.args .normal) [] (w.forCall tape i)))
    (hlaid : laidOutB C.prog = true) (hread : ∀ t ∈ fn.params.toList, C.prog.readableRec t = true ∧ t < C.prog.types.size) (hflat : (fn.params.toList.all fun T => (flatT C.prog tt 8 T).isSome) = true)
    (hvars : s.vars = []) (hspec : ∀ ds : List (DataW H), ds.length = fn.params.toList.length → s.fn H (ds ++ []) = { results := [.lit (.bool true)], args := ds, vars := [] })
    {bt : TypeId} (hres : fn.resultTypes = #[bt]) (hbt : C.prog.underlying bt = some .bool)
    (hcon : ∀ as : List Arg, ArgsAre C.prog tt fn.params.toList as → PureCalls C.prog g as (.b true, [])) :
    ReturnsInHanded {} C os g .any (s.pre6 enc C.prog fn conds apart) (s.post enc C.prog fn apart fresh handsOn again) := by
  refine returnsInHanded_of_change (C := C) own started noInit hfn witness ?_
  intro W base args ds gs before hval hW _ _
  have hW' := hW
  obtain ⟨p, q, hA, hV, rfl, hfz, _⟩ := hW
  rw [hvars] at hV
  obtain ⟨rfl, rfl⟩ := trodVars_none hV
  obtain ⟨as, g1, g2, g3, g4⟩ := args_open hA (fun j t v ht hv => hval j t v (by simpa using ht) (by simpa using hv)) hflat
  obtain ⟨_, hc⟩ := hcon as g1
  refine (hc W args (fun _ => True) (by simpa using g2) (fun j x u hx hu => g4 j x u hx (by simpa using hu))).mono fun e W' ⟨u, pl, he, _, hu, _, hkeep, _, hgr⟩ => ?_
  have hu : u = .bool true := by
    cases hu with
    | r _ _ _ h => cases h; rfl
  subst hu he
  have hc' : ∀ (p : Cell) x, W.at? p = some x → W'.at? p = some x ∧ W'.ice? p = W.ice? p := hkeep
  have hlt : ∀ x ∈ p, x.block < W.heap.size := fun x hx => hW'.lt x (by simpa using hx)
  refine ⟨_, rfl, post_same (pa := p) (pv := []) hW' (fun _ _ _ => ?_) (fun sp hsp => ?_) (fun _ _ => ?_) rfl (kept_of hgr hc' _) (fun b off hp => frozen_of (kept_of hgr hc' fun _ => False) (hW'.lt _ hp)) (ok_one hres rfl (okWide_bool_mk hbt true))⟩
  · rw [hspec ds g3, hres]
    exact trodAll_mk1 (shut_bool hbt true)
  · rw [hspec ds g3]
    exact trodAll_stays hlaid hread hA (fun x hx => same_of hgr hc' (hlt x hx)) (fun x hx => hsp x (by simpa using hx))
  · rw [hspec ds g3, hvars]
    exact rfl
end Go.Proofs.Ev

namespace Go.Proofs.Ev
instance plainTok : Tok := ⟨fun _ => .slice none 0 0, fun _ => rfl, rfl⟩
theorem wrapI {n : Int} (h1 : -9223372036854775808 ≤ n) (h2 : n ≤ 9223372036854775807) : IntKind.i64.wrap n = n := Go.IntWalk.i64_in n ⟨h1, h2⟩
theorem wrapNat1 {n m : Nat} (h : n < m) (hm : m ≤ 9223372036854775807) : IntKind.i64.wrap ((n : Int) + 1) = ((n + 1 : Nat) : Int) := by
  rw [wrapI (by omega) (by omega)]; omega
@[simp] theorem idx_nat {α : Type} (xs : List α) (i : Nat) : idx xs (i : Int) = xs[i]? := by
  have : (0 : Int) ≤ (i : Int) := by omega
  simp [idx, this]
theorem idx_zero {α : Type} (xs : List α) : idx xs 0 = xs[0]? := rfl
theorem idx_pos {α : Type} (xs : List α) {i : Int} (h : 0 ≤ i) : idx xs i = xs[i.toNat]? := by simp [idx, h]
section
variable {R V : Type} {g : V → (V → Option R) → Option R}
theorem iter_succ (k : Nat) (v : V) : iter g (k + 1) v = g v (iter g k) := rfl
/-- A loop that goes through known states, with what comes of each. -/
theorem iter_rec {st : Nat → V} {n : Nat} {P : Nat → Option R} (h : ∀ i, i < n → ∀ next : V → Option R, next (st (i + 1)) = P (i + 1) → g (st i) next = P i)
    (hn : ∀ next, g (st n) next = P n) : ∀ (k i : Nat), i ≤ n → n - i < k → iter g k (st i) = P i
  | 0, i, hi, hk => by omega
  | k + 1, i, hi, hk => by
    rw [iter_succ]
    by_cases c : i < n
    · exact h i c _ (iter_rec h hn k (i + 1) (by omega) (by omega))
    · have : i = n := by omega
      subst this; exact hn _
/-- .. whose end is one. -/
theorem iter_run {st : Nat → V} {n : Nat} {r : Option R} (h : ∀ i, i < n → ∀ next : V → Option R, g (st i) next = next (st (i + 1))) (hn : ∀ next, g (st n) next = r) {k : Nat} (hk : n < k) :
    iter g k (st 0) = r := iter_rec (P := fun _ => r) (fun i hi next e => (h i hi next).trans e) hn k 0 (Nat.zero_le _) (by omega)
end
theorem cond_dec {α : Type} {p : Prop} [Decidable p] (x y : α) : cond (decide p) x y = if p then x else y := by by_cases h : p <;> simp [h]
theorem cond_beq {α : Type} (a b : Int) (x y : α) : cond (a == b) x y = if a = b then x else y := by
  by_cases h : a = b
  · simp [h]
  · have : (a == b) = false := by simpa using h
    rw [this, if_neg h]; rfl
theorem cond_not {α : Type} (b : Bool) (x y : α) : cond (!b) x y = cond b y x := by cases b <;> rfl
theorem beq_dec (a b : Int) : (a == b) = decide (a = b) := by
  by_cases h : a = b
  · simp [h]
  · rw [decide_eq_false h]; simpa using h
theorem getD_get {α : Type} {xs : List α} {i : Nat} (h : i < xs.length) : xs[i]? = some xs[i] := List.getElem?_eq_getElem h
theorem drop_step {α : Type} {xs : List α} {i : Nat} (h : i < xs.length) : xs.drop i = xs[i] :: xs.drop (i + 1) := (List.getElem_cons_drop h).symm
theorem take_step {α : Type} {xs : List α} {i : Nat} (h : i < xs.length) : xs.take (i + 1) = xs.take i ++ [xs[i]] := (List.take_append_getElem h).symm
end Go.Proofs.Ev

set_option linter.unusedVariables false
namespace Go.Proofs.Ev
theorem bind_some' {α β : Type} (a : α) (f : α → Option β) : (some a).bind f = f a := rfl
/-- A loop that looks for the first element that fails. -/
theorem all_loop {α R : Type} (xs : List α) (p : α → Bool) {g : Int → (Int → Option R) → Option R} {yes no : Option R}
    (h : ∀ (i : Nat) (hi : i < xs.length) (next : Int → Option R), g (i : Int) next = cond (p xs[i]) (next ((i + 1 : Nat) : Int)) no)
    (hn : ∀ next, g (xs.length : Int) next = yes) {k : Nat} (hk : xs.length < k) : iter g k 0 = cond (xs.all p) yes no := by
  have := iter_rec (g := g) (st := fun i => (i : Int)) (n := xs.length) (P := fun i => cond ((xs.drop i).all p) yes no) (fun i hi next e => by
    rw [h i hi next, drop_step hi, List.all_cons]
    cases hp : p xs[i]
    · rfl
    · simp only [cond_true, Bool.true_and]; exact e) (fun next => by rw [List.drop_length]; exact hn next) k 0 (Nat.zero_le _) (by omega)
  simpa using this
/-- .. its place. -/
theorem find_loop {α R : Type} (xs : List α) (p : α → Bool) {g : Int → (Int → Option R) → Option R} {yes : Option R} {no : Int → Option R}
    (h : ∀ (i : Nat) (hi : i < xs.length) (next : Int → Option R), g (i : Int) next = cond (p xs[i]) (no (i : Int)) (next ((i + 1 : Nat) : Int)))
    (hn : ∀ next, g (xs.length : Int) next = yes) {k : Nat} (hk : xs.length < k) : iter g k 0 = (xs.findIdx? p).elim yes fun i => no (i : Int) := by
  have := iter_rec (g := g) (st := fun i => (i : Int)) (n := xs.length) (P := fun i => ((xs.drop i).findIdx? p).elim yes fun j => no ((i + j : Nat) : Int)) (fun i hi next e => by
    rw [h i hi next, drop_step hi, List.findIdx?_cons]
    cases hp : p xs[i]
    · simp only [cond_false, Bool.false_eq_true, if_false]
      rw [e]
      cases (xs.drop (i + 1)).findIdx? p with
      | none => rfl
      | some j => simp only [Option.map_some, Option.elim_some]; congr 2; omega
    · simp) (fun next => by rw [List.drop_length]; simpa using hn next) k 0 (Nat.zero_le _) (by omega)
  simpa using this
/-- A loop that appends what comes of each element. -/
theorem app_loop {α β R : Type} (xs : List α) (f : α → β) {g : Int × List β → (Int × List β → Option R) → Option R} {fin : List β → Option R}
    (h : ∀ (i : Nat) (ys : List β) (hi : i < xs.length) (next : Int × List β → Option R), ys.length = i → g ((i : Int), ys) next = next (((i + 1 : Nat) : Int), ys ++ [f xs[i]]))
    (hn : ∀ ys next, g ((xs.length : Int), ys) next = fin ys) {k : Nat} (hk : xs.length < k) : iter g k (0, []) = fin (xs.map f) := by
  have := iter_run (g := g) (st := fun i => ((i : Int), (xs.take i).map f)) (n := xs.length) (r := fin (xs.map f)) (fun i hi next => by
    rw [h i _ hi next (by simp; omega), take_step hi, List.map_append]; rfl) (fun next => by rw [List.take_length]; exact hn _ _) hk
  simpa using this
/-- A loop that goes through a list with a state. -/
theorem fold_loop {α S R : Type} (xs : List α) (f : S → α → S) {g : S × Int → (S × Int → Option R) → Option R} {fin : S → Option R} (s0 : S)
    (h : ∀ (i : Nat) (s : S) (hi : i < xs.length) (next : S × Int → Option R), s = (xs.take i).foldl f s0 → g (s, (i : Int)) next = next (f s xs[i], ((i + 1 : Nat) : Int)))
    (hn : ∀ next, g (xs.foldl f s0, (xs.length : Int)) next = fin (xs.foldl f s0)) {k : Nat} (hk : xs.length < k) : iter g k (s0, 0) = fin (xs.foldl f s0) := by
  have := iter_run (g := g) (st := fun i => ((xs.take i).foldl f s0, (i : Int))) (n := xs.length) (r := fin (xs.foldl f s0)) (fun i hi next => by
    rw [h i _ hi next rfl, take_step hi, List.foldl_append]; rfl) (fun next => by
    simp only [List.take_length]; exact hn next) hk
  simpa using this
end Go.Proofs.Ev

set_option linter.unusedVariables false
namespace Go.Proofs.Ev
theorem maxN_eq : maxN = 274877906944 := rfl
def totL {α : Type} (t : α → Nat) (xs : List α) : Nat := xs.length + (xs.map t).sum
theorem sum_mem {α : Type} (t : α → Nat) : ∀ {xs : List α} {x : α}, x ∈ xs → t x ≤ (xs.map t).sum
  | y :: xs, x, h => by
    simp only [List.map_cons, List.sum_cons]
    rcases List.mem_cons.1 h with rfl | h
    · omega
    · have := sum_mem t h; omega
theorem totL_mem {α : Type} (t : α → Nat) {xs : List α} {x : α} (h : x ∈ xs) : t x + 1 ≤ totL t xs := by
  have := sum_mem t h
  have := List.length_pos_of_mem h
  unfold totL; omega
theorem totL_len {α : Type} (t : α → Nat) (xs : List α) : xs.length ≤ totL t xs := by unfold totL; omega
theorem totL_cons {α : Type} (t : α → Nat) (x : α) (xs : List α) : totL t (x :: xs) = t x + 1 + totL t xs := by simp [totL]; omega
theorem totL_append {α : Type} (t : α → Nat) (xs ys : List α) : totL t (xs ++ ys) = totL t xs + totL t ys := by simp [totL]; omega
end Go.Proofs.Ev

set_option linter.unusedVariables false
namespace Go.Proofs.Ev
variable [Tok]
set_option linter.unusedSectionVars false
def maxL : Nat := 9223372036854775807
def okS {α : Type} (p : α → Prop) (xs : List α) : Prop := xs.length ≤ maxL ∧ ∀ x ∈ xs, p x
def okB (n : Int) : Prop := 0 ≤ n ∧ n ≤ 255
theorem wf_u8 {n : Int} (h : (R.int .u8 n).Wf) : okB n := by
  cases h with
  | int _ _ h => simp [Lit.wf, IntKind.min, IntKind.max, IntKind.signed, IntKind.bits] at h; exact h
theorem wf_sl {t : Ty} {xs : List t.El} {p : t.El → Prop} (h : (R.sl t xs).Wf) (hp : ∀ x ∈ xs, (∀ r ∈ t.cells x, r.Wf) → p x) : okS p xs := by
  cases h with
  | sl _ _ h hl =>
    refine ⟨by unfold maxL; unfold maxLen at hl; omega, fun x hx => hp x hx fun r hr => ?_⟩
    obtain ⟨i, hi⟩ := List.getElem?_of_mem hx
    obtain ⟨j, hj⟩ := List.getElem?_of_mem hr
    exact h i j r ⟨x, hi, hj⟩
theorem wf_bytes {xs : List Int} (h : (R.bytes xs).Wf) : okS okB xs := wf_sl h fun x _ hx => wf_u8 (hx _ (by simp [Ty.cells]))
section
variable {P : Program} {tt : TT} {T : TypeId} {a : Arg}
def isStructB (P : Program) (T : TypeId) : Bool :=
  match P.underlying T with
  | some (.struct _) => true
  | _ => false
theorem argIs_one {t : Ty} (hf : flatT P tt 8 T = some [t]) (hs : isStructB P T = false) (h : ArgIs P tt T a) : ∃ r : R, a = .one r ∧ r.ty = t ∧ r.Wf := by
  obtain ⟨ts, h1, _, h3⟩ := h
  rw [hf] at h1; cases h1
  obtain ⟨r, rfl, g1, g2⟩ := h3 (fun fs e => by simp [isStructB, e] at hs)
  exact ⟨r, rfl, by simpa using g1, g2⟩
theorem argIs_sl {t : Ty} (hf : flatT P tt 8 T = some [.sl t]) (hs : isStructB P T = false) (h : ArgIs P tt T a) : ∃ xs : List t.El, a = .one (.sl t xs) ∧ (R.sl t xs).Wf := by
  obtain ⟨r, rfl, h1, h2⟩ := argIs_one hf hs h
  obtain ⟨n, rfl⟩ := inv_s h1
  exact ⟨n, rfl, h2⟩
theorem argsAre_one {as : List Arg} {T : TypeId} (h : ArgsAre P tt [T] as) : ∃ a, as = [a] ∧ ArgIs P tt T a := by
  match as, h with
  | [a], h => exact ⟨a, rfl, h.1⟩
end
theorem pure_of_ok {P : Program} {g : FuncId} {G : PG} (h : PureOk P g G) {as : List Arg} {o : Out} (hG : G Out as some = some o) : PureCalls P g as o := by
  obtain ⟨o', h1, h2⟩ := h Out as some o hG
  cases h1; exact h2
theorem all_list {p : TypeId → Bool} {l : List TypeId} (h : l.all p = true) : ∀ t ∈ l, p t = true := fun t ht => List.all_eq_true.1 h t ht
end Go.Proofs.Ev

set_option linter.unusedVariables false
namespace Go.Proofs.Ev
variable [Tok]
set_option linter.unusedSectionVars false
section
variable {P : Program} {tt : TT} {T : TypeId} {a : Arg}
end
end Go.Proofs.Ev
