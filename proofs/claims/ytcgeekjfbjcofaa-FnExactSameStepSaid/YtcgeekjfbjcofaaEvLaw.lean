/- From the contract of a law's function to its row. -/
import Derived.Test.YtcgeekjfbjcofaaEvOpen
import Derived.ProofKit
import Derived.WideKeyArgs
set_option linter.unusedVariables false
set_option linter.unusedSimpArgs false
namespace Go.Proofs.Ev
open Go.ChangeShapes Go.WideShapes Go.ChangeAt Go.RowKit
/-- What an argument of type T reads as. -/
def ArgIs (P : Program) (tt : TT) (T : TypeId) (a : Arg) : Prop :=
  ∃ ts, flatT P tt 8 T = some ts ∧ ((∃ fs, P.underlying T = some (.struct fs)) → ∃ rs : List R, a = .agg rs ∧ rs.map R.ty = ts ∧ ∀ r ∈ rs, r.Wf) ∧
    ((∀ fs, P.underlying T ≠ some (.struct fs)) → ∃ r : R, a = .one r ∧ [r.ty] = ts ∧ r.Wf)
def ArgsAre (P : Program) (tt : TT) : List TypeId → List Arg → Prop
  | [], [] => True
  | T :: Ts, a :: as => ArgIs P tt T a ∧ ArgsAre P tt Ts as
  | _, _ => False
section
variable {H : Type} {enc : TypeId × Value → H} {P : Program} {tt : TT} {w : World} {base : Nat} {sp : Nat → Bool} {held : Bool}
theorem arg_open {b0 : Nat} {T : TypeId} {v : Value} {d : DataW H} {p : List MemPlace} {ts : List Ty} (hd : DataW.Trod enc P w base sp held T v d p) (hv : Value.okWide P w .any b0 T v) (hf : flatT P tt 8 T = some ts) :
    ∃ a, ArgIs P tt T a ∧ RepArg w (fun _ => True) a v := by
  obtain ⟨fuel, hd⟩ := hd
  obtain ⟨rs, h1, h2, h3⟩ := open_cells 8 fuel T _ _ ts hd hf
  by_cases hs : ∃ fs, P.underlying T = some (.struct fs)
  · obtain ⟨fs, hfs⟩ := hs
    simp only [Value.okWide, hfs] at hv
    obtain ⟨cs, rfl, hsz, _⟩ := hv
    refine ⟨.agg rs, ⟨ts, hf, fun _ => ⟨rs, rfl, h1, fun r hr => ?_⟩, fun h => (h fs hfs).elim⟩, cs, rfl, by simpa [Value.cells] using h2, fun j r u hr hu => ?_⟩
    · obtain ⟨j, hj⟩ := List.getElem?_of_mem hr
      have hlt : j < cs.size := by
        have := (List.getElem?_eq_some_iff.1 hj).1
        simp [Value.cells] at h2; omega
      exact (h3 j r cs[j] hj (by simp [Value.cells, hlt])).2
    · exact (h3 j r u hr (by simpa [Value.cells] using hu)).1
  · have one1 : ∀ {t}, rs.map R.ty = [t] → ∃ r, rs = [r] := fun h => List.length_eq_one_iff.1 (by simpa using congrArg List.length h)
    have hone : ∃ r, rs = [r] := by
      unfold flatT at hf
      split at hf
      · cases hf; exact one1 h1
      · cases hf; exact one1 h1
      · cases hf; exact one1 h1
      · simp only [Option.bind_eq_some_iff] at hf
        obtain ⟨t, _, us, _, hf⟩ := hf
        split at hf
        · cases hf; exact one1 h1
        · exact nomatch hf
      · rename_i fs hu; exact (hs ⟨fs, hu⟩).elim
      · exact nomatch hf
    obtain ⟨r, rfl⟩ := hone
    have hcells : v.cells.toList = [v] := by
      have hnag : ∀ cs, v ≠ .agg cs := fun cs e => by
        subst e
        unfold flatT at hf
        split at hf
        · rename_i k hu; obtain ⟨n, e⟩ := okWide_int hu hv; exact nomatch e
        · rename_i hu; obtain ⟨n, e⟩ := okWide_bool hu hv; exact nomatch e
        · rename_i hu; obtain ⟨n, e⟩ := okWide_string hu hv; exact nomatch e
        · rename_i e hu; obtain ⟨a, l, c, e⟩ := okWide_slice hu hv; exact nomatch e
        · rename_i fs hu; exact (hs ⟨fs, hu⟩).elim
        · exact nomatch hf
      cases v <;> first | rfl | exact (hnag _ rfl).elim
    rw [hcells] at h3
    have := h3 0 r v rfl rfl
    exact ⟨.one r, ⟨ts, hf, fun h => (hs h).elim, fun _ => ⟨r, rfl, by simpa using h1, this.2⟩⟩, this.1⟩
theorem args_open {b0 : Nat} : ∀ {Ts : List TypeId} {vs : List Value} {ds : List (DataW H)} {ps : List MemPlace}, DataW.TrodAll enc P w base sp held Ts vs ds ps →
    (∀ (j : Nat) t v, Ts[j]? = some t → vs[j]? = some v → Value.okWide P w .any b0 t v) → (Ts.all fun T => (flatT P tt 8 T).isSome) = true →
    ∃ as, ArgsAre P tt Ts as ∧ as.length = vs.length ∧ ds.length = Ts.length ∧ ∀ (j : Nat) (x : Arg) (u : Value), as[j]? = some x → vs[j]? = some u → RepArg w (fun _ => True) x u
  | [], [], [], _, _, _, _ => ⟨[], trivial, rfl, rfl, fun j x u h => by simp at h⟩
  | T :: Ts, v :: vs, d :: ds, ps, ⟨p, q, h1, h2, _⟩, hv, hf => by
    simp only [List.all_cons, Bool.and_eq_true] at hf
    obtain ⟨ts, hts⟩ := Option.isSome_iff_exists.1 hf.1
    obtain ⟨a, g1, g2⟩ := arg_open h1 (hv 0 T v rfl rfl) hts
    obtain ⟨as, g3, g4, g5, g6⟩ := args_open h2 (fun j t v ht hw => hv (j + 1) t v (by simpa using ht) (by simpa using hw)) hf.2
    refine ⟨a :: as, ⟨g1, g3⟩, by simp [g4], by simp [g5], fun j x u hx hu => ?_⟩
    cases j with
    | zero => simp at hx hu; subst hx hu; exact g2
    | succ j => exact g6 j x u (by simpa using hx) (by simpa using hu)
  | [], _ :: _, _, _, h, _, _ => nomatch h
  | [], [], _ :: _, _, h, _, _ => nomatch h
  | _ :: _, [], _, _, h, _, _ => nomatch h
  | _ :: _, _ :: _, [], _, h, _, _ => nomatch h
variable {w' : World}
theorem kept_of (hg : Grown w w') (hc : ∀ (p : Cell) x, w.at? p = some x → w'.at? p = some x) (may : MemPlace → Prop) : w.keptBut w' may := by
  obtain ⟨⟨h1, h2, h3⟩, _⟩ := hg
  refine ⟨h1, h2, fun i hi => ?_⟩
  have := h3 i hi
  split at this
  · rename_i c t fr c' t' fr' e1 e2
    obtain ⟨q1, q2, q3, q4⟩ := this
    refine ⟨q1, q2, q3, fun j _ => ?_⟩
    by_cases hj : j < c.size
    · have : w.at? (i, j) = some c[j] := by simp [World.at?, World.cell?, e1, hj]
      have := hc _ _ this
      simp only [World.at?, World.cell?, e2, Option.isSome_none, Bool.false_eq_true, if_false] at this
      rw [this, Array.getElem?_eq_getElem hj]
    · rw [Array.getElem?_eq_none (by omega), Array.getElem?_eq_none (by omega)]
  · rename_i es ck es' ck' e1 e2
    rcases this with h | h
    · exact h.elim
    · exact .inr h
  · exact this
theorem same_of (hg : Grown w w') (hc : ∀ (p : Cell) x, w.at? p = some x → w'.at? p = some x) {p : MemPlace} (hp : p.block < w.heap.size) : w.sameAt w' p := by
  obtain ⟨_, _, h3⟩ := kept_of hg hc fun _ => False
  cases p with
  | cell b o =>
    have := h3 b hp
    show w'.cell? ⟨b, o, none⟩ = w.cell? ⟨b, o, none⟩
    split at this
    · rename_i c t fr c' t' fr' e1 e2
      obtain ⟨q1, q2, q3, q4⟩ := this
      simp only [World.cell?, e1, e2, Option.isSome_none, Bool.false_eq_true, if_false]
      exact q4 o (fun h => h)
    · rename_i es ck es' ck' e1 e2
      simp [World.cell?, e1, e2]
    · simp only [World.cell?, this]
  | map b =>
    have := h3 b hp
    show w'.heap[b]? = w.heap[b]?
    split at this
    · rename_i c t fr c' t' fr' e1 e2
      obtain ⟨rfl, rfl, q3, q4⟩ := this
      rw [e1, e2]
      have : c' = c := Array.ext_getElem? fun j => q4 j (fun h => h)
      rw [this]
    · rename_i es ck es' ck' e1 e2
      rcases this with h | ⟨rfl, rfl⟩
      · exact h.elim
      · rw [e1, e2]
    · exact this
theorem trodAll_stays (hl : laidOutB P = true) : ∀ {Ts : List TypeId} {vs : List Value} {ds : List (DataW H)} {ps : List MemPlace}, (∀ t ∈ Ts, P.readableRec t = true ∧ t < P.types.size) →
    DataW.TrodAll enc P w 0 (fun _ => true) true Ts vs ds ps → (∀ p ∈ ps, w.sameAt w' p) → (∀ p ∈ ps, sp p.block = true) → DataW.TrodAll enc P w' 0 sp true Ts vs ds ps
  | [], [], [], _, _, h, _, _ => h
  | T :: Ts, v :: vs, d :: ds, ps, hT, ⟨p, q, h1, h2, e⟩, hs, hp =>
    ⟨p, q, WideElems.Trod_stays hl (hT T (by simp)).1 (hT T (by simp)).2 h1 (fun x hx => hs x (by rw [e]; exact List.mem_append_left _ hx)) (fun x hx => hp x (by rw [e]; exact List.mem_append_left _ hx)),
      trodAll_stays hl (fun t ht => hT t (by simp [ht])) h2 (fun x hx => hs x (by rw [e]; exact List.mem_append_right _ hx)) (fun x hx => hp x (by rw [e]; exact List.mem_append_right _ hx)), e⟩
  | [], _ :: _, _, _, _, h, _, _ => nomatch h
  | [], [], _ :: _, _, _, h, _, _ => nomatch h
  | _ :: _, [], _, _, _, h, _, _ => nomatch h
  | _ :: _, _ :: _, [], _, _, h, _, _ => nomatch h
end
/-- A LAW: what it is called with is typed; it answers true; nothing has turned. -/
theorem law_lifted {C : Checked} {os : Os} {g : FuncId} {fn : Func} {s : ChangeSpec} {tt : TT} {H : Type} {enc : TypeId × Value → H} {conds : List PathCond} {apart fresh handsOn again : Bool}
    (own : ownKnob C.prog.godebug = none) (started : os.Started) (noInit : C.prog.inits.idxOf? g = none) (hfn : C.prog.funcs[g]? = some fn)
    (witness : ∃ (w : World) (tape : Tape) (i : Input), w.os = os ∧ (w.forCall tape i).Shaped C.prog ∧ i.vars = [] ∧ Input.okWide C.prog (w.forCall tape i) .any w.heap.size g i ∧
      s.pre6 enc C.prog fn conds apart (w.forCall tape i).memory i.args ∧ Assume.holds {} C.prog (lone (Frame.enter C.prog g i.args .normal) [] (w.forCall tape i)))
    (hlaid : laidOutB C.prog = true) (hread : ∀ t ∈ fn.params.toList, C.prog.readableRec t = true ∧ t < C.prog.types.size) (hflat : (fn.params.toList.all fun T => (flatT C.prog tt 8 T).isSome) = true)
    (hvars : s.vars = []) (hspec : ∀ ds : List (DataW H), ds.length = fn.params.toList.length → s.fn H (ds ++ []) = { results := [.lit (.bool true)], args := ds, vars := [] })
    {bt : TypeId} (hres : fn.resultTypes = #[bt]) (hbt : C.prog.underlying bt = some .bool)
    (hcon : ∀ as : List Arg, ArgsAre C.prog tt fn.params.toList as → PureCalls C.prog g as (.b true, [])) :
    ReturnsInHanded {} C os g .any (s.pre6 enc C.prog fn conds apart) (s.post enc C.prog fn apart fresh handsOn again) := by
  refine returnsInHanded_of_change (C := C) own started noInit hfn witness ?_
  intro W base args ds gs before hval hW _ _
  have hW' := hW
  obtain ⟨p, q, hA, hV, rfl, hfz, _⟩ := hW
  rw [hvars] at hV
  obtain ⟨rfl, rfl⟩ := trodVars_none hV
  obtain ⟨as, g1, g2, g3, g4⟩ := args_open hA (fun j t v ht hv => hval j t v (by simpa using ht) (by simpa using hv)) hflat
  obtain ⟨_, hc⟩ := hcon as g1
  refine (hc W args (fun _ => True) (by simpa using g2) (fun j x u hx hu => g4 j x u hx (by simpa using hu))).mono fun e W' ⟨u, pl, he, _, hu, _, hkeep, _, hgr⟩ => ?_
  have hu : u = .bool true := by
    cases hu with
    | r _ _ _ h => cases h; rfl
  subst hu he
  have hc' : ∀ (p : Cell) x, W.at? p = some x → W'.at? p = some x := fun p x hp => (hkeep p x hp).1
  have hlt : ∀ x ∈ p, x.block < W.heap.size := fun x hx => hW'.lt x (by simpa using hx)
  refine ⟨_, rfl, post_of_same (pa := p) (pv := []) hW' (fun _ _ _ => ?_) (fun sp hsp => ?_) (fun _ _ => ?_) rfl (kept_of hgr hc' _) hgr.2 (ok_one hres rfl (okWide_bool_mk hbt true))⟩
  · rw [hspec ds g3, hres]
    exact trodAll_mk1 (shut_bool hbt true)
  · rw [hspec ds g3]
    exact trodAll_stays hlaid hread hA (fun x hx => same_of hgr hc' (hlt x hx)) (fun x hx => hsp x (by simpa using hx))
  · rw [hspec ds g3, hvars]
    exact rfl
end Go.Proofs.Ev
