/- Soundness of the operations that neither write nor make memory: all of them. -/
import Derived.Test.YtcgeekjfbjcofaaEvStill2
set_option linter.unusedVariables false
set_option linter.unusedSimpArgs false
namespace Go.Proofs.Ev
section
variable {w : World} {H : Heap} {pl : Pl} {P : Program}
theorem asI_rep {v : SV} {n : Int} {u : Value} (h : v.asI = some n) (hu : SVRep w H pl v u) : ∃ k, u = .int k n := by
  unfold SV.asI at h
  split at h
  · cases h; exact ⟨_, int_inv hu⟩
  · cases h
theorem asB_rep {v : SV} {n : Bool} {u : Value} (h : v.asB = some n) (hu : SVRep w H pl v u) : u = .bool n := by
  unfold SV.asB at h
  split at h
  · cases h; exact bool_inv hu
  · cases h
theorem un_rep {op : UnOp} {x v : SV} {u : Value} (h : un op x = some v) (hx : SVRep w H pl x u) : ∃ z, (Op.unary op u).run P w = .ok z w ∧ SVRep w H pl v z := by
  unfold un at h
  split at h
  · have := int_inv hx; subst this
    cases h; exact ⟨_, by simp [Op.unary, Op.intArith], rep_int⟩
  · have := bool_inv hx; subst this
    cases h; exact ⟨_, by simp [Op.unary], rep_bool⟩
  · cases h
theorem conv_rep {src dst : TypeId} {x v : SV} {u : Value} (h : convSV P src dst x = some v) (hx : SVRep w H pl x u) : ∃ z, (convert src dst u).run P w = .ok z w ∧ SVRep w H pl v z := by
  unfold convSV at h
  split at h
  · rename_i h1 h2
    have := int_inv hx; subst this
    cases h; exact ⟨_, by simp [convert, und_of_info h1, und_of_info h2, Conv.intToInt], rep_int⟩
  · rename_i h1 h2
    have := str_inv hx; subst this
    cases h; exact ⟨_, by simp [convert, und_of_info h1, und_of_info h2], rep_str⟩
  · cases h
theorem opds_rep {s : List (Nat × SV)} {a : Act} (hs : Slots w H pl s a) : ∀ {l : List Operand} {vs : List SV}, opds s l = some vs →
    vs.length = l.length ∧ ∀ (j : Nat) (x : SV) (u : Value), vs[j]? = some x → (l.map a.eval)[j]? = some u → SVRep w H pl x u
  | [], vs, h => by cases h; exact ⟨rfl, fun j x u hx _ => by simp at hx⟩
  | o :: l, vs, h => by
    simp only [opds, Option.bind_eq_some_iff, Option.some.injEq] at h
    obtain ⟨v, hv, vs', hvs, rfl⟩ := h
    obtain ⟨h1, h2⟩ := opds_rep hs hvs
    refine ⟨by simp [h1], fun j x u hx hu => ?_⟩
    cases j with
    | zero => simp at hx hu; subst hx hu; exact opd_rep hs hv
    | succ j => exact h2 j x u (by simpa using hx) (by simpa using hu)
/-- A slot's value that is a slice, as the model has it. -/
theorem sl_inv {d : List Nat} {t : Ty} {xs : List t.El} {u : Value} (h : SVRep w H pl (.r d (.sl t xs)) u) :
    ∃ a cap, u = .slice a xs.length cap ∧ RepR w (okd H pl d) (.sl t xs) u := by
  cases h with
  | r _ _ _ h => cases h with
    | sl _ _ a cap b o vs hcap ha hc hr => exact ⟨a, cap, rfl, .sl t xs a cap b o vs hcap ha hc hr⟩
theorem arr_hdr (hr : HRel H pl w) {i : Nat} {sh : Option (List Nat)} {t : Ty} {xs : List t.El} (h : look H i = some (.arr sh t xs)) :
    ∃ a cap b o, pl.hdr i = .slice a xs.length cap ∧ xs.length ≤ cap ∧ (cap = 0 ∨ a = some ⟨b, o, none⟩) := by
  have hb := hr.blk i _ h
  cases sh with
  | none => obtain ⟨R⟩ := hb; exact ⟨R.a, R.cap, R.b, R.o, R.hdr_eq, R.hcap, R.ha⟩
  | some d => obtain ⟨R⟩ := hb; exact ⟨R.a, R.cap, R.b, R.o, R.hdr_eq, R.hcap, R.ha⟩
theorem lenOf_rep (hr : HRel H pl w) {v : SV} {n : Nat} {u : Value} (h : lenOf H v = some n) (hu : SVRep w H pl v u) :
    (∃ d l, v = .r d (.str l) ∧ u = .string ⟨List.toArray l⟩ ∧ n = l.length) ∨ (∀ d l, v ≠ .r d (.str l)) ∧ ∃ a cap, u = .slice a n cap := by
  cases hu with
  | r d x _ hx =>
    cases hx with
    | str l => cases h; exact .inl ⟨d, l, rfl, rfl, rfl⟩
    | sl t xs a cap => cases h; exact .inr ⟨(fun _ _ e => nomatch e), _, _, rfl⟩
    | int => exact nomatch h
    | bool => exact nomatch h
  | nilS => cases h; exact .inr ⟨(fun _ _ e => nomatch e), _, _, rfl⟩
  | own i sh t xs hi =>
    simp only [lenOf, hi, Option.some.injEq] at h; subst h
    obtain ⟨a, cap, b, o, h1, _⟩ := arr_hdr hr hi
    exact .inr ⟨(fun _ _ e => nomatch e), a, cap, h1⟩
  | sub => cases h; exact .inr ⟨(fun _ _ e => nomatch e), _, _, rfl⟩
  | bsl => cases h; exact .inr ⟨(fun _ _ e => nomatch e), _, _, rfl⟩
  | _ => exact nomatch h
theorem field_rep {T : TypeId} {cs : List SV} {us : Array Value} {f : Nat} {fd : Field} {v : SV} (hf : fieldOf P T f = some fd) (h : ofCellsV P fd.type (cs.drop fd.offset) = some v)
    (hx : SVRep w H pl (.agg cs) (.agg us)) : ∃ z, (Instr.field T (.agg us) f).run P w = .ok z w ∧ SVRep w H pl v z := by
  unfold fieldOf at hf
  split at hf
  · rename_i fs hu
    simp only [Option.bind_eq_some_iff] at hf
    obtain ⟨fd', hfd, i, hi, hc⟩ := hf
    cases hz : Nat.beq i.size 0 <;> simp only [hz, cond_true, cond_false, Option.some.injEq] at hc
    · subst hc
      simp only [ofCellsV, Option.bind_eq_some_iff] at h
      obtain ⟨d, hd, i', hi', l, hl, h⟩ := h
      rw [hi] at hi'; cases hi'
      obtain ⟨h1, h2⟩ := takeN_spec hl
      cases hx with
      | agg _ _ hlen hone hx =>
      have hex : (Instr.field T (.agg us) f).run P w = (part fd'.type us fd'.offset).run P w := by
        simp [Instr.field, und_of_info hu, hfd, asAgg]
      rw [hex]
      cases ha : isAggB P fd'.type
      · simp only [ha, cond_false] at h
        match l, h1, h, h2 with
        | [x], h1, h, h2 =>
          simp only [Option.some.injEq] at h; subst h
          have h1 : i.size = 1 := h1.symm
          have h3 := h2 0 (by omega)
          simp only [List.getElem?_drop, Nat.add_zero, List.getElem?_cons_zero] at h3
          have hlt := (List.getElem?_eq_some_iff.1 h3.symm).1
          refine ⟨us[fd'.offset]'(by omega), ?_, hx _ _ _ h3.symm (Array.getElem?_eq_getElem (by omega))⟩
          simp [part, run_isAgg' hd, ha, Array.getElem?_eq_getElem (show fd'.offset < us.size by omega)]
      · simp only [ha, cond_true, Option.some.injEq] at h; subst h
        refine ⟨.agg (us.extract fd'.offset (fd'.offset + i.size)), by simp [part, run_isAgg' hd, ha, run_sizeOf' hi], ?_⟩
        have hle : ∀ j, j < i.size → fd'.offset + j < us.size := fun j hj => by
          have := h2 j hj
          rw [List.getElem?_eq_getElem (by omega), List.getElem?_drop] at this
          have := (List.getElem?_eq_some_iff.1 this.symm).1
          omega
        have hsz : (us.extract fd'.offset (fd'.offset + i.size)).size = i.size := by
          by_cases h0 : i.size = 0
          · simp [h0]; omega
          · have := hle (i.size - 1) (by omega)
            simp; omega
        refine .agg _ _ (by rw [hsz, h1]) (fun j v hv => ?_) fun j x v hx' hv => ?_
        · have hj : j < i.size := by have := (Array.getElem?_eq_some_iff.1 hv).1; rw [hsz] at this; exact this
          rw [Array.getElem?_extract, if_pos (by have := hle (i.size - 1) (by omega); omega)] at hv
          exact hone _ _ hv
        · have hj : j < i.size := by have := (Array.getElem?_eq_some_iff.1 hv).1; rw [hsz] at this; exact this
          rw [Array.getElem?_extract, if_pos (by have := hle (i.size - 1) (by omega); omega)] at hv
          rw [h2 j hj, List.getElem?_drop] at hx'
          exact hx _ _ _ hx' hv
    · exact nomatch hc
  · exact nomatch hf
theorem fieldAddr_rep {T : TypeId} {b o : Nat} {f : Nat} {fd : Field} (hf : fieldOf P T f = some fd) :
    (Instr.fieldAt T (.pointer (some ⟨b, o, none⟩)) f).run P w = .ok (.pointer (some ⟨b, o + fd.offset, none⟩)) w := by
  unfold fieldOf at hf
  split at hf
  · rename_i fs hu
    simp only [Option.bind_eq_some_iff] at hf
    obtain ⟨fd', hfd, i, hi, hc⟩ := hf
    cases hz : Nat.beq i.size 0 <;> simp only [hz, cond_true, cond_false, Option.some.injEq] at hc
    · subst hc
      have hz : ¬ i.size = 0 := fun e => by rw [e] at hz; simp at hz
      have hadd : Addr.add ⟨b, o, none⟩ fd'.offset = ⟨b, o + fd'.offset, none⟩ := by
        unfold Addr.add; split
        · rename_i h0; rw [h0]; rfl
        · rfl
      simp [Instr.fieldAt, und_of_info hu, hfd, Instr.sureAddr, fieldPlace, run_sizeOf' hi, hz, hadd]
    · exact nomatch hc
  · exact nomatch hf
end
end Go.Proofs.Ev
