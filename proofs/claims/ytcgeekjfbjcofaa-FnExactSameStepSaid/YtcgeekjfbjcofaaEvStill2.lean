/- Soundness of the operations that neither write nor make memory: each kind. -/
import Derived.Test.YtcgeekjfbjcofaaEvStill
import Derived.Laws.StructEq
import Derived.Laws.Concat
set_option linter.unusedVariables false
set_option linter.unusedSimpArgs false
namespace Go.Proofs.Ev
section
variable {w : World} {H : Heap} {pl : Pl} {P : Program}
theorem rep_int {k : IntKind} {n : Int} : SVRep w H pl (.r [] (.int k n)) (.int k n) := .r _ _ _ (.int _ _)
theorem rep_bool {b : Bool} : SVRep w H pl (.b b) (.bool b) := .r _ _ _ (.bool _)
theorem rep_str {l : List UInt8} {d : List Nat} : SVRep w H pl (.r d (.str l)) (.string ⟨l.toArray⟩) := .r _ _ _ (.str _)
theorem int_inv {d : List Nat} {k : IntKind} {n : Int} {u : Value} (h : SVRep w H pl (.r d (.int k n)) u) : u = .int k n := by
  cases h with
  | r _ _ _ h => cases h; rfl
theorem bool_inv {d : List Nat} {b : Bool} {u : Value} (h : SVRep w H pl (.r d (.bool b)) u) : u = .bool b := by
  cases h with
  | r _ _ _ h => cases h; rfl
theorem str_inv {d : List Nat} {l : List UInt8} {u : Value} (h : SVRep w H pl (.r d (.str l)) u) : u = .string ⟨l.toArray⟩ := by
  cases h with
  | r _ _ _ h => cases h; rfl
theorem guard_plain {op : BinOp} {T : TypeId} {x y : Operand} {u v : Value} (h1 : u ≠ .nilIface) (h2 : ∀ a, u ≠ .agg a) :
    (eqGuard op T x y u v).run P w = .ok () w := by
  unfold eqGuard
  cases op <;> simp <;> (cases u <;> simp_all)
theorem guarded {op : BinOp} {T : TypeId} {x y : Operand} {u v z : Value} (h1 : u ≠ .nilIface) (h2 : ∀ a, u ≠ .agg a)
    (h : (binOp op T u v).run P w = .ok z w) : (do eqGuard op T x y u v; binOp op T u v : Sem Value).run P w = .ok z w := by
  rw [Sem.run_bind, guard_plain h1 h2, Result.andThen_ok]; exact h
theorem binI_rep {op : BinOp} {k : IntKind} {a b : Int} {r : R} (T : TypeId) (hs : isShl op = false) (h : binI op k a b = some r) :
    ∃ u, (binOp op T (.int k a) (.int k b)).run P w = .ok u w ∧ RepR w (okd H pl []) r u := by
  cases op
  case add => cases h; exact ⟨_, by simp [binOp, Op.intArith], .int _ _⟩
  case sub => cases h; exact ⟨_, by simp [binOp, Op.intArith], .int _ _⟩
  case mul => cases h; exact ⟨_, by simp [binOp, Op.intArith], .int _ _⟩
  case quo =>
    unfold binI at h
    by_cases hb : b = 0
    · simp [hb] at h
    · simp only [hb, decide_false, cond_false, Option.some.injEq] at h
      subst h; exact ⟨_, by simp [binOp, Op.intDiv, hb], .int _ _⟩
  case rem =>
    unfold binI at h
    by_cases hb : b = 0
    · simp [hb] at h
    · simp only [hb, decide_false, cond_false, Option.some.injEq] at h
      subst h; exact ⟨_, by simp [binOp, Op.intDiv, hb], .int _ _⟩
  case and => cases h; exact ⟨_, by simp [binOp, Op.intBits], .int _ _⟩
  case or => cases h; exact ⟨_, by simp [binOp, Op.intBits], .int _ _⟩
  case xor => cases h; exact ⟨_, by simp [binOp, Op.intBits], .int _ _⟩
  case eql => cases h; exact ⟨_, by simp [binOp, Op.intCmp], .bool _⟩
  case neq => cases h; exact ⟨_, by simp [binOp, Op.intCmp], .bool _⟩
  case lss => cases h; exact ⟨_, by simp [binOp, Op.intCmp], .bool _⟩
  case leq => cases h; exact ⟨_, by simp [binOp, Op.intCmp], .bool _⟩
  case gtr => cases h; exact ⟨_, by simp [binOp, Op.intCmp], .bool _⟩
  case geq => cases h; exact ⟨_, by simp [binOp, Op.intCmp], .bool _⟩
  all_goals (first | (cases h; done) | (cases hs; done))
theorem shiftI_rep {op : BinOp} {k l : IntKind} {a b : Int} {r : R} (T : TypeId) (hs : isShl op = true) (h : shiftI op k a b = some r) :
    ∃ u, (binOp op T (.int k a) (.int l b)).run P w = .ok u w ∧ RepR w (okd H pl []) r u := by
  unfold shiftI at h
  by_cases hb : b < 0
  · simp [hb] at h
  · simp only [hb, decide_false, cond_false] at h
    cases op
    case shl => cases h; exact ⟨_, by simp [binOp, Op.shift, hb], .int _ _⟩
    case shr => cases h; exact ⟨_, by simp [binOp, Op.shift, hb], .int _ _⟩
    all_goals (cases hs; done)
theorem binS_rep {op : BinOp} {a b : List UInt8} {r : R} (T : TypeId) (h : binS op a b = some r) :
    ∃ u, (binOp op T (.string ⟨a.toArray⟩) (.string ⟨b.toArray⟩)).run P w = .ok u w ∧ RepR w (okd H pl []) r u := by
  cases op
  case add =>
    unfold binS at h
    by_cases hb : a.length + b.length ≤ maxN
    · simp only [hb, decide_true, cond_true, Option.some.injEq] at h
      subst h
      refine ⟨.string ⟨(a ++ b).toArray⟩, ?_, .str _⟩
      have h2 : (2 : Nat) ^ 38 = 274877906944 := rfl
      rw [binOp_string_add, run_string_add_sum _ _ _ (by show a.toArray.size + b.toArray.size ≤ _; unfold maxN at hb; rw [List.size_toArray, List.size_toArray]; omega), ByteArray.mk_append_mk]
    · simp [hb] at h
  case eql => cases h; exact ⟨_, by simp [binOp, Op.stringOp], .bool _⟩
  case neq => cases h; exact ⟨_, by simp [binOp, Op.stringOp], .bool _⟩
  case lss => cases h; exact ⟨_, by simp [binOp, Op.stringOp], .bool _⟩
  case leq => cases h; exact ⟨_, by simp [binOp, Op.stringOp], .bool _⟩
  case gtr => cases h; exact ⟨_, by simp [binOp, Op.stringOp], .bool _⟩
  case geq => cases h; exact ⟨_, by simp [binOp, Op.stringOp], .bool _⟩
  all_goals (cases h; done)
theorem aggEq_rep {d : Nat} {xs ys : List SV} {us vs : Array Value} (hx : SVRep w H pl (.agg xs) (.agg us)) (hy : SVRep w H pl (.agg ys) (.agg vs)) :
    ∀ (fs : List Field) (t : Bool), aggEq P xs ys fs = some t → (Op.eqFields (d + 1) us vs fs).run P w = .ok t w
  | [], t, h => by cases h; rfl
  | f :: fs, t, h => by
    simp only [aggEq] at h
    cases hn : decide (f.name = "_") <;> simp only [hn, cond_true, cond_false] at h
    · have hn : ¬ f.name = "_" := by simpa using hn
      split at h
      · rename_i kk _ k a _ l b hu h1 h2
        cases hkl : decide (k = l) <;> simp only [hkl, cond_true, cond_false] at h
        · exact nomatch h
        · simp only [Option.bind_eq_some_iff, Option.some.injEq] at h
          obtain ⟨t', ht', rfl⟩ := h
          have ih := aggEq_rep (d := d) hx hy fs t' ht'
          cases hx with
          | agg _ _ hl h1' hx =>
          cases hy with
          | agg _ _ hl' h1'' hy =>
          have hkl : k = l := by simpa using hkl
          subst hkl
          have g1 : f.offset < us.size := by have := (List.getElem?_eq_some_iff.1 h1).1; omega
          have g2 : f.offset < vs.size := by have := (List.getElem?_eq_some_iff.1 h2).1; omega
          have e1 := int_inv (hx _ _ _ h1 (Array.getElem?_eq_getElem g1))
          have e2 := int_inv (hy _ _ _ h2 (Array.getElem?_eq_getElem g2))
          have p1 : ∀ cs : Array Value, ∀ g : f.offset < cs.size, (part f.type cs f.offset).run P w = .ok cs[f.offset] w := fun cs g => by
            simp [part, run_isAgg' hu, isAggB, hu, g]
          simp only [Op.eqFields, hn, ne_eq, not_false_eq_true, if_true, Sem.run_bind, p1 us g1, p1 vs g2, Result.andThen_ok, e1, e2, run_equalIn_int w d f.type k kk a b hu]
          cases hab : a == b
          · simp
          · simp [ih]
      · exact nomatch h
    · exact nomatch h
theorem bin_rep {op : BinOp} {T : TypeId} {x y v : SV} {u1 u2 : Value} (ox oy : Operand) (h : bin P T op x y = some v) (h1 : SVRep w H pl x u1) (h2 : SVRep w H pl y u2) :
    ∃ u, (do eqGuard op T ox oy u1 u2; binOp op T u1 u2 : Sem Value).run P w = .ok u w ∧ SVRep w H pl v u := by
  unfold bin at h
  split at h
  · have e1 := int_inv h1
    have e2 := int_inv h2
    subst e1 e2
    cases hs : isShl op <;> simp only [hs, cond_true, cond_false] at h
    · rename_i k a _ l b
      cases hk : decide (k = l) <;> simp only [hk, cond_true, cond_false] at h
      · exact nomatch h
      · have hk : k = l := by simpa using hk
        subst hk
        simp only [Option.bind_eq_some_iff, Option.some.injEq] at h
        obtain ⟨r, hr, rfl⟩ := h
        obtain ⟨u, hu, hr⟩ := binI_rep (P := P) (w := w) (H := H) (pl := pl) T hs hr
        exact ⟨u, guarded (fun e => nomatch e) (fun _ e => nomatch e) hu, .r _ _ _ hr⟩
    · simp only [Option.bind_eq_some_iff, Option.some.injEq] at h
      obtain ⟨r, hr, rfl⟩ := h
      obtain ⟨u, hu, hr⟩ := shiftI_rep (P := P) (w := w) (H := H) (pl := pl) T hs hr
      exact ⟨u, guarded (fun e => nomatch e) (fun _ e => nomatch e) hu, .r _ _ _ hr⟩
  · have e1 := str_inv h1
    have e2 := str_inv h2
    subst e1 e2
    simp only [Option.bind_eq_some_iff, Option.some.injEq] at h
    obtain ⟨r, hr, rfl⟩ := h
    obtain ⟨u, hu, hr⟩ := binS_rep (P := P) (w := w) (H := H) (pl := pl) T hr
    exact ⟨u, guarded (fun e => nomatch e) (fun _ e => nomatch e) hu, .r _ _ _ hr⟩
  · have e1 := bool_inv h1
    have e2 := bool_inv h2
    subst e1 e2
    rename_i a _ b
    cases hu : P.underlying T with
    | none => simp [hu] at h
    | some d =>
      cases d with
      | bool =>
        simp only [hu, Option.bind_eq_some_iff, Option.some.injEq] at h
        obtain ⟨e, he, rfl⟩ := h
        have hq : (Op.equal T (.bool a) (.bool b)).run P w = .ok (a == b) w := run_equalIn_bool' w 9999 T a b hu
        have e1 : binOp .eql T (.bool a) (.bool b) = (do pure (.bool (← Op.equal T (.bool a) (.bool b)))) := rfl
        have e2 : binOp .neq T (.bool a) (.bool b) = (do pure (.bool (!(← Op.equal T (.bool a) (.bool b))))) := rfl
        cases op
        case eql => cases he; exact ⟨.bool (a == b), guarded (fun e => nomatch e) (fun _ e => nomatch e) (by rw [e1, Sem.run_bind, hq]; rfl), rep_bool⟩
        case neq => cases he; exact ⟨.bool (!(a == b)), guarded (fun e => nomatch e) (fun _ e => nomatch e) (by rw [e2, Sem.run_bind, hq]; rfl), rep_bool⟩
        all_goals (cases he; done)
      | _ => simp [hu] at h
  · rename_i a b
    cases h1 with
    | agg _ us hl h11 h1 =>
    cases h2 with
    | agg _ vs hl' h22 h2 =>
    simp only [Option.bind_eq_some_iff, Option.some.injEq] at h
    obtain ⟨e, he, t, ht, rfl⟩ := h
    unfold eqAgg at ht
    cases hst : P.stoodInHeld T <;> simp only [hst, cond_true, cond_false] at ht
    · cases hg : P.eqGuardType P.depth T <;> simp only [hg, cond_true, cond_false] at ht
      · split at ht
        · rename_i fs hf
          have hfo : P.fieldsOf T = fs := by simp [Program.fieldsOf, hf]
          have hag := aggEq_rep (P := P) (d := 9998) (SVRep.agg _ us hl h11 h1) (SVRep.agg _ vs hl' h22 h2) fs.toList t ht
          have heq : (Op.equalIn 10000 T (.agg us) (.agg vs)).run P w = .ok t w := by
            rw [run_equalIn_struct w 9999 T us vs (by rw [hfo]; exact hf) hst, hfo]; exact hag
          simp only [Sem.run_bind, run_eqGuard_agg w op T ox oy us vs hg, Result.andThen_ok]
          cases op <;> simp only [isEq, Option.some.injEq] at he <;> first
            | contradiction
            | (subst he; exact ⟨_, by first | rw [run_eql_struct, heq]; rfl | rw [run_neq_struct, heq]; rfl, rep_bool⟩)
        · exact nomatch ht
      · exact nomatch ht
    · exact nomatch ht
  · exact nomatch h
end
end Go.Proofs.Ev
