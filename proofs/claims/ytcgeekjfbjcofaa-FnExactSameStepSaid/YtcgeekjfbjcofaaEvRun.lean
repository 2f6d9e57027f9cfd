/- Soundness of the evaluator. -/
import Derived.Test.YtcgeekjfbjcofaaEvDraw4
import Derived.Tactics
import Derived.LoopN
import Derived.Scope
set_option linter.unusedVariables false
set_option linter.unusedSimpArgs false
namespace Go.Proofs.Ev
section
variable {ρ : Type} {E : Env} {w0 : World} {fp0 : Cell → Prop} {bs : Cell → Prop}
theorem Rl.put {n : Nat} {st : St} {a : Act} {w : World} {t : Nat} {v : SV} (h : Rl w0 fp0 bs n st a w) (hv : ∀ pl, SVRep w st.heap pl v (a.tmps.getD t undef)) : Rl w0 fp0 bs n { st with slots := put st.slots t v } a w := by
  obtain ⟨pl, h, hb, hn⟩ := h
  refine ⟨pl, ⟨h.hr, fun t' v' h' => ?_, h.sz, h.df, h.fresh, h.gr, h.fr⟩, hb, hn⟩
  rw [look_put] at h'
  by_cases e : t = t'
  · subst e; simp at h'; subst h'; exact hv pl
  · rw [if_neg e] at h'; exact h.sl t' v' h'
theorem evOp_rl (hE : EnvOk E) {n : Nat} {o : Oper} {st : St} {a : Act} {w : World} {K : St → Option ρ} {out : ρ} {next : Act → World → Prop} {Q : Exit → Act → World → Prop}
    (hr : Rl w0 fp0 bs n st a w) (h : evOp E o st K = some out) (hK : ∀ st' a' w', K st' = some out → Rl w0 fp0 bs n st' a' w' → next a' w') : o.wp E.P a w next Q := by
  obtain ⟨pl, hr, hb, hn⟩ := hr
  exact evOp_sound hE hr h fun st' pl' a' w' hk hb' hn' hr' => hK st' a' w' hk ⟨pl', hr', hb'.trans hb, hn'.trans hn⟩
theorem skip_rl {n : Nat} {o : Oper} {st : St} {a : Act} {w : World} {K : St → Option ρ} {out : ρ} {next : Act → World → Prop}
    (hr : Rl w0 fp0 bs n st a w) (h : skipOp o st K = some out) (hK : ∀ st' a' w', K st' = some out → Rl w0 fp0 bs n st' a' w' → next a' w') : next (a.put o.dst undef) w := by
  simp only [skipOp, Option.bind_eq_some_iff] at h
  obtain ⟨s, hs, h⟩ := h
  obtain ⟨pl, hr, hb, hn⟩ := hr
  exact hK _ _ _ h ⟨pl, ⟨hr.hr, Slots.put hr.sl hr.sz hs (.undef _), by rw [Act.put_size]; exact hr.sz, by rw [Act.put_df]; exact hr.df, hr.fresh, hr.gr, hr.fr⟩, hb, hn⟩
theorem evOps_list (hE : EnvOk E) {n : Nat} {ops : Array Oper} {Q : Exit → Act → World → Prop} {out : ρ} : ∀ (l : List Oper) (st : St) (a : Act) (w : World) (K : St → Option ρ),
    Rl w0 fp0 bs n st a w → evOps E ops.toList l st K = some out → (∀ st' a' w', K st' = some out → Rl w0 fp0 bs n st' a' w' → Q .normal a' w') → wpList E.P ops Q l a w
  | [], st, a, w, K, hr, h, hK => hK st a w h hr
  | o :: rest, st, a, w, K, hr, h, hK => by
    simp only [evOps] at h
    cases hg : o.guard with
    | none =>
      simp only [hg] at h
      refine wpList_plain hg fun K' hK' => evOp_rl hE hr h fun st' a' w' h' hr' => hK' _ _ (evOps_list hE rest st' a' w' K hr' h' hK)
    | some jw =>
      obtain ⟨j, want⟩ := jw
      simp only [hg, Option.bind_eq_some_iff] at h
      obtain ⟨t, ht, v, hv, b, hb, h⟩ := h
      have hval : a.tmps.getD t undef = .bool b := by
        obtain ⟨pl, hr, _, _⟩ := hr
        exact asB_rep hb (hr.sl t v hv)
      have hy : yielded ops a.tmps j = some b := by
        simp only [dstOf, Option.bind_eq_some_iff] at ht
        obtain ⟨oj, hoj, hd⟩ := ht
        have hoj' : ops[j]? = some oj := by rwa [Array.getElem?_toList] at hoj
        have hg : a.tmps[t]? = some (.bool b) := by
          rw [Array.getD_eq_getD_getElem?] at hval
          cases hq : a.tmps[t]? with
          | none => rw [hq] at hval; exact nomatch hval
          | some x => rw [hq] at hval; exact congrArg some hval
        simp [yielded, hoj', hd, hg]
      refine wpList_step fun K' hK' => ?_
      simp only [Region.wanted, hg, hy]
      have hput : ∀ b', b' = b → Rl w0 fp0 bs n { st with slots := put st.slots t (.b b') } a w := fun b' e => hr.put fun pl => by rw [hval, e]; exact rep_bool
      cases b <;> simp only [cond_true, cond_false] at h
      · have hr' := hput false rfl
        cases want <;> simp only [cond_true, cond_false] at h
        · rw [if_pos (by rfl)]
          exact evOp_rl hE hr' h fun st' a' w' h' hr' => hK' _ _ (evOps_list hE rest st' a' w' K hr' h' hK)
        · rw [if_neg (by simp)]
          exact skip_rl (next := K') hr' h fun st' a' w' h' hr' => hK' _ _ (evOps_list hE rest st' a' w' K hr' h' hK)
      · have hr' := hput true rfl
        cases want <;> simp only [cond_true, cond_false] at h
        · rw [if_neg (by simp)]
          exact skip_rl (next := K') hr' h fun st' a' w' h' hr' => hK' _ _ (evOps_list hE rest st' a' w' K hr' h' hK)
        · rw [if_pos (by rfl)]
          exact evOp_rl hE hr' h fun st' a' w' h' hr' => hK' _ _ (evOps_list hE rest st' a' w' K hr' h' hK)
def Ex.up : Ex → Exit
  | .normal => .normal
  | .exit id => .exit id
  | .ret => .ret
/-- 'f' says what 'c' does. -/
def Sound (P : Program) (c : Code) (f : Ev ρ) : Prop :=
  ∀ (w0 : World) (fp0 bs : Cell → Prop) (n : Nat) (st : St) (a : Act) (w : World) (K : Ex → St → Option ρ) (out : ρ) (Q : Exit → Act → World → Prop),
    Rl w0 fp0 bs n st a w → f st K = some out → (∀ e st' a' w', K e st' = some out → Rl w0 fp0 bs n st' a' w' → Q e.up a' w') → c.wp P Q a w
def LPGood (E : Env) (LP : Nat → Ev ρ → Ev ρ) : Nat → Code → Prop
  | cb, .seq a b => LPGood E LP cb a ∧ LPGood E LP cb b
  | cb, .cond _ a b => LPGood E LP cb a ∧ LPGood E LP cb b
  | _, .block id c => LPGood E LP id c
  | cb, .scope c => LPGood E LP cb c
  | cb, .loop c => Sound E.P (.loop c) (LP cb fun st K => ev E LP cb c st K)
  | _, _ => True
theorem refine_rl {n : Nat} {st : St} {a : Act} {w : World} {c : Operand} {b : Bool} (h : Rl w0 fp0 bs n st a w) (hc : a.eval c = .bool b) : Rl w0 fp0 bs n (refine c b st) a w := by
  cases c with
  | tmp t => exact h.put fun pl => by rw [show a.tmps.getD t undef = .bool b from hc]; exact rep_bool
  | _ => exact h
theorem ev_sound (hE : EnvOk E) {LP : Nat → Ev ρ → Ev ρ} : ∀ (c : Code) (cb : Nat), LPGood E LP cb c → Sound E.P c (ev E LP cb c)
  | .skip, cb, _ => fun w0 fp0 bs n st a w K out Q hr h hK => wp_skip (hK .normal st a w h hr)
  | .label l, cb, _ => fun w0 fp0 bs n st a w K out Q hr h hK => wp_label (hK .normal st a w h hr)
  | .region id ops false, cb, _ => fun w0 fp0 bs n st a w K out Q hr h hK => wp_region_list (evOps_list hE _ st a w _ hr h fun st' a' w' h' hr' => hK .normal st' a' w' h' hr')
  | .region id ops true, cb, _ => fun w0 fp0 bs n st a w K out Q hr h hK => drawn_sound hE hr h fun st' a' w' h' hr' => hK .normal st' a' w' h' hr'
  | .seq x y, cb, hg => fun w0 fp0 bs n st a w K out Q hr h hK => wp_seq <|
    ev_sound hE x cb hg.1 w0 fp0 bs n st a w _ out _ hr h fun e st' a' w' h' hr' => match e, h' with
      | .normal, h' => ev_sound hE y cb hg.2 w0 fp0 bs n st' a' w' K out Q hr' h' hK
      | .exit _, h' => hK _ st' a' w' h' hr'
      | .ret, h' => hK _ st' a' w' h' hr'
  | .cond c x y, cb, hg => fun w0 fp0 bs n st a w K out Q hr h hK => by
    simp only [ev, Option.bind_eq_some_iff] at h
    obtain ⟨v, hv, b, hb, h⟩ := h
    have hval : a.eval c = .bool b := by
      obtain ⟨pl, hr, _, _⟩ := hr
      exact asB_rep hb (opd_rep hr.sl hv)
    refine wp_cond hval ?_
    cases b
    · exact ev_sound hE y cb hg.2 w0 fp0 bs n _ a w K out Q (refine_rl hr hval) h hK
    · exact ev_sound hE x cb hg.1 w0 fp0 bs n _ a w K out Q (refine_rl hr hval) h hK
  | .block id c, cb, hg => fun w0 fp0 bs n st a w K out Q hr h hK => wp_block <|
    ev_sound hE c id hg w0 fp0 bs n st a w _ out _ hr h fun e st' a' w' h' hr' => match e, h' with
      | .normal, h' => hK .normal st' a' w' h' hr'
      | .exit j, h' => by
        simp only [inBlock] at h'
        show Exit.inBlock id Q (.exit j) a' w'
        cases hj : Nat.beq j id <;> simp only [hj, cond_true, cond_false] at h'
        · have : ¬ j = id := fun e => by subst e; simp at hj
          simp only [Exit.inBlock, if_neg this]
          exact hK (.exit j) st' a' w' h' hr'
        · simp only [Exit.inBlock, if_pos (Nat.eq_of_beq_eq_true hj)]
          exact hK .normal st' a' w' h' hr'
      | .ret, h' => hK .ret st' a' w' h' hr'
  | .loop c, cb, hg => hg
  | .exit id, cb, _ => fun w0 fp0 bs n st a w K out Q hr h hK => wp_exit (hK (.exit id) st a w h hr)
  | .scope c, cb, hg => fun w0 fp0 bs n st a w K out Q hr h hK => wp_scope_straight <|
    ev_sound hE c cb hg w0 fp0 bs n st a w K out _ hr h fun e st' a' w' h' hr' => match e, h' with
      | .normal, h' => hK .normal st' a' w' h' hr'
      | .exit j, h' => hK (.exit j) st' a' w' h' hr'
      | .ret, h' => hK .ret st' a' w' h' hr'
  | .ret, cb, _ => fun w0 fp0 bs n st a w K out Q hr h hK => wp_ret (hK .ret st a w h hr)
  | .rangeFunc _ _ _ _, cb, _ => fun w0 fp0 bs n st a w K out Q hr h hK => nomatch h
  | .goto _, cb, _ => fun w0 fp0 bs n st a w K out Q hr h hK => nomatch h
  | .refuse _, cb, _ => fun w0 fp0 bs n st a w K out Q hr h hK => nomatch h
/-- Rounds. -/
theorem loop_sound {P : Program} {c : Code} {f : Ev ρ} (hf : Sound P c f) (k : Nat) : Sound P (.loop c) (loopN f k) := by
  intro w0 fp0 bs n st a w K out Q hr h hK
  refine wp_loop_rounds k ?_
  induction k generalizing st a w with
  | zero => exact nomatch h
  | succ k ih =>
    rw [rounds_succ]
    exact hf w0 fp0 bs n st a w _ out _ hr h fun e st' a' w' h' hr' => match e, h' with
      | .normal, h' => ih st' a' w' hr' h'
      | .exit j, h' => hK (.exit j) st' a' w' h' hr'
      | .ret, h' => hK .ret st' a' w' h' hr'
end
end Go.Proofs.Ev
