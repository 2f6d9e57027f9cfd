/- Calls: what is asked of an oracle; the contract of a function that neither writes nor keeps anything. -/
import Derived.Test.YtcgeekjfbjcofaaEvMake5
set_option linter.unusedVariables false
set_option linter.unusedSimpArgs false
namespace Go.Proofs.Ev
/-- The function has a body that is entered. -/
def Enters (P : Program) (g : FuncId) : Prop := ∀ (args : Array Value) (w : World), (callFunc g args).run P w = .ok (.enter g args) w
theorem enters_of {P : Program} {g : FuncId} {fn : Func} (h : P.funcs[g]? = some fn) (hb : fn.body.isNone = false) (hn : (fn.name == "runtime.NumGoroutine") = false) : Enters P g := by
  intro args w
  have hn' : ¬ fn.name = "runtime.NumGoroutine" := by simpa using hn
  have hb' : ¬ fn.body = none := fun e => by rw [e] at hb; exact nomatch hb
  simp [callFunc, h, hb', hn']
/-- A call, of arguments as a slot has them, where at least the blocks 'H' are there and the ids of what is made are free. -/
def CallSem (P : Program) (g : FuncId) (nid : Nat) (vs : List SV) (H : Heap) (c : CR) : Prop :=
  Enters P g ∧ (∀ i B, look c.upd i = some B → ∃ B', look H i = some B') ∧
  ∀ (H1 : Heap) (pl : Pl) (w : World) (us : Array Value), Ext H H1 → HRel H1 pl w → (∀ k, k < c.news.length → look H1 (nid + k) = none) → vs.length = us.size →
    (∀ (j : Nat) (x : SV) (u : Value), vs[j]? = some x → us[j]? = some u → SVRep w H1 pl x u) → ∀ H', after H1 nid c = some H' →
    Calls P g us w fun e w' => ∃ u pl', e = .returned u ∧ StepTo H1 H' c.kil pl pl' w w' ∧ SVRep w' H' pl' c.v u
def OrcOk (P : Program) (g : FuncId) (o : Orc) : Prop :=
  ∀ (ρ : Type) nid vs H (K : CR → Option ρ) (out : ρ), o ρ nid vs H K = some out → ∃ c, K c = some out ∧ CallSem P g nid vs H c
theorem noOrc_ok (P : Program) (g : FuncId) : OrcOk P g noOrc := fun _ _ _ _ _ _ h => nomatch h
def EnvOk (E : Env) : Prop := ∀ g, OrcOk E.P g (E.orc g)
section
variable {w : World} {H : Heap} {pl : Pl} {P : Program}
theorem call_sem {o : Oper} {a : Act} {s : List (Nat × SV)} {f : Operand} {args : Array Operand} {tys : Array TypeId} {g : FuncId} {first vs cap : List SV} {n : Nat} {c : CR} {H0 : Heap}
    (he : Ext H0 H) (hr : HRel H pl w) (hs : Slots w H pl s a) (hn : ∀ k, k < c.news.length → look H (n + k) = none) (ho : o.op = .call { callee := .value f, args := args, argTypes := tys })
    (hf : opd s f = some (.fn (.func g) first cap)) (hv : opds s args.toList = some vs) (hc : CallSem P g n (first ++ vs ++ cap) H0 c) : OpSem P o a w H pl n c := by
  obtain ⟨hen, hup, hcall⟩ := hc
  refine ⟨fun i B hB => (hup i B hB).imp fun B' h => he i B' h, fun H' next Q ha hN => ?_⟩
  have hfr := opd_rep hs hf
  obtain ⟨g1, g2⟩ := fn_slots hs hv
  generalize hfe : a.eval f = fe at hfr
  cases hfr with
  | fn _ _ _ us vs' hl h1 hl' h2 =>
    have hlen : (first ++ vs ++ cap).length = (us ++ args.map a.eval ++ vs').size := by simp only [List.length_append, Array.size_append, hl, hl', g1]
    have hpt : ∀ (j : Nat) (x : SV) (u : Value), (first ++ vs ++ cap)[j]? = some x → (us ++ args.map a.eval ++ vs')[j]? = some u → SVRep w H pl x u := fun j x u hx hu => by
      by_cases c1 : j < first.length
      · rw [List.append_assoc, List.getElem?_append_left c1] at hx
        rw [Array.append_assoc, Array.getElem?_append_left (by omega)] at hu
        exact h1 j x u hx hu
      · by_cases c2 : j < first.length + vs.length
        · rw [List.append_assoc, List.getElem?_append_right (by omega), List.getElem?_append_left (by omega)] at hx
          rw [Array.append_assoc, Array.getElem?_append_right (by omega), Array.getElem?_append_left (by omega)] at hu
          rw [← hl] at hu
          exact g2 _ x u hx hu
        · rw [List.append_assoc, List.getElem?_append_right (by omega), List.getElem?_append_right (by omega)] at hx
          rw [Array.append_assoc, Array.getElem?_append_right (by omega), Array.getElem?_append_right (by omega)] at hu
          rw [← hl, ← g1] at hu
          exact h2 _ x u hx hu
    have hcl := hcall H pl w _ he hr hn hlen hpt H' ha
    unfold Oper.wp
    have hrun : (execOp a.eval o).run P w = .ok (.enter g (us ++ args.map a.eval ++ vs')) w := by
      rw [execOp, ho]
      simp only [resolve, hfe, Deferred.ofValue, invoke, Sem.run_bind, Sem.run_pure, Result.andThen_ok]
      exact hen _ w
    rw [hrun]
    show Calls P g _ w _
    refine hcl.mono fun e w' ⟨u, pl', he, hst, hv⟩ => ?_
    subst he
    exact hN u pl' w' hst hv
variable {ρ : Type}
/-- What comes of an operation wherever at least these slots and blocks are there. -/
def OpGen (P : Program) (o : Oper) (n : Nat) (c : CR) (s : List (Nat × SV)) (h : Heap) : Prop :=
  ∀ (s' : List (Nat × SV)) (H : Heap) (a : Act) (w : World) (pl : Pl), Ext s s' → Ext h H → HRel H pl w → Slots w H pl s' a → (∀ k, k < c.news.length → look H (n + k) = none) → OpSem P o a w H pl n c
theorem free1 {H : Heap} {n : Nat} {B : Blk} (h : ∀ k, k < [B].length → look H (n + k) = none) : look H n = none := h 0 (by simp)
/-- All operations. -/
theorem evMem_gen {E : Env} (hE : EnvOk E) {o : Oper} {s : List (Nat × SV)} {h0 : Heap} {n : Nat} {K : CR → Option ρ} {out : ρ}
    (h : evMem E s h0 n o.op K = some out) : ∃ c, K c = some out ∧ OpGen E.P o n c s h0 := by
  unfold evMem at h
  split at h
  · rename_i T ho
    simp only [Option.bind_eq_some_iff] at h
    obtain ⟨z, hz, h⟩ := h
    exact ⟨_, h, fun s' H a w pl es eh hr hs hn => alloc_sem hr (free1 hn) ho hz⟩
  · rename_i T x ho
    simp only [Option.bind_eq_some_iff] at h
    obtain ⟨v, hv, cs, hcs, h⟩ := h
    exact ⟨_, h, fun s' H a w pl es eh hr hs hn => box_sem hr (free1 hn) ho (opd_rep hs (opd_le es _ _ hv)) hcs⟩
  · rename_i T k parts ho
    simp only [Option.bind_eq_some_iff] at h
    obtain ⟨e, he, sz, hsz, ps, hps, z, hz, h⟩ := h
    cases hb : (Nat.ble (k * sz) 16777216 && Nat.beq z.length sz) <;> simp only [hb, cond_true, cond_false, Option.bind_eq_some_iff] at h
    · exact nomatch h
    obtain ⟨cs, hcs, h⟩ := h
    simp only [Bool.and_eq_true] at hb
    have h1 := Nat.le_of_ble_eq_true hb.1
    have h2 := Nat.eq_of_beq_eq_true hb.2
    have bx : K { v := .bsl n k, news := [.box cs] } = some out → ∃ c, K c = some out ∧ OpGen E.P o n c s h0 := fun h =>
      ⟨_, h, fun s' H a w pl es eh hr hs hn => buildSlice_box hr hs (free1 hn) ho he hsz (partsO_le es _ _ hps) hz h2 h1 hcs⟩
    split at h
    · exact bx h
    · rename_i t ht
      cases hc : (flatTy t && Nat.beq t.sz sz) <;> simp only [hc, cond_true, cond_false, Option.bind_eq_some_iff] at h
      · exact bx h
      simp only [Bool.and_eq_true] at hc
      obtain ⟨⟨ids, xs⟩, hx, h⟩ := h
      cases hi : isNil ids <;> simp only [hi, cond_true, cond_false] at h
      · exact nomatch h
      have := isNil_eq hi
      subst this
      exact ⟨_, h, fun s' H a w pl es eh hr hs hn => buildSlice_own hr hs (free1 hn) ho he hsz (partsO_le es _ _ hps) hz h2 h1 hcs (Nat.eq_of_beq_eq_true hc.2) (absEls_le eh _ _ _ _ hx)⟩
  · rename_i T l c ho
    simp only [Option.bind_eq_some_iff] at h
    obtain ⟨e, he, sz, hsz, t, ht, z, hz, lv, hl, cv, hc, li, hli, ci, hci, h⟩ := h
    cases hb : (smallB E.P e && Nat.beq t.sz sz) <;> simp only [hb, cond_true, cond_false, Option.bind_eq_some_iff] at h
    · exact nomatch h
    simp only [Bool.and_eq_true] at hb
    obtain ⟨⟨ids, xs⟩, hx, h⟩ := h
    cases hi : (isNil ids && Nat.beq z.length sz) <;> simp only [hi, cond_true, cond_false] at h
    · exact nomatch h
    simp only [Bool.and_eq_true] at hi
    have hids := isNil_eq hi.1
    subst hids
    split at h
    · rename_i y
      by_cases hd : 0 ≤ li ∧ li ≤ ci ∧ ci ≤ (maxN : Int)
      · simp only [hd, and_self, decide_true, cond_true] at h
        exact ⟨_, h, fun s' H a w pl es eh hr hs hn => makeSlice_sem hr hs (free1 hn) ho (opd_le es _ _ hl) (opd_le es _ _ hc) hli hci he hsz hb.1 (Nat.eq_of_beq_eq_true hb.2) hz (Nat.eq_of_beq_eq_true hi.2) (absEls_le eh _ _ _ _ hx) hd⟩
      · simp only [hd, decide_false, cond_false] at h; exact nomatch h
    · exact nomatch h
  · rename_i args tys ho
    simp only [Option.bind_eq_some_iff] at h
    obtain ⟨vs, hvs, h⟩ := h
    split at h
    · rename_i b x T T' hty
      simp only [Option.bind_eq_some_iff] at h
      obtain ⟨e, he, sz, hsz, t, ht, h⟩ := h
      cases hb : (smallB E.P e && (Nat.beq t.sz sz && Nat.beq T T')) <;> simp only [hb, cond_true, cond_false, Option.bind_eq_some_iff] at h
      · exact nomatch h
      simp only [Bool.and_eq_true] at hb
      have hTT : T = T' := Nat.eq_of_beq_eq_true hb.2.2
      subst hTT
      have hts := Nat.eq_of_beq_eq_true hb.2.1
      obtain ⟨z, hz, h⟩ := h
      cases hzl : Nat.beq z.length sz <;> simp only [hzl, cond_true, cond_false, Option.bind_eq_some_iff] at h
      · exact nomatch h
      have hzl := Nat.eq_of_beq_eq_true hzl
      obtain ⟨⟨sh1, ids, ys⟩, hy, h⟩ := h
      split at h
      · cases hh : hit ids (sh1.getD []) <;> simp only [hh, cond_true, cond_false] at h
        · cases hn' : Nat.ble ys.length maxN <;> simp only [hn', cond_true, cond_false] at h
          · exact nomatch h
          exact ⟨_, h, fun s' H a w pl es eh hr hs hn => append_sem (xs := []) hr hs (free1 hn) ho (opds_le es _ _ hvs) hty he hsz hb.1 hts hz hzl (anyList_le eh _ _ _ hy) (.inl ⟨rfl, rfl, rfl, rfl⟩) hh (by simpa using Nat.le_of_ble_eq_true hn')⟩
        · exact nomatch h
      · rename_i i
        split at h
        · rename_i sh t' xs hl
          split at h
          · rename_i htt
            subst htt
            simp only [Option.bind_eq_some_iff] at h
            obtain ⟨sh', hj, h⟩ := h
            cases hm : mem i ids <;> simp only [hm, cond_true, cond_false] at h
            rotate_left
            · exact nomatch h
            cases hh : hit (i :: ids) (sh'.getD []) <;> simp only [hh, cond_true, cond_false] at h
            rotate_left
            · exact nomatch h
            cases hn' : Nat.ble (xs.length + ys.length) maxN <;> simp only [hn', cond_true, cond_false] at h
            · exact nomatch h
            exact ⟨_, h, fun s' H a w pl es eh hr hs hn => append_sem hr hs (free1 hn) ho (opds_le es _ _ hvs) hty he hsz hb.1 hts hz hzl (anyList_le eh _ _ _ hy) (.inr ⟨i, sh, rfl, eh _ _ hl, rfl, hm, hj⟩) hh (Nat.le_of_ble_eq_true hn')⟩
          · exact nomatch h
        · exact nomatch h
      · exact nomatch h
    · exact nomatch h
  · rename_i T p x ho
    simp only [Option.bind_eq_some_iff] at h
    obtain ⟨p', hp, x', hx, h⟩ := h
    have arr : ∀ {i k off : Nat} {sh : Option (List Nat)} {t : Ty} {ys : List t.El}, p' = .ptr i k off → look h0 i = some (.arr sh t ys) → storeArr E.P T h0 i sh t ys k off x' K = some out → ∃ c, K c = some out ∧ OpGen E.P o n c s h0 := fun e hl h3 => by
      clear h
      subst e
      obtain ⟨c, h1, h2⟩ := storeArr_gen (n := n) ho h3
      exact ⟨c, h1, fun s' H a w pl es eh hr hs hn => h2 H a w pl eh (eh _ _ hl) hr (opd_rep hs (opd_le es _ _ hp)) (opd_rep hs (opd_le es _ _ hx))⟩
    split at h
    · rename_i i k off
      split at h
      · rename_i cs hl
        cases hk0 : Nat.beq k 0 <;> simp only [hk0, cond_true, cond_false, Option.bind_eq_some_iff] at h
        · exact nomatch h
        have hk0 := Nat.eq_of_beq_eq_true hk0
        subst hk0
        obtain ⟨xs, hxs, sz, hsz, h⟩ := h
        cases hb : Nat.beq sz xs.length <;> simp only [hb, cond_true, cond_false, Option.bind_eq_some_iff] at h
        · exact nomatch h
        · obtain ⟨cs', hcs, h⟩ := h
          exact ⟨_, h, fun s' H a w pl es eh hr hs hn => store_sem hr ho (eh _ _ hl) (opd_rep hs (opd_le es _ _ hp)) (opd_rep hs (opd_le es _ _ hx)) hxs hsz (Nat.eq_of_beq_eq_true hb) hcs⟩
      · rename_i sh t ys hl
        exact arr rfl hl h
      · exact nomatch h
    · exact nomatch h
  · rename_i f args tys ho
    simp only [Option.bind_eq_some_iff] at h
    obtain ⟨f', hf, vs, hvs, h⟩ := h
    split at h
    · rename_i g first cap
      obtain ⟨c, hc, hcs⟩ := hE g _ _ _ _ _ _ h
      exact ⟨c, hc, fun s' H a w pl es eh hr hs hn => call_sem eh hr hs hn ho (opd_le es _ _ hf) (opds_le es _ _ hvs) hcs⟩
    · exact nomatch h
  · rw [evStillK_eq] at h
    simp only [Option.bind_eq_some_iff] at h
    obtain ⟨v, hv, h⟩ := h
    exact ⟨_, h, fun s' H a w pl es eh hr hs hn => by
      obtain ⟨u, hu, hvr⟩ := evStill_sound hr hs (evStill_le es eh _ _ hv) o rfl
      exact still_sem hr hu hvr⟩
theorem evMem_sound {E : Env} (hE : EnvOk E) {o : Oper} {a : Act} {s : List (Nat × SV)} {n : Nat} {K : CR → Option ρ} {out : ρ}
    (hr : HRel H pl w) (hs : Slots w H pl s a) (hn : ∀ i, n ≤ i → look H i = none) (h : evMem E s H n o.op K = some out) : ∃ c, K c = some out ∧ OpSem E.P o a w H pl n c := by
  obtain ⟨c, h1, h2⟩ := evMem_gen hE h
  exact ⟨c, h1, h2 s H a w pl .rfl' .rfl' hr hs fun k _ => hn _ (Nat.le_add_right _ _)⟩
theorem evOp_sound {E : Env} (hE : EnvOk E) {w0 : World} {fp0 : Cell → Prop} {o : Oper} {st : St} {a : Act} {K : St → Option ρ} {out : ρ} {next : Act → World → Prop} {Q : Exit → Act → World → Prop}
    (hr : Rel w0 fp0 st pl a w) (h : evOp E o st K = some out) (hK : ∀ st' pl' a' w', K st' = some out → pl'.base = pl.base → st'.n = st.n → Rel w0 fp0 st' pl' a' w' → next a' w') : o.wp E.P a w next Q := by
  obtain ⟨c, hc, hup, hsem⟩ := evMem_sound hE hr.hr hr.sl hr.fresh h
  simp only [Option.bind_eq_some_iff] at hc
  obtain ⟨st', ht, hk⟩ := hc
  refine hsem st'.heap next Q (take_heap ht) fun u pl' w' hst hv => ?_
  have hn : st'.n = st.n := by
    simp only [St.take, Option.bind_eq_some_iff, Option.some.injEq] at ht
    obtain ⟨h1, e1, s, h2, rfl⟩ := ht
    rfl
  exact hK st' pl' _ w' hk hst.bs hn (hr.take ht hup hst hv)
end
end Go.Proofs.Ev
