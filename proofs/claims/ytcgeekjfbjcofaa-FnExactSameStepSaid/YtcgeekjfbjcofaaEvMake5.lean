/- Into an element, slice literals: what comes of them. -/
import Derived.Test.YtcgeekjfbjcofaaEvMake4
import Derived.Test.YtcgeekjfbjcofaaEvMono
set_option linter.unusedSimpArgs false
set_option linter.unusedVariables false
namespace Go.Proofs.Ev
section
variable {w : World} {H : Heap} {pl : Pl} {P : Program}
theorem after_upd {n i : Nat} {c : CR} {B0 : Blk} {sh : Option (List Nat)} {t : Ty} {ys : List t.El} {H' : Heap} (hl : look H i = some B0) (hu : c.upd = [(i, .arr sh t ys)]) (hw : c.news = []) (hi : mem i c.kil.1 = false) (ha : after H n c = some H') :
    Turned H H' c.kil i (.arr sh t ys) ∧ hit c.kil.2 (sh.getD []) = false := by
  unfold after at ha
  rw [hu, hw] at ha
  simp only [upds, newsH, List.append_nil, Option.bind_eq_some_iff, Option.some.injEq] at ha
  obtain ⟨H1, h1, rfl⟩ := ha
  have hput : ∀ k, look (put H i (.arr sh t ys)) k = if i = k then some (.arr sh t ys) else look H k := fun k => look_put _ _ _ _
  have hall := sweepH'_all c.kil_le h1
  obtain ⟨B', hB'⟩ := hall i _ (by rw [hput, if_pos rfl]) hi
  have hsame : B' = .arr sh t ys ∧ hit c.kil.2 (sh.getD []) = false := by
    cases sh with
    | none => cases hB'; exact ⟨rfl, rfl⟩
    | some d =>
      simp only [Blk.sweep] at hB'
      cases hd : hit c.kil.2 d <;> simp only [hd, cond_true, cond_false, Option.some.injEq] at hB'
      · exact ⟨hB'.symm, hd⟩
      · exact nomatch hB'
  obtain ⟨rfl, hh⟩ := hsame
  refine ⟨⟨?_, fun k B1 hB hm hne => ?_, fun k B1 hB hne => ?_⟩, hh⟩
  · rw [sweepH'_spec c.kil_le h1 i, hi, hput, if_pos rfl]; exact hB'
  · obtain ⟨B2, hB2⟩ := hall k B1 (by rw [hput, if_neg (fun e => hne e.symm)]; exact hB) hm
    refine ⟨B2, hB2, ?_⟩
    rw [sweepH'_spec c.kil_le h1 k, hm, hput, if_neg (fun e => hne e.symm), hB]
    exact hB2
  · rw [sweepH'_spec c.kil_le h1 k, hput, if_neg (fun e => hne e.symm)] at hB
    cases hm : mem k c.kil.1 <;> simp only [hm, cond_true, cond_false] at hB
    · obtain ⟨B2, g1, g2⟩ := Option.bind_eq_some_iff.1 hB
      exact ⟨rfl, B2, g1, g2⟩
    · exact nomatch hB
theorem store_elem {o : Oper} {a : Act} {T : TypeId} {p x : Operand} {n i k off : Nat} {v : SV} {xs : List SV} {t : Ty} {sh sh' : Option (List Nat)} {ys : List t.El} {y : t.El} {rs : List R} {ids : List Nat} {f1 : Nat → Cell → Prop}
    (hr : HRel H pl w) (ho : o.op = .store T p x) (hl : look H i = some (.arr sh t ys)) (hp : SVRep w H pl (.ptr i k off) (a.eval p)) (hv : SVRep w H pl v (a.eval x)) (hz : v.cells = some xs) (hT : sizeT P T = some xs.length)
    (hoff : off + xs.length ≤ t.sz) (hrs : rs.length = xs.length) (hy : ∀ e, ys[k]? = some e → t.cells y = (t.cells e).take off ++ rs ++ (t.cells e).drop (off + xs.length))
    (hin : ∀ j r u, rs[j]? = some r → (a.eval x).cells[j]? = some u → Inner w H pl sh' r u (f1 j)) (hf1 : ∀ j p, j < xs.length → f1 j p → ∃ k B, mem k ids = true ∧ look H k = some B ∧ B.isBox = false ∧ pl.fp k p)
    (hf2 : ∀ j j' p, j < xs.length → j' < xs.length → f1 j p → f1 j' p → j = j') (hsh : (sh = none ∧ sh' = none) ∨ ∃ d d', sh = some d ∧ sh' = some d' ∧ ∀ k, mem k d = true → mem k d' = true)
    (hi : mem i ids = false) : OpSem P o a w H pl n { v := .undef, upd := [(i, .arr sh' t (ys.set k y))], gone := ids, dirty := [i] } := by
  refine ⟨fun j B h => ?_, fun H' next Q ha hN => ?_⟩
  · rw [look_cons] at h
    by_cases e : i = j
    · subst e; exact ⟨_, hl⟩
    · rw [if_neg e] at h; simp [look] at h
  obtain ⟨ht, hh⟩ := after_upd (c := { v := .undef, upd := [(i, .arr sh' t (ys.set k y))], gone := ids, dirty := [i] }) hl rfl rfl hi ha
  have hc := hv.cells hz hr
  obtain ⟨ti, hti, hts⟩ := sizeT_spec hT
  generalize hpe : a.eval p = up at hp
  cases hp with
  | ptrB _ _ cs b2 k2 hl2 hh2 => rw [hl] at hl2; exact nomatch hl2
  | ptrA _ _ _ sh2 t2 zs b m n' cap hl2 hx hhd =>
    rw [hl] at hl2; cases hl2
    have hk : ys[k]? = some ys[k] := List.getElem?_eq_getElem hx
    have hone : ∀ u ∈ (a.eval x).cells.toList, one u = true := fun u hu => by
      obtain ⟨j, hj⟩ := List.getElem?_of_mem hu
      exact hc.h1 j u (by simpa using hj)
    obtain ⟨w', hst, fp', hstep⟩ := elem_step (P := P) (us := (a.eval x).cells.toList) (f1 := f1) hr hl hhd hk hoff hrs (by simp [hc.hl]) (hy _ hk) hone (fun j r hj => by
        have hj' : j < (a.eval x).cells.size := by rw [← hc.hl, ← hrs]; exact (List.getElem?_eq_some_iff.1 hj).1
        exact ⟨(a.eval x).cells[j], by simp, hin j r _ hj (by simp)⟩) hf1 hf2 hsh hh hi ht
    unfold Oper.wp
    have hsz2 : (a.eval x).cells.size = ti.size := by rw [← hc.hl]; exact hts.symm
    have hrun : (execOp a.eval o).run P w = .ok .skip w' := by
      rw [execOp, ho]
      simp only [Instr.storeAt, hpe, Instr.sureAddr, storeVar, Sem.run_bind, Sem.run_pure, Result.andThen_ok, run_sizeOf' hti, hsz2, ne_eq, not_true, if_false, Sem.run_ite]
      simp [hst]
    rw [hrun]
    exact hN undef _ w' hstep (.undef _)
theorem nodupB_cons {i : Nat} {l : List Nat} (h : nodupB (i :: l) = true) : mem i l = false ∧ l.Nodup := by
  simp only [nodupB] at h
  cases hm : mem i l <;> simp only [hm, cond_true, cond_false] at h
  · exact ⟨rfl, nodupB_spec h⟩
  · exact nomatch h
theorem asRs_spec {h : Heap} : ∀ {ts : List Ty} {vs : List SV} {d : List Nat} {rs : List R}, asRs h ts vs = some (d, rs) → rs.length = vs.length ∧ ∀ (j : Nat) (r : R), rs[j]? = some r → ∃ v ty d', vs[j]? = some v ∧ v.asR h ty = some (d', r) ∧ ∀ k, mem k d' = true → mem k d = true
  | [], [], d, rs, e => by cases e; exact ⟨rfl, fun j r hr => by simp at hr⟩
  | t :: ts, v :: vs, d, rs, e => by
    simp only [asRs, Option.bind_eq_some_iff, Option.some.injEq, Prod.mk.injEq] at e
    obtain ⟨⟨d1, r1⟩, q1, ⟨d2, r2⟩, q2, rfl, rfl⟩ := e
    obtain ⟨g1, g2⟩ := asRs_spec q2
    refine ⟨by simp [g1], fun j r hr => ?_⟩
    cases j with
    | zero => simp at hr; subst hr; exact ⟨v, t, d1, rfl, q1, fun k hk => by rw [mem_append, hk]; rfl⟩
    | succ j =>
      obtain ⟨v', ty, d', p1, p2, p3⟩ := g2 j r (by simpa using hr)
      exact ⟨v', ty, d', by simpa using p1, p2, fun k hk => by rw [mem_append, p3 k hk, Bool.or_true]⟩
  | [], _ :: _, _, _, e => nomatch e
  | _ :: _, [], _, _, e => nomatch e
theorem storeArr_gen {ρ : Type} {K : CR → Option ρ} {out : ρ} {o : Oper} {T : TypeId} {p x : Operand} {h0 : Heap} {n i k off : Nat} {v : SV} {t : Ty} {sh : Option (List Nat)} {ys : List t.El} (ho : o.op = .store T p x)
    (h : storeArr P T h0 i sh t ys k off v K = some out) : ∃ c, K c = some out ∧ ∀ (H : Heap) (a : Act) (w : World) (pl : Pl), Ext h0 H → look H i = some (.arr sh t ys) → HRel H pl w → SVRep w H pl (.ptr i k off) (a.eval p) →
      SVRep w H pl v (a.eval x) → OpSem P o a w H pl n c := by
  simp only [storeArr, Option.bind_eq_some_iff] at h
  obtain ⟨xs, hxs, sz, hsz, h⟩ := h
  cases hb : (Nat.beq sz xs.length && Nat.ble (off + sz) t.sz) <;> simp only [hb, cond_true, cond_false] at h
  · exact nomatch h
  simp only [Bool.and_eq_true] at hb
  have e1 := Nat.eq_of_beq_eq_true hb.1
  have e2 := Nat.le_of_ble_eq_true hb.2
  subst e1
  cases sh with
  | none =>
    simp only [Option.bind_eq_some_iff] at h
    obtain ⟨⟨ids, rs⟩, hrs, h⟩ := h
    cases hn : nodupB (i :: ids) <;> simp only [hn, cond_true, cond_false] at h
    · exact nomatch h
    obtain ⟨hmi, hnd⟩ := nodupB_cons hn
    obtain ⟨g1, g2, g3, g4⟩ := absRs_spec hrs
    have fin : ∀ y, K { v := .undef, upd := [(i, .arr none t (ys.set k y))], gone := ids, dirty := [i] } = some out → (∀ e, ys[k]? = some e → t.cells y = (t.cells e).take off ++ rs ++ (t.cells e).drop (off + xs.length)) →
        ∃ c, K c = some out ∧ ∀ (H : Heap) (a : Act) (w : World) (pl : Pl), Ext h0 H → look H i = some (.arr none t ys) → HRel H pl w → SVRep w H pl (.ptr i k off) (a.eval p) → SVRep w H pl v (a.eval x) → OpSem P o a w H pl n c := fun y hK hy =>
      ⟨_, hK, fun H a w pl he hl hr hp hv => by
        have hc := hv.cells hxs hr
        refine store_elem (rs := rs) (f1 := fun j p => ∃ v, xs[j]? = some v ∧ tookF pl v p) hr ho hl hp hv hxs hsz e2 (g2.trans g1.symm) hy (fun j r u hj hu => ?_) (fun j p hj ⟨v, hv, k', e, hf⟩ => ?_) (fun j j' p hj hj' ⟨v, hv, k', e, hf⟩ ⟨v2, hv2, k2, e', hf'⟩ => ?_) (.inl ⟨rfl, rfl⟩) hmi
        · obtain ⟨v, ty, q1, q2⟩ := g4 j r hj
          exact (absR_rep hr (absR_le he _ _ _ q2) (hc.h _ _ _ q1 hu)).congr fun p => ⟨fun h => ⟨v, q1, h⟩, fun ⟨v', hv', h⟩ => by rw [q1] at hv'; cases hv'; exact h⟩
        · subst e
          obtain ⟨r, hr'⟩ : ∃ r, rs[j]? = some r := ⟨_, List.getElem?_eq_getElem (by omega)⟩
          obtain ⟨v, ty, q1, q2⟩ := g4 j r hr'
          rw [hv] at q1; cases q1
          obtain ⟨t1, zs, hl2⟩ := absR_there (absR_le he _ _ _ q2) rfl
          exact ⟨k', _, (mem_iff _ _).2 (by rw [g3]; exact tookL_mem hv), hl2, rfl, hf⟩
        · subst e e'
          have thr : ∀ j k', xs[j]? = some (.own k') → j < xs.length → ∃ B, look H k' = some B := fun j k' hv hj => by
            obtain ⟨r, hr'⟩ : ∃ r, rs[j]? = some r := ⟨_, List.getElem?_eq_getElem (by omega)⟩
            obtain ⟨v, ty, q1, q2⟩ := g4 j r hr'
            rw [hv] at q1; cases q1
            obtain ⟨t1, zs, hl2⟩ := absR_there (absR_le he _ _ _ q2) rfl
            exact ⟨_, hl2⟩
          obtain ⟨B1, hB1⟩ := thr j k' hv hj
          obtain ⟨B2, hB2⟩ := thr j' k2 hv2 hj'
          have := hr.dis k' k2 B1 B2 p hB1 hB2 hf hf'
          subst this
          exact tookL_inj (g3 ▸ hnd) hv hv2⟩
    cases hw : Nat.beq xs.length t.sz <;> simp only [hw, cond_true, cond_false, Option.bind_eq_some_iff] at h
    · obtain ⟨e, he, y, hy, h⟩ := h
      exact fin y h fun e' he' => by rw [he] at he'; cases he'; exact Ty.ofCells_spec t _ y hy
    · obtain ⟨y, hy, h⟩ := h
      have hw := Nat.eq_of_beq_eq_true hw
      refine fin y h fun e he => ?_
      have ho0 : off = 0 := by omega
      subst ho0
      rw [Ty.ofCells_spec t _ y hy, Nat.zero_add, hw, ← Ty.cells_length t e, List.drop_length]; simp
  | some d =>
    simp only [Option.bind_eq_some_iff] at h
    obtain ⟨⟨d1, rs⟩, hrs, h⟩ := h
    cases hn : mem i d1 <;> simp only [hn, cond_true, cond_false] at h
    rotate_left
    · exact nomatch h
    obtain ⟨g1, g4⟩ := asRs_spec hrs
    have fin : ∀ y, K { v := .undef, upd := [(i, .arr (some (d ++ d1)) t (ys.set k y))], dirty := [i] } = some out → (∀ e, ys[k]? = some e → t.cells y = (t.cells e).take off ++ rs ++ (t.cells e).drop (off + xs.length)) →
        ∃ c, K c = some out ∧ ∀ (H : Heap) (a : Act) (w : World) (pl : Pl), Ext h0 H → look H i = some (.arr (some d) t ys) → HRel H pl w → SVRep w H pl (.ptr i k off) (a.eval p) → SVRep w H pl v (a.eval x) → OpSem P o a w H pl n c := fun y hK hy =>
      ⟨_, hK, fun H a w pl he hl hr hp hv => by
        have hc := hv.cells hxs hr
        refine store_elem (rs := rs) (ids := []) (f1 := fun _ _ => False) hr ho hl hp hv hxs hsz e2 g1 hy (fun j r u hj hu => ?_) (fun _ _ _ h => h.elim) (fun _ _ _ _ _ h => h.elim) (.inr ⟨d, _, rfl, rfl, fun k hk => by rw [mem_append, hk]; rfl⟩) rfl
        obtain ⟨v, ty, d', q1, q2, q3⟩ := g4 j r hj
        exact ⟨(asR_rep hr (asR_le he _ _ _ q2) (hc.h _ _ _ q1 hu)).frame fun p u hp hu => ⟨okd_mono (fun k hk => by rw [mem_append, q3 k hk, Bool.or_true]) hp, hu⟩, fun _ h => h⟩⟩
    cases hw : Nat.beq xs.length t.sz <;> simp only [hw, cond_true, cond_false, Option.bind_eq_some_iff] at h
    · obtain ⟨e, he, y, hy, h⟩ := h
      exact fin y h fun e' he' => by rw [he] at he'; cases he'; exact Ty.ofCells_spec t _ y hy
    · obtain ⟨y, hy, h⟩ := h
      have hw := Nat.eq_of_beq_eq_true hw
      refine fin y h fun e he => ?_
      have ho0 : off = 0 := by omega
      subst ho0
      rw [Ty.ofCells_spec t _ y hy, Nat.zero_add, hw, ← Ty.cells_length t e, List.drop_length]; simp
/-- A slice literal. -/
theorem build_fill {a : Act} {s : List (Nat × SV)} {T e : TypeId} {sz len : Nat} {parts : Array (Nat × Operand)} {ps : List (Nat × SV)} {z cs : List SV} (hr : HRel H pl w) (hs : Slots w H pl s a)
    (he : elemT P T = some e) (hsz : sizeT P e = some sz) (hps : partsO s parts.toList = some ps) (hz : zeroCs P e = some z) (hzl : z.length = sz) (hlen : len * sz ≤ 16777216)
    (hf : fillCs (fun i => some (i * sz, sz)) (List.replicate (len * sz) .undef) ps = some cs) :
    ∃ cells, CRep w H pl cs cells ∧ (Instr.buildSlice T len (parts.map fun p => (p.1, a.eval p.2))).run P w = .ok (.slice (some ⟨w.heap.size, 0, none⟩) len len) (w.alloc (.cells cells e)) := by
  obtain ⟨ti, hti, rfl⟩ := sizeT_spec hsz
  obtain ⟨zu, hzu, hzc⟩ := zeroCs_spec hr hti hz
  have hzs : zu.cells.size = ti.size := by rw [← hzc.hl, hzl]
  obtain ⟨g1, g2⟩ := partsO_rep hs hps
  have hinit : CRep w H pl (List.replicate (len * ti.size) .undef) (madeCells zu.cells (len * ti.size)) := by
    refine ⟨by simp [size_madeCells], fun j v hv => ?_, fun j x u hx hu => ?_⟩
    · have hj : j < len * ti.size := by have := (Array.getElem?_eq_some_iff.1 hv).1; rwa [size_madeCells] at this
      rw [madeCells_get hj] at hv; cases hv
      have hpos : 0 < zu.cells.size := by
        rw [hzs]
        rcases Nat.eq_zero_or_pos ti.size with h | h
        · rw [h] at hj; omega
        · exact h
      have hlt : j % zu.cells.size < zu.cells.size := Nat.mod_lt _ hpos
      rw [getElem!_pos zu.cells _ hlt]
      exact hzc.h1 _ _ (Array.getElem?_eq_getElem hlt)
    · have := (List.mem_replicate.1 (List.mem_of_getElem? hx)).2
      subst this; exact .undef _
  obtain ⟨cells, e1, e2⟩ := fill_rep hr ps (parts.map fun p => (p.1, a.eval p.2)).toList _ cs _ hinit (by simp [g1]) (fun j k x k' u hx hu => g2 j k x k' u hx (by simpa using hu)) hf
  exact ⟨cells, e2, buildSlice_run (elemT_spec he) hti hzu len hlen e1⟩
theorem fillCs_length {place : Nat → Option (Nat × Nat)} : ∀ {ps : List (Nat × SV)} {cs cs' : List SV}, fillCs place cs ps = some cs' → cs'.length = cs.length
  | [], cs, cs', h => by cases h; rfl
  | (k, v) :: l, cs, cs', h => by
    simp only [fillCs, Option.bind_eq_some_iff] at h
    obtain ⟨p, hp, vs, hvs, h⟩ := h
    cases h1 : Nat.beq vs.length p.2 <;> simp only [h1, cond_true, cond_false] at h
    · exact nomatch h
    cases h2 : Nat.ble (p.1 + vs.length) cs.length <;> simp only [h2, cond_true, cond_false] at h
    · exact nomatch h
    have h2 := Nat.le_of_ble_eq_true h2
    rw [fillCs_length h]; simp; omega
theorem buildSlice_own {o : Oper} {a : Act} {s : List (Nat × SV)} {n : Nat} {T e : TypeId} {sz len : Nat} {parts : Array (Nat × Operand)} {ps : List (Nat × SV)} {z cs : List SV} {t : Ty} {xs : List t.El} (hr : HRel H pl w) (hs : Slots w H pl s a)
    (hn : look H n = none) (ho : o.op = .buildSlice T len parts) (he : elemT P T = some e) (hsz : sizeT P e = some sz) (hps : partsO s parts.toList = some ps) (hz : zeroCs P e = some z) (hzl : z.length = sz) (hlen : len * sz ≤ 16777216)
    (hf : fillCs (fun i => some (i * sz, sz)) (List.replicate (len * sz) .undef) ps = some cs) (hts : t.sz = sz) (hx : absEls H t len cs = some ([], xs)) : OpSem P o a w H pl n { v := .own n, news := [.arr none t xs] } := by
  obtain ⟨cells, hc, hrun⟩ := build_fill hr hs he hsz hps hz hzl hlen hf
  refine own_sem hn rfl rfl rfl fun H' ht => ?_
  obtain ⟨k1, _, _, _⟩ := absEls_spec hx
  have hst := fresh_row (e := e) (cs := cells) (cap := len) hr hn (by omega) (by rw [← hc.hl, fillCs_length hf, List.length_replicate, hts]) (absEls_plain hr hx hc) ht
  refine ⟨_, _, _, ?_, hst⟩
  rw [execOp, ho]
  simp only [Sem.run_bind, hrun, Result.andThen_ok, k1]
  rfl
theorem buildSlice_box {o : Oper} {a : Act} {s : List (Nat × SV)} {n : Nat} {T e : TypeId} {sz len : Nat} {parts : Array (Nat × Operand)} {ps : List (Nat × SV)} {z cs : List SV} (hr : HRel H pl w) (hs : Slots w H pl s a)
    (hn : look H n = none) (ho : o.op = .buildSlice T len parts) (he : elemT P T = some e) (hsz : sizeT P e = some sz) (hps : partsO s parts.toList = some ps) (hz : zeroCs P e = some z) (hzl : z.length = sz) (hlen : len * sz ≤ 16777216)
    (hf : fillCs (fun i => some (i * sz, sz)) (List.replicate (len * sz) .undef) ps = some cs) : OpSem P o a w H pl n { v := .bsl n len, news := [.box cs] } := by
  obtain ⟨cells, hc, hrun⟩ := build_fill hr hs he hsz hps hz hzl hlen hf
  refine ⟨fun i B h => by simp [look] at h, fun H' next Q ha hN => ?_⟩
  cases ha
  obtain ⟨pl', hst, hh⟩ := box_step hr hn hc e
  refine exec_wp (u := .slice (some ⟨w.heap.size, 0, none⟩) len len) (w' := push w cells e) ?_ (hN _ pl' _ hst ?_)
  · rw [execOp, ho]
    simp only [Sem.run_bind, hrun, Result.andThen_ok]
    rfl
  · exact SVRep.bsl (w := push w cells e) (H := H ++ [(n, .box cs)]) (pl := pl') n len cs _ (by rw [look_append, hn, look_cons]; simp) hh
end
end Go.Proofs.Ev
