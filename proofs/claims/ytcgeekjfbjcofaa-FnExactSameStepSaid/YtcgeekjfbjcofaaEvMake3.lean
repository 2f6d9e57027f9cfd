/- append, slice literals, make: what comes of them. -/
import Derived.Test.YtcgeekjfbjcofaaEvMake2
set_option linter.unusedSimpArgs false
set_option linter.unusedVariables false
namespace Go.Proofs.Ev
section
variable {w : World} {H : Heap} {pl : Pl} {P : Program}
theorem elemT_spec {T e : TypeId} (h : elemT P T = some e) : P.underlying T = some (.slice e) := by
  unfold elemT at h
  split at h
  · rename_i e' hu; cases h; exact hu
  · exact nomatch h
theorem sizeT_spec {T : TypeId} {n : Nat} (h : sizeT P T = some n) : ∃ i, P.info? T = some i ∧ i.size = n := by
  simp only [sizeT, Option.bind_eq_some_iff, Option.some.injEq] at h
  exact h
theorem zeroCs_spec (hr : HRel H pl w) {T : TypeId} {z : List SV} {i : TypeInfo} (hi : P.info? T = some i) (h : zeroCs P T = some z) : ∃ u, i.zero = some u ∧ CRep w H pl z u.cells := by
  simp only [zeroCs, Option.bind_eq_some_iff] at h
  obtain ⟨i', hi', v, hv, x, hx, hc⟩ := h
  rw [hi] at hi'; cases hi'
  exact ⟨v, hv, (constV_rep hx).cells hc hr⟩
theorem smallB_spec {T : TypeId} {i : TypeInfo} (hi : P.info? T = some i) (h : smallB P T = true) : i.bytes ≤ 512 := by
  unfold smallB at h
  rw [hi] at h
  exact Nat.le_of_ble_eq_true h
theorem after_turn {c : CR} {n : Nat} {B : Blk} {H' : Heap} (hn : look H n = none) (hu : c.upd = []) (hw : c.news = [B]) (ha : after H n c = some H') : Turned H H' c.kil n B := by
  unfold after at ha
  rw [hu, hw] at ha
  simp only [upds, Option.bind_eq_some_iff, Option.some.injEq] at ha
  obtain ⟨H1, h1, rfl⟩ := ha
  exact turned_new c.kil_le h1 hn (sweepH'_all c.kil_le h1)
/-- A result that is the new block's header. -/
theorem own_sem {o : Oper} {a : Act} {n : Nat} {c : CR} {sh : Option (List Nat)} {t : Ty} {xs : List t.El} (hn : look H n = none) (hv : c.v = .own n) (hu : c.upd = []) (hw : c.news = [.arr sh t xs])
    (h : ∀ H', Turned H H' c.kil n (.arr sh t xs) → ∃ u fp' w', (execOp a.eval o).run P w = .ok (.value u) w' ∧ StepTo H H' c.kil pl (pl.set n u fp') w w') : OpSem P o a w H pl n c := by
  refine ⟨fun i B hB => by rw [hu] at hB; simp [look] at hB, fun H' next Q ha hN => ?_⟩
  have ht := after_turn hn hu hw ha
  obtain ⟨u, fp', w', hrun, hst⟩ := h H' ht
  refine exec_wp hrun (hN u _ w' hst ?_)
  rw [hv]
  have := SVRep.own (w := w') (H := H') (pl := pl.set n u fp') n sh t xs ht.at_n
  simpa [Pl.set] using this
theorem append_sem {o : Oper} {a : Act} {s : List (Nat × SV)} {n : Nat} {args : Array Operand} {tys : Array TypeId} {b x : SV} {T : TypeId} {e : TypeId} {sz : Nat} {t : Ty} {z : List SV} {sh1 sh' : Option (List Nat)} {ids : List Nat}
    {ys : List t.El} (hr : HRel H pl w) (hs : Slots w H pl s a) (hn : look H n = none) (ho : o.op = .call { callee := .builtin .append, args := args, argTypes := tys }) (hvs : opds s args.toList = some [b, x]) (hty : tys.toList = [T, T])
    (he : elemT P T = some e) (hsz : sizeT P e = some sz) (hsm : smallB P e = true) (hts : t.sz = sz) (hz : zeroCs P e = some z) (hzl : z.length = sz) (hy : anyList H t x = some (sh1, ids, ys))
    {xs : List t.El} {G : List Nat} (hbase : (b = .nilS ∧ xs = [] ∧ G = ids ∧ sh' = sh1) ∨ ∃ i sh, b = .own i ∧ look H i = some (.arr sh t xs) ∧ G = i :: ids ∧ mem i ids = false ∧ joinSh sh sh1 = some sh')
    (hhit : hit G (sh'.getD []) = false) (hlen : xs.length + ys.length ≤ maxN) : OpSem P o a w H pl n { v := .own n, news := [.arr sh' t (xs ++ ys)], gone := G } := by
  obtain ⟨p, q, hpq, hp, hq⟩ := opds_two hvs
  have hpr := opd_rep hs hp
  have hqr := opd_rep hs hq
  have ha : args.map a.eval = #[a.eval p, a.eval q] := by rw [show args = #[p, q] from Array.ext' hpq]; simp
  have hta : tys = #[T, T] := Array.ext' hty
  obtain ⟨ti, hti, rfl⟩ := sizeT_spec hsz
  obtain ⟨zu, hzu, hzc⟩ := zeroCs_spec hr hti hz
  have hzs : zu.cells.size = ti.size := by rw [← hzc.hl, hzl]
  refine own_sem hn rfl rfl rfl fun H' ht => ?_
  have fin : ∀ {sh : Option (List Nat)} {fp0 : Cell → Prop}, Nonempty (Row w (Inner w H pl sh) t xs (a.eval p) fp0) → (∀ p, fp0 p → ∃ k B, mem k G = true ∧ mem k ids = false ∧ look H k = some B ∧ pl.fp k p) →
      (∀ k, mem k ids = true → mem k G = true) → joinSh sh sh1 = some sh' → ∃ u fp' w', (execOp a.eval o).run P w = .ok (.value u) w' ∧ StepTo H H' (G, G ++ []) pl (pl.set n u fp') w w' := fun hrow hfp0 hids hj => by
    obtain ⟨u', fp', w', hrun, hst⟩ := append_row (ty := o.type) hr (elemT_spec he) hti hzu hzs hts.symm (smallB_spec hti hsm) hrow hfp0 (src_of_any hr hy hqr) hids hj hhit hlen hn ht
    refine ⟨u', fp', w', ?_, hst⟩
    rw [execOp, ho, hta]
    simp only [resolve, ha, invoke, builtin, Sem.run_bind, Sem.run_pure, Result.andThen_ok, hrun]
  rcases hbase with ⟨rfl, rfl, rfl, rfl⟩ | ⟨i, sh, rfl, hl, rfl, hmi, hj⟩
  · have : a.eval p = .slice none 0 0 := by generalize a.eval p = u at hpr; cases hpr; rfl
    rw [this] at fin
    refine fin (sh := sh'.map fun _ => []) (Row.nil _) (fun _ h => h.elim) (fun _ h => h) ?_
    cases sh' <;> rfl
  · have : a.eval p = pl.hdr i := by generalize a.eval p = u at hpr; cases hpr; rfl
    rw [this] at fin
    exact fin (hr.blk i _ hl).rowI (fun p hp => ⟨i, _, by simp [mem], hmi, hl, hp⟩) (fun k hk => by simp only [mem]; cases Nat.beq i k <;> simp [hk]) hj
/-- A row in new memory. -/
theorem fresh_row {cs : Array Value} {e : TypeId} {t : Ty} {xs : List t.El} {n cap : Nat} {H' : Heap} (hr : HRel H pl w) (hn : look H n = none) (hcap : xs.length ≤ cap) (hsz : cs.size = cap * t.sz)
    (hin : ∀ i j r, cellIn t xs i j r → ∃ u, cs[i * t.sz + j]? = some u ∧ RepD w r u (fun _ => False)) (ht : Turned H H' ([], []) n (.arr none t xs)) :
    StepTo H H' ([], []) pl (pl.set n (.slice (some ⟨w.heap.size, 0, none⟩) xs.length cap) (reg w.heap.size 0 (cap * t.sz))) w (w.alloc (.cells cs e)) := by
  refine turn_step (Grown.alloc w cs e) hr ht (fun i h => h) (fun i h => nomatch h) (.inl hn) (fun p u hp _ => alloc_old hp) (fun p hp => alloc_none hp) (fun p hp => .inl ?_) fun hk => ?_
  · obtain ⟨p1, p2⟩ := p
    obtain ⟨e1, _, _⟩ := hp
    simp only at e1; subst e1
    exact (alloc_new (cs := cs) (e := e) p2).2.2
  · refine BlkRep.of_rowI ⟨some ⟨w.heap.size, 0, none⟩, cap, w.heap.size, 0, fun i j => (cs[i * t.sz + j]?).getD undef, fun _ _ _ => False, by simp [Pl.set], hcap, .inr rfl, fun j hj => ⟨⟨cs[j]'(by rw [hsz]; exact hj), ?_⟩, ?_⟩, fun i j r hx => ?_, fun i j r hx => ?_, fun _ _ _ _ _ h => h.elim, fun _ _ _ _ _ _ _ _ _ h => h.elim, fun p => by simp [Pl.set]⟩
    · rw [Nat.zero_add, (alloc_new j).1]; simp
    · rw [Nat.zero_add]; exact (alloc_new j).2.1
    · obtain ⟨u, hu, _⟩ := hin i j r hx
      rw [Nat.zero_add, (alloc_new _).1, hu]; rfl
    · obtain ⟨u, hu, hd⟩ := hin i j r hx
      rw [hu]
      exact hd.frame fun p u hf => hf.elim
theorem absEls_plain (hr : HRel H pl w) {n : Nat} {cs : List SV} {t : Ty} {xs : List t.El} (h : absEls H t n cs = some ([], xs)) {us : Array Value} (hc : CRep w H pl cs us) :
    ∀ i j r, cellIn t xs i j r → ∃ u, us[i * t.sz + j]? = some u ∧ RepD w r u (fun _ => False) := fun i j r hx => by
  obtain ⟨h1, h2, h3, h4⟩ := absEls_spec h
  obtain ⟨v, ty, g1, g2⟩ := h4 i j r hx
  have hlt := cell_lt hx
  rw [h1] at hlt
  have hus : i * t.sz + j < us.size := by rw [← hc.hl]; exact (List.getElem?_eq_some_iff.1 g1).1
  refine ⟨us[i * t.sz + j], by simp, (absR_rep hr g2 (hc.h _ _ _ g1 (by simp))).congr fun p => ⟨fun ⟨k, e, hf⟩ => ?_, fun h => h.elim⟩⟩
  subst e
  have : k ∈ tookL (cs.take (n * t.sz)) := tookL_mem (by rw [List.getElem?_take, if_pos hlt]; exact g1)
  rw [← h3] at this
  simp at this
theorem madeCells_get {z : Array Value} {n k : Nat} (hk : k < n) : (madeCells z n)[k]? = some (z[k % z.size]!) := by simp [madeCells, hk]
theorem makeSlice_sem {o : Oper} {a : Act} {s : List (Nat × SV)} {n : Nat} {l c : Operand} {lv cv : SV} {li ci : Int} {T : TypeId} {e : TypeId} {sz : Nat} {t : Ty} {z : List SV} {y : t.El}
    (hr : HRel H pl w) (hs : Slots w H pl s a) (hn : look H n = none) (ho : o.op = .makeSlice T l c) (hl : opd s l = some lv) (hc : opd s c = some cv) (hli : lv.asI = some li) (hci : cv.asI = some ci)
    (he : elemT P T = some e) (hsz : sizeT P e = some sz) (hsm : smallB P e = true) (hts : t.sz = sz) (hz : zeroCs P e = some z) (hzl : z.length = sz) (hy : absEls H t 1 z = some ([], [y]))
    (hb : 0 ≤ li ∧ li ≤ ci ∧ ci ≤ (maxN : Int)) : OpSem P o a w H pl n { v := .own n, news := [.arr none t (List.replicate li.toNat y)] } := by
  obtain ⟨ti, hti, rfl⟩ := sizeT_spec hsz
  obtain ⟨zu, hzu, hzc⟩ := zeroCs_spec hr hti hz
  have hzs : zu.cells.size = ti.size := by rw [← hzc.hl, hzl]
  have asI : ∀ {v : SV} {u : Value} {k : Int}, v.asI = some k → SVRep w H pl v u → ∃ kk, u = .int kk k := fun {v u k} h hv => by
    cases v with
    | r d x => cases x with
      | int kk m => cases h; cases hv with | r _ _ _ hx => cases hx; exact ⟨kk, rfl⟩
      | _ => exact nomatch h
    | _ => exact nomatch h
  obtain ⟨kl, hle⟩ := asI hli (opd_rep hs hl)
  obtain ⟨kc, hce⟩ := asI hci (opd_rep hs hc)
  have hmax : ci ≤ 274877906944 := hb.2.2
  have hby := smallB_spec hti hsm
  refine own_sem hn rfl rfl rfl fun H' ht => ?_
  have hrun := run_make (P := P) w T e ti zu (elemT_spec he) hti hzu kl kc li ci hb.1 hb.2.1 (by
    have h1 : (ti.bytes : Int) * ci ≤ 512 * 274877906944 := Int.mul_le_mul (by omega) hmax (by omega) (by omega)
    omega) (by omega)
  have hst := fresh_row (e := e) (cs := madeCells zu.cells (ci.toNat * ti.size)) (cap := ci.toNat) hr hn (by simp; omega) (by rw [size_madeCells, hts]) (fun i j r hx => by
    have hj := (cellIn_lt hx).2
    have hi := (cellIn_lt hx).1
    rw [List.length_replicate] at hi
    have hlt : i * t.sz + j < ci.toNat * ti.size := by rw [← hts]; exact off_lt hi hj (by omega)
    obtain ⟨x, hx1, hx2⟩ := hx
    have hxe : x = y := by
      have := List.mem_of_getElem? hx1
      exact (List.mem_replicate.1 this).2
    subst hxe
    obtain ⟨u, hu, hd⟩ := absEls_plain hr hy hzc 0 j r ⟨x, rfl, hx2⟩
    rw [Nat.zero_mul, Nat.zero_add] at hu
    refine ⟨u, ?_, hd⟩
    rw [madeCells_get hlt, hzs, ← hts, Nat.mul_comm, Nat.mul_add_mod, Nat.mod_eq_of_lt hj]
    have hjz : j < zu.cells.size := (Array.getElem?_eq_some_iff.1 hu).1
    rw [getElem!_pos zu.cells j hjz]
    rw [Array.getElem?_eq_getElem hjz] at hu
    exact hu) ht
  refine ⟨_, _, _, ?_, hst⟩
  rw [execOp, ho]
  simp only [hle, hce, Sem.run_bind, hrun, Result.andThen_ok, List.length_replicate]
  rfl
theorem buildSlice_run {T e : TypeId} {ti : TypeInfo} {zu : Value} (hT : P.underlying T = some (.slice e)) (hti : P.info? e = some ti) (hzu : ti.zero = some zu) (len : Nat) (hlen : len * ti.size ≤ 16777216)
    {parts : Array (Nat × Value)} {cells : Array Value} (hf : Instr.fill (fun i => some (i * ti.size, ti.size)) (madeCells zu.cells (len * ti.size)) parts.toList = some cells) :
    (Instr.buildSlice T len parts).run P w = .ok (.slice (some ⟨w.heap.size, 0, none⟩) len len) (w.alloc (.cells cells e)) := by
  have hl : ¬ (16777216 < len * ti.size) := by omega
  by_cases h0 : len * ti.size = 0
  · rw [h0] at hf
    have hf' : Instr.fill (fun i => some (i * ti.size, ti.size)) #[] parts.toList = some cells := by simpa [madeCells, Array.range_zero'] using hf
    simp [Instr.buildSlice, run_underlying hT, run_sizeOf' hti, h0, hf', newRow, Array.range_zero']
  · simp only [madeCells] at hf
    simp [Instr.buildSlice, run_underlying hT, run_sizeOf' hti, hl, h0, zeroValue, typeInfo, hti, hzu, hf, newRow]
end
end Go.Proofs.Ev
