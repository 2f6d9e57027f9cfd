/- The evaluator over the model's code, and that it is sound: part 3. -/
import Derived.Test.YthaamopjdieecaaEvK2
import Derived.IntWalk
import Derived.Lib.SliceRun
import Derived.Laws.Cover3
import Derived.Orders
set_option linter.unusedVariables false
set_option linter.unusedSimpArgs false
set_option linter.unusedVariables false
namespace Go.Proofs.Ev
variable [Tok]
set_option linter.unusedSectionVars false
section
variable {w : World} {H : Heap} {pl : Pl} {P : Program}
theorem elemT_spec {T e : TypeId} (h : elemT P T = some e) : P.underlying T = some (.slice e) := by
  unfold elemT at h
  split at h
  · rename_i e' hu; cases h; exact hu
  · exact nomatch h
theorem sizeT_spec {T : TypeId} {n : Nat} (h : sizeT P T = some n) : ∃ i, P.info? T = some i ∧ i.size = n := by
  simp only [sizeT, Option.bind_eq_some_iff, Option.some.injEq] at h
  exact h
theorem zeroCs_spec (hr : HRel H pl w) {T : TypeId} {z : List SV} {i : TypeInfo} (hi : P.info? T = some i) (h : zeroCs P T = some z) : ∃ u, i.zero = some u ∧ CRep w H pl z u.cells := by
  simp only [zeroCs, Option.bind_eq_some_iff] at h
  obtain ⟨i', hi', v, hv, x, hx, hc⟩ := h
  rw [hi] at hi'; cases hi'
  exact ⟨v, hv, (constV_rep hx).cells hc hr⟩
theorem smallB_spec {T : TypeId} {i : TypeInfo} (hi : P.info? T = some i) (h : smallB P T = true) : i.bytes ≤ 512 := by
  unfold smallB at h
  rw [hi] at h
  exact Nat.le_of_ble_eq_true h
theorem after_turn {c : CR} {n : Nat} {B : Blk} {H' : Heap} (hn : look H n = none) (hu : c.upd = []) (hw : c.news = [B]) (ha : after H n c = some H') : Turned H H' c.kil n B := by
  unfold after at ha
  rw [hu, hw] at ha
  simp only [upds, Option.bind_eq_some_iff, Option.some.injEq] at ha
  obtain ⟨H1, h1, rfl⟩ := ha
  exact turned_new c.kil_le h1 hn (sweepH'_all c.kil_le h1)
/-- A result that is the new block's header. -/
theorem own_sem {o : Oper} {a : Act} {n : Nat} {c : CR} {sh : Option (List Nat)} {t : Ty} {xs : List t.El} (hn : look H n = none) (hv : c.v = .own n) (hu : c.upd = []) (hw : c.news = [.arr sh t xs])
    (h : ∀ H', Turned H H' c.kil n (.arr sh t xs) → ∃ u fp' w', (execOp a.eval o).run P w = .ok (.value u) w' ∧ StepTo H H' c.kil pl (pl.set n u fp') w w') : OpSem P o a w H pl n c := by
  refine ⟨fun i B hB => by rw [hu] at hB; simp [look] at hB, fun H' next Q ha hN => ?_⟩
  have ht := after_turn hn hu hw ha
  obtain ⟨u, fp', w', hrun, hst⟩ := h H' ht
  refine exec_wp hrun (hN u _ w' hst ?_)
  rw [hv]
  have := SVRep.own (w := w') (H := H') (pl := pl.set n u fp') n sh t xs ht.at_n
  simpa [Pl.set] using this
theorem append_sem {o : Oper} {a : Act} {s : List (Nat × SV)} {n : Nat} {args : Array Operand} {tys : Array TypeId} {b x : SV} {T : TypeId} {e : TypeId} {sz : Nat} {t : Ty} {z : List SV} {sh1 sh' : Option (List Nat)} {ids : List Nat}
    {ys : List t.El} (hr : HRel H pl w) (hs : Slots w H pl s a) (hn : look H n = none) (ho : o.op = .call { callee := .builtin .append, args := args, argTypes := tys }) (hvs : opds s args.toList = some [b, x]) (hty : tys.toList = [T, T])
    (he : elemT P T = some e) (hsz : sizeT P e = some sz) (hsm : smallB P e = true) (hts : t.sz = sz) (hz : zeroCs P e = some z) (hzl : z.length = sz) (hy : anyList H t x = some (sh1, ids, ys))
    {xs : List t.El} {G : List Nat} (hbase : (b = .nilS ∧ xs = [] ∧ G = ids ∧ sh' = sh1) ∨ ∃ i sh, b = .own i ∧ look H i = some (.arr sh t xs) ∧ G = i :: ids ∧ mem i ids = false ∧ joinSh sh sh1 = some sh')
    (hhit : hit G (sh'.getD []) = false) (hlen : xs.length + ys.length ≤ maxN) : OpSem P o a w H pl n { v := .own n, news := [.arr sh' t (xs ++ ys)], gone := G } := by
  obtain ⟨p, q, hpq, hp, hq⟩ := opds_two hvs
  have hpr := opd_rep hs hp
  have hqr := opd_rep hs hq
  have ha : args.map a.eval = #[a.eval p, a.eval q] := by rw [show args = #[p, q] from Array.ext' hpq]; simp
  have hta : tys = #[T, T] := Array.ext' hty
  obtain ⟨ti, hti, rfl⟩ := sizeT_spec hsz
  obtain ⟨zu, hzu, hzc⟩ := zeroCs_spec hr hti hz
  have hzs : zu.cells.size = ti.size := by rw [← hzc.hl, hzl]
  refine own_sem hn rfl rfl rfl fun H' ht => ?_
  have fin : ∀ {sh : Option (List Nat)} {fp0 : Cell → Prop}, Nonempty (Row w (Inner w H pl sh) t xs (a.eval p) fp0) → (∀ p, fp0 p → ∃ k B, mem k G = true ∧ mem k ids = false ∧ look H k = some B ∧ pl.fp k p) →
      (∀ k, mem k ids = true → mem k G = true) → joinSh sh sh1 = some sh' → ∃ u fp' w', (execOp a.eval o).run P w = .ok (.value u) w' ∧ StepTo H H' (G, G ++ []) pl (pl.set n u fp') w w' := fun hrow hfp0 hids hj => by
    obtain ⟨u', fp', w', hrun, hst⟩ := append_row (ty := o.type) hr (elemT_spec he) hti hzu hzs hts.symm (smallB_spec hti hsm) hrow hfp0 (src_of_any hr hy hqr) hids hj hhit hlen hn ht
    refine ⟨u', fp', w', ?_, hst⟩
    rw [execOp, ho, hta]
    simp only [resolve, ha, invoke, builtin, Sem.run_bind, Sem.run_pure, Result.andThen_ok, hrun]
  rcases hbase with ⟨rfl, rfl, rfl, rfl⟩ | ⟨i, sh, rfl, hl, rfl, hmi, hj⟩
  · have : a.eval p = .slice none 0 0 := by generalize a.eval p = u at hpr; cases hpr; rfl
    rw [this] at fin
    refine fin (sh := sh'.map fun _ => []) (Row.nil _) (fun _ h => h.elim) (fun _ h => h) ?_
    cases sh' <;> rfl
  · have : a.eval p = pl.hdr i := by generalize a.eval p = u at hpr; cases hpr; rfl
    rw [this] at fin
    exact fin (hr.blk i _ hl).rowI (fun p hp => ⟨i, _, by simp [mem], hmi, hl, hp⟩) (fun k hk => by simp only [mem]; cases Nat.beq i k <;> simp [hk]) hj
/-- A row in new memory. -/
theorem fresh_row {cs : Array Value} {e : TypeId} {t : Ty} {xs : List t.El} {n cap : Nat} {H' : Heap} (hr : HRel H pl w) (hn : look H n = none) (hcap : xs.length ≤ cap) (hsz : cs.size = cap * t.sz)
    (hin : ∀ i j r, cellIn t xs i j r → ∃ u, cs[i * t.sz + j]? = some u ∧ RepD w r u (fun _ => False)) (ht : Turned H H' ([], []) n (.arr none t xs)) :
    StepTo H H' ([], []) pl (pl.set n (.slice (some ⟨w.heap.size, 0, none⟩) xs.length cap) (reg w.heap.size 0 (cap * t.sz))) w (w.alloc (.cells cs e)) := by
  refine turn_step (Grown.alloc w cs e) hr ht (fun i h => h) (fun i h => nomatch h) (.inl hn) (fun p u hp _ => alloc_old hp) (fun p hp => hr.nb p (alloc_none hp)) (fun p hp => .inl ?_) fun hk => ?_
  · obtain ⟨p1, p2⟩ := p
    obtain ⟨e1, _, _⟩ := hp
    simp only at e1; subst e1
    exact (alloc_new (cs := cs) (e := e) p2).2.2
  · refine BlkRep.of_rowI ⟨some ⟨w.heap.size, 0, none⟩, cap, w.heap.size, 0, fun i j => (cs[i * t.sz + j]?).getD undef, fun _ _ _ => False, by simp [Pl.set], hcap, .inr rfl, fun j hj => ⟨⟨cs[j]'(by rw [hsz]; exact hj), ?_⟩, ?_⟩, fun i j r hx => ?_, fun i j r hx => ?_, fun _ _ _ _ _ h => h.elim, fun _ _ _ _ _ _ _ _ _ h => h.elim, fun p => by simp [Pl.set]⟩
    · rw [Nat.zero_add, (alloc_new j).1]; simp
    · rw [Nat.zero_add, (alloc_new j).2.1, hsz]; exact whole_mk
    · obtain ⟨u, hu, _⟩ := hin i j r hx
      rw [Nat.zero_add, (alloc_new _).1, hu]; rfl
    · obtain ⟨u, hu, hd⟩ := hin i j r hx
      rw [hu]
      exact hd.frame fun p u hf => hf.elim
theorem absEls_plain (hr : HRel H pl w) {n : Nat} {cs : List SV} {t : Ty} {xs : List t.El} (h : absEls H t n cs = some ([], xs)) {us : Array Value} (hc : CRep w H pl cs us) :
    ∀ i j r, cellIn t xs i j r → ∃ u, us[i * t.sz + j]? = some u ∧ RepD w r u (fun _ => False) := fun i j r hx => by
  obtain ⟨h1, h2, h3, h4⟩ := absEls_spec h
  obtain ⟨v, ty, g1, g2⟩ := h4 i j r hx
  have hlt := cell_lt hx
  rw [h1] at hlt
  have hus : i * t.sz + j < us.size := by rw [← hc.hl]; exact (List.getElem?_eq_some_iff.1 g1).1
  refine ⟨us[i * t.sz + j], by simp, (absR_rep hr g2 (hc.h _ _ _ g1 (by simp))).congr fun p => ⟨fun ⟨k, e, hf⟩ => ?_, fun h => h.elim⟩⟩
  subst e
  have : k ∈ tookL (cs.take (n * t.sz)) := tookL_mem (by rw [List.getElem?_take, if_pos hlt]; exact g1)
  rw [← h3] at this
  simp at this
theorem madeCells_get {z : Array Value} {n k : Nat} (hk : k < n) : (madeCells z n)[k]? = some (z[k % z.size]!) := by simp [madeCells, hk]
theorem makeSlice_sem {o : Oper} {a : Act} {s : List (Nat × SV)} {n : Nat} {l c : Operand} {lv cv : SV} {li ci : Int} {T : TypeId} {e : TypeId} {sz : Nat} {t : Ty} {z : List SV} {y : t.El}
    (hr : HRel H pl w) (hs : Slots w H pl s a) (hn : look H n = none) (ho : o.op = .makeSlice T l c) (hl : opd s l = some lv) (hc : opd s c = some cv) (hli : lv.asI = some li) (hci : cv.asI = some ci)
    (he : elemT P T = some e) (hsz : sizeT P e = some sz) (hsm : smallB P e = true) (hts : t.sz = sz) (hz : zeroCs P e = some z) (hzl : z.length = sz) (hy : absEls H t 1 z = some ([], [y]))
    (hb : 0 ≤ li ∧ li ≤ ci ∧ ci ≤ (maxN : Int)) : OpSem P o a w H pl n { v := .own n, news := [.arr none t (List.replicate li.toNat y)] } := by
  obtain ⟨ti, hti, rfl⟩ := sizeT_spec hsz
  obtain ⟨zu, hzu, hzc⟩ := zeroCs_spec hr hti hz
  have hzs : zu.cells.size = ti.size := by rw [← hzc.hl, hzl]
  have asI : ∀ {v : SV} {u : Value} {k : Int}, v.asI = some k → SVRep w H pl v u → ∃ kk, u = .int kk k := fun {v u k} h hv => by
    cases v with
    | r d x => cases x with
      | int kk m => cases h; cases hv with | r _ _ _ hx => cases hx; exact ⟨kk, rfl⟩
      | _ => exact nomatch h
    | _ => exact nomatch h
  obtain ⟨kl, hle⟩ := asI hli (opd_rep hs hl)
  obtain ⟨kc, hce⟩ := asI hci (opd_rep hs hc)
  have hmax : ci ≤ 274877906944 := hb.2.2
  have hby := smallB_spec hti hsm
  refine own_sem hn rfl rfl rfl fun H' ht => ?_
  have hrun := run_make (P := P) w T e ti zu (elemT_spec he) hti hzu kl kc li ci hb.1 hb.2.1 (by
    have h1 : (ti.bytes : Int) * ci ≤ 512 * 274877906944 := Int.mul_le_mul (by omega) hmax (by omega) (by omega)
    omega) (by omega)
  have hst := fresh_row (e := e) (cs := madeCells zu.cells (ci.toNat * ti.size)) (cap := ci.toNat) hr hn (by simp; omega) (by rw [size_madeCells, hts]) (fun i j r hx => by
    have hj := (cellIn_lt hx).2
    have hi := (cellIn_lt hx).1
    rw [List.length_replicate] at hi
    have hlt : i * t.sz + j < ci.toNat * ti.size := by rw [← hts]; exact off_lt hi hj (by omega)
    obtain ⟨x, hx1, hx2⟩ := hx
    have hxe : x = y := by
      have := List.mem_of_getElem? hx1
      exact (List.mem_replicate.1 this).2
    subst hxe
    obtain ⟨u, hu, hd⟩ := absEls_plain hr hy hzc 0 j r ⟨x, rfl, hx2⟩
    rw [Nat.zero_mul, Nat.zero_add] at hu
    refine ⟨u, ?_, hd⟩
    rw [madeCells_get hlt, hzs, ← hts, Nat.mul_comm, Nat.mul_add_mod, Nat.mod_eq_of_lt hj]
    have hjz : j < zu.cells.size := (Array.getElem?_eq_some_iff.1 hu).1
    rw [getElem!_pos zu.cells j hjz]
    rw [Array.getElem?_eq_getElem hjz] at hu
    exact hu) ht
  refine ⟨_, _, _, ?_, hst⟩
  rw [execOp, ho]
  simp only [hle, hce, Sem.run_bind, hrun, Result.andThen_ok, List.length_replicate]
  rfl
theorem HRel.drew (hr : HRel H pl w) : HRel H pl w.drew :=
  have hk : Keeps ([], []) w H pl w.drew H pl := ⟨fun i B hB _ => ⟨B, hB, B.like_refl, rfl⟩, fun d p u _ h hp => ⟨h, hp⟩⟩
  ⟨fun i B hB => (hr.blk i B hB).keep hk rfl (fun _ => Iff.rfl) (fun p u _ hu => ⟨hu, rfl⟩) B.sweep_nil, hr.dis, hr.ob, hr.nb⟩
theorem intT_spec {T : TypeId} (h : intT P T = true) : ∃ k, P.underlying T = some (.int k) := by
  unfold intT at h
  split at h
  · rename_i k e; exact ⟨k, e⟩
  · exact nomatch h
theorem appendMade_sem {o : Oper} {a : Act} {s : List (Nat × SV)} {n : Nat} {args : Array Operand} {tys : Array TypeId} {x : SV} {l : Int} {T T' : TypeId} {e : TypeId} {sz : Nat} {t : Ty} {z : List SV} {y : t.El}
    (hr : HRel H pl w) (hs : Slots w H pl s a) (hn : look H n = none) (ho : o.op = .call { callee := .builtin .append, args := args, argTypes := tys }) (hvs : opds s args.toList = some [.nilS, x]) (hty : tys.toList = [T, T']) (hx : x.asI = some l) (hT' : intT P T' = true)
    (he : elemT P T = some e) (hsz : sizeT P e = some sz) (hsm : smallB P e = true) (hts : t.sz = sz) (hz : zeroCs P e = some z) (hzl : z.length = sz) (hy : absEls H t 1 z = some ([], [y]))
    (hb : 1 ≤ l ∧ l ≤ (maxN : Int)) : OpSem P o a w H pl n { v := .own n, news := [.arr none t (List.replicate l.toNat y)] } := by
  obtain ⟨p, q, hpq, hp, hq⟩ := opds_two hvs
  have hpr := opd_rep hs hp
  have hqr := opd_rep hs hq
  have ha : args.map a.eval = #[a.eval p, a.eval q] := by rw [show args = #[p, q] from Array.ext' hpq]; simp
  have hta : tys = #[T, T'] := Array.ext' hty
  obtain ⟨ti, hti, rfl⟩ := sizeT_spec hsz
  obtain ⟨zu, hzu, hzc⟩ := zeroCs_spec hr hti hz
  have hzs : zu.cells.size = ti.size := by rw [← hzc.hl, hzl]
  have hpe : a.eval p = .slice none 0 0 := by generalize a.eval p = u at hpr; cases hpr; rfl
  obtain ⟨kl, hqe⟩ : ∃ kk, a.eval q = .int kk l := by
    cases x with
    | r d x => cases x with
      | int kk m => cases hx; generalize a.eval q = u at hqr; cases hqr with | r _ _ _ hx => cases hx; exact ⟨kk, rfl⟩
      | _ => exact nomatch hx
    | _ => exact nomatch hx
  have hmax : l ≤ 274877906944 := hb.2
  have hby := smallB_spec hti hsm
  obtain ⟨kT, hkT⟩ := intT_spec hT'
  have hlw : IntKind.i64.wrap l = l := Go.IntWalk.i64_in l ⟨by omega, by omega⟩
  obtain ⟨m, rfl⟩ : ∃ m : Nat, l = (m : Int) := ⟨l.toNat, by omega⟩
  have hm1 : 1 ≤ m := by omega
  have hge := grownCap_ge w m 0 e
  refine own_sem hn rfl rfl rfl fun H' ht => ?_
  have hrun : (Builtin.append_ #[T, T'] o.type #[.slice none 0 0, .int kl (m : Int)]).run P w =
      .ok (.slice (some ⟨w.heap.size, 0, none⟩) m (grownCap w m 0 e)) (w.drew.alloc (.cells (Builtin.zeroCells zu.cells m ++ Builtin.zeroCells zu.cells (grownCap w m 0 e - m)) e)) := by
    have h48 : ¬ ((281474976710656 : Int) < (m : Int) * (ti.bytes : Int)) := by
      have h1 : (m : Int) * (ti.bytes : Int) ≤ 274877906944 * 512 := Int.mul_le_mul (by omega) (by omega) (by omega) (by omega)
      omega
    have hfit : Builtin.nextslicecap m 0 * ti.bytes ≤ 281474976710656 := growslice_fits (by omega) (by
      have : m * ti.bytes ≤ 274877906944 * 512 := Nat.mul_le_mul (by omega) hby
      omega)
    have h48' : ¬ (281474976710656 < Builtin.nextslicecap m 0 * ti.bytes) := by omega
    have h63' : ¬ ((9223372036854775807 : Int) < (m : Int)) := by omega
    have hneg : ¬ ((m : Int) < 0) := by omega
    have hm0 : ¬ (m = 0) := by omega
    have hf0 : (Builtin.firstCells ti.size 0 (.slice none 0 0)).run P w.drew = .ok #[] w.drew := run_firstCells_none w.drew _ _ _ _
    have hsz0 : ¬ (m * ti.size = 0) := by
      rw [← hts]; have := t.sz_pos; exact Nat.ne_of_gt (Nat.mul_pos hm1 this)
    simp [Builtin.append_, run_underlying (elemT_spec he), run_underlying hkT, asInt, asIntOf, sizeOf, typeInfo, zeroValue, hti, hzu, hlw, hneg, h48, hm0, hsz0, h63', h48', Question.forced, hf0, newRow, grownCap]
  have hst := fresh_row (H' := H') (e := e) (cs := Builtin.zeroCells zu.cells m ++ Builtin.zeroCells zu.cells (grownCap w m 0 e - m)) (cap := grownCap w m 0 e) hr.drew hn (by simp; omega) (by
      simp only [Array.size_append, size_zeroCells, hzs, ← Nat.add_mul, hts]
      congr 1; omega) (fun i j r hx => by
    have hj := (cellIn_lt hx).2
    have hi := (cellIn_lt hx).1
    rw [List.length_replicate] at hi
    have hi : i < m := by simpa using hi
    have hlt : i * t.sz + j < m * ti.size := by rw [← hts]; exact off_lt hi hj (Nat.le_refl _)
    obtain ⟨x, hx1, hx2⟩ := hx
    have hxe : x = y := by
      have := List.mem_of_getElem? hx1
      exact (List.mem_replicate.1 this).2
    subst hxe
    obtain ⟨zu2, hzu2, hzc2⟩ := zeroCs_spec hr.drew hti hz
    have hzz : zu2 = zu := by rw [hzu] at hzu2; cases hzu2; rfl
    subst hzz
    obtain ⟨u, hu, hd⟩ := absEls_plain hr.drew hy hzc2 0 j r ⟨x, rfl, hx2⟩
    rw [Nat.zero_mul, Nat.zero_add] at hu
    refine ⟨u, ?_, hd⟩
    rw [Array.getElem?_append_left (by rw [size_zeroCells, hzs]; exact hlt)]
    have hz2 : (Builtin.zeroCells zu2.cells m)[i * t.sz + j]? = some (zu2.cells[(i * t.sz + j) % ti.size]!) := by simp [Builtin.zeroCells, hzs, hlt]
    rw [hz2, ← hts, Nat.mul_comm, Nat.mul_add_mod, Nat.mod_eq_of_lt hj]
    have hjz : j < zu2.cells.size := (Array.getElem?_eq_some_iff.1 hu).1
    rw [getElem!_pos zu2.cells j hjz]
    rw [Array.getElem?_eq_getElem hjz] at hu
    exact hu) ht
  refine ⟨_, _, _, ?_, hst.hr, ⟨hst.kp.k1, fun d p u h1 h2 h3 => hst.kp.k2 d p u h1 h2 h3⟩, hst.bs, (Grown.drew w).trans hst.gr, hst.fr⟩
  rw [execOp, ho, hta]
  simp only [resolve, ha, invoke, builtin, Sem.run_bind, Sem.run_pure, Result.andThen_ok, hpe, hqe, hrun, List.length_replicate]
  rfl
theorem buildSlice_run {T e : TypeId} {ti : TypeInfo} {zu : Value} (hT : P.underlying T = some (.slice e)) (hti : P.info? e = some ti) (hzu : ti.zero = some zu) (len : Nat) (hlen : len * ti.size ≤ 16777216)
    {parts : Array (Nat × Value)} {cells : Array Value} (hf : Instr.fill (fun i => some (i * ti.size, ti.size)) (madeCells zu.cells (len * ti.size)) parts.toList = some cells) :
    (Instr.buildSlice T len parts).run P w = .ok (.slice (some ⟨w.heap.size, 0, none⟩) len len) (w.alloc (.cells cells e)) := by
  have hl : ¬ (16777216 < len * ti.size) := by omega
  by_cases h0 : len * ti.size = 0
  · rw [h0] at hf
    have hf' : Instr.fill (fun i => some (i * ti.size, ti.size)) #[] parts.toList = some cells := by simpa [madeCells, Array.range_zero'] using hf
    simp [Instr.buildSlice, run_underlying hT, run_sizeOf' hti, h0, hf', newRow, Array.range_zero']
  · simp only [madeCells] at hf
    simp [Instr.buildSlice, run_underlying hT, run_sizeOf' hti, hl, h0, zeroValue, typeInfo, hti, hzu, hf, newRow]
end
end Go.Proofs.Ev

set_option linter.unusedVariables false
namespace Go.Proofs.Ev
variable [Tok]
set_option linter.unusedSectionVars false
section
variable {w : World} {H : Heap} {pl : Pl} {P : Program}
/-- The step of a store into an element. -/
theorem elem_step {t : Ty} {sh sh' : Option (List Nat)} {ys : List t.El} {i k off sz : Nat} {H' : Heap} {ids : List Nat} {e y : t.El} {rs : List R} {us : List Value} {f1 : Nat → Cell → Prop} {b m n cap : Nat}
    (hr : HRel H pl w) (hl : look H i = some (.arr sh t ys)) (hh : pl.hdr i = .slice (some ⟨b, m, none⟩) n cap) (hk : ys[k]? = some e) (hoff : off + sz ≤ t.sz) (hrs : rs.length = sz) (hus : us.length = sz)
    (hy : t.cells y = (t.cells e).take off ++ rs ++ (t.cells e).drop (off + sz)) (hone : ∀ u ∈ us, one u = true)
    (hin : ∀ j r, rs[j]? = some r → ∃ u, us[j]? = some u ∧ Inner w H pl sh' r u (f1 j)) (hf1 : ∀ j p, j < sz → f1 j p → ∃ k B, mem k ids = true ∧ look H k = some B ∧ B.isBox = false ∧ pl.fp k p)
    (hf2 : ∀ j j' p, j < sz → j' < sz → f1 j p → f1 j' p → j = j') (hsh : (sh = none ∧ sh' = none) ∨ ∃ d d', sh = some d ∧ sh' = some d' ∧ ∀ k, mem k d = true → mem k d' = true)
    (hit' : hit (ids ++ [i]) (sh'.getD []) = false) (hi : mem i ids = false) (ht : Turned H H' (ids, ids ++ [i]) i (.arr sh' t (ys.set k y))) :
    ∃ w', (storeCells ⟨b, m + (k * t.sz + off), none⟩ us).run P w = .ok () w' ∧ ∃ fp', StepTo H H' (ids, ids ++ [i]) pl (pl.set i (pl.hdr i) fp') w w' := by
  obtain ⟨⟨a, cap', b', o, vs, fs, hhd, hcap, ha, hreg, hc, hrr, hd1, hd2, hfp⟩⟩ := (hr.blk i _ hl).rowI
  have hklt : k < ys.length := (List.getElem?_eq_some_iff.1 hk).1
  rw [hh] at hhd
  cases hhd
  have hab : b = b' ∧ m = o := by
    rcases ha with h | h
    · omega
    · cases h; exact ⟨rfl, rfl⟩
  obtain ⟨rfl, rfl⟩ := hab
  have hown := hr.own_there
  have hpos : k * t.sz + off + sz ≤ cap * t.sz := by
    have : (k + 1) * t.sz ≤ cap * t.sz := Nat.mul_le_mul_right _ (by omega)
    rw [Nat.succ_mul] at this; omega
  have hcell : ∀ j, j < us.length → ∃ u, w.at? (b, m + (k * t.sz + off) + j) = some u ∧ calm (w.ice? (b, m + (k * t.sz + off) + j)) = true := fun j hj => by
    obtain ⟨⟨u, q1⟩, q2⟩ := hreg (k * t.sz + off + j) (by omega)
    rw [show m + (k * t.sz + off) + j = m + (k * t.sz + off + j) from by omega]
    exact ⟨u, q1, whole_calm q2⟩
  have hst := run_storeCells_cells (P := P) b (m + (k * t.sz + off)) us 0 w (fun j hj => by
      obtain ⟨u, q1, _⟩ := hcell j hj
      simp only [Nat.add_zero]
      have q1 : w.cell? ⟨b, m + (k * t.sz + off) + j, none⟩ = some u := q1
      rw [q1]; rfl) (fun j hj => by
      obtain ⟨u, q1, q2⟩ := hcell j hj
      simp only [Nat.add_zero]; exact calm_frozen q1 q2) (fun u hu => one_oneCell (hone u hu))
  simp only [Nat.add_zero] at hst
  have hcellin : ∀ j, j < us.length → (w.setCells b (m + (k * t.sz + off)) us).at? (b, m + (k * t.sz + off) + j) = us[j]? := fun j hj => by
    have := World.cell?_setCells_in b us (m + (k * t.sz + off)) w (fun j hj => by
      obtain ⟨u, q1, _⟩ := hcell j hj
      have q1 : w.cell? ⟨b, m + (k * t.sz + off) + j, none⟩ = some u := q1
      rw [q1]; rfl) j hj
    rw [List.getElem?_eq_getElem hj]
    simpa [World.at?] using this
  have hcellout : ∀ p u, w.at? p = some u → ¬ (p.1 = b ∧ m + (k * t.sz + off) ≤ p.2 ∧ p.2 < m + (k * t.sz + off) + us.length) → (w.setCells b (m + (k * t.sz + off)) us).at? p = some u := fun p u hp hno => by
    unfold World.at? at *
    rw [World.cell?_setCells_out b _ _ w _ (fun e1 _ => by simp at e1; simp; omega)]
    exact hp
  have hice : ∀ p, (w.setCells b (m + (k * t.sz + off)) us).ice? p = w.ice? p := fun p => ice?_setCells _ _ _ _ _
  have hregin : ∀ p, reg b m (cap * t.sz) p → pl.fp i p := fun p hp => (hfp p).2 (.inl hp)
  have hfsin : ∀ i' j r p, cellIn t ys i' j r → fs i' j p → pl.fp i p := fun i' j r p hx hf => (hfp p).2 (.inr ⟨i', j, r, hx, hf⟩)
  have hsep : ∀ j p, j < sz → f1 j p → ¬ pl.fp i p := fun j p hj hf hp => by
    obtain ⟨k', B, g1, g2, _, g4⟩ := hf1 j p hj hf
    have := hr.dis k' i B _ p g2 hl g4 hp
    subst this
    rw [hi] at g1; exact nomatch g1
  have hmi : mem i (ids ++ [i]) = true := by rw [mem_append]; simp [mem]
  refine ⟨_, hst, fun p => reg b m (cap * t.sz) p ∨ (∃ i' j r, cellIn t ys i' j r ∧ ¬ (i' = k ∧ off ≤ j ∧ j < off + sz) ∧ fs i' j p) ∨ ∃ j, j < sz ∧ f1 j p, ?_⟩
  refine turn_step (Grown.setCells _ _ _ _) hr ht (fun x hx => by show mem x (ids ++ [i]) = true; rw [mem_append, show mem x ids = true from hx]; rfl) (fun x hx => ?_) (.inr ⟨_, hl, hmi, by simp [Blk.like], rfl⟩) (fun p u hp hno => ⟨hcellout p u hp fun hin => ?_, hice p⟩) (fun p hp => ?_) (fun p hp => ?_) fun hkp => ?_
  · have hx : mem x (ids ++ [i]) = true := hx
    rw [mem_append] at hx
    cases h : mem x ids
    · rw [h] at hx
      simp only [mem, Bool.false_or] at hx
      cases hb : Nat.beq i x
      · rw [hb] at hx; exact nomatch hx
      · exact .inr (Nat.eq_of_beq_eq_true hb).symm
    · exact .inl rfl
  · exact hno i _ hmi hl (hregin p ⟨hin.1, by omega, by omega⟩)
  · refine hr.nb p ?_
    cases hq : w.at? p with
    | none => rfl
    | some u =>
      by_cases hin : p.1 = b ∧ m + (k * t.sz + off) ≤ p.2 ∧ p.2 < m + (k * t.sz + off) + us.length
      · obtain ⟨p1, p2⟩ := p
        obtain ⟨e1, e2, e3⟩ := hin
        simp only at e1 e2 e3
        subst e1
        have := hcellin (p2 - (m + (k * t.sz + off))) (by omega)
        rw [show m + (k * t.sz + off) + (p2 - (m + (k * t.sz + off))) = p2 from by omega, hp, List.getElem?_eq_getElem (by omega)] at this
        exact nomatch this
      · rw [hcellout p u hq hin] at hp; exact nomatch hp
  · rcases hp with hp | ⟨i', j, r, hx, _, hf⟩ | ⟨j, hj, hf⟩
    · exact .inr ⟨i, _, hmi, hl, hregin p hp⟩
    · exact .inr ⟨i, _, hmi, hl, hfsin i' j r p hx hf⟩
    · obtain ⟨k', B, g1, g2, _, g4⟩ := hf1 j p hj hf
      exact .inr ⟨k', B, by rw [mem_append, g1]; rfl, g2, g4⟩
  · have hcases : ∀ {i' j r}, cellIn t (ys.set k y) i' j r → (i' = k ∧ off ≤ j ∧ j < off + sz ∧ rs[j - off]? = some r) ∨ (¬ (i' = k ∧ off ≤ j ∧ j < off + sz) ∧ cellIn t ys i' j r) := fun {i' j r} hx => by
      have hj := (cellIn_lt hx).2
      obtain ⟨x, hx1, hx2⟩ := hx
      by_cases hik : i' = k
      · subst hik
        rw [List.getElem?_set_self hklt] at hx1
        cases hx1
        rw [hy] at hx2
        have hcl : (t.cells e).length = t.sz := Ty.cells_length t e
        have hto : ((t.cells e).take off).length = off := by rw [List.length_take]; omega
        by_cases c1 : off ≤ j ∧ j < off + sz
        · rw [List.append_assoc, List.getElem?_append_right (by omega), List.getElem?_append_left (by omega), hto] at hx2
          exact .inl ⟨rfl, c1.1, c1.2, hx2⟩
        · refine .inr ⟨fun h => c1 h.2, e, hk, ?_⟩
          by_cases c2 : j < off
          · rw [List.append_assoc, List.getElem?_append_left (by omega), List.getElem?_take, if_pos c2] at hx2
            exact hx2
          · rw [List.append_assoc, List.getElem?_append_right (by omega), List.getElem?_append_right (by omega), List.getElem?_drop, hto, show off + sz + (j - off - rs.length) = j from by omega] at hx2
            exact hx2
      · rw [List.getElem?_set_ne (fun h => hik h.symm)] at hx1
        exact .inr ⟨fun h => hik h.1, x, hx1, hx2⟩
    have hsplit : ∀ {i' j}, j < t.sz → i' ≠ k ∨ ¬ (off ≤ j ∧ j < off + sz) → ¬ (m + (k * t.sz + off) ≤ m + (i' * t.sz + j) ∧ m + (i' * t.sz + j) < m + (k * t.sz + off) + us.length) := fun {i' j} hj hne ⟨g1, g2⟩ => by
      by_cases e : i' = k
      · subst e
        rcases hne with h | h
        · exact h rfl
        · exact h ⟨by omega, by omega⟩
      · rcases Nat.lt_or_gt_of_ne e with h | h
        · have : (i' + 1) * t.sz ≤ k * t.sz := Nat.mul_le_mul_right _ h
          rw [Nat.succ_mul] at this; omega
        · have : (k + 1) * t.sz ≤ i' * t.sz := Nat.mul_le_mul_right _ h
          rw [Nat.succ_mul] at this; omega
    have hnoreg : ∀ j p, j < sz → f1 j p → ¬ reg b m (cap * t.sz) p := fun j p hj hf hp => hsep j p hj hf (hregin p hp)
    have frameD : ∀ {r : R} {u : Value} {f : Cell → Prop}, RepD w r u f → (∀ p, f p → ¬ reg b m (cap * t.sz) p) → RepD (w.setCells b (m + (k * t.sz + off)) us) r u f := fun h hno => h.frame fun p u hf hu => ⟨hcellout p u hu fun hin => hno p hf ⟨hin.1, by omega, by omega⟩, hice p⟩
    have frameR : ∀ {r : R} {u : Value} {d d' : List Nat}, RepR w (okd H pl d) r u → (∀ k, mem k d = true → mem k d' = true) → hit (ids ++ [i]) d' = false → RepR (w.setCells b (m + (k * t.sz + off)) us) (okd H' (pl.set i (.slice (some ⟨b, m, none⟩) ys.length cap) fun p => reg b m (cap * t.sz) p ∨ (∃ i' j r, cellIn t ys i' j r ∧ ¬ (i' = k ∧ off ≤ j ∧ j < off + sz) ∧ fs i' j p) ∨ ∃ j, j < sz ∧ f1 j p) d') r u := fun {r u d d'} h hd hh2 =>
      h.frame fun p u hp hu => (hh ▸ hkp).k2 d' p u (fun x hx => hit_false _ d' hh2 x hx) (okd_mono hd hp) hu
    refine BlkRep.of_rowI ⟨some ⟨b, m, none⟩, cap, b, m, fun i' j => if i' = k ∧ off ≤ j ∧ j < off + sz then (us[j - off]?).getD undef else vs i' j, fun i' j => if i' = k ∧ off ≤ j ∧ j < off + sz then f1 (j - off) else fs i' j, by simp [Pl.set, hh], by simpa using hcap, .inr rfl, fun j hj => ⟨?_, by rw [hice]; exact (hreg j hj).2⟩, fun i' j r hx => ?_, fun i' j r hx => ?_, fun i' j r p hx hf => ?_, fun i' j r i2 j2 r2 p hx hx' hf hf' => ?_, fun p => ?_⟩
    · by_cases hin : k * t.sz + off ≤ j ∧ j < k * t.sz + off + us.length
      · have := hcellin (j - (k * t.sz + off)) (by omega)
        rw [show m + (k * t.sz + off) + (j - (k * t.sz + off)) = m + j from by omega] at this
        exact ⟨_, this.trans (List.getElem?_eq_getElem (by omega))⟩
      · obtain ⟨u, hu⟩ := (hreg j hj).1
        exact ⟨u, hcellout _ u hu fun h => hin ⟨by have := h.2.1; simp at this; omega, by have := h.2.2; simp at this; omega⟩⟩
    · rcases hcases hx with ⟨rfl, g1, g2, g3⟩ | ⟨g1, g2⟩
      · rw [if_pos ⟨rfl, g1, g2⟩]
        obtain ⟨u, hu, _⟩ := hin _ _ g3
        have := hcellin (j - off) (by omega)
        rw [show m + (i' * t.sz + off) + (j - off) = m + (i' * t.sz + j) from by omega] at this
        rw [this, hu]; rfl
      · rw [if_neg g1]
        exact hcellout _ _ (hc _ _ _ g2) fun h => hsplit (cellIn_lt g2).2 (by by_cases e : i' = k; exact .inr fun h => g1 ⟨e, h⟩; exact .inl e) ⟨h.2.1, h.2.2⟩
    · rcases hcases hx with ⟨rfl, g1, g2, g3⟩ | ⟨g1, g2⟩
      · simp only [g1, g2, and_self, if_true]
        obtain ⟨u, hu, hI⟩ := hin _ _ g3
        rw [hu, Option.getD_some]
        rcases hsh with ⟨rfl, rfl⟩ | ⟨d, d', rfl, rfl, hdd⟩
        · exact frameD hI fun p hf => hnoreg _ p (by omega) hf
        · rw [hh]; exact ⟨frameR hI.1 (fun _ h => h) hit', hI.2⟩
      · simp only [if_neg g1]
        have hI := hrr _ _ _ g2
        rcases hsh with ⟨rfl, rfl⟩ | ⟨d, d', rfl, rfl, hdd⟩
        · exact frameD hI fun p hf => hd1 _ _ _ p g2 hf
        · rw [hh]; exact ⟨frameR hI.1 hdd hit', hI.2⟩
    · rcases hcases hx with ⟨rfl, g1, g2, g3⟩ | ⟨g1, g2⟩
      · simp only [g1, g2, and_self, if_true] at hf
        exact hnoreg _ p (by omega) hf
      · simp only [if_neg g1] at hf
        exact hd1 _ _ _ p g2 hf
    · rcases hcases hx with ⟨rfl, g1, g2, g3⟩ | ⟨g1, g2⟩ <;> rcases hcases hx' with ⟨rfl, q1, q2, q3⟩ | ⟨q1, q2⟩
      · simp only [g1, g2, and_self, if_true] at hf
        simp only [q1, q2, and_self, if_true] at hf'
        have := hf2 _ _ p (by omega) (by omega) hf hf'
        exact ⟨rfl, by omega⟩
      · simp only [g1, g2, and_self, if_true] at hf
        simp only [if_neg q1] at hf'
        exact (hsep _ p (by omega) hf (hfsin _ _ _ p q2 hf')).elim
      · simp only [if_neg g1] at hf
        simp only [q1, q2, and_self, if_true] at hf'
        exact (hsep _ p (by omega) hf' (hfsin _ _ _ p g2 hf)).elim
      · simp only [if_neg g1] at hf
        simp only [if_neg q1] at hf'
        exact hd2 _ _ _ _ _ _ p g2 q2 hf hf'
    · simp only [Pl.set, if_true]
      constructor
      · rintro (h | ⟨i', j, r, hx, hne, hf⟩ | ⟨j, hj, hf⟩)
        · exact .inl h
        · obtain ⟨x, hx1, hx2⟩ := hx
          have hj := (cellIn_lt ⟨x, hx1, hx2⟩).2
          obtain ⟨r', hr'⟩ := cellIn_of (t := t) (xs := ys.set k y) (i := i') (j := j) (by rw [List.length_set]; exact (List.getElem?_eq_some_iff.1 hx1).1) hj
          exact .inr ⟨i', j, r', hr', by simp only [if_neg hne]; exact hf⟩
        · obtain ⟨r', hr'⟩ := cellIn_of (t := t) (xs := ys.set k y) (i := k) (j := off + j) (by rw [List.length_set]; exact hklt) (by omega)
          exact .inr ⟨k, off + j, r', hr', by rw [if_pos (show k = k ∧ off ≤ off + j ∧ off + j < off + sz from ⟨rfl, by omega, by omega⟩), Nat.add_sub_cancel_left]; exact hf⟩
      · rintro (h | ⟨i', j, r, hx, hf⟩)
        · exact .inl h
        · rcases hcases hx with ⟨rfl, g1, g2, g3⟩ | ⟨g1, g2⟩
          · simp only [g1, g2, and_self, if_true] at hf
            exact .inr (.inr ⟨_, by omega, hf⟩)
          · simp only [if_neg g1] at hf
            exact .inr (.inl ⟨_, _, _, g2, g1, hf⟩)
end
end Go.Proofs.Ev

set_option linter.unusedVariables false
namespace Go.Proofs.Ev
variable [Tok]
set_option linter.unusedSectionVars false
section
variable {w : World} {H : Heap} {pl : Pl} {P : Program}
theorem after_upd {n i : Nat} {c : CR} {B0 : Blk} {sh : Option (List Nat)} {t : Ty} {ys : List t.El} {H' : Heap} (hl : look H i = some B0) (hu : c.upd = [(i, .arr sh t ys)]) (hw : c.news = []) (hi : mem i c.kil.1 = false) (ha : after H n c = some H') :
    Turned H H' c.kil i (.arr sh t ys) ∧ hit c.kil.2 (sh.getD []) = false := by
  unfold after at ha
  rw [hu, hw] at ha
  simp only [upds, newsH, List.append_nil, Option.bind_eq_some_iff, Option.some.injEq] at ha
  obtain ⟨H1, h1, rfl⟩ := ha
  have hput : ∀ k, look (put H i (.arr sh t ys)) k = if i = k then some (.arr sh t ys) else look H k := fun k => look_put _ _ _ _
  have hall := sweepH'_all c.kil_le h1
  obtain ⟨B', hB'⟩ := hall i _ (by rw [hput, if_pos rfl]) hi
  have hsame : B' = .arr sh t ys ∧ hit c.kil.2 (sh.getD []) = false := by
    cases sh with
    | none => cases hB'; exact ⟨rfl, rfl⟩
    | some d =>
      simp only [Blk.sweep] at hB'
      cases hd : hit c.kil.2 d <;> simp only [hd, cond_true, cond_false, Option.some.injEq] at hB'
      · exact ⟨hB'.symm, hd⟩
      · exact nomatch hB'
  obtain ⟨rfl, hh⟩ := hsame
  refine ⟨⟨?_, fun k B1 hB hm hne => ?_, fun k B1 hB hne => ?_⟩, hh⟩
  · rw [sweepH'_spec c.kil_le h1 i, hi, hput, if_pos rfl]; exact hB'
  · obtain ⟨B2, hB2⟩ := hall k B1 (by rw [hput, if_neg (fun e => hne e.symm)]; exact hB) hm
    refine ⟨B2, hB2, ?_⟩
    rw [sweepH'_spec c.kil_le h1 k, hm, hput, if_neg (fun e => hne e.symm), hB]
    exact hB2
  · rw [sweepH'_spec c.kil_le h1 k, hput, if_neg (fun e => hne e.symm)] at hB
    cases hm : mem k c.kil.1 <;> simp only [hm, cond_true, cond_false] at hB
    · obtain ⟨B2, g1, g2⟩ := Option.bind_eq_some_iff.1 hB
      exact ⟨rfl, B2, g1, g2⟩
    · exact nomatch hB
theorem store_elem {o : Oper} {a : Act} {T : TypeId} {p x : Operand} {n i k off : Nat} {v : SV} {xs : List SV} {t : Ty} {sh sh' : Option (List Nat)} {ys : List t.El} {y : t.El} {rs : List R} {ids : List Nat} {f1 : Nat → Cell → Prop}
    (hr : HRel H pl w) (ho : o.op = .store T p x) (hl : look H i = some (.arr sh t ys)) (hp : SVRep w H pl (.ptr i k off) (a.eval p)) (hv : SVRep w H pl v (a.eval x)) (hz : v.cells = some xs) (hT : sizeT P T = some xs.length)
    (hoff : off + xs.length ≤ t.sz) (hrs : rs.length = xs.length) (hy : ∀ e, ys[k]? = some e → t.cells y = (t.cells e).take off ++ rs ++ (t.cells e).drop (off + xs.length))
    (hin : ∀ j r u, rs[j]? = some r → (a.eval x).cells[j]? = some u → Inner w H pl sh' r u (f1 j)) (hf1 : ∀ j p, j < xs.length → f1 j p → ∃ k B, mem k ids = true ∧ look H k = some B ∧ B.isBox = false ∧ pl.fp k p)
    (hf2 : ∀ j j' p, j < xs.length → j' < xs.length → f1 j p → f1 j' p → j = j') (hsh : (sh = none ∧ sh' = none) ∨ ∃ d d', sh = some d ∧ sh' = some d' ∧ ∀ k, mem k d = true → mem k d' = true)
    (hi : mem i ids = false) : OpSem P o a w H pl n { v := .undef, upd := [(i, .arr sh' t (ys.set k y))], gone := ids, dirty := [i] } := by
  refine ⟨fun j B h => ?_, fun H' next Q ha hN => ?_⟩
  · rw [look_cons] at h
    by_cases e : i = j
    · subst e; exact ⟨_, hl⟩
    · rw [if_neg e] at h; simp [look] at h
  obtain ⟨ht, hh⟩ := after_upd (c := { v := .undef, upd := [(i, .arr sh' t (ys.set k y))], gone := ids, dirty := [i] }) hl rfl rfl hi ha
  have hc := hv.cells hz hr
  obtain ⟨ti, hti, hts⟩ := sizeT_spec hT
  generalize hpe : a.eval p = up at hp
  cases hp with
  | ptrB _ _ cs b2 k2 hl2 hh2 => rw [hl] at hl2; exact nomatch hl2
  | ptrA _ _ _ sh2 t2 zs b m n' cap hl2 hx hhd =>
    rw [hl] at hl2; cases hl2
    have hk : ys[k]? = some ys[k] := List.getElem?_eq_getElem hx
    have hone : ∀ u ∈ (a.eval x).cells.toList, one u = true := fun u hu => by
      obtain ⟨j, hj⟩ := List.getElem?_of_mem hu
      exact hc.h1 j u (by simpa using hj)
    obtain ⟨w', hst, fp', hstep⟩ := elem_step (P := P) (us := (a.eval x).cells.toList) (f1 := f1) hr hl hhd hk hoff hrs (by simp [hc.hl]) (hy _ hk) hone (fun j r hj => by
        have hj' : j < (a.eval x).cells.size := by rw [← hc.hl, ← hrs]; exact (List.getElem?_eq_some_iff.1 hj).1
        exact ⟨(a.eval x).cells[j], by simp, hin j r _ hj (by simp)⟩) hf1 hf2 hsh hh hi ht
    unfold Oper.wp
    have hsz2 : (a.eval x).cells.size = ti.size := by rw [← hc.hl]; exact hts.symm
    have hrun : (execOp a.eval o).run P w = .ok .skip w' := by
      rw [execOp, ho]
      simp only [Instr.storeAt, hpe, Instr.sureAddr, storeVar, Sem.run_bind, Sem.run_pure, Result.andThen_ok, run_sizeOf' hti, hsz2, ne_eq, not_true, if_false, Sem.run_ite]
      simp [hst]
    rw [hrun]
    exact hN undef _ w' hstep (.undef _)
theorem nodupB_cons {i : Nat} {l : List Nat} (h : nodupB (i :: l) = true) : mem i l = false ∧ l.Nodup := by
  simp only [nodupB] at h
  cases hm : mem i l <;> simp only [hm, cond_true, cond_false] at h
  · exact ⟨rfl, nodupB_spec h⟩
  · exact nomatch h
theorem asRs_spec {h : Heap} : ∀ {ts : List Ty} {vs : List SV} {d : List Nat} {rs : List R}, asRs h ts vs = some (d, rs) → rs.length = vs.length ∧ ∀ (j : Nat) (r : R), rs[j]? = some r → ∃ v ty d', vs[j]? = some v ∧ v.asR h ty = some (d', r) ∧ ∀ k, mem k d' = true → mem k d = true
  | [], [], d, rs, e => by cases e; exact ⟨rfl, fun j r hr => by simp at hr⟩
  | t :: ts, v :: vs, d, rs, e => by
    simp only [asRs, Option.bind_eq_some_iff, Option.some.injEq, Prod.mk.injEq] at e
    obtain ⟨⟨d1, r1⟩, q1, ⟨d2, r2⟩, q2, rfl, rfl⟩ := e
    obtain ⟨g1, g2⟩ := asRs_spec q2
    refine ⟨by simp [g1], fun j r hr => ?_⟩
    cases j with
    | zero => simp at hr; subst hr; exact ⟨v, t, d1, rfl, q1, fun k hk => by rw [mem_append, hk]; rfl⟩
    | succ j =>
      obtain ⟨v', ty, d', p1, p2, p3⟩ := g2 j r (by simpa using hr)
      exact ⟨v', ty, d', by simpa using p1, p2, fun k hk => by rw [mem_append, p3 k hk, Bool.or_true]⟩
  | [], _ :: _, _, _, e => nomatch e
  | _ :: _, [], _, _, e => nomatch e
theorem storeArr_gen {ρ : Type} {K : CR → Option ρ} {out : ρ} {o : Oper} {T : TypeId} {p x : Operand} {h0 : Heap} {n i k off : Nat} {v : SV} {t : Ty} {sh : Option (List Nat)} {ys : List t.El} (ho : o.op = .store T p x)
    (h : storeArr P T h0 i sh t ys k off v K = some out) : ∃ c, K c = some out ∧ ∀ (H : Heap) (a : Act) (w : World) (pl : Pl), Ext h0 H → look H i = some (.arr sh t ys) → HRel H pl w → SVRep w H pl (.ptr i k off) (a.eval p) →
      SVRep w H pl v (a.eval x) → OpSem P o a w H pl n c := by
  simp only [storeArr, Option.bind_eq_some_iff] at h
  obtain ⟨xs, hxs, sz, hsz, h⟩ := h
  cases hb : (Nat.beq sz xs.length && Nat.ble (off + sz) t.sz) <;> simp only [hb, cond_true, cond_false] at h
  · exact nomatch h
  simp only [Bool.and_eq_true] at hb
  have e1 := Nat.eq_of_beq_eq_true hb.1
  have e2 := Nat.le_of_ble_eq_true hb.2
  subst e1
  cases sh with
  | none =>
    simp only [Option.bind_eq_some_iff] at h
    obtain ⟨⟨ids, rs⟩, hrs, h⟩ := h
    cases hn : nodupB (i :: ids) <;> simp only [hn, cond_true, cond_false] at h
    · exact nomatch h
    obtain ⟨hmi, hnd⟩ := nodupB_cons hn
    obtain ⟨g1, g2, g3, g4⟩ := absRs_spec hrs
    have fin : ∀ y, K { v := .undef, upd := [(i, .arr none t (ys.set k y))], gone := ids, dirty := [i] } = some out → (∀ e, ys[k]? = some e → t.cells y = (t.cells e).take off ++ rs ++ (t.cells e).drop (off + xs.length)) →
        ∃ c, K c = some out ∧ ∀ (H : Heap) (a : Act) (w : World) (pl : Pl), Ext h0 H → look H i = some (.arr none t ys) → HRel H pl w → SVRep w H pl (.ptr i k off) (a.eval p) → SVRep w H pl v (a.eval x) → OpSem P o a w H pl n c := fun y hK hy =>
      ⟨_, hK, fun H a w pl he hl hr hp hv => by
        have hc := hv.cells hxs hr
        refine store_elem (rs := rs) (f1 := fun j p => ∃ v, xs[j]? = some v ∧ tookF pl v p) hr ho hl hp hv hxs hsz e2 (g2.trans g1.symm) hy (fun j r u hj hu => ?_) (fun j p hj ⟨v, hv, k', e, hf⟩ => ?_) (fun j j' p hj hj' ⟨v, hv, k', e, hf⟩ ⟨v2, hv2, k2, e', hf'⟩ => ?_) (.inl ⟨rfl, rfl⟩) hmi
        · obtain ⟨v, ty, q1, q2⟩ := g4 j r hj
          exact (absR_rep hr (absR_le he _ _ _ q2) (hc.h _ _ _ q1 hu)).congr fun p => ⟨fun h => ⟨v, q1, h⟩, fun ⟨v', hv', h⟩ => by rw [q1] at hv'; cases hv'; exact h⟩
        · subst e
          obtain ⟨r, hr'⟩ : ∃ r, rs[j]? = some r := ⟨_, List.getElem?_eq_getElem (by omega)⟩
          obtain ⟨v, ty, q1, q2⟩ := g4 j r hr'
          rw [hv] at q1; cases q1
          obtain ⟨t1, zs, hl2⟩ := absR_there (absR_le he _ _ _ q2) rfl
          exact ⟨k', _, (mem_iff _ _).2 (by rw [g3]; exact tookL_mem hv), hl2, rfl, hf⟩
        · subst e e'
          have thr : ∀ j k', xs[j]? = some (.own k') → j < xs.length → ∃ B, look H k' = some B := fun j k' hv hj => by
            obtain ⟨r, hr'⟩ : ∃ r, rs[j]? = some r := ⟨_, List.getElem?_eq_getElem (by omega)⟩
            obtain ⟨v, ty, q1, q2⟩ := g4 j r hr'
            rw [hv] at q1; cases q1
            obtain ⟨t1, zs, hl2⟩ := absR_there (absR_le he _ _ _ q2) rfl
            exact ⟨_, hl2⟩
          obtain ⟨B1, hB1⟩ := thr j k' hv hj
          obtain ⟨B2, hB2⟩ := thr j' k2 hv2 hj'
          have := hr.dis k' k2 B1 B2 p hB1 hB2 hf hf'
          subst this
          exact tookL_inj (g3 ▸ hnd) hv hv2⟩
    cases hw : Nat.beq xs.length t.sz <;> simp only [hw, cond_true, cond_false, Option.bind_eq_some_iff] at h
    · obtain ⟨e, he, y, hy, h⟩ := h
      exact fin y h fun e' he' => by rw [he] at he'; cases he'; exact Ty.ofCells_spec t _ y hy
    · obtain ⟨y, hy, h⟩ := h
      have hw := Nat.eq_of_beq_eq_true hw
      refine fin y h fun e he => ?_
      have ho0 : off = 0 := by omega
      subst ho0
      rw [Ty.ofCells_spec t _ y hy, Nat.zero_add, hw, ← Ty.cells_length t e, List.drop_length]; simp
  | some d =>
    simp only [Option.bind_eq_some_iff] at h
    obtain ⟨⟨d1, rs⟩, hrs, h⟩ := h
    cases hn : mem i d1 <;> simp only [hn, cond_true, cond_false] at h
    rotate_left
    · exact nomatch h
    obtain ⟨g1, g4⟩ := asRs_spec hrs
    have fin : ∀ y, K { v := .undef, upd := [(i, .arr (some (d ++ d1)) t (ys.set k y))], dirty := [i] } = some out → (∀ e, ys[k]? = some e → t.cells y = (t.cells e).take off ++ rs ++ (t.cells e).drop (off + xs.length)) →
        ∃ c, K c = some out ∧ ∀ (H : Heap) (a : Act) (w : World) (pl : Pl), Ext h0 H → look H i = some (.arr (some d) t ys) → HRel H pl w → SVRep w H pl (.ptr i k off) (a.eval p) → SVRep w H pl v (a.eval x) → OpSem P o a w H pl n c := fun y hK hy =>
      ⟨_, hK, fun H a w pl he hl hr hp hv => by
        have hc := hv.cells hxs hr
        refine store_elem (rs := rs) (ids := []) (f1 := fun _ _ => False) hr ho hl hp hv hxs hsz e2 g1 hy (fun j r u hj hu => ?_) (fun _ _ _ h => h.elim) (fun _ _ _ _ _ h => h.elim) (.inr ⟨d, _, rfl, rfl, fun k hk => by rw [mem_append, hk]; rfl⟩) rfl
        obtain ⟨v, ty, d', q1, q2, q3⟩ := g4 j r hj
        exact ⟨(asR_rep hr (asR_le he _ _ _ q2) (hc.h _ _ _ q1 hu)).frame fun p u hp hu => ⟨okd_mono (fun k hk => by rw [mem_append, q3 k hk, Bool.or_true]) hp, hu⟩, fun _ h => h⟩⟩
    cases hw : Nat.beq xs.length t.sz <;> simp only [hw, cond_true, cond_false, Option.bind_eq_some_iff] at h
    · obtain ⟨e, he, y, hy, h⟩ := h
      exact fin y h fun e' he' => by rw [he] at he'; cases he'; exact Ty.ofCells_spec t _ y hy
    · obtain ⟨y, hy, h⟩ := h
      have hw := Nat.eq_of_beq_eq_true hw
      refine fin y h fun e he => ?_
      have ho0 : off = 0 := by omega
      subst ho0
      rw [Ty.ofCells_spec t _ y hy, Nat.zero_add, hw, ← Ty.cells_length t e, List.drop_length]; simp
/-- A slice literal. -/
theorem build_fill {a : Act} {s : List (Nat × SV)} {T e : TypeId} {sz len : Nat} {parts : Array (Nat × Operand)} {ps : List (Nat × SV)} {z cs : List SV} (hr : HRel H pl w) (hs : Slots w H pl s a)
    (he : elemT P T = some e) (hsz : sizeT P e = some sz) (hps : partsO s parts.toList = some ps) (hz : zeroCs P e = some z) (hzl : z.length = sz) (hlen : len * sz ≤ 16777216)
    (hf : fillCs (fun i => some (i * sz, sz)) (List.replicate (len * sz) .undef) ps = some cs) :
    ∃ cells, CRep w H pl cs cells ∧ (Instr.buildSlice T len (parts.map fun p => (p.1, a.eval p.2))).run P w = .ok (.slice (some ⟨w.heap.size, 0, none⟩) len len) (w.alloc (.cells cells e)) := by
  obtain ⟨ti, hti, rfl⟩ := sizeT_spec hsz
  obtain ⟨zu, hzu, hzc⟩ := zeroCs_spec hr hti hz
  have hzs : zu.cells.size = ti.size := by rw [← hzc.hl, hzl]
  obtain ⟨g1, g2⟩ := partsO_rep hs hps
  have hinit : CRep w H pl (List.replicate (len * ti.size) .undef) (madeCells zu.cells (len * ti.size)) := by
    refine ⟨by simp [size_madeCells], fun j v hv => ?_, fun j x u hx hu => ?_⟩
    · have hj : j < len * ti.size := by have := (Array.getElem?_eq_some_iff.1 hv).1; rwa [size_madeCells] at this
      rw [madeCells_get hj] at hv; cases hv
      have hpos : 0 < zu.cells.size := by
        rw [hzs]
        rcases Nat.eq_zero_or_pos ti.size with h | h
        · rw [h] at hj; omega
        · exact h
      have hlt : j % zu.cells.size < zu.cells.size := Nat.mod_lt _ hpos
      rw [getElem!_pos zu.cells _ hlt]
      exact hzc.h1 _ _ (Array.getElem?_eq_getElem hlt)
    · have := (List.mem_replicate.1 (List.mem_of_getElem? hx)).2
      subst this; exact .undef _
  obtain ⟨cells, e1, e2⟩ := fill_rep hr ps (parts.map fun p => (p.1, a.eval p.2)).toList _ cs _ hinit (by simp [g1]) (fun j k x k' u hx hu => g2 j k x k' u hx (by simpa using hu)) hf
  exact ⟨cells, e2, buildSlice_run (elemT_spec he) hti hzu len hlen e1⟩
theorem fillCs_length {place : Nat → Option (Nat × Nat)} : ∀ {ps : List (Nat × SV)} {cs cs' : List SV}, fillCs place cs ps = some cs' → cs'.length = cs.length
  | [], cs, cs', h => by cases h; rfl
  | (k, v) :: l, cs, cs', h => by
    simp only [fillCs, Option.bind_eq_some_iff] at h
    obtain ⟨p, hp, vs, hvs, h⟩ := h
    cases h1 : Nat.beq vs.length p.2 <;> simp only [h1, cond_true, cond_false] at h
    · exact nomatch h
    cases h2 : Nat.ble (p.1 + vs.length) cs.length <;> simp only [h2, cond_true, cond_false] at h
    · exact nomatch h
    have h2 := Nat.le_of_ble_eq_true h2
    rw [fillCs_length h]; simp; omega
theorem buildSlice_own {o : Oper} {a : Act} {s : List (Nat × SV)} {n : Nat} {T e : TypeId} {sz len : Nat} {parts : Array (Nat × Operand)} {ps : List (Nat × SV)} {z cs : List SV} {t : Ty} {xs : List t.El} (hr : HRel H pl w) (hs : Slots w H pl s a)
    (hn : look H n = none) (ho : o.op = .buildSlice T len parts) (he : elemT P T = some e) (hsz : sizeT P e = some sz) (hps : partsO s parts.toList = some ps) (hz : zeroCs P e = some z) (hzl : z.length = sz) (hlen : len * sz ≤ 16777216)
    (hf : fillCs (fun i => some (i * sz, sz)) (List.replicate (len * sz) .undef) ps = some cs) (hts : t.sz = sz) (hx : absEls H t len cs = some ([], xs)) : OpSem P o a w H pl n { v := .own n, news := [.arr none t xs] } := by
  obtain ⟨cells, hc, hrun⟩ := build_fill hr hs he hsz hps hz hzl hlen hf
  refine own_sem hn rfl rfl rfl fun H' ht => ?_
  obtain ⟨k1, _, _, _⟩ := absEls_spec hx
  have hst := fresh_row (e := e) (cs := cells) (cap := len) hr hn (by omega) (by rw [← hc.hl, fillCs_length hf, List.length_replicate, hts]) (absEls_plain hr hx hc) ht
  refine ⟨_, _, _, ?_, hst⟩
  rw [execOp, ho]
  simp only [Sem.run_bind, hrun, Result.andThen_ok, k1]
  rfl
theorem buildSlice_box {o : Oper} {a : Act} {s : List (Nat × SV)} {n : Nat} {T e : TypeId} {sz len : Nat} {parts : Array (Nat × Operand)} {ps : List (Nat × SV)} {z cs : List SV} (hr : HRel H pl w) (hs : Slots w H pl s a)
    (hn : look H n = none) (ho : o.op = .buildSlice T len parts) (he : elemT P T = some e) (hsz : sizeT P e = some sz) (hps : partsO s parts.toList = some ps) (hz : zeroCs P e = some z) (hzl : z.length = sz) (hlen : len * sz ≤ 16777216)
    (hf : fillCs (fun i => some (i * sz, sz)) (List.replicate (len * sz) .undef) ps = some cs) : OpSem P o a w H pl n { v := .bsl n len, news := [.box cs] } := by
  obtain ⟨cells, hc, hrun⟩ := build_fill hr hs he hsz hps hz hzl hlen hf
  refine ⟨fun i B h => by simp [look] at h, fun H' next Q ha hN => ?_⟩
  cases ha
  obtain ⟨pl', hst, hh⟩ := box_step hr hn hc e
  refine exec_wp (u := .slice (some ⟨w.heap.size, 0, none⟩) len len) (w' := push w cells e) ?_ (hN _ pl' _ hst ?_)
  · rw [execOp, ho]
    simp only [Sem.run_bind, hrun, Result.andThen_ok]
    rfl
  · exact SVRep.bsl (w := push w cells e) (H := H ++ [(n, .box cs)]) (pl := pl') n len cs _ (by rw [look_append, hn, look_cons]; simp) hh
end
end Go.Proofs.Ev

set_option linter.unusedVariables false
namespace Go.Proofs.Ev
variable [Tok]
set_option linter.unusedSectionVars false
section
variable {w : World} {H : Heap} {pl : Pl} {P : Program}
theorem clr_cell {t : Ty} {ys : List t.El} {y : t.El} {q n i j : Nat} {r : R} (hn : q + n ≤ ys.length) (h : cellIn t (ys.take q ++ List.replicate n y ++ ys.drop (q + n)) i j r) :
    (q ≤ i ∧ i < q + n ∧ (t.cells y)[j]? = some r) ∨ (¬ (q ≤ i ∧ i < q + n) ∧ cellIn t ys i j r) := by
  obtain ⟨x, hx, hr⟩ := h
  have hl : (ys.take q).length = q := by rw [List.length_take]; omega
  by_cases c : q ≤ i ∧ i < q + n
  · rw [List.append_assoc, List.getElem?_append_right (by omega), hl, List.getElem?_append_left (by simp; omega), List.getElem?_replicate, if_pos (by omega)] at hx
    cases hx
    exact .inl ⟨c.1, c.2, hr⟩
  · refine .inr ⟨c, x, ?_, hr⟩
    by_cases c1 : i < q
    · rw [List.append_assoc, List.getElem?_append_left (by omega), List.getElem?_take, if_pos c1] at hx
      exact hx
    · rw [List.getElem?_append_right (by simp; omega), List.getElem?_drop] at hx
      rw [← hx]; congr 1; simp; omega
theorem clrAt_le {h h' : Heap} (hh : Ext h h') {v : SV} {p : Nat × Nat × Nat} (e : clrAt h v = some p) : clrAt h' v = some p := by
  unfold clrAt at e ⊢
  split at e
  · exact e
  · split at e
    · rename_i hl
      rw [hh _ _ hl]; exact e
    · exact nomatch e
  · exact nomatch e
/-- The step. -/
theorem clear_step {t : Ty} {sh : Option (List Nat)} {ys : List t.El} {i q num : Nat} {H' : Heap} {y : t.El} {us : List Value} {b m n cap : Nat}
    (hr : HRel H pl w) (hl : look H i = some (.arr sh t ys)) (hh : pl.hdr i = .slice (some ⟨b, m, none⟩) n cap) (hq : q + num ≤ ys.length) (hus : us.length = num * t.sz) (hone : ∀ u ∈ us, one u = true)
    (hin : ∀ j r, (t.cells y)[j]? = some r → ∀ x, x < num → ∃ u, us[x * t.sz + j]? = some u ∧ RepD w r u (fun _ => False)) (hpos0 : 0 < num)
    (hit' : hit [i] (sh.getD []) = false) (ht : Turned H H' ([], [i]) i (.arr sh t (ys.take q ++ List.replicate num y ++ ys.drop (q + num)))) :
    ∃ w', (storeCells ⟨b, m + q * t.sz, none⟩ us).run P w = .ok () w' ∧ ∃ fp', StepTo H H' ([], [i]) pl (pl.set i (pl.hdr i) fp') w w' := by
  obtain ⟨⟨a, cap', b', o, vs, fs, hhd, hcap, ha, hreg, hc, hrr, hd1, hd2, hfp⟩⟩ := (hr.blk i _ hl).rowI
  rw [hh] at hhd
  cases hhd
  have hsp := t.sz_pos
  have hab : b = b' ∧ m = o := by
    rcases ha with h | h
    · omega
    · cases h; exact ⟨rfl, rfl⟩
  obtain ⟨rfl, rfl⟩ := hab
  have hpos : q * t.sz + us.length ≤ cap * t.sz := by
    have : (q + num) * t.sz ≤ cap * t.sz := Nat.mul_le_mul_right _ (by omega)
    rw [Nat.add_mul] at this; omega
  have hcell : ∀ j, j < us.length → ∃ u, w.at? (b, m + q * t.sz + j) = some u ∧ calm (w.ice? (b, m + q * t.sz + j)) = true := fun j hj => by
    obtain ⟨⟨u, q1⟩, q2⟩ := hreg (q * t.sz + j) (by omega)
    rw [show m + q * t.sz + j = m + (q * t.sz + j) from by omega]
    exact ⟨u, q1, whole_calm q2⟩
  have hst := run_storeCells_cells (P := P) b (m + q * t.sz) us 0 w (fun j hj => by
      obtain ⟨u, q1, _⟩ := hcell j hj
      simp only [Nat.add_zero]
      have q1 : w.cell? ⟨b, m + q * t.sz + j, none⟩ = some u := q1
      rw [q1]; rfl) (fun j hj => by
      obtain ⟨u, q1, q2⟩ := hcell j hj
      simp only [Nat.add_zero]; exact calm_frozen q1 q2) (fun u hu => one_oneCell (hone u hu))
  simp only [Nat.add_zero] at hst
  have hcellin : ∀ j, j < us.length → (w.setCells b (m + q * t.sz) us).at? (b, m + q * t.sz + j) = us[j]? := fun j hj => by
    have := World.cell?_setCells_in b us (m + q * t.sz) w (fun j hj => by
      obtain ⟨u, q1, _⟩ := hcell j hj
      have q1 : w.cell? ⟨b, m + q * t.sz + j, none⟩ = some u := q1
      rw [q1]; rfl) j hj
    rw [List.getElem?_eq_getElem hj]
    simpa [World.at?] using this
  have hcellout : ∀ p u, w.at? p = some u → ¬ (p.1 = b ∧ m + q * t.sz ≤ p.2 ∧ p.2 < m + q * t.sz + us.length) → (w.setCells b (m + q * t.sz) us).at? p = some u := fun p u hp hno => by
    unfold World.at? at *
    rw [World.cell?_setCells_out b _ _ w _ (fun e1 _ => by simp at e1; simp; omega)]
    exact hp
  have hice : ∀ p, (w.setCells b (m + q * t.sz) us).ice? p = w.ice? p := fun p => ice?_setCells _ _ _ _ _
  have hregin : ∀ p, reg b m (cap * t.sz) p → pl.fp i p := fun p hp => (hfp p).2 (.inl hp)
  have hfsin : ∀ i' j r p, cellIn t ys i' j r → fs i' j p → pl.fp i p := fun i' j r p hx hf => (hfp p).2 (.inr ⟨i', j, r, hx, hf⟩)
  have hmi : mem i [i] = true := by simp [mem]
  have hylen : (ys.take q ++ List.replicate num y ++ ys.drop (q + num)).length = ys.length := by simp; omega
  refine ⟨_, hst, fun p => reg b m (cap * t.sz) p ∨ ∃ i' j r, cellIn t ys i' j r ∧ ¬ (q ≤ i' ∧ i' < q + num) ∧ fs i' j p, ?_⟩
  refine turn_step (Grown.setCells _ _ _ _) hr ht (fun x hx => nomatch hx) (fun x hx => ?_) (.inr ⟨_, hl, hmi, by simp only [Blk.like]; exact ⟨trivial, hylen.symm⟩, rfl⟩) (fun p u hp hno => ⟨hcellout p u hp fun hin => ?_, hice p⟩) (fun p hp => ?_) (fun p hp => ?_) fun hkp => ?_
  · refine .inr ?_
    simp only [mem] at hx
    cases hb : Nat.beq i x
    · rw [hb] at hx; exact nomatch hx
    · exact (Nat.eq_of_beq_eq_true hb).symm
  · exact hno i _ hmi hl (hregin p ⟨hin.1, by omega, by omega⟩)
  · refine hr.nb p ?_
    cases hq' : w.at? p with
    | none => rfl
    | some u =>
      by_cases hin : p.1 = b ∧ m + q * t.sz ≤ p.2 ∧ p.2 < m + q * t.sz + us.length
      · obtain ⟨p1, p2⟩ := p
        obtain ⟨e1, e2, e3⟩ := hin
        simp only at e1 e2 e3
        subst e1
        have := hcellin (p2 - (m + q * t.sz)) (by omega)
        rw [show m + q * t.sz + (p2 - (m + q * t.sz)) = p2 from by omega, hp, List.getElem?_eq_getElem (by omega)] at this
        exact nomatch this
      · rw [hcellout p u hq' hin] at hp; exact nomatch hp
  · rcases hp with hp | ⟨i', j, r, hx, _, hf⟩
    · exact .inr ⟨i, _, hmi, hl, hregin p hp⟩
    · exact .inr ⟨i, _, hmi, hl, hfsin i' j r p hx hf⟩
  · have hout : ∀ {i' j}, j < t.sz → ¬ (q ≤ i' ∧ i' < q + num) → ¬ (m + q * t.sz ≤ m + (i' * t.sz + j) ∧ m + (i' * t.sz + j) < m + q * t.sz + us.length) := fun {i' j} hj hne ⟨g1, g2⟩ => by
      rcases Nat.lt_or_ge i' q with h | h
      · have : (i' + 1) * t.sz ≤ q * t.sz := Nat.mul_le_mul_right _ h
        rw [Nat.succ_mul] at this; omega
      · have h2 : q + num ≤ i' := by omega
        have : (q + num) * t.sz ≤ i' * t.sz := Nat.mul_le_mul_right _ h2
        rw [Nat.add_mul] at this; omega
    have frameD : ∀ {r : R} {u : Value} {f : Cell → Prop}, RepD w r u f → (∀ p, f p → ¬ reg b m (cap * t.sz) p) → RepD (w.setCells b (m + q * t.sz) us) r u f := fun h hno => h.frame fun p u hf hu => ⟨hcellout p u hu fun hin => hno p hf ⟨hin.1, by omega, by omega⟩, hice p⟩
    refine BlkRep.of_rowI ⟨some ⟨b, m, none⟩, cap, b, m, fun i' j => if q ≤ i' ∧ i' < q + num then (us[(i' - q) * t.sz + j]?).getD undef else vs i' j, fun i' j p => ¬ (q ≤ i' ∧ i' < q + num) ∧ fs i' j p, by rw [hylen]; simp [Pl.set, hh], by rw [hylen]; exact hcap, .inr rfl, fun j hj => ⟨?_, by rw [hice]; exact (hreg j hj).2⟩, fun i' j r hx => ?_, fun i' j r hx => ?_, fun i' j r p hx hf => ?_, fun i' j r i2 j2 r2 p hx hx' hf hf' => ?_, fun p => ?_⟩
    · by_cases hin : q * t.sz ≤ j ∧ j < q * t.sz + us.length
      · have := hcellin (j - q * t.sz) (by omega)
        rw [show m + q * t.sz + (j - q * t.sz) = m + j from by omega] at this
        exact ⟨_, this.trans (List.getElem?_eq_getElem (by omega))⟩
      · obtain ⟨u, hu⟩ := (hreg j hj).1
        exact ⟨u, hcellout _ u hu fun h => hin ⟨by have := h.2.1; simp at this; omega, by have := h.2.2; simp at this; omega⟩⟩
    · rcases clr_cell hq hx with ⟨g1, g2, g3⟩ | ⟨g1, g2⟩
      · rw [if_pos ⟨g1, g2⟩]
        obtain ⟨u, hu, _⟩ := hin _ _ g3 (i' - q) (by omega)
        have hlt := (List.getElem?_eq_some_iff.1 hu).1
        have := hcellin _ hlt
        have e : m + q * t.sz + ((i' - q) * t.sz + j) = m + (i' * t.sz + j) := by
          have : i' * t.sz = q * t.sz + (i' - q) * t.sz := by rw [← Nat.add_mul]; congr 1; omega
          omega
        rw [e] at this
        rw [this, hu]; rfl
      · rw [if_neg g1]
        exact hcellout _ _ (hc _ _ _ g2) fun h => hout (cellIn_lt g2).2 g1 ⟨h.2.1, h.2.2⟩
    · rcases clr_cell hq hx with ⟨g1, g2, g3⟩ | ⟨g1, g2⟩
      · rw [if_pos ⟨g1, g2⟩]
        obtain ⟨u, hu, hI⟩ := hin _ _ g3 (i' - q) (by omega)
        rw [hu, Option.getD_some]
        have hI' := frameD hI fun p hf => hf.elim
        have hno : ∀ p, ¬ (¬ (q ≤ i' ∧ i' < q + num) ∧ fs i' j p) := fun p hf => hf.1 ⟨g1, g2⟩
        cases sh with
        | none => exact hI'.congr fun p => ⟨fun h => h.elim, fun h => (hno p h).elim⟩
        | some d => exact ⟨hI'.repR fun p h => h.elim, hno⟩
      · simp only [if_neg g1]
        have hI := hrr _ _ _ g2
        cases sh with
        | none => exact RepD.congr (frameD hI fun p hf => hd1 _ _ _ p g2 hf) fun p => ⟨fun h => ⟨g1, h⟩, fun h => h.2⟩
        | some d =>
          rw [hh]
          exact ⟨hI.1.frame fun p u hp hu => (hh ▸ hkp).k2 d p u (fun x hx => hit_false _ d hit' x hx) hp hu, fun p hf => hI.2 p hf.2⟩
    · rcases clr_cell hq hx with ⟨g1, g2, g3⟩ | ⟨g1, g2⟩
      · exact (hf.1 ⟨g1, g2⟩).elim
      · exact hd1 _ _ _ p g2 hf.2
    · rcases clr_cell hq hx with ⟨g1, g2, g3⟩ | ⟨g1, g2⟩
      · exact (hf.1 ⟨g1, g2⟩).elim
      · rcases clr_cell hq hx' with ⟨q1, q2, q3⟩ | ⟨q1, q2⟩
        · exact (hf'.1 ⟨q1, q2⟩).elim
        · exact hd2 _ _ _ _ _ _ p g2 q2 hf.2 hf'.2
    · simp only [Pl.set, if_true]
      constructor
      · rintro (h | ⟨i', j, r, hx, hne, hf⟩)
        · exact .inl h
        · have hlt := cellIn_lt hx
          obtain ⟨r', hr'⟩ := cellIn_of (t := t) (xs := ys.take q ++ List.replicate num y ++ ys.drop (q + num)) (i := i') (j := j) (by rw [hylen]; exact hlt.1) hlt.2
          exact .inr ⟨i', j, r', hr', hne, hf⟩
      · rintro (h | ⟨i', j, r, hx, hf⟩)
        · exact .inl h
        · rcases clr_cell hq hx with ⟨g1, g2, g3⟩ | ⟨g1, g2⟩
          · exact (hf.1 ⟨g1, g2⟩).elim
          · exact .inr ⟨_, _, _, g2, hf⟩
theorem clear_sem {o : Oper} {a : Act} {s : List (Nat × SV)} {n : Nat} {args : Array Operand} {tys : Array TypeId} {v : SV} {T : TypeId} {e : TypeId} {t : Ty} {z : List SV} {sh : Option (List Nat)} {ys : List t.El} {y : t.El} {i q num : Nat}
    (hr : HRel H pl w) (hs : Slots w H pl s a) (ho : o.op = .call { callee := .builtin .clear, args := args, argTypes := tys }) (hvs : opds s args.toList = some [v]) (hty : tys.toList = [T])
    (he : elemT P T = some e) (hz : zeroCs P e = some z) (hzl : z.length = t.sz) (hv : clrAt H v = some (i, q, num)) (hl : look H i = some (.arr sh t ys)) (hy : absEls H t 1 z = some ([], [y])) :
    OpSem P o a w H pl n { v := .undef, upd := [(i, .arr sh t (ys.take q ++ List.replicate num y ++ ys.drop (q + num)))], dirty := [i] } := by
  refine ⟨fun j B h => ?_, fun H' next Q ha hN => ?_⟩
  · rw [look_cons] at h
    by_cases e : i = j
    · subst e; exact ⟨_, hl⟩
    · rw [if_neg e] at h; simp [look] at h
  obtain ⟨ht, hh⟩ := after_upd (c := { v := .undef, upd := [(i, .arr sh t (ys.take q ++ List.replicate num y ++ ys.drop (q + num)))], dirty := [i] }) hl rfl rfl rfl ha
  obtain ⟨p, hpq, hp⟩ : ∃ p, args.toList = [p] ∧ opd s p = some v := by
    cases hq : args.toList with
    | nil => rw [hq] at hvs; exact nomatch hvs
    | cons p l =>
      rw [hq] at hvs
      simp only [opds, Option.bind_eq_some_iff, Option.some.injEq] at hvs
      obtain ⟨v', h1, vs', h2, h3⟩ := hvs
      cases l with
      | nil => cases h2; cases h3; exact ⟨p, rfl, h1⟩
      | cons p2 l2 =>
        simp only [opds, Option.bind_eq_some_iff, Option.some.injEq] at h2
        obtain ⟨_, _, _, _, rfl⟩ := h2
        cases h3
  have hpr := opd_rep hs hp
  have hargs : args.map a.eval = #[a.eval p] := by rw [show args = #[p] from Array.ext' hpq]; simp
  have hta : tys = #[T] := Array.ext' hty
  have hT := elemT_spec he
  obtain ⟨zu, hzu, hzc⟩ := zeroCs_rep hr hz
  have hzs : zu.cells.size = t.sz := by rw [← hzc.hl, hzl]
  have hrun0 : ∀ w', (Builtin.clear_ #[T] o.type #[a.eval p]).run P w = .ok (.tuple #[]) w' → (execOp a.eval o).run P w = .ok (.value (.tuple #[])) w' := fun w' h => by
    rw [execOp, ho, hta]
    simp only [resolve, hargs, invoke, builtin, Sem.run_bind, Sem.run_pure, Result.andThen_ok, h]
  -- the slice
  have hsl : ∃ A c b m n' cap, a.eval p = .slice A num c ∧ q + num ≤ ys.length ∧ (0 < num → pl.hdr i = .slice (some ⟨b, m, none⟩) n' cap ∧ A = some ⟨b, m + q * t.sz, none⟩) := by
    obtain ⟨⟨a0, cap, b, m, vs, fs, hhd, hcap, ha0, _⟩⟩ := (hr.blk i _ hl).rowI
    generalize a.eval p = u at hpr
    cases hpr with
    | own j sh' t' xs' hl' =>
      simp only [clrAt, hl', Option.some.injEq, Prod.mk.injEq] at hv
      obtain ⟨rfl, rfl, rfl⟩ := hv
      rw [hl] at hl'; cases hl'
      refine ⟨a0, cap, b, m, ys.length, cap, hhd, by omega, fun h0 => ?_⟩
      rcases ha0 with h | h
      · omega
      · rw [hhd, h]; simp
    | sub j o' n' sh' t' xs' a1 a2 cap1 cap2 hl' hh' hn hc hc' ha' =>
      simp only [clrAt, Option.some.injEq, Prod.mk.injEq] at hv
      obtain ⟨rfl, rfl, rfl⟩ := hv
      rw [hl] at hl'; cases hl'
      rw [hh'] at hhd
      cases hhd
      refine ⟨a2, cap2, b, m, ys.length, cap, rfl, hn, fun h0 => ?_⟩
      rcases ha0 with h | h
      · omega
      · rcases ha' with h' | h'
        · omega
        · rw [hh', h', h]; exact ⟨rfl, by simp [Addr.add]⟩
    | _ => exact nomatch hv
  obtain ⟨A, c, b, m, n', cap, hA, hqn, hA2⟩ := hsl
  by_cases h0 : num = 0
  · subst h0
    have hrun : (Builtin.clear_ #[T] o.type #[a.eval p]).run P w = .ok (.tuple #[]) w := by
      rw [hA]
      cases A <;> simp [Builtin.clear_, run_underlying hT]
    have hsame : ys.take q ++ List.replicate 0 y ++ ys.drop (q + 0) = ys := by simp
    rw [hsame] at ht
    refine exec_wp (hrun0 w hrun) (hN _ _ w (turn_step (fp := pl.fp i) (hdr := pl.hdr i) (Grown.refl w) hr ht (fun x hx => nomatch hx) (fun x hx => .inr ?_) (.inr ⟨_, hl, by simp [CR.kil, mem], Blk.like_refl _, rfl⟩) (fun p u hp _ => ⟨hp, rfl⟩) (fun p hp => hr.nb p hp) (fun p hp => .inr ⟨i, _, by simp [CR.kil, mem], hl, hp⟩) fun hkp => ?_) (.undef _))
    · have hx : mem x [i] = true := hx
      simp only [mem] at hx
      cases hb : Nat.beq i x
      · rw [hb] at hx; exact nomatch hx
      · exact (Nat.eq_of_beq_eq_true hb).symm
    · obtain ⟨⟨a0, cap0, b0, m0, vs, fs, q1, q2, q3, q4, q5, q6, q7, q8, q9⟩⟩ := (hr.blk i _ hl).rowI
      refine BlkRep.of_rowI ⟨a0, cap0, b0, m0, vs, fs, by simpa [Pl.set] using q1, q2, q3, q4, q5, fun i' j r hx => ?_, q7, q8, by simpa [Pl.set] using q9⟩
      have hI := q6 i' j r hx
      cases sh with
      | none => exact hI
      | some d => exact ⟨hI.1.frame fun p u hp hu => hkp.k2 d p u (fun x hx => hit_false _ d hh x hx) hp hu, hI.2⟩
  · obtain ⟨hA3, hA4⟩ := hA2 (by omega)
    have hus : (Builtin.zeroCells zu.cells num).toList.length = num * t.sz := by simp [Builtin.zeroCells, hzs]
    have hget : ∀ k, k < num * t.sz → (Builtin.zeroCells zu.cells num).toList[k]? = some (zu.cells[k % t.sz]!) := fun k hk => by
      simp [Builtin.zeroCells, hzs, hk]
    have hzin : ∀ k, k < t.sz → ∃ h : k < zu.cells.size, zu.cells[k]! = zu.cells[k] := fun k hk => ⟨by omega, by rw [getElem!_pos]⟩
    obtain ⟨w', hst, fp', hstep⟩ := clear_step (P := P) (us := (Builtin.zeroCells zu.cells num).toList) hr hl hA3 hqn hus (fun u hu => by
        obtain ⟨k, hk⟩ := List.getElem?_of_mem hu
        have hkl : k < num * t.sz := by rw [← hus]; exact (List.getElem?_eq_some_iff.1 hk).1
        rw [hget k hkl] at hk
        cases hk
        obtain ⟨h1, h2⟩ := hzin (k % t.sz) (Nat.mod_lt _ t.sz_pos)
        rw [h2]
        exact hzc.h1 (k % t.sz) _ (by rw [Array.getElem?_eq_getElem h1])) (fun j r hj x hx => by
        have hjl : j < t.sz := by have := (List.getElem?_eq_some_iff.1 hj).1; rwa [Ty.cells_length] at this
        obtain ⟨u, hu, hd⟩ := absEls_plain hr hy hzc 0 j r ⟨y, rfl, hj⟩
        rw [Nat.zero_mul, Nat.zero_add] at hu
        refine ⟨u, ?_, hd⟩
        have hlt : x * t.sz + j < num * t.sz := off_lt hx hjl (Nat.le_refl _)
        rw [hget _ hlt, Nat.mul_comm, Nat.mul_add_mod, Nat.mod_eq_of_lt hjl]
        obtain ⟨h1, h2⟩ := hzin j hjl
        rw [h2]
        rw [Array.getElem?_eq_getElem h1] at hu
        exact hu) (by omega) hh ht
    have hrun : (Builtin.clear_ #[T] o.type #[a.eval p]).run P w = .ok (.tuple #[]) w' := by
      rw [hA, hA4]
      obtain ⟨k, rfl⟩ : ∃ k, num = k + 1 := ⟨num - 1, by omega⟩
      simp [Builtin.clear_, run_underlying hT, hzu, hst]
    exact exec_wp (hrun0 w' hrun) (hN _ _ w' hstep (.undef _))
end
end Go.Proofs.Ev

set_option linter.unusedVariables false
set_option linter.unusedSimpArgs false
namespace Go.Proofs.Ev
variable [Tok]
set_option linter.unusedSectionVars false
section
variable {w : World} {H : Heap} {pl : Pl} {P : Program}
def mark (w : World) (b n : Nat) : World := w.freeze ⟨b, n, none⟩ 1
def markFr (n : Nat) (fr : Nat × Nat) : Nat × Nat := if fr.1 == fr.2 then (n, n + 1) else (min fr.1 n, max fr.2 (n + 1))
theorem mark_cells {b n : Nat} {c : Array Value} {e : TypeId} {fr : Nat × Nat} (h : w.heap[b]? = some (.cells c e fr)) : (mark w b n).heap[b]? = some (.cells c e (markFr n fr)) := by
  unfold mark World.freeze markFr
  rw [if_neg (by decide)]
  simp only [Array.getElem?_modify, if_true, h]
  rfl
theorem mark_other {b n i : Nat} (h : i ≠ b) : (mark w b n).heap[i]? = w.heap[i]? := by
  unfold mark World.freeze
  rw [if_neg (by decide)]
  simp only [Array.getElem?_modify]
  rw [if_neg (fun e : b = i => h e.symm)]
theorem mark_at {b n : Nat} {c : Array Value} {e : TypeId} {fr : Nat × Nat} (h : w.heap[b]? = some (.cells c e fr)) (p : Cell) : (mark w b n).at? p = w.at? p := by
  unfold World.at? World.cell?
  by_cases q : p.1 = b
  · simp only [q, h, mark_cells h]
  · simp only [mark_other q]
theorem mark_ice_other {b n : Nat} {p : Cell} (h : p.1 ≠ b) : (mark w b n).ice? p = w.ice? p := by
  unfold World.ice?; rw [mark_other h]
theorem mark_ice {b n j o m : Nat} {c : Array Value} {e : TypeId} {fr : Nat × Nat} (h : w.heap[b]? = some (.cells c e fr)) (hn : n = c.size) (hw : whole (w.ice? (b, j)) o m = true) : whole ((mark w b n).ice? (b, j)) o m = true := by
  unfold World.ice? at *
  simp only [h] at hw
  simp only [mark_cells h]
  unfold whole calm at *
  simp only [Bool.and_eq_true, decide_eq_true_eq] at *
  refine ⟨?_, hw.2⟩
  unfold markFr
  obtain ⟨lo, hi⟩ := fr
  simp only at hw ⊢
  by_cases q : lo = hi
  · subst q; simp; omega
  · have : (lo == hi) = false := by simpa using q
    rw [this]
    simp only [Bool.false_eq_true, if_false]
    omega
theorem at_cells {b j : Nat} {u : Value} (h : w.at? (b, j) = some u) : ∃ c e fr, w.heap[b]? = some (.cells c e fr) ∧ j < c.size := by
  unfold World.at? World.cell? at h
  cases hb : w.heap[b]? with
  | none => simp [hb] at h
  | some ob =>
    cases ob with
    | cells c e fr =>
      simp only [hb, Option.isSome_none, Bool.false_eq_true, if_false] at h
      exact ⟨c, e, fr, rfl, (Array.getElem?_eq_some_iff.1 h).1⟩
    | _ => simp [hb] at h
theorem mark_step {i b n cap : Nat} {sh : Option (List Nat)} {t : Ty} {xs : List t.El} {a : Option Addr} {o : Nat} {c : Array Value} {e : TypeId} {fr : Nat × Nat} (hr : HRel H pl w) (hl : look H i = some (.arr sh t xs))
    (hb : w.heap[b]? = some (.cells c e fr)) (hc0 : 0 < c.size) (hn : n = c.size) (hin : ∀ j, j < c.size → pl.fp i (b, j)) (hsz : c.size = cap * t.sz) (hrow : BlkRep (mark w b n) H pl i (.arr sh t xs)) :
    StepTo H H ([], []) pl pl w (mark w b n) := by
  have hat := fun p => mark_at (n := n) hb p
  have hmine : ∀ p u, w.at? p = some u → p.1 = b → pl.fp i p := fun p u hp q => by
    obtain ⟨p1, p2⟩ := p
    simp only at q
    subst q
    obtain ⟨c', e', fr', h1, h2⟩ := at_cells hp
    rw [hb] at h1; cases h1
    exact hin p2 h2
  have hk : Keeps ([], []) w H pl (mark w b n) H pl := ⟨fun j B hB _ => ⟨B, hB, B.like_refl, rfl⟩, fun d p u _ ho hp => ⟨ho, (hat p).trans hp⟩⟩
  refine ⟨⟨fun j B hB => ?_, hr.dis, hr.ob, fun p hp => hr.nb p ((hat p).symm.trans hp)⟩, hk, rfl, ⟨rfl, rfl, fun k hk' => ?_⟩, fun p u hp hno => ⟨hno, (hat p).trans hp, mark_ice_other fun q => hno i _ hl (hmine p u hp q)⟩⟩
  · by_cases q : j = i
    · subst q
      rw [hl] at hB; cases hB
      exact hrow
    · refine (hr.blk j B hB).keep hk rfl (fun _ => Iff.rfl) (fun p u hf hu => ⟨(hat p).trans hu, mark_ice_other fun q' => q (hr.dis j i B _ p hB hl hf (hmine p u hu q'))⟩) B.sweep_nil
  · by_cases q : k = b
    · subst q
      rw [hb, mark_cells hb]
      exact ⟨rfl, .inr hc0, rfl⟩
    · rw [mark_other q]
      split
      · rename_i e1 e2
        rw [e1] at e2; cases e2
        exact ⟨rfl, .inl rfl, rfl⟩
      · rfl
theorem mark_sem {o : Oper} {a : Act} {T : TypeId} {x : Operand} {m i : Nat} {sh : Option (List Nat)} {t : Ty} {y : t.El} {ys : List t.El} (hr : HRel H pl w) (ho : o.op = .convert T T x) (hT : bytesT P T = true)
    (hl : look H i = some (.arr sh t (y :: ys))) (hx : SVRep w H pl (.own i) (a.eval x)) : OpSem P o a w H pl m { v := .own i } := by
  have ha : a.eval x = pl.hdr i := by generalize a.eval x = u at hx; cases hx; rfl
  unfold bytesT elemT at hT
  split at hT
  · rename_i e he
    split at he
    · rename_i e' hu
      cases he
      split at hT
      · rename_i he8
        have hrow := hr.blk i _ hl
        obtain ⟨ad, cap, b, o', hh, hlen, hadr, hreg⟩ : ∃ ad cap b o', pl.hdr i = .slice ad (y :: ys).length cap ∧ (y :: ys).length ≤ cap ∧ (cap = 0 ∨ ad = some ⟨b, o', none⟩) ∧
            (∀ j, j < cap * t.sz → (∃ v, w.at? (b, o' + j) = some v) ∧ whole (w.ice? (b, o' + j)) o' (cap * t.sz) = true ∧ pl.fp i (b, o' + j)) := by
          cases sh with
          | none => obtain ⟨⟨ad, cap, b, o', vs, fs, q1, q2, q3, q4, q5, q6, q7, q8, q9⟩⟩ := hrow; exact ⟨ad, cap, b, o', q1, q2, q3, fun j hj => ⟨(q4 j hj).1, (q4 j hj).2, (q9 _).2 (.inl ⟨rfl, by simp, by simp; omega⟩)⟩⟩
          | some d => obtain ⟨⟨ad, cap, b, o', vs, fs, q1, q2, q3, q4, q5, q6, q7, q8, q9⟩⟩ := hrow; exact ⟨ad, cap, b, o', q1, q2, q3, fun j hj => ⟨(q4 j hj).1, (q4 j hj).2, (q9 _).2 (.inl ⟨rfl, by simp, by simp; omega⟩)⟩⟩
        have hcap : 0 < cap := by simp at hlen; omega
        have hpos : 0 < cap * t.sz := Nat.mul_pos hcap (Ty.sz_pos t)
        obtain ⟨⟨v0, hv0⟩, hw0, _⟩ := hreg 0 hpos
        obtain ⟨c, ee, fr, hb, hc0⟩ := at_cells hv0
        have ho0 : o' = 0 ∧ c.size = cap * t.sz := by
          unfold whole World.ice? at hw0
          simp only [hb, Bool.and_eq_true, decide_eq_true_eq] at hw0
          exact hw0.2
        obtain ⟨rfl, hsz⟩ := ho0
        have hadr := hadr.resolve_left (by omega)
        subst hadr
        have hin : ∀ j, j < c.size → pl.fp i (b, j) := fun j hj => by
          have := (hreg j (by omega)).2.2
          rwa [Nat.zero_add] at this
        have hshape : w.shape? b = some (ee, c.size) := by unfold World.shape?; rw [hb]
        have hrun : (execOp a.eval o).run P w = .ok (.value (a.eval x)) (mark w b c.size) := by
          rw [execOp, ho, ha, hh]
          simp [ha, hh, convert, run_underlying hu, run_underlying he8, markStringish, hshape, mark]
        have hat := fun p => mark_at (n := c.size) hb p
        have hk : Keeps ([], []) w H pl (mark w b c.size) H pl := ⟨fun j B hB _ => ⟨B, hB, B.like_refl, rfl⟩, fun d p u _ ho hp => ⟨ho, (hat p).trans hp⟩⟩
        have hnb : ∀ p, reg b 0 (cap * t.sz) p ∨ p.1 ≠ b ∨ w.at? p = none := fun p => by
          by_cases q : p.1 = b
          · cases hp : w.at? p with
            | none => exact .inr (.inr rfl)
            | some u =>
              obtain ⟨p1, p2⟩ := p
              simp only at q
              subst q
              obtain ⟨c', e', fr', h1, h2⟩ := at_cells hp
              rw [hb] at h1; cases h1
              exact .inl ⟨rfl, Nat.zero_le _, by simp only; omega⟩
          · exact .inr (.inl q)
        have hblk : BlkRep (mark w b c.size) H pl i (.arr sh t (y :: ys)) := by
          cases sh with
          | none =>
            obtain ⟨⟨ad, cap', b', o', vs, fs, q1, q2, q3, q4, q5, q6, q7, q8, q9⟩⟩ := hrow
            rw [hh] at q1; cases q1
            have q3 := q3.resolve_left (by omega)
            cases q3
            refine ⟨⟨_, cap, b, 0, vs, fs, hh, q2, .inr rfl, fun j hj => ⟨?_, mark_ice hb rfl (q4 j hj).2⟩, fun i' j r h => (hat _).trans (q5 i' j r h), fun i' j r h => (q6 i' j r h).frame fun p u hp hu => ⟨(hat p).trans hu, mark_ice_other fun q => ?_⟩, q7, q8, q9⟩⟩
            · obtain ⟨⟨v, hv⟩, _⟩ := q4 j hj
              exact ⟨v, (hat _).trans hv⟩
            · rcases hnb p with h1 | h1 | h1
              · exact q7 _ _ _ p h hp h1
              · exact h1 q
              · rw [hu] at h1; exact nomatch h1
          | some d =>
            obtain ⟨⟨ad, cap', b', o', vs, fs, q1, q2, q3, q4, q5, q6, q7, q8, q9⟩⟩ := hrow
            rw [hh] at q1; cases q1
            have q3 := q3.resolve_left (by omega)
            cases q3
            refine ⟨⟨_, cap, b, 0, vs, fs, hh, q2, .inr rfl, fun j hj => ⟨?_, mark_ice hb rfl (q4 j hj).2⟩, fun i' j r h => (hat _).trans (q5 i' j r h), fun i' j r h => ⟨(q6 i' j r h).1.frame fun p u hp hu => ⟨hp, (hat p).trans hu⟩, (q6 i' j r h).2⟩, q7, q8, q9⟩⟩
            obtain ⟨⟨v, hv⟩, _⟩ := q4 j hj
            exact ⟨v, (hat _).trans hv⟩
        refine ⟨fun j B h => by simp [look] at h, fun H' next Q ha' hN => ?_⟩
        cases ha'
        have hH : upds [] H ++ newsH m [] = H := by simp [upds, newsH]
        simp only [hH] at hN
        have hst := mark_step (n := c.size) hr hl hb hc0 rfl hin hsz hblk (a := some ⟨b, 0, none⟩) (o := 0)
        exact exec_wp hrun (hN _ pl _ hst (hx.keep0 hk))
      · exact nomatch hT
    · exact nomatch he
  · exact nomatch hT
end
end Go.Proofs.Ev

namespace Go.Proofs.Ev
variable [Tok]
set_option linter.unusedSectionVars false
/-- The function has a body that is entered. -/
def Enters (P : Program) (g : FuncId) : Prop := ∀ (args : Array Value) (w : World), (callFunc g args).run P w = .ok (.enter g args) w
theorem enters_of {P : Program} {g : FuncId} {fn : Func} (h : P.funcs[g]? = some fn) (hb : fn.body.isNone = false) (hn : (fn.name == "runtime.NumGoroutine") = false) : Enters P g := by
  intro args w
  have hn' : ¬ fn.name = "runtime.NumGoroutine" := by simpa using hn
  have hb' : ¬ fn.body = none := fun e => by rw [e] at hb; exact nomatch hb
  simp [callFunc, h, hb', hn']
/-- A call, of arguments as a slot has them, where at least the blocks 'H' are there and the ids of what is made are free. -/
def CallSem (P : Program) (g : FuncId) (nid : Nat) (vs : List SV) (H : Heap) (c : CR) : Prop :=
  Enters P g ∧ (∀ i B, look c.upd i = some B → ∃ B', look H i = some B') ∧
  ∀ (H1 : Heap) (pl : Pl) (w : World) (us : Array Value), Ext H H1 → HRel H1 pl w → (∀ k, k < c.news.length → look H1 (nid + k) = none) → vs.length = us.size →
    (∀ (j : Nat) (x : SV) (u : Value), vs[j]? = some x → us[j]? = some u → SVRep w H1 pl x u) → ∀ H', after H1 nid c = some H' →
    Calls P g us w fun e w' => ∃ u pl', e = .returned u ∧ StepTo H1 H' c.kil pl pl' w w' ∧ SVRep w' H' pl' c.v u
def OrcOk (P : Program) (g : FuncId) (o : Orc) : Prop :=
  ∀ (ρ : Type) nid vs H (K : CR → Option ρ) (out : ρ), o ρ nid vs H K = some out → ∃ c, K c = some out ∧ CallSem P g nid vs H c
theorem noOrc_ok (P : Program) (g : FuncId) : OrcOk P g noOrc := fun _ _ _ _ _ _ h => nomatch h
def EnvOk (E : Env) : Prop := ∀ g, OrcOk E.P g (E.orc g)
section
variable {w : World} {H : Heap} {pl : Pl} {P : Program}
theorem call_sem {o : Oper} {a : Act} {s : List (Nat × SV)} {f : Operand} {args : Array Operand} {tys : Array TypeId} {g : FuncId} {first vs cap : List SV} {n : Nat} {c : CR} {H0 : Heap}
    (he : Ext H0 H) (hr : HRel H pl w) (hs : Slots w H pl s a) (hn : ∀ k, k < c.news.length → look H (n + k) = none) (ho : o.op = .call { callee := .value f, args := args, argTypes := tys })
    (hf : opd s f = some (.fn (.func g) first cap)) (hv : opds s args.toList = some vs) (hc : CallSem P g n (first ++ vs ++ cap) H0 c) : OpSem P o a w H pl n c := by
  obtain ⟨hen, hup, hcall⟩ := hc
  refine ⟨fun i B hB => (hup i B hB).imp fun B' h => he i B' h, fun H' next Q ha hN => ?_⟩
  have hfr := opd_rep hs hf
  obtain ⟨g1, g2⟩ := fn_slots hs hv
  generalize hfe : a.eval f = fe at hfr
  cases hfr with
  | fn _ _ _ us vs' hl h1 hl' h2 =>
    have hlen : (first ++ vs ++ cap).length = (us ++ args.map a.eval ++ vs').size := by simp only [List.length_append, Array.size_append, hl, hl', g1]
    have hpt : ∀ (j : Nat) (x : SV) (u : Value), (first ++ vs ++ cap)[j]? = some x → (us ++ args.map a.eval ++ vs')[j]? = some u → SVRep w H pl x u := fun j x u hx hu => by
      by_cases c1 : j < first.length
      · rw [List.append_assoc, List.getElem?_append_left c1] at hx
        rw [Array.append_assoc, Array.getElem?_append_left (by omega)] at hu
        exact h1 j x u hx hu
      · by_cases c2 : j < first.length + vs.length
        · rw [List.append_assoc, List.getElem?_append_right (by omega), List.getElem?_append_left (by omega)] at hx
          rw [Array.append_assoc, Array.getElem?_append_right (by omega), Array.getElem?_append_left (by omega)] at hu
          rw [← hl] at hu
          exact g2 _ x u hx hu
        · rw [List.append_assoc, List.getElem?_append_right (by omega), List.getElem?_append_right (by omega)] at hx
          rw [Array.append_assoc, Array.getElem?_append_right (by omega), Array.getElem?_append_right (by omega)] at hu
          rw [← hl, ← g1] at hu
          exact h2 _ x u hx hu
    have hcl := hcall H pl w _ he hr hn hlen hpt H' ha
    unfold Oper.wp
    have hrun : (execOp a.eval o).run P w = .ok (.enter g (us ++ args.map a.eval ++ vs')) w := by
      rw [execOp, ho]
      simp only [resolve, hfe, Deferred.ofValue, invoke, Sem.run_bind, Sem.run_pure, Result.andThen_ok]
      exact hen _ w
    rw [hrun]
    show Calls P g _ w _
    refine hcl.mono fun e w' ⟨u, pl', he, hst, hv⟩ => ?_
    subst he
    exact hN u pl' w' hst hv
variable {ρ : Type}
/-- What comes of an operation wherever at least these slots and blocks are there. -/
def OpGen (P : Program) (o : Oper) (n : Nat) (c : CR) (s : List (Nat × SV)) (h : Heap) : Prop :=
  ∀ (s' : List (Nat × SV)) (H : Heap) (a : Act) (w : World) (pl : Pl), Ext s s' → Ext h H → HRel H pl w → Slots w H pl s' a → (∀ k, k < c.news.length → look H (n + k) = none) → OpSem P o a w H pl n c
theorem free1 {H : Heap} {n : Nat} {B : Blk} (h : ∀ k, k < [B].length → look H (n + k) = none) : look H n = none := h 0 (by simp)
theorem inn_sem (hr : HRel H pl w) {o : Oper} {a : Act} {T : TypeId} {p : Operand} {n i x k : Nat} {t : Ty} {xs : List t.El} (ho : o.op = .load T p) (hT : isSl P T = true)
    (hl : look H i = some (.arr none t xs)) (hk : k < t.sz) (hp : SVRep w H pl (.ptr i x k) (a.eval p)) : OpSem P o a w H pl n { v := .inn i x k } := by
  generalize he : a.eval p = u at hp
  cases hp with
  | ptrB _ _ cs b m hl' hh => rw [hl] at hl'; exact nomatch hl'
  | ptrA _ _ _ sh t' xs' b m nn cap hl' hx hh =>
    rw [hl] at hl'; cases hl'
    obtain ⟨⟨a', cap', b', o', vs, fs, h1, h2, h3, h4, h5, h6, h7, h8, h9⟩⟩ := hr.blk i _ hl
    rw [hh] at h1; cases h1
    have h3 := h3.resolve_left (by omega)
    cases h3
    obtain ⟨r, hcell⟩ := cellIn_of hx hk
    have hat := h5 x k r hcell
    have hone : one (vs x k) = true := ((h6 _ _ _ hcell).repR (ok := fun _ => True) (fun _ _ => trivial)).isOne
    have hfp : pl.fp i (b, m + (x * t.sz + k)) := (h9 _).2 (.inl ⟨rfl, by simp, by have := off_lt hx hk h2; simp; omega⟩)
    obtain ⟨el, _, hu, _⟩ := isSl_run hT
    refine still_sem (u := vs x k) hr ?_ (.inn i x k none t xs b m _ _ _ hl hx hk hh ⟨hr.ob i _ _ hl hfp, fun j B hB hm hf => ?_⟩ hat hone)
    · rw [execOp, ho]
      refine exec_val ?_
      rw [Instr.loadAt, he]
      have hat : w.cell? ⟨b, m + (x * t.sz + k), none⟩ = some (vs x k) := hat
      have h1 : (loadVar T ⟨b, m + (x * t.sz + k), none⟩).run P w = .ok (vs x k) w := by simp [loadVar, run_isAgg' hu, isAggB, hu, hat]
      exact h1
    · have := hr.dis j i _ _ _ hB hl hf hfp
      subst this
      rw [hl] at hB; cases hB
      have := hm (by simp [mem])
      exact nomatch this
/-- All operations. -/
theorem appMade_gen {E : Env} {o : Oper} {s : List (Nat × SV)} {h0 : Heap} {n : Nat} {K : CR → Option ρ} {out : ρ} {args : Array Operand} {tys : Array TypeId} {b x : SV} {T T' e : TypeId} {sz : Nat} {t : Ty}
    (ho : o.op = .call { callee := .builtin .append, args := args, argTypes := tys }) (hvs : opds s args.toList = some [b, x]) (hty : tys.toList = [T, T']) (he : elemT E.P T = some e) (hsz : sizeT E.P e = some sz)
    (h : appMade E h0 n e sz t T' b x K = some out) : ∃ c, K c = some out ∧ OpGen E.P o n c s h0 := by
  unfold appMade at h
  split at h
  · cases hb : (intT E.P T' && (smallB E.P e && Nat.beq t.sz sz)) <;> simp only [hb, cond_true, cond_false, Option.bind_eq_some_iff] at h
    · exact nomatch h
    simp only [Bool.and_eq_true] at hb
    obtain ⟨l, hl, z, hz, q, hq, h⟩ := h
    cases hi : (isNil q.1 && Nat.beq z.length sz) <;> simp only [hi, cond_true, cond_false] at h
    · exact nomatch h
    simp only [Bool.and_eq_true] at hi
    split at h
    · rename_i y hy
      cases hd : decide (1 ≤ l ∧ l ≤ (maxN : Int)) <;> simp only [hd, cond_true, cond_false] at h
      · exact nomatch h
      have hd := of_decide_eq_true hd
      have hq' : absEls h0 t 1 z = some ([], [y]) := by rw [hq]; obtain ⟨q1, q2⟩ := q; simp only at hy hi; rw [hy, isNil_eq hi.1]
      exact ⟨_, h, fun s' H a w pl es eh hr hs hn => appendMade_sem hr hs (free1 hn) ho (opds_le es _ _ hvs) hty hl hb.1 he hsz hb.2.1 (Nat.eq_of_beq_eq_true hb.2.2) hz (Nat.eq_of_beq_eq_true hi.2) (absEls_le eh _ _ _ _ hq') hd⟩
    · exact nomatch h
  · exact nomatch h
theorem evMem_gen {E : Env} (hE : EnvOk E) {o : Oper} {s : List (Nat × SV)} {h0 : Heap} {n : Nat} {K : CR → Option ρ} {out : ρ}
    (h : evMem E s h0 n o.op K = some out) : ∃ c, K c = some out ∧ OpGen E.P o n c s h0 := by
  unfold evMem at h
  split at h
  · rename_i T ho
    simp only [Option.bind_eq_some_iff] at h
    obtain ⟨z, hz, h⟩ := h
    exact ⟨_, h, fun s' H a w pl es eh hr hs hn => alloc_sem hr (free1 hn) ho hz⟩
  · rename_i T x ho
    simp only [Option.bind_eq_some_iff] at h
    obtain ⟨v, hv, cs, hcs, h⟩ := h
    exact ⟨_, h, fun s' H a w pl es eh hr hs hn => box_sem hr (free1 hn) ho (opd_rep hs (opd_le es _ _ hv)) hcs⟩
  · rename_i T k parts ho
    simp only [Option.bind_eq_some_iff] at h
    obtain ⟨e, he, sz, hsz, ps, hps, z, hz, h⟩ := h
    cases hb : (Nat.ble (k * sz) 16777216 && Nat.beq z.length sz) <;> simp only [hb, cond_true, cond_false, Option.bind_eq_some_iff] at h
    · exact nomatch h
    obtain ⟨cs, hcs, h⟩ := h
    simp only [Bool.and_eq_true] at hb
    have h1 := Nat.le_of_ble_eq_true hb.1
    have h2 := Nat.eq_of_beq_eq_true hb.2
    have bx : K { v := .bsl n k, news := [.box cs] } = some out → ∃ c, K c = some out ∧ OpGen E.P o n c s h0 := fun h =>
      ⟨_, h, fun s' H a w pl es eh hr hs hn => buildSlice_box hr hs (free1 hn) ho he hsz (partsO_le es _ _ hps) hz h2 h1 hcs⟩
    split at h
    · exact bx h
    · rename_i t ht
      cases hc : ((flatTy t || Nat.beq k 0) && Nat.beq t.sz sz) <;> simp only [hc, cond_true, cond_false, Option.bind_eq_some_iff] at h
      · exact bx h
      simp only [Bool.and_eq_true] at hc
      obtain ⟨⟨ids, xs⟩, hx, h⟩ := h
      cases hi : isNil ids <;> simp only [hi, cond_true, cond_false] at h
      · exact nomatch h
      have := isNil_eq hi
      subst this
      exact ⟨_, h, fun s' H a w pl es eh hr hs hn => buildSlice_own hr hs (free1 hn) ho he hsz (partsO_le es _ _ hps) hz h2 h1 hcs (Nat.eq_of_beq_eq_true hc.2) (absEls_le eh _ _ _ _ hx)⟩
  · rename_i T l c ho
    simp only [Option.bind_eq_some_iff] at h
    obtain ⟨e, he, sz, hsz, t, ht, z, hz, lv, hl, cv, hc, li, hli, ci, hci, h⟩ := h
    cases hb : (smallB E.P e && Nat.beq t.sz sz) <;> simp only [hb, cond_true, cond_false, Option.bind_eq_some_iff] at h
    · exact nomatch h
    simp only [Bool.and_eq_true] at hb
    obtain ⟨⟨ids, xs⟩, hx, h⟩ := h
    cases hi : (isNil ids && Nat.beq z.length sz) <;> simp only [hi, cond_true, cond_false] at h
    · exact nomatch h
    simp only [Bool.and_eq_true] at hi
    have hids := isNil_eq hi.1
    subst hids
    split at h
    · rename_i y
      by_cases hd : 0 ≤ li ∧ li ≤ ci ∧ ci ≤ (maxN : Int)
      · simp only [hd, and_self, decide_true, cond_true] at h
        exact ⟨_, h, fun s' H a w pl es eh hr hs hn => makeSlice_sem hr hs (free1 hn) ho (opd_le es _ _ hl) (opd_le es _ _ hc) hli hci he hsz hb.1 (Nat.eq_of_beq_eq_true hb.2) hz (Nat.eq_of_beq_eq_true hi.2) (absEls_le eh _ _ _ _ hx) hd⟩
      · simp only [hd, decide_false, cond_false] at h; exact nomatch h
    · exact nomatch h
  · rename_i args tys ho
    simp only [Option.bind_eq_some_iff] at h
    obtain ⟨vs, hvs, h⟩ := h
    split at h
    · rename_i b x T T' hty
      simp only [Option.bind_eq_some_iff] at h
      obtain ⟨e, he, sz, hsz, t, ht, h⟩ := h
      cases hb : (smallB E.P e && (Nat.beq t.sz sz && Nat.beq T T')) <;> simp only [hb, cond_true, cond_false, Option.bind_eq_some_iff] at h
      · exact appMade_gen ho hvs hty he hsz h
      simp only [Bool.and_eq_true] at hb
      have hTT : T = T' := Nat.eq_of_beq_eq_true hb.2.2
      subst hTT
      have hts := Nat.eq_of_beq_eq_true hb.2.1
      obtain ⟨z, hz, h⟩ := h
      cases hzl : Nat.beq z.length sz <;> simp only [hzl, cond_true, cond_false, Option.bind_eq_some_iff] at h
      · exact nomatch h
      have hzl := Nat.eq_of_beq_eq_true hzl
      obtain ⟨⟨sh1, ids, ys⟩, hy, h⟩ := h
      split at h
      · cases hh : hit ids (sh1.getD []) <;> simp only [hh, cond_true, cond_false] at h
        · cases hn' : Nat.ble ys.length maxN <;> simp only [hn', cond_true, cond_false] at h
          · exact nomatch h
          exact ⟨_, h, fun s' H a w pl es eh hr hs hn => append_sem (xs := []) hr hs (free1 hn) ho (opds_le es _ _ hvs) hty he hsz hb.1 hts hz hzl (anyList_le eh _ _ _ hy) (.inl ⟨rfl, rfl, rfl, rfl⟩) hh (by simpa using Nat.le_of_ble_eq_true hn')⟩
        · exact nomatch h
      · rename_i i
        split at h
        · rename_i sh t' xs hl
          split at h
          · rename_i htt
            subst htt
            simp only [Option.bind_eq_some_iff] at h
            obtain ⟨sh', hj, h⟩ := h
            cases hm : mem i ids <;> simp only [hm, cond_true, cond_false] at h
            rotate_left
            · exact nomatch h
            cases hh : hit (i :: ids) (sh'.getD []) <;> simp only [hh, cond_true, cond_false] at h
            rotate_left
            · exact nomatch h
            cases hn' : Nat.ble (xs.length + ys.length) maxN <;> simp only [hn', cond_true, cond_false] at h
            · exact nomatch h
            exact ⟨_, h, fun s' H a w pl es eh hr hs hn => append_sem hr hs (free1 hn) ho (opds_le es _ _ hvs) hty he hsz hb.1 hts hz hzl (anyList_le eh _ _ _ hy) (.inr ⟨i, sh, rfl, eh _ _ hl, rfl, hm, hj⟩) hh (Nat.le_of_ble_eq_true hn')⟩
          · exact nomatch h
        · exact nomatch h
      · exact nomatch h
    · exact nomatch h
  · rename_i args tys ho
    simp only [Option.bind_eq_some_iff] at h
    obtain ⟨vs, hvs, h⟩ := h
    split at h
    · rename_i v T hty
      simp only [Option.bind_eq_some_iff] at h
      obtain ⟨e, he, z, hz, ⟨i, q, num⟩, hv, h⟩ := h
      split at h
      · rename_i sh t xs hl
        cases hzl : Nat.beq z.length t.sz <;> simp only [hzl, cond_true, cond_false, Option.bind_eq_some_iff] at h
        · exact nomatch h
        obtain ⟨⟨ids, ys⟩, hy, h⟩ := h
        cases hi : isNil ids <;> simp only [hi, cond_true, cond_false] at h
        · exact nomatch h
        have hids := isNil_eq hi
        subst hids
        split at h
        · rename_i y
          exact ⟨_, h, fun s' H a w pl es eh hr hs hn => clear_sem hr hs ho (opds_le es _ _ hvs) hty he hz (Nat.eq_of_beq_eq_true hzl) (clrAt_le eh hv) (eh _ _ hl) (absEls_le eh _ _ _ _ hy)⟩
        · exact nomatch h
      · exact nomatch h
    · exact nomatch h
  · rename_i T p x ho
    simp only [Option.bind_eq_some_iff] at h
    obtain ⟨p', hp, x', hx, h⟩ := h
    have arr : ∀ {i k off : Nat} {sh : Option (List Nat)} {t : Ty} {ys : List t.El}, p' = .ptr i k off → look h0 i = some (.arr sh t ys) → storeArr E.P T h0 i sh t ys k off x' K = some out → ∃ c, K c = some out ∧ OpGen E.P o n c s h0 := fun e hl h3 => by
      clear h
      subst e
      obtain ⟨c, h1, h2⟩ := storeArr_gen (n := n) ho h3
      exact ⟨c, h1, fun s' H a w pl es eh hr hs hn => h2 H a w pl eh (eh _ _ hl) hr (opd_rep hs (opd_le es _ _ hp)) (opd_rep hs (opd_le es _ _ hx))⟩
    split at h
    · rename_i i k off
      split at h
      · rename_i cs hl
        cases hk0 : Nat.beq k 0 <;> simp only [hk0, cond_true, cond_false, Option.bind_eq_some_iff] at h
        · exact nomatch h
        have hk0 := Nat.eq_of_beq_eq_true hk0
        subst hk0
        obtain ⟨xs, hxs, sz, hsz, h⟩ := h
        cases hb : Nat.beq sz xs.length <;> simp only [hb, cond_true, cond_false, Option.bind_eq_some_iff] at h
        · exact nomatch h
        · obtain ⟨cs', hcs, h⟩ := h
          exact ⟨_, h, fun s' H a w pl es eh hr hs hn => store_sem hr ho (eh _ _ hl) (opd_rep hs (opd_le es _ _ hp)) (opd_rep hs (opd_le es _ _ hx)) hxs hsz (Nat.eq_of_beq_eq_true hb) hcs⟩
      · rename_i sh t ys hl
        exact arr rfl hl h
      · exact nomatch h
    · exact nomatch h
  · rename_i f args tys ho
    simp only [Option.bind_eq_some_iff] at h
    obtain ⟨f', hf, vs, hvs, h⟩ := h
    split at h
    · rename_i g first cap
      obtain ⟨c, hc, hcs⟩ := hE g _ _ _ _ _ _ h
      exact ⟨c, hc, fun s' H a w pl es eh hr hs hn => call_sem eh hr hs hn ho (opd_le es _ _ hf) (opds_le es _ _ hvs) hcs⟩
    · exact nomatch h
  · rename_i T x ho
    split at h
    · rename_i v hv
      unfold innAt at hv
      cases hi : E.inn <;> simp only [hi, cond_true, cond_false] at hv
      · exact nomatch hv
      cases hT : isSl E.P T <;> simp only [hT, cond_true, cond_false] at hv
      · exact nomatch hv
      split at hv
      · rename_i i y k hx
        split at hv
        · rename_i t xs hl
          cases hk : Nat.ble (k + 1) t.sz <;> simp only [hk, cond_true, cond_false, Option.some.injEq] at hv
          · exact nomatch hv
          subst hv
          exact ⟨_, h, fun s' H a w pl es eh hr hs hn => inn_sem hr ho hT (eh _ _ hl) (Nat.le_of_ble_eq_true hk) (opd_rep hs (opd_le es _ _ hx))⟩
        · exact nomatch hv
      · exact nomatch hv
    · rw [evStillK_eq] at h
      simp only [Option.bind_eq_some_iff] at h
      obtain ⟨v, hv, h⟩ := h
      exact ⟨_, h, fun s' H a w pl es eh hr hs hn => by
        obtain ⟨u, hu, hvr⟩ := evStill_sound hr hs (evStill_le es eh _ _ hv) o ho
        exact still_sem hr hu hvr⟩
  · rename_i src dst x ho
    split at h
    · rename_i i hi
      unfold litAt at hi
      cases hT : (Nat.beq src dst && bytesT E.P src) <;> simp only [hT, cond_true, cond_false] at hi
      · exact nomatch hi
      simp only [Bool.and_eq_true] at hT
      have hsd := Nat.eq_of_beq_eq_true hT.1
      split at hi
      · rename_i j hx
        split at hi
        · rename_i sh t y ys hl
          cases hi
          subst hsd
          exact ⟨_, h, fun s' H a w pl es eh hr hs hn => mark_sem hr ho hT.2 (eh _ _ hl) (opd_rep hs (opd_le es _ _ hx))⟩
        · exact nomatch hi
      · exact nomatch hi
    · rw [evStillK_eq] at h
      simp only [Option.bind_eq_some_iff] at h
      obtain ⟨v, hv, h⟩ := h
      exact ⟨_, h, fun s' H a w pl es eh hr hs hn => by
        obtain ⟨u, hu, hvr⟩ := evStill_sound hr hs (evStill_le es eh _ _ hv) o ho
        exact still_sem hr hu hvr⟩
  · rw [evStillK_eq] at h
    simp only [Option.bind_eq_some_iff] at h
    obtain ⟨v, hv, h⟩ := h
    exact ⟨_, h, fun s' H a w pl es eh hr hs hn => by
      obtain ⟨u, hu, hvr⟩ := evStill_sound hr hs (evStill_le es eh _ _ hv) o rfl
      exact still_sem hr hu hvr⟩
theorem evMem_sound {E : Env} (hE : EnvOk E) {o : Oper} {a : Act} {s : List (Nat × SV)} {n : Nat} {K : CR → Option ρ} {out : ρ}
    (hr : HRel H pl w) (hs : Slots w H pl s a) (hn : ∀ i, n ≤ i → look H i = none) (h : evMem E s H n o.op K = some out) : ∃ c, K c = some out ∧ OpSem E.P o a w H pl n c := by
  obtain ⟨c, h1, h2⟩ := evMem_gen hE h
  exact ⟨c, h1, h2 s H a w pl .rfl' .rfl' hr hs fun k _ => hn _ (Nat.le_add_right _ _)⟩
theorem both_spec {x y : Option ρ} {out : ρ} (h : both x y = some out) : x = some out ∧ y = some out := by
  unfold both at h
  split at h
  · rename_i e; exact ⟨h, e ▸ h⟩
  · exact nomatch h
theorem nilArg_spec {op : Op} {T : TypeId} {x : Operand} {e : Bool} (h : nilArg op = some (T, x, e)) : ∃ U, op = .binOp (cond e .eql .neq) T x (.const (.slice none 0 0)) U := by
  unfold nilArg at h
  split at h
  · cases h; exact ⟨_, rfl⟩
  · cases h; exact ⟨_, rfl⟩
  · exact nomatch h
theorem nilK_spec (hr : HRel H pl w) {v : SV} {u : Value} {K : Bool → Option ρ} {out : ρ} (h : nilK H v K = some out) (hv : SVRep w H pl v u) :
    ∃ a n c, u = .slice a n c ∧ K a.isNone = some out := by
  have fork : ∀ {α : Type} {xs : List α} {a : Option Addr}, (xs = [] ∨ a.isSome = true) → cond (isNil xs) (both (K true) (K false)) (K false) = some out → K a.isNone = some out := fun {α xs a} hx h => by
    cases xs with
    | nil =>
      obtain ⟨h1, h2⟩ := both_spec h
      cases a <;> assumption
    | cons y ys =>
      rcases hx with hx | hx
      · exact nomatch hx
      · cases a with
        | none => exact nomatch hx
        | some a => exact h
  unfold nilK at h
  split at h
  · cases hv; exact ⟨_, _, _, rfl, h⟩
  · rename_i d t xs
    cases hv with
    | r _ _ _ hx => cases hx with
      | sl _ _ a cap b o vs hcap ha hc hr' => exact ⟨_, _, _, rfl, fork (ha.imp_right fun e => by rw [e]; rfl) h⟩
  · rename_i i
    cases hv with
    | own _ sh t xs hl =>
      simp only [hl] at h
      have hb := hr.blk i _ hl
      have : ∃ a cap b o, pl.hdr i = .slice a xs.length cap ∧ xs.length ≤ cap ∧ (cap = 0 ∨ a = some ⟨b, o, none⟩) := by
        cases sh with
        | none => obtain ⟨⟨a, cap, b, o, vs, fs, q1, q2, q3, _⟩⟩ := hb; exact ⟨a, cap, b, o, q1, q2, q3⟩
        | some d => obtain ⟨⟨a, cap, b, o, vs, fs, q1, q2, q3, _⟩⟩ := hb; exact ⟨a, cap, b, o, q1, q2, q3⟩
      obtain ⟨a, cap, b, o, q1, q2, q3⟩ := this
      refine ⟨a, _, _, q1, fork ?_ h⟩
      rcases q3 with rfl | rfl
      · exact .inl (List.length_eq_zero_iff.1 (by omega))
      · exact .inr rfl
  · exact nomatch h
theorem nil_sem (hr : HRel H pl w) {o : Oper} {a : Act} {T : TypeId} {x : Operand} {e : Bool} {n : Nat} (hT : isSl P T = true) (ho : nilArg o.op = some (T, x, e)) {b : Option Addr} {l c : Nat} (hx : a.eval x = .slice b l c) :
    OpSem P o a w H pl n { v := .b (cond b.isNone e (!e)) } := by
  obtain ⟨U, ho⟩ := nilArg_spec ho
  obtain ⟨el, _, hu, _⟩ := isSl_run hT
  refine still_sem (u := .bool (cond b.isNone e (!e))) hr ?_ rep_bool
  rw [execOp, ho]
  have hc : a.eval (.const (.slice none 0 0)) = .slice none 0 0 := rfl
  have key : (do eqGuard (cond e .eql .neq) T x (.const (.slice none 0 0)) (a.eval x) (a.eval (.const (.slice none 0 0))); binOp (cond e .eql .neq) T (a.eval x) (a.eval (.const (.slice none 0 0))) : Sem Value).run P w = .ok (.bool (cond b.isNone e (!e))) w := by
    rw [hc, hx]
    refine guarded (fun h => nomatch h) (fun _ h => nomatch h) ?_
    cases e
    · rw [cond_false, run_neq_slice_nil w T el b l c hu]; cases b <;> rfl
    · rw [cond_true, Lib.run_eql_slice_nil w T el b l c _ _ hu]; cases b <;> rfl
  simp only [Sem.run_bind, key, Result.andThen_ok]; rfl
theorem evOp_sound {E : Env} (hE : EnvOk E) {w0 : World} {fp0 : G0} {o : Oper} {st : St} {a : Act} {K : St → Option ρ} {out : ρ} {next : Act → World → Prop} {Q : Exit → Act → World → Prop}
    (hr : Rel w0 fp0 st pl a w) (h : evOp E o st K = some out) (hK : ∀ st' pl' a' w', K st' = some out → pl'.base = pl.base → st'.n = st.n → Rel w0 fp0 st' pl' a' w' → next a' w') : o.wp E.P a w next Q := by
  obtain ⟨c, hc, hup, hsem⟩ : ∃ c, ((st.take o.dst c).bind K) = some out ∧ OpSem E.P o a w st.heap pl st.nid c := by
    unfold evOp at h
    split at h
    · rename_i T x e ho
      cases hT : isSl E.P T <;> simp only [hT, cond_true, cond_false, Option.bind_eq_some_iff] at h
      · exact nomatch h
      obtain ⟨v, hv, h⟩ := h
      obtain ⟨b, l, c, hu, hk⟩ := nilK_spec hr.hr h (opd_rep hr.sl hv)
      exact ⟨_, hk, nil_sem hr.hr hT ho hu⟩
    · exact evMem_sound hE hr.hr hr.sl hr.fresh h
  simp only [Option.bind_eq_some_iff] at hc
  obtain ⟨st', ht, hk⟩ := hc
  refine hsem st'.heap next Q (take_heap ht) fun u pl' w' hst hv => ?_
  have hn : st'.n = st.n := by
    simp only [St.take, Option.bind_eq_some_iff, Option.some.injEq] at ht
    obtain ⟨h1, e1, s, h2, rfl⟩ := ht
    rfl
  exact hK st' pl' _ w' hk hst.bs hn (hr.take ht hup hst hv)
end
end Go.Proofs.Ev

namespace Go.Proofs.Ev
variable [Tok]
set_option linter.unusedSectionVars false
theorem look_setH (h : Heap) (n : Nat) (b : Blk) (i : Nat) : look (setH h n b) i = if n = i then (look h i).map fun _ => b else look h i := by
  induction h with
  | nil => simp [setH, look]
  | cons x l ih =>
    obtain ⟨k, u⟩ := x
    simp only [setH]
    cases hb : Nat.beq k n
    · simp only [cond_false, look_cons, ih]
      have hne : k ≠ n := fun e => by subst e; simp at hb
      by_cases e : k = i
      · subst e; simp only [if_true]; rw [if_neg (fun e => hne e.symm)]
      · simp only [if_neg e]
    · simp only [cond_true, look_cons]
      have := Nat.eq_of_beq_eq_true hb
      subst this
      by_cases e : k = i <;> simp [e]
theorem look_putD (s : List (Nat × SV)) (dst : Option Tmp) (v : SV) (t : Nat) : look (putD s dst v) t = if dst = some t then some v else look s t := by
  cases dst with
  | none => simp [putD]
  | some d => simp [putD, look_put]
/-- The same, by its look. -/
def SameL {α : Type} (x y : List (Nat × α)) : Prop := ∀ t, look x t = look y t
theorem setH_same {h h' : Heap} (e : SameL h h') (n : Nat) (b : Blk) : SameL (setH h n b) (setH h' n b) := fun t => by rw [look_setH, look_setH, e t]
theorem updsX_same {h h' : Heap} (e : SameL h h') (u : Heap) : SameL (updsX u h) (updsX u h') := by
  induction u generalizing h h' with
  | nil => exact e
  | cons x l ih => obtain ⟨k, b⟩ := x; exact ih (setH_same e k b)
theorem updsX_dom (u h : Heap) (i : Nat) : (look (updsX u h) i).isSome = (look h i).isSome := by
  induction u generalizing h with
  | nil => rfl
  | cons x l ih =>
    obtain ⟨k, b⟩ := x
    rw [updsX, ih, look_setH]
    by_cases e : k = i <;> simp [e]
theorem updsX_none {u h : Heap} {i : Nat} : look (updsX u h) i = none ↔ look h i = none := by
  have := updsX_dom u h i
  rw [← Option.not_isSome_iff_eq_none, ← Option.not_isSome_iff_eq_none, this]
theorem updsX_extS {S : Nat → Prop} {h h' : Heap} (e : ∀ i B, S i → look h i = some B → look h' i = some B) (u : Heap) : ∀ i B, S i → look (updsX u h) i = some B → look (updsX u h') i = some B := by
  induction u generalizing h h' with
  | nil => exact e
  | cons x l ih =>
    obtain ⟨k, b⟩ := x
    refine ih fun t v ht hv => ?_
    rw [look_setH] at hv ⊢
    by_cases c : k = t
    · rw [if_pos c] at hv ⊢
      obtain ⟨y, hy, rfl⟩ := Option.map_eq_some_iff.1 hv
      rw [e t y ht hy]; rfl
    · rw [if_neg c] at hv ⊢; exact e t v ht hv
theorem updsX_out {i : Nat} : ∀ (u h : Heap), look u i = none → look (updsX u h) i = look h i
  | [], _, _ => rfl
  | (k, b) :: l, h, e => by
    rw [look_cons] at e
    by_cases c : k = i
    · rw [if_pos c] at e; exact nomatch e
    · rw [if_neg c] at e
      show look (updsX l (setH h k b)) i = _
      rw [updsX_out l _ e, look_setH, if_neg c]
theorem put_setH {h : Heap} {k : Nat} (b : Blk) (hk : ∃ B, look h k = some B) : put h k b = setH h k b := by
  induction h with
  | nil => obtain ⟨B, hB⟩ := hk; exact nomatch hB
  | cons x l ih =>
    obtain ⟨k', u⟩ := x
    simp only [put, setH]
    obtain ⟨B, hB⟩ := hk
    rw [look_cons] at hB
    cases hb : Nat.beq k' k
    · have hne : k' ≠ k := fun e => by subst e; simp at hb
      rw [if_neg hne] at hB
      simp only [cond_false, ih ⟨B, hB⟩]
    · rfl
theorem upds_updsX {u h : Heap} (hd : ∀ i B, look u i = some B → ∃ B', look h i = some B') : upds u h = updsX u h := by
  induction u generalizing h with
  | nil => rfl
  | cons x l ih =>
    obtain ⟨k, b⟩ := x
    have hk := hd k b (by rw [look_cons]; simp)
    simp only [upds, updsX]
    rw [put_setH b hk]
    refine ih fun i B hB => ?_
    rw [look_setH]
    by_cases e : k = i
    · subst e; obtain ⟨B', hB'⟩ := hk; exact ⟨b, by simp [hB']⟩
    · rw [if_neg e]; exact hd i B (by rw [look_cons, if_neg e]; exact hB)
def Same (x y : SH) : Prop := SameL x.1 y.1 ∧ SameL x.2 y.2
theorem Same.refl (x : SH) : Same x x := ⟨fun _ => rfl, fun _ => rfl⟩
theorem Same.trans {x y z : SH} (h : Same x y) (g : Same y z) : Same x z := ⟨fun t => (h.1 t).trans (g.1 t), fun t => (h.2 t).trans (g.2 t)⟩
/-- What an operation makes. -/
def DR.mine (r : DR) (i : Nat) : Prop := r.n0 ≤ i ∧ i < r.n0 + r.c.news.length
theorem DR.news_none {r : DR} {i : Nat} (h : ¬ r.mine i) : look (newsH r.n0 r.c.news) i = none := by
  rw [look_newsH]
  by_cases c : r.n0 ≤ i
  · rw [if_pos c]; exact List.getElem?_eq_none (Nat.le_of_not_lt fun h' => h ⟨c, by omega⟩)
  · rw [if_neg c]
theorem sweepS'_nil {T : Kil} (h : T.2 = []) (x : List (Nat × SV)) : sweepS' T x = x := by unfold sweepS'; rw [h]
theorem sweepH'_nil {T : Kil} (h : T.2 = []) (x : Heap) : sweepH' T x = some x := by unfold sweepH'; rw [h]
theorem app_plain {r : DR} (hg : r.c.kil.2 = []) (x : SH) : r.app x = some (putD x.1 r.dst r.c.v, updsX r.c.upd x.2 ++ newsH r.n0 r.c.news) := by
  unfold DR.app; rw [sweepH'_nil hg, sweepS'_nil hg]; rfl
theorem app_slots {r : DR} {x y : SH} (h : r.app x = some y) : y.1 = putD (sweepS' r.c.kil x.1) r.dst r.c.v := by
  unfold DR.app at h
  simp only [Option.bind_eq_some_iff, Option.some.injEq] at h
  obtain ⟨hh, h1, rfl⟩ := h
  rfl
theorem app_heap {r : DR} {x y : SH} (h : r.app x = some y) (i : Nat) : look y.2 i = (cond (mem i r.c.kil.1) none ((look (updsX r.c.upd x.2) i).bind (Blk.sweep r.c.kil))).or (look (newsH r.n0 r.c.news) i) := by
  unfold DR.app at h
  simp only [Option.bind_eq_some_iff, Option.some.injEq] at h
  obtain ⟨hh, h1, rfl⟩ := h
  show look (hh ++ _) i = _
  rw [look_append, sweepH'_spec r.c.kil_le h1 i]
theorem app_same {r : DR} (hg : r.c.kil.2 = []) {x y : SH} (e : Same x y) {x' : SH} (h : r.app x = some x') : ∃ y', r.app y = some y' ∧ Same x' y' := by
  rw [app_plain hg] at h; cases h
  refine ⟨_, app_plain hg y, fun t => ?_, fun i => ?_⟩
  · show look (putD _ _ _) t = look (putD _ _ _) t
    rw [look_putD, look_putD, e.1 t]
  · show look (_ ++ _) i = look (_ ++ _) i
    rw [look_append, look_append, updsX_same e.2 _ i]
theorem replay_append (p : Nat → Bool) : ∀ (l1 l2 : List DR) (k : Nat) (x : SH), replay p k (l1 ++ l2) x = (replay p k l1 x).bind (replay p (k + l1.length) l2)
  | [], l2, k, x => by simp [replay]
  | r :: l, l2, k, x => by
    simp only [List.cons_append, replay, List.length_cons]
    cases p k
    · simp only [cond_false]; rw [replay_append p l l2 (k + 1) x, show k + 1 + l.length = k + (l.length + 1) from by omega]
    · simp only [cond_true, Option.bind_assoc]
      congr 1; funext y; rw [replay_append p l l2 (k + 1) y, show k + 1 + l.length = k + (l.length + 1) from by omega]
theorem replay_congr {p q : Nat → Bool} : ∀ (l : List DR) (k : Nat) (x : SH), (∀ j, j < l.length → p (k + j) = q (k + j)) → replay p k l x = replay q k l x
  | [], _, _, _ => rfl
  | r :: l, k, x, h => by
    simp only [replay]
    have h0 := h 0 (by simp)
    rw [Nat.add_zero] at h0
    have ih := fun x => replay_congr (p := p) (q := q) l (k + 1) x fun j hj => by have := h (j + 1) (by simpa using hj); rwa [show k + (j + 1) = k + 1 + j from by omega] at this
    rw [h0, ih x]; congr 1; congr 1; exact funext ih
theorem replay_none {p : Nat → Bool} : ∀ (l : List DR) (k : Nat) (x : SH), (∀ j, j < l.length → p (k + j) = false) → replay p k l x = some x
  | [], _, _, _ => rfl
  | r :: l, k, x, h => by
    simp only [replay]
    have h0 := h 0 (by simp)
    rw [Nat.add_zero] at h0
    rw [h0, cond_false]
    exact replay_none l (k + 1) x fun j hj => by have := h (j + 1) (by simpa using hj); rwa [show k + (j + 1) = k + 1 + j from by omega] at this
/-- The blocks are old ones or the operations' own. -/
theorem replay_dom {p : Nat → Bool} : ∀ (l : List DR) (k : Nat) (x X : SH), replay p k l x = some X → ∀ i B, look X.2 i = some B → (∃ B', look x.2 i = some B') ∨ ∃ (j : Nat) (r : DR), l[j]? = some r ∧ p (k + j) = true ∧ r.mine i
  | [], _, x, X, h, i, B, hB => by cases h; exact .inl ⟨B, hB⟩
  | r :: l, k, x, X, h, i, B, hB => by
    simp only [replay] at h
    cases hp : p k <;> simp only [hp, cond_false, cond_true] at h
    · rcases replay_dom l (k + 1) x X h i B hB with h' | ⟨j, r', h1, h2, h3⟩
      · exact .inl h'
      · exact .inr ⟨j + 1, r', by simpa using h1, by rwa [show k + (j + 1) = k + 1 + j from by omega], h3⟩
    · rw [Option.bind_eq_some_iff] at h
      obtain ⟨y, hy, h⟩ := h
      rcases replay_dom l (k + 1) y X h i B hB with ⟨B', h'⟩ | ⟨j, r', h1, h2, h3⟩
      · by_cases hm : r.mine i
        · exact .inr ⟨0, r, rfl, hp, hm⟩
        · left
          rw [app_heap hy, DR.news_none hm, Option.or_none] at h'
          cases hx : look x.2 i with
          | none => rw [updsX_none.2 hx] at h'; cases hm' : mem i r.c.kil.1 <;> simp [hm'] at h'
          | some b => exact ⟨b, rfl⟩
      · exact .inr ⟨j + 1, r', by simpa using h1, by rwa [show k + (j + 1) = k + 1 + j from by omega], h3⟩
/-- More operations: more slots. -/
theorem replay_ext {q p : Nat → Bool} : ∀ (l : List DR) (k : Nat) (y z Y Z : SH), (∀ j, q j = true → p j = true) → replay q k l y = some Y → replay p k l z = some Z → Ext y.1 z.1 →
    (∀ t v, look y.1 t = some v → ∀ (j : Nat) (r : DR), l[j]? = some r → p (k + j) = true → q (k + j) = false → r.dst ≠ some t) →
    (∀ (j j' : Nat) (r r' : DR) t, j ≠ j' → l[j]? = some r → l[j']? = some r' → r.dst = some t → r'.dst ≠ some t) →
    (∀ (j : Nat) (r : DR), l[j]? = some r → p (k + j) = true → q (k + j) = false → r.c.kil.2 = []) → Ext Y.1 Z.1
  | [], _, y, z, Y, Z, _, hy, hz, he, _, _, _ => by cases hy; cases hz; exact he
  | r :: l, k, y, z, Y, Z, hqp, hy, hz, he, hd, hn, hg => by
    simp only [replay] at hy hz
    have hn' : ∀ (j j' : Nat) (r r' : DR) t, j ≠ j' → l[j]? = some r → l[j']? = some r' → r.dst = some t → r'.dst ≠ some t := fun j j' r r' t hne h1 h2 => hn (j + 1) (j' + 1) r r' t (by omega) (by simpa using h1) (by simpa using h2)
    have hg' : ∀ (j : Nat) (r : DR), l[j]? = some r → p (k + 1 + j) = true → q (k + 1 + j) = false → r.c.kil.2 = [] := fun j r h1 h2 h3 => hg (j + 1) r (by simpa using h1) (by rwa [show k + (j + 1) = k + 1 + j from by omega]) (by rwa [show k + (j + 1) = k + 1 + j from by omega])
    have hd' : ∀ t v, look y.1 t = some v → ∀ (j : Nat) (r : DR), l[j]? = some r → p (k + 1 + j) = true → q (k + 1 + j) = false → r.dst ≠ some t := fun t v ht j r h1 h0 h2 => hd t v ht (j + 1) r (by simpa using h1) (by rwa [show k + (j + 1) = k + 1 + j from by omega]) (by rwa [show k + (j + 1) = k + 1 + j from by omega])
    cases hq : q k <;> simp only [hq, cond_false, cond_true] at hy
    · cases hp : p k <;> simp only [hp, cond_false, cond_true] at hz
      · exact replay_ext l (k + 1) y z Y Z hqp hy hz he hd' hn' hg'
      · rw [Option.bind_eq_some_iff] at hz
        obtain ⟨z', hz', hz⟩ := hz
        have hgr := hg 0 r rfl (by simpa using hp) (by simpa using hq)
        refine replay_ext l (k + 1) y z' Y Z hqp hy hz (fun t v ht => ?_) hd' hn' hg'
        rw [app_slots hz', sweepS'_nil hgr, look_putD, if_neg (hd t v ht 0 r rfl (by simpa using hp) (by simpa using hq))]
        exact he t v ht
    · rw [hqp k hq] at hz
      simp only [cond_true] at hz
      rw [Option.bind_eq_some_iff] at hy hz
      obtain ⟨y', hy', hy⟩ := hy
      obtain ⟨z', hz', hz⟩ := hz
      have hsl : ∀ t, look y'.1 t = if r.dst = some t then some r.c.v else (look y.1 t).map (SV.sweep r.c.kil) := fun t => by rw [app_slots hy', look_putD, look_sweepS' r.c.kil_le]
      have hslz : ∀ t, look z'.1 t = if r.dst = some t then some r.c.v else (look z.1 t).map (SV.sweep r.c.kil) := fun t => by rw [app_slots hz', look_putD, look_sweepS' r.c.kil_le]
      refine replay_ext l (k + 1) y' z' Y Z hqp hy hz (fun t v ht => ?_) (fun t v ht j r' h1 h0 h2 => ?_) hn' hg'
      · rw [hsl] at ht; rw [hslz]
        by_cases c : r.dst = some t
        · rw [if_pos c] at ht ⊢; exact ht
        · rw [if_neg c] at ht ⊢
          obtain ⟨u, hu, rfl⟩ := Option.map_eq_some_iff.1 ht
          rw [he t u hu]; rfl
      · rw [hsl] at ht
        by_cases c : r.dst = some t
        · exact hn 0 (j + 1) r r' t (by omega) rfl (by simpa using h1) c
        · rw [if_neg c] at ht
          obtain ⟨u, hu, _⟩ := Option.map_eq_some_iff.1 ht
          exact hd' t u hu j r' h1 h0 h2
/-- More operations, none of which writes: more blocks. -/
theorem replay_extH {S : Nat → Prop} {q p : Nat → Bool} : ∀ (l : List DR) (k : Nat) (y z Y Z : SH), (∀ j, q j = true → p j = true) → replay q k l y = some Y → replay p k l z = some Z → (∀ i B, S i → look y.2 i = some B → look z.2 i = some B) →
    (∀ (j : Nat) (r : DR) i, l[j]? = some r → r.mine i → look z.2 i = none) →
    (∀ (j j' : Nat) (r r' : DR) i, j ≠ j' → l[j]? = some r → l[j']? = some r' → r.mine i → ¬ r'.mine i) →
    (∀ (j : Nat) (r : DR), l[j]? = some r → p (k + j) = true → q (k + j) = false → r.c.kil.2 = [] ∧ ∀ i, S i → look r.c.upd i = none) → ∀ i B, S i → look Y.2 i = some B → look Z.2 i = some B
  | [], _, y, z, Y, Z, _, hy, hz, he, _, _, _ => by cases hy; cases hz; exact he
  | r :: l, k, y, z, Y, Z, hqp, hy, hz, he, hf, hn, hg => by
    simp only [replay] at hy hz
    have hn' : ∀ (j j' : Nat) (r r' : DR) i, j ≠ j' → l[j]? = some r → l[j']? = some r' → r.mine i → ¬ r'.mine i := fun j j' r r' t hne h1 h2 => hn (j + 1) (j' + 1) r r' t (by omega) (by simpa using h1) (by simpa using h2)
    have hg' : ∀ (j : Nat) (r : DR), l[j]? = some r → p (k + 1 + j) = true → q (k + 1 + j) = false → r.c.kil.2 = [] ∧ ∀ i, S i → look r.c.upd i = none := fun j r h1 h2 h3 => hg (j + 1) r (by simpa using h1) (by rwa [show k + (j + 1) = k + 1 + j from by omega]) (by rwa [show k + (j + 1) = k + 1 + j from by omega])
    have hf' : ∀ (j : Nat) (r : DR) i, l[j]? = some r → r.mine i → look z.2 i = none := fun j r i h1 h2 => hf (j + 1) r i (by simpa using h1) h2
    have hfree : ∀ z', r.app z = some z' → ∀ (j : Nat) (r' : DR) i, l[j]? = some r' → r'.mine i → look z'.2 i = none := fun z' hz' j r' i h1 h2 => by
      cases hx : look z'.2 i with
      | none => rfl
      | some B =>
        rcases replay_dom (p := fun _ => true) [r] 0 z z' (by simp [replay, hz']) i B hx with ⟨B', hB'⟩ | ⟨j', r2, g1, _, g3⟩
        · rw [hf' j r' i h1 h2] at hB'; exact nomatch hB'
        · cases j' with
          | zero => simp at g1; subst g1; exact (hn 0 (j + 1) r r' i (by omega) rfl (by simpa using h1) g3 h2).elim
          | succ j' => simp at g1
    cases hq : q k <;> simp only [hq, cond_false, cond_true] at hy
    · cases hp : p k <;> simp only [hp, cond_false, cond_true] at hz
      · exact replay_extH l (k + 1) y z Y Z hqp hy hz he hf' hn' hg'
      · rw [Option.bind_eq_some_iff] at hz
        obtain ⟨z', hz', hz⟩ := hz
        obtain ⟨hgr, hur⟩ := hg 0 r rfl (by simpa using hp) (by simpa using hq)
        refine replay_extH l (k + 1) y z' Y Z hqp hy hz (fun i B hS hB => ?_) (hfree z' hz') hn' hg'
        rw [app_plain hgr] at hz'
        cases hz'
        show look (updsX r.c.upd z.2 ++ _) i = some B
        rw [look_append, updsX_out _ _ (hur i hS), he i B hS hB]; rfl
    · rw [hqp k hq] at hz
      simp only [cond_true] at hz
      rw [Option.bind_eq_some_iff] at hy hz
      obtain ⟨y', hy', hy⟩ := hy
      obtain ⟨z', hz', hz⟩ := hz
      refine replay_extH l (k + 1) y' z' Y Z hqp hy hz (fun i B hS hB => ?_) (hfree z' hz') hn' hg'
      rw [app_heap hy'] at hB
      rw [app_heap hz']
      cases hx : cond (mem i r.c.kil.1) none ((look (updsX r.c.upd y.2) i).bind (Blk.sweep r.c.kil)) with
      | some b =>
        rw [hx] at hB
        cases hm : mem i r.c.kil.1 <;> simp only [hm, cond_true, cond_false] at hx ⊢
        · obtain ⟨b0, hb0, hb1⟩ := Option.bind_eq_some_iff.1 hx
          rw [updsX_extS he _ i b0 hS hb0]; simp only [Option.bind_some, hb1]; exact hB
        · exact nomatch hx
      | none =>
        rw [hx, Option.none_or] at hB
        have hm : r.mine i := Classical.byContradiction fun h => by rw [DR.news_none h] at hB; exact nomatch hB
        rw [updsX_none.2 (hf 0 r i rfl hm)]
        cases mem i r.c.kil.1 <;> exact hB
theorem commO_spec {a b : DR} (h : commO a b = true) : a.c.kil.2 = [] ∧ b.c.kil.2 = [] ∧ ((a.c.upd = [] ∧ b.c.upd = []) ∨ (a.c.upd = [] ∧ a.c.news = []) ∨ (b.c.upd = [] ∧ b.c.news = [])) := by
  simp only [commO, Bool.and_eq_true, Bool.or_eq_true] at h
  have h := h.1
  refine ⟨isNil_eq h.1.1, isNil_eq h.1.2, ?_⟩
  rcases h.2 with h | h | h
  · exact .inl ⟨isNil_eq h.1, isNil_eq h.2⟩
  · exact .inr (.inl ⟨isNil_eq h.1, isNil_eq h.2⟩)
  · exact .inr (.inr ⟨isNil_eq h.1, isNil_eq h.2⟩)
theorem commO_see {a b : DR} (h : commO a b = true) : hitH b.see a.c.upd = false ∧ hitH a.see b.c.upd = false := by
  simp only [commO, Bool.and_eq_true, Bool.not_eq_true'] at h
  exact h.2
theorem hitH_none {L : List Nat} : ∀ {U : Heap}, hitH L U = false → ∀ i, mem i L = true → look U i = none
  | [], _, _, _ => rfl
  | (k, b) :: l, h, i, hi => by
    simp only [hitH] at h
    cases hk : mem k L <;> simp only [hk, cond_true, cond_false] at h
    · rw [look_cons, if_neg (fun e => by subst e; rw [hi] at hk; exact nomatch hk)]
      exact hitH_none h i hi
    · exact nomatch h
theorem look_restrH {h : Heap} {i : Nat} {B : Blk} : ∀ {L : List Nat}, look (restrH h L) i = some B → mem i L = true ∧ look h i = some B
  | [], e => nomatch e
  | k :: l, e => by
    simp only [restrH] at e
    cases hk : look h k with
    | none =>
      rw [hk] at e
      obtain ⟨g1, g2⟩ := look_restrH e
      exact ⟨by simp only [mem]; cases Nat.beq k i <;> simp [g1], g2⟩
    | some b =>
      rw [hk] at e
      rw [look_cons] at e
      by_cases c : k = i
      · subst c; rw [if_pos rfl] at e; cases e
        exact ⟨by simp [mem], hk⟩
      · rw [if_neg c] at e
        obtain ⟨g1, g2⟩ := look_restrH e
        exact ⟨by simp only [mem]; cases Nat.beq k i <;> simp [g1], g2⟩
theorem hit_app (T a b : List Nat) : hit T (a ++ b) = (hit T a || hit T b) := by
  induction a with
  | nil => rfl
  | cons x l ih => simp only [List.cons_append, hit, ih]; cases mem x T <;> rfl
theorem firm_one {T : Kil} (hT : ∀ i, mem i T.1 = true → mem i T.2 = true) {j : Nat} (h : hit T.2 [j] = false) : mem j T.1 = false ∧ mem j T.2 = false := by
  simp only [hit] at h
  have h2 : mem j T.2 = false := by cases hm : mem j T.2 with | false => rfl | true => rw [hm] at h; exact nomatch h
  refine ⟨?_, h2⟩
  cases hm : mem j T.1 with
  | false => rfl
  | true => rw [hT j hm] at h2; exact nomatch h2
mutual
theorem sweep_firm {T : Kil} (hT : ∀ i, mem i T.1 = true → mem i T.2 = true) : (v : SV) → hit T.2 v.rests = false → v.sweep T = v
  | .r d x, h => by simp only [SV.rests] at h; simp only [SV.sweep, h, cond_false]
  | .own j, h => by rw [SV.sweep, (firm_one hT h).1]; rfl
  | .sub j o n, h => by rw [SV.sweep, (firm_one hT h).1]; rfl
  | .bsl j n, h => by rw [SV.sweep, (firm_one hT h).1]; rfl
  | .ptr j x o, h => by rw [SV.sweep, (firm_one hT h).1]; rfl
  | .inn j x c, h => by rw [SV.sweep, (firm_one hT h).1, (firm_one hT h).2]; rfl
  | .rptr d cs, h => by simp only [SV.rests] at h; simp only [SV.sweep, h, cond_false]
  | .agg cs, h => by simp only [SV.rests] at h; rw [SV.sweep, sweepL_firm hT cs h]
  | .tup cs, h => by simp only [SV.rests] at h; rw [SV.sweep, sweepL_firm hT cs h]
  | .fn f a b, h => by
    simp only [SV.rests] at h
    rw [hit_app, Bool.or_eq_false_iff] at h
    rw [SV.sweep, sweepL_firm hT a h.1, sweepL_firm hT b h.2]
  | .nilS, _ => rfl
  | .nilP, _ => rfl
  | .undef, _ => rfl
theorem sweepL_firm {T : Kil} (hT : ∀ i, mem i T.1 = true → mem i T.2 = true) : (l : List SV) → hit T.2 (restsL l) = false → sweepL T l = l
  | [], _ => rfl
  | v :: l, h => by
    simp only [restsL] at h
    rw [hit_app, Bool.or_eq_false_iff] at h
    rw [sweepL, sweep_firm hT v h.1, sweepL_firm hT l h.2]
end
mutual
theorem sweep_comm (T U : Kil) : (v : SV) → (v.sweep T).sweep U = (v.sweep U).sweep T
  | .r d x => by
    simp only [SV.sweep]
    cases h1 : hit T.2 d <;> cases h2 : hit U.2 d <;> simp only [cond_true, cond_false, SV.sweep, h1, h2]
  | .own j => by
    simp only [SV.sweep]
    cases h1 : mem j T.1 <;> cases h2 : mem j U.1 <;> simp only [cond_true, cond_false, SV.sweep, h1, h2]
  | .sub j o n => by
    simp only [SV.sweep]
    cases h1 : mem j T.1 <;> cases h2 : mem j U.1 <;> simp only [cond_true, cond_false, SV.sweep, h1, h2]
  | .bsl j n => by
    simp only [SV.sweep]
    cases h1 : mem j T.1 <;> cases h2 : mem j U.1 <;> simp only [cond_true, cond_false, SV.sweep, h1, h2]
  | .ptr j x o => by
    simp only [SV.sweep]
    cases h1 : mem j T.1 <;> cases h2 : mem j U.1 <;> simp only [cond_true, cond_false, SV.sweep, h1, h2]
  | .inn j x c => by
    simp only [SV.sweep]
    cases h1 : (mem j T.1 || mem j T.2) <;> cases h2 : (mem j U.1 || mem j U.2) <;> simp only [cond_true, cond_false, SV.sweep, h1, h2]
  | .rptr d cs => by
    simp only [SV.sweep]
    cases h1 : hit T.2 d <;> cases h2 : hit U.2 d <;> simp only [cond_true, cond_false, SV.sweep, h1, h2]
  | .agg cs => by simp only [SV.sweep, sweepL_comm T U cs]
  | .tup cs => by simp only [SV.sweep, sweepL_comm T U cs]
  | .fn f a b => by simp only [SV.sweep, sweepL_comm T U a, sweepL_comm T U b]
  | .nilS => rfl
  | .nilP => rfl
  | .undef => rfl
theorem sweepL_comm (T U : Kil) : (l : List SV) → sweepL U (sweepL T l) = sweepL T (sweepL U l)
  | [] => rfl
  | v :: l => by simp only [sweepL, sweep_comm T U v, sweepL_comm T U l]
end
theorem idleB_spec {r : DR} (h : idleB r = true) : r.mv = true ∧ r.c.kil.2 = [] ∧ r.c.upd = [] ∧ r.c.news = [] := by
  simp only [idleB, Bool.and_eq_true] at h
  exact ⟨h.1, isNil_eq h.2.1, isNil_eq h.2.2.1, isNil_eq h.2.2.2⟩
theorem firmB_spec {b a : DR} (h : firmB b a = true) : a.c.v.sweep b.c.kil = a.c.v := by
  simp only [firmB, Bool.not_eq_true'] at h
  exact sweep_firm b.c.kil_le _ h
theorem firm_nil {b a : DR} (h : b.c.kil.2 = []) : a.c.v.sweep b.c.kil = a.c.v := sweep_firm b.c.kil_le _ (by rw [h]; exact hit_nil _)
theorem commB_cases {a b : DR} (h : commB a b = true) :
    (idleB a = true ∧ a.c.v.sweep b.c.kil = a.c.v) ∨ (idleB b = true ∧ b.c.v.sweep a.c.kil = b.c.v) ∨ (idleB a = false ∧ idleB b = false ∧ commO a b = true) := by
  simp only [commB, Bool.or_eq_true, Bool.and_eq_true] at h
  rcases h with h | ⟨h1, h2⟩ | ⟨h1, h2⟩
  · obtain ⟨k1, k2, _⟩ := commO_spec h
    cases ha : idleB a
    · cases hb : idleB b
      · exact .inr (.inr ⟨rfl, rfl, h⟩)
      · exact .inr (.inl ⟨rfl, firm_nil k1⟩)
    · exact .inl ⟨rfl, firm_nil k2⟩
  · exact .inl ⟨h1, firmB_spec h2⟩
  · exact .inr (.inl ⟨h1, firmB_spec h2⟩)
/-- What an idle one comes to. -/
theorem app_idle {r : DR} (h : idleB r = true) (x : SH) : r.app x = some (putD x.1 r.dst r.c.v, x.2) := by
  obtain ⟨_, h1, h2, h3⟩ := idleB_spec h
  rw [app_plain h1, h2, h3]
  simp only [updsX, newsH, List.append_nil]
/-- What becomes of the heap hangs on the heap alone. -/
theorem app_heap2 {r : DR} {x x' y : SH} (e : x.2 = x'.2) (h : r.app x = some y) : ∃ y', r.app x' = some y' ∧ y.2 = y'.2 := by
  unfold DR.app at h ⊢
  simp only [Option.bind_eq_some_iff, Option.some.injEq] at h
  obtain ⟨hh, h1, rfl⟩ := h
  rw [← e, h1]
  exact ⟨_, rfl, rfl⟩
def Same2 (x y : SH) : Prop := SameL x.1 y.1 ∧ x.2 = y.2
theorem Same2.same {x y : SH} (h : Same2 x y) : Same x y := ⟨h.1, fun t => by rw [h.2]⟩
theorem app_same2 {r : DR} {x y : SH} (e : Same2 x y) {x' : SH} (h : r.app x = some x') : ∃ y', r.app y = some y' ∧ Same2 x' y' := by
  obtain ⟨y', h1, h2⟩ := app_heap2 e.2 h
  refine ⟨y', h1, fun t => ?_, h2⟩
  rw [app_slots h, app_slots h1, look_putD, look_putD, look_sweepS' r.c.kil_le, look_sweepS' r.c.kil_le, e.1 t]
theorem replay_same2 {p : Nat → Bool} : ∀ (l : List DR) (k : Nat) (x y X : SH), Same2 x y → replay p k l x = some X → ∃ Y, replay p k l y = some Y ∧ Same2 X Y
  | [], _, x, y, X, e, h => by cases h; exact ⟨y, rfl, e⟩
  | r :: l, k, x, y, X, e, h => by
    simp only [replay] at h ⊢
    cases hp : p k <;> simp only [hp, cond_false, cond_true] at h ⊢
    · exact replay_same2 l (k + 1) x y X e h
    · rw [Option.bind_eq_some_iff] at h
      obtain ⟨x', hx', h⟩ := h
      obtain ⟨y', hy', e'⟩ := app_same2 e hx'
      rw [hy']
      exact replay_same2 l (k + 1) x' y' X e' h
/-- Idle ones change the heap in nothing. -/
theorem replay_heap {p p' : Nat → Bool} : ∀ (l : List DR) (k : Nat) (x x' X : SH), (∀ (j : Nat) (r : DR), l[j]? = some r → p (k + j) ≠ p' (k + j) → idleB r = true) → x.2 = x'.2 → replay p k l x = some X →
    ∃ X', replay p' k l x' = some X' ∧ X.2 = X'.2
  | [], _, x, x', X, _, e, h => by cases h; exact ⟨x', rfl, e⟩
  | r :: l, k, x, x', X, hd, e, h => by
    have hd' : ∀ (j : Nat) (r : DR), l[j]? = some r → p (k + 1 + j) ≠ p' (k + 1 + j) → idleB r = true := fun j r h1 h2 => hd (j + 1) r (by simpa using h1) (by rwa [show k + (j + 1) = k + 1 + j from by omega])
    have h0 := hd 0 r rfl
    rw [Nat.add_zero] at h0
    simp only [replay] at h ⊢
    cases hp : p k <;> cases hp' : p' k <;> simp only [hp, cond_false, cond_true] at h ⊢
    · exact replay_heap l (k + 1) x x' X hd' e h
    · rw [app_idle (h0 (by rw [hp, hp']; exact fun h => nomatch h)), Option.bind_some]
      exact replay_heap l (k + 1) x (putD x'.1 r.dst r.c.v, x'.2) X hd' e h
    · rw [app_idle (h0 (by rw [hp, hp']; exact fun h => nomatch h)), Option.bind_some] at h
      exact replay_heap l (k + 1) (putD x.1 r.dst r.c.v, x.2) x' X hd' e h
    · rw [Option.bind_eq_some_iff] at h
      obtain ⟨y, hy, h⟩ := h
      obtain ⟨y', h1, h2⟩ := app_heap2 e hy
      rw [h1, Option.bind_some]
      exact replay_heap l (k + 1) y y' X hd' h2 h
/-- Sweeps, one behind the other. -/
def sweeps : List Kil → SV → SV
  | [], v => v
  | T :: l, v => sweeps l (v.sweep T)
theorem sweeps_app (l l' : List Kil) (v : SV) : sweeps (l ++ l') v = sweeps l' (sweeps l v) := by
  induction l generalizing v with
  | nil => rfl
  | cons T l ih => exact ih _
theorem sweeps_comm (T : Kil) (l : List Kil) (v : SV) : (sweeps l v).sweep T = sweeps l (v.sweep T) := by
  induction l generalizing v with
  | nil => rfl
  | cons U l ih => simp only [sweeps]; rw [ih, sweep_comm]
theorem sweeps_firm {l : List Kil} {v : SV} (h : ∀ T ∈ l, v.sweep T = v) : sweeps l v = v := by
  induction l with
  | nil => rfl
  | cons U l ih => simp only [sweeps]; rw [h U (by simp)]; exact ih fun T hT => h T (by simp [hT])
/-- A slot's value that no further operation touches. -/
theorem replay_firm {q p : Nat → Bool} {t : Nat} {v : SV} : ∀ (l : List DR) (k : Nat) (y z Y Z : SH), (∀ j, q j = true → p j = true) → replay q k l y = some Y → replay p k l z = some Z → look Y.1 t = some v →
    (∀ (j : Nat) (r : DR), l[j]? = some r → p (k + j) = true → q (k + j) = false → r.dst ≠ some t ∧ v.sweep r.c.kil = v) →
    (∀ u, look y.1 t = some u → ∃ Ts, look z.1 t = some (sweeps Ts u) ∧ ∀ T ∈ Ts, v.sweep T = v) → look Z.1 t = some v
  | [], _, y, z, Y, Z, _, hy, hz, hv, _, hi => by
    cases hy; cases hz
    obtain ⟨Ts, h1, h2⟩ := hi v hv
    rw [h1, sweeps_firm h2]
  | r :: l, k, y, z, Y, Z, hqp, hy, hz, hv, hd, hi => by
    simp only [replay] at hy hz
    have hd' : ∀ (j : Nat) (r : DR), l[j]? = some r → p (k + 1 + j) = true → q (k + 1 + j) = false → r.dst ≠ some t ∧ v.sweep r.c.kil = v := fun j r h1 h2 h3 => hd (j + 1) r (by simpa using h1) (by rwa [show k + (j + 1) = k + 1 + j from by omega]) (by rwa [show k + (j + 1) = k + 1 + j from by omega])
    cases hq : q k <;> simp only [hq, cond_false, cond_true] at hy
    · cases hp : p k <;> simp only [hp, cond_false, cond_true] at hz
      · exact replay_firm l (k + 1) y z Y Z hqp hy hz hv hd' hi
      · rw [Option.bind_eq_some_iff] at hz
        obtain ⟨z', hz', hz⟩ := hz
        obtain ⟨g1, g2⟩ := hd 0 r rfl (by simpa using hp) (by simpa using hq)
        refine replay_firm l (k + 1) y z' Y Z hqp hy hz hv hd' fun u hu => ?_
        obtain ⟨Ts, h1, h2⟩ := hi u hu
        refine ⟨Ts ++ [r.c.kil], ?_, fun T hT => ?_⟩
        · rw [app_slots hz', look_putD, if_neg g1, look_sweepS' r.c.kil_le, h1, sweeps_app]; rfl
        · rcases List.mem_append.1 hT with h | h
          · exact h2 T h
          · simp at h; subst h; exact g2
    · rw [hqp k hq] at hz
      simp only [cond_true] at hz
      rw [Option.bind_eq_some_iff] at hy hz
      obtain ⟨y', hy', hy⟩ := hy
      obtain ⟨z', hz', hz⟩ := hz
      refine replay_firm l (k + 1) y' z' Y Z hqp hy hz hv hd' fun u hu => ?_
      rw [app_slots hy', look_putD, look_sweepS' r.c.kil_le] at hu
      rw [app_slots hz', look_putD, look_sweepS' r.c.kil_le]
      by_cases c : r.dst = some t
      · rw [if_pos c] at hu ⊢; cases hu; exact ⟨[], rfl, by simp⟩
      · rw [if_neg c] at hu ⊢
        obtain ⟨u0, hu0, rfl⟩ := Option.map_eq_some_iff.1 hu
        obtain ⟨Ts, h1, h2⟩ := hi u0 hu0
        exact ⟨Ts, by rw [h1, Option.map_some, sweeps_comm], h2⟩
/-- Where a slot's value comes from. -/
theorem replay_origin {q : Nat → Bool} {t : Nat} {v : SV} : ∀ (l : List DR) (k : Nat) (y Y : SH), replay q k l y = some Y → look Y.1 t = some v → (∃ u, look y.1 t = some u) ∨ ∃ (j : Nat) (r : DR), l[j]? = some r ∧ q (k + j) = true ∧ r.dst = some t
  | [], _, y, Y, h, hv => by cases h; exact .inl ⟨v, hv⟩
  | r :: l, k, y, Y, h, hv => by
    simp only [replay] at h
    cases hq : q k <;> simp only [hq, cond_false, cond_true] at h
    · rcases replay_origin l (k + 1) y Y h hv with h' | ⟨j, r', h1, h2, h3⟩
      · exact .inl h'
      · exact .inr ⟨j + 1, r', by simpa using h1, by rwa [show k + (j + 1) = k + 1 + j from by omega], h3⟩
    · rw [Option.bind_eq_some_iff] at h
      obtain ⟨y', hy', h⟩ := h
      rcases replay_origin l (k + 1) y' Y h hv with ⟨u, hu⟩ | ⟨j, r', h1, h2, h3⟩
      · rw [app_slots hy', look_putD, look_sweepS' r.c.kil_le] at hu
        by_cases c : r.dst = some t
        · exact .inr ⟨0, r, rfl, hq, c⟩
        · rw [if_neg c] at hu
          obtain ⟨u0, hu0, _⟩ := Option.map_eq_some_iff.1 hu
          exact .inl ⟨u0, hu0⟩
      · exact .inr ⟨j + 1, r', by simpa using h1, by rwa [show k + (j + 1) = k + 1 + j from by omega], h3⟩
/-- An idle one and another. -/
theorem comm_idle {a b : DR} (ha : idleB a = true) (hf : a.c.v.sweep b.c.kil = a.c.v) (hd : ∀ t, a.dst = some t → b.dst ≠ some t) {x y z : SH} (hy : b.app x = some y) (hz : a.app y = some z) :
    ∃ y' z', a.app x = some y' ∧ b.app y' = some z' ∧ Same2 z z' := by
  rw [app_idle ha] at hz; cases hz
  obtain ⟨z', h1, h2⟩ := app_heap2 (x := x) (x' := (putD x.1 a.dst a.c.v, x.2)) rfl hy
  refine ⟨_, z', app_idle ha x, h1, fun t => ?_, h2⟩
  rw [app_slots h1, app_slots hy]
  simp only [look_putD, look_sweepS' b.c.kil_le]
  by_cases c : a.dst = some t
  · rw [if_pos c, if_neg (hd t c), if_pos c, Option.map_some, hf]
  · simp only [if_neg c]
theorem comm_idle' {a b : DR} (hb : idleB b = true) (hf : b.c.v.sweep a.c.kil = b.c.v) (hd : ∀ t, a.dst = some t → b.dst ≠ some t) {x y z : SH} (hy : b.app x = some y) (hz : a.app y = some z) :
    ∃ y' z', a.app x = some y' ∧ b.app y' = some z' ∧ Same2 z z' := by
  rw [app_idle hb] at hy; cases hy
  obtain ⟨y', h1, h2⟩ := app_heap2 (x := (putD x.1 b.dst b.c.v, x.2)) (x' := x) rfl hz
  refine ⟨y', _, h1, app_idle hb y', fun t => ?_, h2⟩
  rw [app_slots h1, app_slots hz]
  simp only [look_putD, look_sweepS' a.c.kil_le]
  by_cases c : a.dst = some t
  · simp only [if_pos c, if_neg (hd t c)]
  · simp only [if_neg c]
    by_cases c' : b.dst = some t
    · simp only [if_pos c', Option.map_some, hf]
    · simp only [if_neg c']
theorem comm {a b : DR} (h : commO a b = true) (hd : ∀ t, a.dst = some t → b.dst ≠ some t) (hm : ∀ i, a.mine i → ¬ b.mine i) {x y z : SH} (hy : b.app x = some y) (hz : a.app y = some z) :
    ∃ y' z', a.app x = some y' ∧ b.app y' = some z' ∧ Same z z' := by
  obtain ⟨ga, gb, hu⟩ := commO_spec h
  rw [app_plain gb] at hy; cases hy
  rw [app_plain ga] at hz; cases hz
  refine ⟨_, _, app_plain ga x, app_plain gb _, fun t => ?_, fun i => ?_⟩
  · simp only [look_putD]
    by_cases c : a.dst = some t
    · rw [if_pos c, if_neg (hd t c), if_pos c]
    · rw [if_neg c]
      by_cases c' : b.dst = some t
      · rw [if_pos c', if_pos c']
      · rw [if_neg c', if_neg c', if_neg c]
  · have swap : (look (newsH b.n0 b.c.news) i).or (look (newsH a.n0 a.c.news) i) = (look (newsH a.n0 a.c.news) i).or (look (newsH b.n0 b.c.news) i) := by
      by_cases c : a.mine i
      · rw [DR.news_none (hm i c)]; simp
      · rw [DR.news_none c]; simp
    rcases hu with ⟨u1, u2⟩ | ⟨u1, u2⟩ | ⟨u1, u2⟩
    · simp only [u1, u2, updsX, look_append, Option.or_assoc, swap]
    · simp only [u1, u2, updsX, newsH, List.append_nil]
    · simp only [u1, u2, updsX, newsH, List.append_nil]
theorem replay_same {p : Nat → Bool} : ∀ (l : List DR) (k : Nat) (x y X : SH), (∀ (j : Nat) (r : DR), l[j]? = some r → p (k + j) = true → r.c.kil.2 = []) → Same x y → replay p k l x = some X → ∃ Y, replay p k l y = some Y ∧ Same X Y
  | [], _, x, y, X, _, e, h => by cases h; exact ⟨y, rfl, e⟩
  | r :: l, k, x, y, X, hg, e, h => by
    have hg' : ∀ (j : Nat) (r : DR), l[j]? = some r → p (k + 1 + j) = true → r.c.kil.2 = [] := fun j r h1 h2 => hg (j + 1) r (by simpa using h1) (by rwa [show k + (j + 1) = k + 1 + j from by omega])
    simp only [replay] at h ⊢
    cases hp : p k <;> simp only [hp, cond_false, cond_true] at h ⊢
    · exact replay_same l (k + 1) x y X hg' e h
    · rw [Option.bind_eq_some_iff] at h
      obtain ⟨x', hx', h⟩ := h
      obtain ⟨y', hy', e'⟩ := app_same (hg 0 r rfl (by simpa using hp)) e hx'
      rw [hy']
      exact replay_same l (k + 1) x' y' X hg' e' h
/-- An operation that comes behind others may as well come ahead of them. -/
theorem replay_behind1 {p : Nat → Bool} {a : DR} (hi : idleB a = true) : ∀ (l : List DR) (k : Nat) (x X X' : SH),
    (∀ (j : Nat) (r : DR), l[j]? = some r → p (k + j) = true → a.c.v.sweep r.c.kil = a.c.v ∧ (∀ t, a.dst = some t → r.dst ≠ some t)) →
    replay p k l x = some X → a.app X = some X' → ∃ x' X'', a.app x = some x' ∧ replay p k l x' = some X'' ∧ Same2 X' X''
  | [], _, x, X, X', _, h, ha => by cases h; exact ⟨X', X', ha, rfl, fun _ => rfl, rfl⟩
  | r :: l, k, x, X, X', hc, h, ha => by
    have hc' : ∀ (j : Nat) (r : DR), l[j]? = some r → p (k + 1 + j) = true → a.c.v.sweep r.c.kil = a.c.v ∧ (∀ t, a.dst = some t → r.dst ≠ some t) := fun j r h1 h2 => hc (j + 1) r (by simpa using h1) (by rwa [show k + (j + 1) = k + 1 + j from by omega])
    simp only [replay] at h ⊢
    cases hp : p k <;> simp only [hp, cond_false, cond_true] at h ⊢
    · exact replay_behind1 hi l (k + 1) x X X' hc' h ha
    · rw [Option.bind_eq_some_iff] at h
      obtain ⟨y, hy, h⟩ := h
      obtain ⟨y', Y'', h1, h2, h3⟩ := replay_behind1 hi l (k + 1) y X X' hc' h ha
      obtain ⟨c1, c2⟩ := hc 0 r rfl (by simpa using hp)
      obtain ⟨x', z', g1, g2, g3⟩ := comm_idle hi c1 c2 hy h1
      obtain ⟨W, w1, w2⟩ := replay_same2 l (k + 1) y' z' Y'' g3 h2
      exact ⟨x', W, g1, by rw [g2]; exact w1, fun t => (h3.1 t).trans (w2.1 t), h3.2.trans w2.2⟩
theorem replay_behind2 {p : Nat → Bool} {a : DR} (hi : idleB a = false) : ∀ (l : List DR) (k : Nat) (x X X' : SH),
    (∀ (j : Nat) (r : DR), l[j]? = some r → p (k + j) = true → commB a r = true ∧ (∀ t, a.dst = some t → r.dst ≠ some t) ∧ ∀ i, a.mine i → ¬ r.mine i) →
    replay p k l x = some X → a.app X = some X' → ∃ x' X'', a.app x = some x' ∧ replay p k l x' = some X'' ∧ Same X' X''
  | [], _, x, X, X', _, h, ha => by cases h; exact ⟨X', X', ha, rfl, Same.refl _⟩
  | r :: l, k, x, X, X', hc, h, ha => by
    have hc' : ∀ (j : Nat) (r : DR), l[j]? = some r → p (k + 1 + j) = true → commB a r = true ∧ (∀ t, a.dst = some t → r.dst ≠ some t) ∧ ∀ i, a.mine i → ¬ r.mine i := fun j r h1 h2 => hc (j + 1) r (by simpa using h1) (by rwa [show k + (j + 1) = k + 1 + j from by omega])
    have kil0 : ∀ (r : DR), commB a r = true → r.c.kil.2 = [] := fun r h => by
      rcases commB_cases h with ⟨h1, _⟩ | ⟨h1, _⟩ | ⟨_, _, h1⟩
      · rw [hi] at h1; exact nomatch h1
      · exact (idleB_spec h1).2.1
      · exact (commO_spec h1).2.1
    simp only [replay] at h ⊢
    cases hp : p k <;> simp only [hp, cond_false, cond_true] at h ⊢
    · exact replay_behind2 hi l (k + 1) x X X' hc' h ha
    · rw [Option.bind_eq_some_iff] at h
      obtain ⟨y, hy, h⟩ := h
      obtain ⟨y', Y'', h1, h2, h3⟩ := replay_behind2 hi l (k + 1) y X X' hc' h ha
      obtain ⟨c1, c2, c3⟩ := hc 0 r rfl (by simpa using hp)
      have hcm : ∃ y'' z', a.app x = some y'' ∧ r.app y'' = some z' ∧ Same y' z' := by
        rcases commB_cases c1 with ⟨h1', _⟩ | ⟨h1', h2'⟩ | ⟨_, _, h1'⟩
        · rw [hi] at h1'; exact nomatch h1'
        · obtain ⟨u1, u2, u3, u4, u5⟩ := comm_idle' h1' h2' c2 hy h1
          exact ⟨u1, u2, u3, u4, u5.same⟩
        · exact comm h1' c2 c3 hy h1
      obtain ⟨x', z', g1, g2, g3⟩ := hcm
      obtain ⟨W, w1, w2⟩ := replay_same l (k + 1) y' z' Y'' (fun j r h1 h2 => kil0 r (hc' j r h1 h2).1) g3 h2
      exact ⟨x', W, g1, by rw [g2]; exact w1, h3.trans w2⟩
theorem replay_behind {p : Nat → Bool} {a : DR} (l : List DR) (k : Nat) (x X X' : SH)
    (hc : ∀ (j : Nat) (r : DR), l[j]? = some r → p (k + j) = true → commB a r = true ∧ (∀ t, a.dst = some t → r.dst ≠ some t) ∧ ∀ i, a.mine i → ¬ r.mine i)
    (h : replay p k l x = some X) (ha : a.app X = some X') : ∃ x' X'', a.app x = some x' ∧ replay p k l x' = some X'' ∧ Same X' X'' := by
  cases hi : idleB a with
  | false => exact replay_behind2 hi l k x X X' hc h ha
  | true =>
    obtain ⟨u1, u2, u3, u4, u5⟩ := replay_behind1 hi l k x X X' (fun j r h1 h2 => by
      obtain ⟨c1, c2, _⟩ := hc j r h1 h2
      refine ⟨?_, c2⟩
      rcases commB_cases c1 with ⟨_, h⟩ | ⟨h, _⟩ | ⟨h, _, _⟩
      · exact h
      · exact firm_nil (idleB_spec h).2.1
      · rw [hi] at h; exact nomatch h) h ha
    exact ⟨u1, u2, u3, u4, u5.same⟩
/-- One more operation. -/
theorem replay_insert {p p' : Nat → Bool} {l : List DR} {i : Nat} {a : DR} {x X X' : SH} (hi : l[i]? = some a) (hpi : p i = false) (hpi' : p' i = true) (hpp : ∀ j, j ≠ i → p' j = p j)
    (hc : ∀ (j : Nat) (r : DR), i < j → l[j]? = some r → p j = true → commB a r = true ∧ (∀ t, a.dst = some t → r.dst ≠ some t) ∧ ∀ i, a.mine i → ¬ r.mine i)
    (h : replay p 0 l x = some X) (ha : a.app X = some X') : ∃ X'', replay p' 0 l x = some X'' ∧ Same X' X'' := by
  have hlt := (List.getElem?_eq_some_iff.1 hi).1
  have hsplit : l = l.take i ++ a :: l.drop (i + 1) := by
    conv => lhs; rw [← List.take_append_drop i l]
    rw [List.drop_eq_getElem_cons hlt, (List.getElem?_eq_some_iff.1 hi).2]
  have hl : (l.take i).length = i := by simp; omega
  rw [hsplit, replay_append, Option.bind_eq_some_iff] at h
  obtain ⟨y, hy, h⟩ := h
  rw [hl, Nat.zero_add] at h
  simp only [replay, hpi, cond_false] at h
  obtain ⟨y', X'', g1, g2, g3⟩ := replay_behind (l.drop (i + 1)) (i + 1) y X X' (fun j r h1 h2 => hc (i + 1 + j) r (by omega) (by rwa [List.getElem?_drop] at h1) h2) h ha
  refine ⟨X'', ?_, g3⟩
  rw [hsplit, replay_append, hl, Nat.zero_add]
  rw [replay_congr (q := p) (l.take i) 0 x fun j hj => by rw [hl] at hj; rw [Nat.zero_add]; exact hpp j (by omega), hy]
  simp only [Option.bind_some, replay, hpi', cond_true, g1]
  rw [replay_congr (q := p) (l.drop (i + 1)) (i + 1) y' fun j hj => hpp _ (by omega)]
  exact g2
/-- A slot that no later operation sets, and that no one may lose. -/
theorem replay_slot {p : Nat → Bool} {t : Nat} {x0 : SV} (hx0 : ∀ T, x0.sweep T = x0) : ∀ (l : List DR) (k : Nat) (x X : SH), replay p k l x = some X → (∀ (j : Nat) (r : DR), l[j]? = some r → r.dst ≠ some t) → look x.1 t = some x0 → look X.1 t = some x0
  | [], _, x, X, h, _, hx => by cases h; exact hx
  | r :: l, k, x, X, h, hd, hx => by
    have hd' : ∀ (j : Nat) (r : DR), l[j]? = some r → r.dst ≠ some t := fun j r h1 => hd (j + 1) r (by simpa using h1)
    simp only [replay] at h
    cases hp : p k <;> simp only [hp, cond_false, cond_true] at h
    · exact replay_slot hx0 l (k + 1) x X h hd' hx
    · rw [Option.bind_eq_some_iff] at h
      obtain ⟨y, hy, h⟩ := h
      refine replay_slot hx0 l (k + 1) y X h hd' ?_
      rw [app_slots hy, look_putD, if_neg (hd 0 r rfl)]
      rw [look_sweepS' r.c.kil_le, hx, Option.map_some, hx0]
end Go.Proofs.Ev
