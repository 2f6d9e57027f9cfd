/- Soundness of struct literals; the theorem for all operations that neither write nor make memory. -/
import Derived.Test.YtcgeekjfbjcofaaEvStill4
import Derived.Test.YtcgeekjfbjcofaaEvList
import Derived.Laws.BytesArg
set_option linter.unusedVariables false
set_option linter.unusedSimpArgs false
namespace Go.Proofs.Ev
section
variable {w : World} {H : Heap} {pl : Pl} {P : Program}
/-- Cells and their values. -/
structure CRep (w : World) (H : Heap) (pl : Pl) (cs : List SV) (us : Array Value) : Prop where
  hl : cs.length = us.size
  h1 : ∀ (j : Nat) (v : Value), us[j]? = some v → one v = true
  h : ∀ (j : Nat) (x : SV) (v : Value), cs[j]? = some x → us[j]? = some v → SVRep w H pl x v
theorem CRep.agg {cs : List SV} {us : Array Value} (h : CRep w H pl cs us) : SVRep w H pl (.agg cs) (.agg us) := .agg _ _ h.hl h.h1 h.h
theorem SVRep.cells {v : SV} {u : Value} {cs : List SV} (h : SVRep w H pl v u) (hc : v.cells = some cs) (hr : HRel H pl w) : CRep w H pl cs u.cells := by
  have single : ∀ {v : SV} {u : Value}, SVRep w H pl v u → one u = true → CRep w H pl [v] #[u] := fun {v u} h h1 =>
    ⟨rfl, fun j x hx => by cases j with
      | zero => simp at hx; subst hx; exact h1
      | succ j => simp at hx, fun j x y hx hy => by cases j with
      | zero => simp at hx hy; subst hx hy; exact h
      | succ j => simp at hx⟩
  cases h with
  | agg cs' vs hl h1 h => cases hc; exact ⟨hl, h1, h⟩
  | tup => exact nomatch hc
  | undef => exact nomatch hc
  | r d x v hx => cases hc; cases hx <;> exact single (.r _ _ _ (by first | exact .int _ _ | exact .bool _ | exact .str _ | (constructor <;> assumption))) rfl
  | nilS => cases hc; exact single .nilS rfl
  | nilP => cases hc; exact single .nilP rfl
  | own i sh t xs hl =>
    cases hc
    obtain ⟨a, cap, b, o, hh, _⟩ := arr_hdr hr hl
    have := SVRep.own (w := w) (pl := pl) i sh t xs hl
    rw [hh] at this ⊢
    exact single this rfl
  | sub i o n sh t xs a a' cap cap' hl hh hn hc' hcc ha => cases hc; exact single (.sub i o n sh t xs a a' cap cap' hl hh hn hc' hcc ha) rfl
  | bsl i n cs a hl hh => cases hc; exact single (.bsl i n cs a hl hh) rfl
  | ptrB i o cs b k hl hh => cases hc; exact single (.ptrB i o cs b k hl hh) rfl
  | ptrA i x o sh t xs b k n cap hl hx hh => cases hc; exact single (.ptrA i x o sh t xs b k n cap hl hx hh) rfl
  | rptr d cs b o vs h1 h2 => cases hc; exact single (.rptr d cs b o vs h1 h2) rfl
  | fn f as bs us vs hl h hl' h' => cases hc; exact single (.fn f as bs us vs hl h hl' h') rfl
theorem fold_set (off : Nat) : ∀ (l : List Value) (k : Nat) (cells : Array Value),
    ((l.zipIdx k).foldl (fun (cs : Array Value) (p : Value × Nat) => cs.setIfInBounds (off + p.2) p.1) cells).size = cells.size ∧
    ∀ m, m < cells.size → ((l.zipIdx k).foldl (fun (cs : Array Value) (p : Value × Nat) => cs.setIfInBounds (off + p.2) p.1) cells)[m]? =
      if off + k ≤ m ∧ m < off + k + l.length then l[m - (off + k)]? else cells[m]?
  | [], k, cells => ⟨rfl, fun m _ => by simp only [List.zipIdx_nil, List.foldl_nil, List.length_nil]; rw [if_neg (by omega)]⟩
  | v :: l, k, cells => by
    rw [List.zipIdx_cons, List.foldl_cons]
    obtain ⟨h1, h2⟩ := fold_set off l (k + 1) (cells.setIfInBounds (off + k) v)
    refine ⟨by rw [h1]; simp, fun m hm => ?_⟩
    rw [h2 m (by simpa using hm)]
    simp only [List.length_cons]
    by_cases hk : m = off + k
    · subst hk
      rw [if_neg (by omega), if_pos (by omega), Array.getElem?_setIfInBounds_self_of_lt hm]; simp
    · rw [Array.getElem?_setIfInBounds_ne (by omega)]
      by_cases hk2 : off + (k + 1) ≤ m ∧ m < off + (k + 1) + l.length
      · rw [if_pos hk2, if_pos (by omega), show m - (off + k) = (m - (off + (k + 1))) + 1 from by omega]; rfl
      · rw [if_neg hk2, if_neg (by omega)]
theorem fill_rep (hr : HRel H pl w) {places : Nat → Option (Nat × Nat)} : ∀ (parts : List (Nat × SV)) (vparts : List (Nat × Value)) (cs cs' : List SV) (us : Array Value),
    CRep w H pl cs us → parts.length = vparts.length →
    (∀ (j k : Nat) (x : SV) (k' : Nat) (u : Value), parts[j]? = some (k, x) → vparts[j]? = some (k', u) → k = k' ∧ SVRep w H pl x u) →
    fillCs places cs parts = some cs' → ∃ us', Instr.fill places us vparts = some us' ∧ CRep w H pl cs' us'
  | [], [], cs, cs', us, hc, _, _, h => by cases h; exact ⟨us, rfl, hc⟩
  | (k, x) :: parts, (k', u) :: vparts, cs, cs', us, hc, hl, hp, h => by
    obtain ⟨rfl, hxu⟩ := hp 0 k x k' u rfl rfl
    simp only [fillCs, Option.bind_eq_some_iff] at h
    obtain ⟨⟨off, size⟩, hpl, vs, hvs, h⟩ := h
    simp only at h
    cases h1 : Nat.beq vs.length size <;> simp only [h1, cond_true, cond_false] at h
    · exact nomatch h
    · cases h2 : Nat.ble (off + vs.length) cs.length <;> simp only [h2, cond_true, cond_false] at h
      · exact nomatch h
      · have h1 := Nat.eq_of_beq_eq_true h1
        have h2 := Nat.le_of_ble_eq_true h2
        have hcell := hxu.cells hvs hr
        obtain ⟨g1, g2⟩ := fold_set off u.cells.toList 0 us
        have hus : u.cells.zipIdx.foldl (fun (cs : Array Value) (p : Value × Nat) => cs.setIfInBounds (off + p.2) p.1) us =
            (u.cells.toList.zipIdx 0).foldl (fun (cs : Array Value) (p : Value × Nat) => cs.setIfInBounds (off + p.2) p.1) us := by
          rw [← Array.foldl_toList]; simp
        have hlen : u.cells.toList.length = vs.length := by simp [hcell.hl]
        have hcl := hc.hl
        have hget : ∀ m, (cs.take off ++ vs ++ cs.drop (off + vs.length))[m]? = if off ≤ m ∧ m < off + vs.length then vs[m - off]? else cs[m]? := fun m => by
          have hto : (cs.take off).length = off := by simp; omega
          by_cases c1 : m < off
          · rw [List.append_assoc, List.getElem?_append_left (by omega), List.getElem?_take, if_pos c1, if_neg (by omega)]
          · by_cases c2 : m < off + vs.length
            · rw [List.append_assoc, List.getElem?_append_right (by omega), List.getElem?_append_left (by omega), if_pos (by omega), hto]
            · rw [List.append_assoc, List.getElem?_append_right (by omega), List.getElem?_append_right (by omega), List.getElem?_drop, if_neg (by omega), hto,
                show off + vs.length + (m - off - vs.length) = m from by omega]
        have hc' : CRep w H pl (cs.take off ++ vs ++ cs.drop (off + vs.length)) (u.cells.zipIdx.foldl (fun (cs : Array Value) (p : Value × Nat) => cs.setIfInBounds (off + p.2) p.1) us) := by
          rw [hus]
          refine ⟨by rw [g1]; simp; omega, fun m v hv => ?_, fun m x v hx hv => ?_⟩
          · have hm : m < us.size := by have := (Array.getElem?_eq_some_iff.1 hv).1; omega
            rw [g2 m hm] at hv
            split at hv
            · exact hcell.h1 _ _ (by simpa using hv)
            · exact hc.h1 _ _ hv
          · have hm : m < us.size := by have := (Array.getElem?_eq_some_iff.1 hv).1; omega
            rw [g2 m hm] at hv
            rw [hget m] at hx
            simp only [hlen, Nat.add_zero] at hv
            split at hv
            · rename_i hif
              rw [if_pos hif] at hx
              exact hcell.h _ _ _ hx (by simpa using hv)
            · rename_i hif
              rw [if_neg hif] at hx
              exact hc.h _ _ _ hx hv
        obtain ⟨us', e1, e2⟩ := fill_rep hr parts vparts _ cs' _ hc' (by simpa using hl) (fun j k x k' u hx hu => hp (j + 1) k x k' u (by simpa using hx) (by simpa using hu)) h
        refine ⟨us', ?_, e2⟩
        rw [Instr.fill]
        simp only [hpl]
        have hz : u.cells.size = size := by rw [← hcell.hl]; exact h1
        rw [if_neg (by simp [hz]; omega)]
        exact e1
theorem zeroCs_rep (hr : HRel H pl w) {T : TypeId} {z : List SV} (h : zeroCs P T = some z) : ∃ u, (zeroValue T).run P w = .ok u w ∧ CRep w H pl z u.cells := by
  simp only [zeroCs, Option.bind_eq_some_iff] at h
  obtain ⟨i, hi, v, hv, x, hx, hc⟩ := h
  exact ⟨v, by simp [zeroValue, typeInfo, hi, hv], (constV_rep hx).cells hc hr⟩
theorem places_run {w : World} : ∀ {fs : List Field} {l : List (Nat × Nat)}, placesOf P fs = some l →
    (fs.mapM fun f => Prod.mk f.offset <$> sizeOf f.type : Sem (List (Nat × Nat))).run P w = .ok l w
  | [], l, h => by cases h; rfl
  | f :: fs, l, h => by
    simp only [placesOf, sizeT, Option.bind_eq_some_iff, Option.some.injEq] at h
    obtain ⟨s, ⟨i, hi, rfl⟩, l', hl', rfl⟩ := h
    rw [List.mapM_cons]
    simp [run_sizeOf' hi, places_run hl']
theorem partsO_rep {s : List (Nat × SV)} {a : Act} (hs : Slots w H pl s a) : ∀ {l : List (Nat × Operand)} {ps : List (Nat × SV)}, partsO s l = some ps →
    ps.length = l.length ∧ ∀ (j k : Nat) (x : SV) (k' : Nat) (u : Value), ps[j]? = some (k, x) → (l.map fun p => (p.1, a.eval p.2))[j]? = some (k', u) → k = k' ∧ SVRep w H pl x u
  | [], ps, h => by cases h; exact ⟨rfl, fun j k x k' u hx _ => by simp at hx⟩
  | (k0, o) :: l, ps, h => by
    simp only [partsO, Option.bind_eq_some_iff, Option.some.injEq] at h
    obtain ⟨v, hv, ps', hps, rfl⟩ := h
    obtain ⟨h1, h2⟩ := partsO_rep hs hps
    refine ⟨by simp [h1], fun j k x k' u hx hu => ?_⟩
    cases j with
    | zero => simp at hx hu; obtain ⟨rfl, rfl⟩ := hx; obtain ⟨rfl, rfl⟩ := hu; exact ⟨rfl, opd_rep hs hv⟩
    | succ j => exact h2 j k x k' u (by simpa using hx) (by simpa using hu)
theorem optO_rep {s : List (Nat × SV)} {a : Act} (hs : Slots w H pl s a) {o : Option Operand} {v : Option SV} (h : optO s o = some v) : optRep w H pl v (o.map a.eval) := by
  cases o with
  | none => cases h; trivial
  | some o =>
    simp only [optO, Option.bind_eq_some_iff, Option.some.injEq] at h
    obtain ⟨x, hx, rfl⟩ := h
    exact opd_rep hs hx
theorem build_rep (hr : HRel H pl w) {T : TypeId} {fs : Array Field} {l : List (Nat × Nat)} {z cs : List SV} {ps : List (Nat × SV)} {vps : Array (Nat × Value)}
    (hu : P.underlying T = some (.struct fs)) (hl : placesOf P fs.toList = some l) (hz : zeroCs P T = some z) (hc : fillCs (fun k => l[k]?) z ps = some cs) (hlen : ps.length = vps.toList.length)
    (hp : ∀ (j k : Nat) (x : SV) (k' : Nat) (u : Value), ps[j]? = some (k, x) → vps.toList[j]? = some (k', u) → k = k' ∧ SVRep w H pl x u) :
    ∃ u, (Instr.build T vps).run P w = .ok u w ∧ SVRep w H pl (.agg cs) u := by
  obtain ⟨zu, hzu, hzr⟩ := zeroCs_rep hr hz
  obtain ⟨us, h1, h2⟩ := fill_rep hr ps vps.toList z cs zu.cells hzr hlen hp hc
  refine ⟨.agg us, ?_, h2.agg⟩
  simp [Instr.build, hzu, und_of_info hu, Array.mapM_eq_mapM_toList, places_run hl, h1]
theorem bytes_conv (hr : HRel H pl w) {src dst : TypeId} {x : SV} {u : Value} {d : List Nat} {xs : List Int} (hb : bytesT P src = true) (hd : isStr P dst = true) (hl : x.list H (.int .u8) = some (d, xs)) (hx : SVRep w H pl x u) :
    ∃ z, (convert src dst u).run P w = .ok z w ∧ SVRep w H pl (.r [] (.str (bytesOf xs))) z := by
  obtain ⟨e, hs, he⟩ : ∃ e, P.underlying src = some (.slice e) ∧ P.underlying e = some (.int .u8) := by
    unfold bytesT at hb
    split at hb
    · rename_i e he
      split at hb
      · rename_i hu
        refine ⟨e, ?_, hu⟩
        unfold elemT at he
        split at he
        · rename_i e' hu'; cases he; exact hu'
        · exact nomatch he
      · exact nomatch hb
    · exact nomatch hb
  have hd' : P.underlying dst = some .string := by
    unfold isStr at hd
    split at hd
    · assumption
    · exact nomatch hd
  have hrep := (list_rep hr hl hx).1
  refine ⟨.string (strOfNums xs), ?_, .r _ _ _ (.str _)⟩
  cases hrep with
  | sl _ _ a cap b o vs hcap ha hc hrr =>
    rcases ha with rfl | rfl
    · cases a with
      | none => rw [run_convert_bytes_nil w src e hs he _ _ dst hd']; rfl
      | some A =>
        rw [run_convert_bytes_string w src dst e _ _ _ hs he hd']
        show (Conv.bytesToString (.slice (some A) 0 cap)).run P w = _
        rw [run_bytesToString w A 0 cap [] (by simpa using run_loadCells_list (P := P) w A [] (fun j v hj => by simp at hj))]
        rfl
    · refine run_convert_bytes_arg w src e hs he b o _ cap xs rfl (fun i hi => ?_) dst hd'
      have hcell : cellIn (.int .u8) xs i 0 (.int .u8 xs[i]) := ⟨xs[i], List.getElem?_eq_getElem hi, rfl⟩
      have h1 := (hc i 0 _ hcell).2
      have h2 := hrr i 0 _ hcell
      generalize vs i 0 = vv at h1 h2
      cases h2
      have : w.cell? ⟨b, o + (i * 1 + 0), none⟩ = some (.int .u8 xs[i]) := h1
      simpa [List.getD, List.getElem?_eq_getElem hi] using this
theorem fn_slots {s : List (Nat × SV)} {a : Act} (hs : Slots w H pl s a) {l : Array Operand} {vs : List SV} (h : opds s l.toList = some vs) :
    vs.length = (l.map a.eval).size ∧ ∀ (j : Nat) (x : SV) (u : Value), vs[j]? = some x → (l.map a.eval)[j]? = some u → SVRep w H pl x u := by
  obtain ⟨h1, h2⟩ := opds_rep hs h
  refine ⟨by simp [h1], fun j x u hx hu => h2 j x u hx ?_⟩
  rw [Array.getElem?_map] at hu
  simpa using hu
theorem opds_one {s : List (Nat × SV)} {l : List Operand} {v : SV} (h : opds s l = some [v]) : ∃ x, l = [x] ∧ opd s x = some v := by
  match l, h with
  | [x], h =>
    simp only [opds, Option.bind_eq_some_iff, Option.some.injEq] at h
    obtain ⟨v', hv, _, rfl, h⟩ := h
    cases h; exact ⟨x, rfl, hv⟩
  | x :: y :: l, h =>
    simp only [opds, Option.bind_eq_some_iff, Option.some.injEq] at h
    obtain ⟨v', hv, _, ⟨_, _, _, _, rfl⟩, h⟩ := h
    cases h
theorem opds_two {s : List (Nat × SV)} {l : List Operand} {u v : SV} (h : opds s l = some [u, v]) : ∃ x y, l = [x, y] ∧ opd s x = some u ∧ opd s y = some v := by
  match l, h with
  | x :: l, h =>
    simp only [opds, Option.bind_eq_some_iff, Option.some.injEq] at h
    obtain ⟨v', hv, vs, hvs, h⟩ := h
    cases h
    obtain ⟨y, rfl, hy⟩ := opds_one hvs
    exact ⟨x, y, rfl, hv, hy⟩
theorem opds_three {s : List (Nat × SV)} {l : List Operand} {u v z : SV} (h : opds s l = some [u, v, z]) : ∃ x y q, l = [x, y, q] ∧ opd s x = some u ∧ opd s y = some v ∧ opd s q = some z := by
  match l, h with
  | x :: l, h =>
    simp only [opds, Option.bind_eq_some_iff, Option.some.injEq] at h
    obtain ⟨v', hv, vs, hvs, h⟩ := h
    cases h
    obtain ⟨y, q, rfl, hy, hq⟩ := opds_two hvs
    exact ⟨x, y, q, rfl, hv, hy, hq⟩
theorem exec_val {s : Sem Value} {u : Value} (h : s.run P w = .ok u w) : (do pure (Next.value (← s)) : Sem Next).run P w = .ok (.value u) w := by simp [h]
/-- The operations that neither write nor make memory. -/
theorem evStill_sound {s : List (Nat × SV)} {op : Op} {v : SV} {a : Act} (hr : HRel H pl w) (hs : Slots w H pl s a) (h : evStill P s H op = some v) (o : Oper) (ho : o.op = op) :
    ∃ u, (execOp a.eval o).run P w = .ok (.value u) w ∧ SVRep w H pl v u := by
  subst ho
  unfold evStill at h
  split at h
  · rename_i x ho; exact ⟨_, by rw [execOp, ho]; rfl, opd_rep hs h⟩
  · rename_i x ho; exact ⟨_, by rw [execOp, ho]; rfl, opd_rep hs h⟩
  · rename_i c x y ho
    simp only [Option.bind_eq_some_iff] at h
    obtain ⟨cv, hc, b, hb, h⟩ := h
    have hcv := asB_rep hb (opd_rep hs hc)
    cases b
    · exact ⟨_, by rw [execOp, ho]; simp [asBool, hcv], opd_rep hs h⟩
    · exact ⟨_, by rw [execOp, ho]; simp [asBool, hcv], opd_rep hs h⟩
  · rename_i T parts ho
    split at h
    · rename_i fs hu
      simp only [Option.bind_eq_some_iff, Option.some.injEq] at h
      obtain ⟨l, hl, z, hz, ps, hps, cs, hcs, rfl⟩ := h
      obtain ⟨g1, g2⟩ := partsO_rep hs hps
      obtain ⟨u, h1, h2⟩ := build_rep (P := P) (vps := parts.map fun p => (p.1, a.eval p.2)) hr hu hl hz hcs (by simp [g1]) (fun j k x k' u hx hu => g2 j k x k' u hx (by simpa using hu))
      exact ⟨u, by rw [execOp, ho]; exact exec_val h1, h2⟩
    · exact nomatch h
  · rename_i T x ho
    simp only [Option.bind_eq_some_iff] at h
    obtain ⟨p, hp, cs, hcs, hv⟩ := h
    obtain ⟨b, o', hpu, hc⟩ := cellsAt_rep hr (opd_rep hs hp) hcs
    obtain ⟨u, h1, h2⟩ := load_rep hv b o' hc
    exact ⟨u, by rw [execOp, ho]; refine exec_val ?_; rw [Instr.loadAt, hpu]; exact h1, h2⟩
  · rename_i x ho
    simp only [Option.bind_eq_some_iff] at h
    obtain ⟨p, hp, h⟩ := h
    have hpr := opd_rep hs hp
    split at h
    · cases h
      refine ⟨a.eval x, ?_, hpr⟩
      rw [execOp, ho]
      generalize hux : a.eval x = ux at *
      cases hpr with
      | ptrB => simp only [hux]; rfl
      | ptrA => simp only [hux]; rfl
    · cases h
      refine ⟨a.eval x, ?_, hpr⟩
      rw [execOp, ho]
      generalize hux : a.eval x = ux at *
      cases hpr with
      | rptr => simp only [hux]; rfl
    · exact nomatch h
  · rename_i op T x y yT ho
    simp only [Option.bind_eq_some_iff] at h
    obtain ⟨x', hx, y', hy, h⟩ := h
    obtain ⟨u, h1, h2⟩ := bin_rep (P := P) x y h (opd_rep hs hx) (opd_rep hs hy)
    exact ⟨u, by rw [execOp, ho]; exact exec_val h1, h2⟩
  · rename_i op T x ho
    simp only [Option.bind_eq_some_iff] at h
    obtain ⟨x', hx, h⟩ := h
    obtain ⟨u, h1, h2⟩ := un_rep (P := P) h (opd_rep hs hx)
    exact ⟨u, by rw [execOp, ho]; exact exec_val h1, h2⟩
  · rename_i src dst x ho
    simp only [Option.bind_eq_some_iff] at h
    obtain ⟨x', hx, h⟩ := h
    cases hb : (bytesT P src && isStr P dst) <;> simp only [hb, cond_true, cond_false] at h
    rotate_left
    · simp only [Bool.and_eq_true] at hb
      rw [Option.bind_eq_some_iff] at h
      obtain ⟨⟨d, xs⟩, hl, h⟩ := h
      cases h
      obtain ⟨u, h1, h2⟩ := bytes_conv hr hb.1 hb.2 hl (opd_rep hs hx)
      exact ⟨u, by rw [execOp, ho]; exact exec_val h1, h2⟩
    obtain ⟨u, h1, h2⟩ := conv_rep h (opd_rep hs hx)
    exact ⟨u, by rw [execOp, ho]; exact exec_val h1, h2⟩
  · rename_i fn first cap ho
    simp only [Option.bind_eq_some_iff, Option.some.injEq] at h
    obtain ⟨as, has, bs, hbs, rfl⟩ := h
    obtain ⟨g1, g2⟩ := fn_slots hs has
    obtain ⟨g3, g4⟩ := fn_slots hs hbs
    exact ⟨_, by rw [execOp, ho]; rfl, .fn _ _ _ _ _ g1 g2 g3 g4⟩
  · rename_i T x lo hi ho
    simp only [Option.bind_eq_some_iff] at h
    obtain ⟨x', hx, lo', hlo, hi', hhi, h⟩ := h
    obtain ⟨u, h1, h2⟩ := sliceSV_rep hr h (opd_rep hs hx) (optO_rep hs hlo) (optO_rep hs hhi)
    exact ⟨u, by rw [execOp, ho]; exact exec_val h1, h2⟩
  · rename_i T x f ho
    simp only [Option.bind_eq_some_iff] at h
    obtain ⟨x', hx, fd, hfd, h⟩ := h
    have hxr := opd_rep hs hx
    split at h
    · rename_i d0 cs0
      cases h
      generalize hux : a.eval x = ux at *
      cases hxr with
      | rptr _ _ b o vs h1 h2 =>
        refine ⟨.pointer (some ⟨b, o + fd.offset, none⟩), by rw [execOp, ho]; refine exec_val ?_; rw [hux]; exact fieldAddr_rep hfd, ?_⟩
        refine .rptr d0 _ b _ (fun j => vs (fd.offset + j)) (fun j r hj => ?_) fun j r hj => ?_
        · rw [List.getElem?_drop] at hj
          rw [Nat.add_assoc]; exact h1 _ _ hj
        · rw [List.getElem?_drop] at hj
          exact h2 _ _ hj
    · rename_i i0 k0 o0
      cases h
      generalize hux : a.eval x = ux at *
      cases hxr with
      | ptrB _ _ cs b k hl hh =>
        refine ⟨.pointer (some ⟨b, k + o0 + fd.offset, none⟩), by rw [execOp, ho]; refine exec_val ?_; rw [hux]; exact fieldAddr_rep hfd, ?_⟩
        rw [Nat.add_assoc]
        exact .ptrB i0 (o0 + fd.offset) cs b k hl hh
      | ptrA _ _ _ sh t xs b k n cap hl hlt hh =>
        refine ⟨.pointer (some ⟨b, k + (k0 * t.sz + o0) + fd.offset, none⟩), by rw [execOp, ho]; refine exec_val ?_; rw [hux]; exact fieldAddr_rep hfd, ?_⟩
        rw [show k + (k0 * t.sz + o0) + fd.offset = k + (k0 * t.sz + (o0 + fd.offset)) from by omega]
        exact .ptrA i0 k0 (o0 + fd.offset) sh t xs b k n cap hl hlt hh
    · exact nomatch h
  · rename_i T x f ho
    simp only [Option.bind_eq_some_iff] at h
    obtain ⟨x', hx, fd, hfd, h⟩ := h
    have hxr := opd_rep hs hx
    split at h
    · rename_i cs0
      generalize hux : a.eval x = ux at *
      cases hxr with
      | agg _ vs hl h1 h2 =>
        obtain ⟨z, e1, e2⟩ := field_rep hfd h (.agg cs0 vs hl h1 h2)
        exact ⟨z, by rw [execOp, ho]; refine exec_val ?_; rw [hux]; exact e1, e2⟩
    · exact nomatch h
  · rename_i T x k ho
    simp only [Option.bind_eq_some_iff] at h
    obtain ⟨x', hx, k', hk, n, hn, h⟩ := h
    obtain ⟨kk, hkk⟩ := asI_rep hn (opd_rep hs hk)
    obtain ⟨u, h1, h2⟩ := indexAddr_rep (kk := kk) hr h (opd_rep hs hx)
    exact ⟨u, by rw [execOp, ho]; refine exec_val ?_; rw [hkk]; exact h1, h2⟩
  · rename_i T x k ho
    simp only [Option.bind_eq_some_iff] at h
    obtain ⟨x', hx, k', hk, n, hn, h⟩ := h
    obtain ⟨kk, hkk⟩ := asI_rep hn (opd_rep hs hk)
    split at h
    · rename_i d l
      cases hT : isStr P T <;> simp only [hT, cond_true, cond_false, Option.bind_eq_some_iff, Option.some.injEq] at h
      · exact nomatch h
      · obtain ⟨c, hc, rfl⟩ := h
        exact ⟨.int .u8 c.toNat, by rw [execOp, ho]; refine exec_val ?_; rw [hkk, str_inv (opd_rep hs hx)]; exact index_rep hT hc, rep_int⟩
    · exact nomatch h
  · rename_i x k ho
    simp only [Option.bind_eq_some_iff] at h
    obtain ⟨x', hx, h⟩ := h
    have hxr := opd_rep hs hx
    split at h
    · generalize hux : a.eval x = ux at *
      cases hxr with
      | tup cs vs hl h2 =>
        have hlt : k < vs.size := by have := (List.getElem?_eq_some_iff.1 h).1; omega
        exact ⟨vs[k], by rw [execOp, ho]; refine exec_val ?_; rw [hux]; simp [Instr.extract, Array.getElem?_eq_getElem hlt], h2 _ _ _ h (Array.getElem?_eq_getElem hlt)⟩
    · exact nomatch h
  · rename_i args argTypes ho
    simp only [Option.bind_eq_some_iff] at h
    obtain ⟨vs, hvs, h⟩ := h
    split at h
    · rename_i v' T rest hT
      obtain ⟨x, hx, hv⟩ := opds_one hvs
      cases hlt : lenT P T v' <;> simp only [hlt, cond_true, cond_false, Option.bind_eq_some_iff, Option.some.injEq] at h
      · exact nomatch h
      · obtain ⟨n, hn, rfl⟩ := h
        have hvr := opd_rep hs hv
        have ha : args.map a.eval = #[a.eval x] := by rw [show args = #[x] from Array.ext' hx]; simp
        have hT0 : argTypes[0]? = some T := by rw [← Array.getElem?_toList, hT]; rfl
        refine ⟨.int .i64 n, ?_, rep_int⟩
        have hrun : (Builtin.len_ argTypes o.type #[a.eval x]).run P w = .ok (goInt n) w := by
          rcases lenOf_rep hr hn hvr with ⟨d, l, rfl, hl, rfl⟩ | ⟨hns, ad, cap, hl⟩
          · have hstr : P.underlying T = some .string := by
              unfold lenT at hlt
              simp only at hlt
              split at hlt
              · assumption
              · exact nomatch hlt
            have hsz : (⟨l.toArray⟩ : ByteArray).size = l.length := by show l.toArray.size = _; simp
            simp [Builtin.len_, hT0, und_of_info hstr, hl, hsz]
          · have hsl : ∃ e, P.underlying T = some (.slice e) := by
              unfold lenT at hlt
              split at hlt
              · exact (hns _ _ rfl).elim
              · split at hlt
                · rename_i e he; exact ⟨e, he⟩
                · exact nomatch hlt
            obtain ⟨e, he⟩ := hsl
            simp [Builtin.len_, hT0, und_of_info he, hl]
        rw [execOp, ho]
        simp only [resolve, ha, invoke, builtin, Sem.run_bind, Sem.run_pure, Result.andThen_ok, hrun]
        rfl
    · exact nomatch h
  · rename_i args argTypes ho
    simp only [Option.bind_eq_some_iff] at h
    obtain ⟨vs, hvs, h⟩ := h
    split at h
    · rename_i d1 k x d2 l y
      cases h
      obtain ⟨p, q, hpq, hp, hq⟩ := opds_two hvs
      have ha : args.map a.eval = #[.int k x, .int l y] := by rw [show args = #[p, q] from Array.ext' hpq]; simp [int_inv (opd_rep hs hp), int_inv (opd_rep hs hq)]
      refine ⟨_, ?_, rep_int⟩
      rw [execOp, ho]
      simp only [resolve, ha, invoke, builtin, Sem.run_bind, Sem.run_pure, Result.andThen_ok, Builtin.min_, List.foldlM_cons, List.foldlM_nil, Builtin.min2]
    · rename_i d1 k x d2 l y d3 m z
      cases h
      obtain ⟨p, q, r, hpq, hp, hq, hr'⟩ := opds_three hvs
      have ha : args.map a.eval = #[.int k x, .int l y, .int m z] := by
        rw [show args = #[p, q, r] from Array.ext' hpq]; simp [int_inv (opd_rep hs hp), int_inv (opd_rep hs hq), int_inv (opd_rep hs hr')]
      refine ⟨_, ?_, rep_int⟩
      rw [execOp, ho]
      simp only [resolve, ha, invoke, builtin, Sem.run_bind, Sem.run_pure, Result.andThen_ok, Builtin.min_, List.foldlM_cons, List.foldlM_nil, Builtin.min2]
    · exact nomatch h
  · rename_i args argTypes ho
    simp only [Option.bind_eq_some_iff] at h
    obtain ⟨vs, hvs, h⟩ := h
    split at h
    · rename_i d1 k x d2 l y
      cases h
      obtain ⟨p, q, hpq, hp, hq⟩ := opds_two hvs
      have ha : args.map a.eval = #[.int k x, .int l y] := by rw [show args = #[p, q] from Array.ext' hpq]; simp [int_inv (opd_rep hs hp), int_inv (opd_rep hs hq)]
      refine ⟨_, ?_, rep_int⟩
      rw [execOp, ho]
      simp only [resolve, ha, invoke, builtin, Sem.run_bind, Sem.run_pure, Result.andThen_ok, Builtin.max_, List.foldlM_cons, List.foldlM_nil, Builtin.max2]
    · exact nomatch h
  · exact nomatch h
end
end Go.Proofs.Ev
