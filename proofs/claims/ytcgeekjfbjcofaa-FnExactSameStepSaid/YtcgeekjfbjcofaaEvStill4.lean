/- Soundness of slicing and indexing. -/
import Derived.Test.YtcgeekjfbjcofaaEvStill3
set_option linter.unusedVariables false
set_option linter.unusedSimpArgs false
namespace Go.Proofs.Ev
section
variable {w : World} {H : Heap} {pl : Pl} {P : Program}
def optRep (w : World) (H : Heap) (pl : Pl) : Option SV → Option Value → Prop
  | none, none => True
  | some v, some u => SVRep w H pl v u
  | _, _ => False
theorem sliceBound_run {k : IntKind} {x : Int} {y : Nat} {c : BoundsCode} (h : 0 ≤ x ∧ x ≤ (y : Int)) : (Instr.sliceBound (.int k x) y c).run P w = .ok x.toNat w := by
  simp [Instr.sliceBound, asIntOf, h]
theorem bounds_rep {n cap : Nat} {lo hi : Option SV} {l h : Nat} {ulo uhi : Option Value} (hb : bounds n lo hi = some (l, h)) (hcap : n ≤ cap)
    (h1 : optRep w H pl lo ulo) (h2 : optRep w H pl hi uhi) (isS : Bool) : (Instr.sliceBounds isS n cap ulo uhi none).run P w = .ok (l, h, cap) w ∧ l ≤ h ∧ h ≤ n := by
  simp only [bounds, Option.bind_eq_some_iff, Option.some.injEq, Prod.mk.injEq] at hb
  obtain ⟨h', hh, l', hl, rfl, rfl⟩ := hb
  have key : ∀ (v : SV) (u : Value) (y m : Nat), SVRep w H pl v u → (v.asI.bind fun x => cond (decide (0 ≤ x ∧ x ≤ (y : Int))) (some x.toNat) none) = some m →
      ∃ k x, u = .int k x ∧ (0 ≤ x ∧ x ≤ (y : Int)) ∧ m = x.toNat := fun v u y m hv hh => by
    simp only [Option.bind_eq_some_iff] at hh
    obtain ⟨x, hx, hc⟩ := hh
    obtain ⟨k, rfl⟩ := asI_rep hx hv
    by_cases hd : 0 ≤ x ∧ x ≤ (y : Int)
    · simp only [hd, and_self, decide_true, cond_true, Option.some.injEq] at hc
      exact ⟨k, x, rfl, hd, hc.symm⟩
    · simp [hd] at hc
  match hi, uhi, h2, hh with
  | none, none, _, hh =>
    cases hh
    match lo, ulo, h1, hl with
    | none, none, _, hl => cases hl; exact ⟨by simp [Instr.sliceBounds], by omega, by omega⟩
    | some v, some u, h1, hl =>
      obtain ⟨k, x, rfl, hx, rfl⟩ := key v u _ _ h1 hl
      exact ⟨by simp [Instr.sliceBounds, sliceBound_run hx], by omega, by omega⟩
  | some v', some u', h2, hh =>
    obtain ⟨k', x', rfl, hx', rfl⟩ := key v' u' _ _ h2 hh
    have hx2 : 0 ≤ x' ∧ x' ≤ (cap : Int) := by omega
    match lo, ulo, h1, hl with
    | none, none, _, hl => cases hl; exact ⟨by simp [Instr.sliceBounds, sliceBound_run hx2], by omega, by omega⟩
    | some v, some u, h1, hl =>
      obtain ⟨k, x, rfl, hx, rfl⟩ := key v u _ _ h1 hl
      exact ⟨by simp [Instr.sliceBounds, sliceBound_run hx2, sliceBound_run hx], by omega, by omega⟩
theorem slT_run {T : TypeId} {t : Ty} (h : slT P T t = true) : ∃ e i, P.underlying T = some (.slice e) ∧ P.info? e = some i ∧ i.size = t.sz := by
  unfold slT at h
  split at h
  · rename_i e hu
    split at h
    · rename_i n hn
      simp only [sizeT, Option.bind_eq_some_iff, Option.some.injEq] at hn
      obtain ⟨i, hi, rfl⟩ := hn
      exact ⟨e, i, hu, hi, Nat.eq_of_beq_eq_true h⟩
    · exact nomatch h
  · exact nomatch h
theorem isSl_run {T : TypeId} (h : isSl P T = true) : ∃ e i, P.underlying T = some (.slice e) ∧ P.info? e = some i := by
  unfold isSl at h
  split at h
  · rename_i e hu
    cases hi : P.info? e with
    | none => simp [sizeT, hi] at h
    | some i => exact ⟨e, i, hu, hi⟩
  · exact nomatch h
theorem isStr_run {T : TypeId} (h : isStr P T = true) : P.underlying T = some .string := by
  unfold isStr at h
  split at h
  · assumption
  · exact nomatch h
theorem slice_run {T e : TypeId} {i : TypeInfo} {a : Option Addr} {n cap l h : Nat} {ulo uhi : Option Value} (hu : P.underlying T = some (.slice e)) (hi : P.info? e = some i)
    (hb : (Instr.sliceBounds true n cap ulo uhi none).run P w = .ok (l, h, cap) w) :
    (Instr.sliceAt T (.slice a n cap) ulo uhi none).run P w = .ok (.slice (if cap = l then a else a.map (·.add (l * i.size))) (h - l) (cap - l)) w := by
  simp [Instr.sliceAt, und_of_info hu, Instr.slice, hb, run_sizeOf' hi]
theorem addr_add (b o n : Nat) : Addr.add ⟨b, o, none⟩ n = ⟨b, o + n, none⟩ := by
  unfold Addr.add; split
  · rename_i h0; rw [h0]; rfl
  · rfl
theorem cellIn_part {t : Ty} {xs : List t.El} {l h i j : Nat} {r : R} (hh : cellIn t ((xs.take h).drop l) i j r) : cellIn t xs (l + i) j r := by
  obtain ⟨x, hx, hr⟩ := hh
  refine ⟨x, ?_, hr⟩
  rw [List.getElem?_drop, List.getElem?_take] at hx
  split at hx
  · exact hx
  · exact nomatch hx
/-- A part of a read-only slice. -/
theorem RepR.part {ok : Cell → Prop} {t : Ty} {xs : List t.El} {a : Option Addr} {cap l h s : Nat} (hx : RepR w ok (.sl t xs) (.slice a xs.length cap)) (hs : s = t.sz) (h1 : l ≤ h) (h2 : h ≤ xs.length) :
    RepR w ok (.sl t ((xs.take h).drop l)) (.slice (if cap = l then a else a.map (·.add (l * s))) (h - l) (cap - l)) := by
  subst hs
  have hn : ((xs.take h).drop l).length = h - l := by simp; omega
  rw [← hn]
  cases hx with
  | sl _ _ _ _ b o vs hcap ha hc hr =>
    refine .sl t _ _ _ b (o + l * t.sz) (fun i j => vs (l + i) j) (by omega) ?_ (fun i j r hcell => ?_) fun i j r hcell => hr _ _ _ (cellIn_part hcell)
    · by_cases hl : l = h
      · exact .inl (List.length_eq_zero_iff.1 (by omega))
      · rcases ha with rfl | rfl
        · simp at h2; omega
        · refine .inr ?_
          rw [if_neg (by omega)]
          simp [addr_add]
    · have := hc _ _ _ (cellIn_part hcell)
      have e : o + l * t.sz + (i * t.sz + j) = o + ((l + i) * t.sz + j) := by rw [Nat.add_mul]; omega
      rw [e]; exact this
theorem sliceSV_rep (hr : HRel H pl w) {T : TypeId} {x v : SV} {lo hi : Option SV} {u : Value} {ulo uhi : Option Value} (h : sliceSV P T H x lo hi = some v)
    (hx : SVRep w H pl x u) (h1 : optRep w H pl lo ulo) (h2 : optRep w H pl hi uhi) :
    ∃ z, (Instr.sliceAt T u ulo uhi none).run P w = .ok z w ∧ SVRep w H pl v z := by
  cases hx with
  | r d x _ hx =>
    cases x with
    | str l =>
      cases hx
      simp only [sliceSV] at h
      cases hT : isStr P T <;> simp only [hT, cond_true, cond_false, Option.bind_eq_some_iff, Option.some.injEq] at h
      · exact nomatch h
      · obtain ⟨⟨lo', hi'⟩, hb, rfl⟩ := h
        obtain ⟨hb, hle, hle2⟩ := bounds_rep (P := P) hb (Nat.le_refl _) h1 h2 false
        refine ⟨_, ?_, rep_str⟩
        have hsz : (⟨l.toArray⟩ : ByteArray).size = l.length := by show l.toArray.size = _; simp
        have hex : (⟨l.toArray⟩ : ByteArray).extract lo' hi' = ⟨((l.take hi').drop lo').toArray⟩ := by
          apply ByteArray.ext
          rw [ByteArray.data_extract]
          simp [List.drop_take]
        simp [Instr.sliceAt, und_of_info (isStr_run hT), Instr.slice, hsz, hb, hex]
    | sl t xs =>
      simp only [sliceSV] at h
      cases hT : slT P T t <;> simp only [hT, cond_true, cond_false, Option.bind_eq_some_iff, Option.some.injEq] at h
      · exact nomatch h
      · obtain ⟨⟨lo', hi'⟩, hb, rfl⟩ := h
        obtain ⟨e, i, hu, hi, hsz⟩ := slT_run hT
        have hx0 := hx
        cases hx with
        | sl _ _ a cap b o vs hcap ha hc hr' =>
        obtain ⟨hb, hle, hle2⟩ := bounds_rep (P := P) hb hcap h1 h2 true
        exact ⟨_, slice_run hu hi hb, .r _ _ _ (hx0.part hsz hle hle2)⟩
    | _ => exact nomatch h
  | nilS =>
    simp only [sliceSV] at h
    cases hT : isSl P T <;> simp only [hT, cond_true, cond_false, Option.bind_eq_some_iff, Option.some.injEq] at h
    · exact nomatch h
    · obtain ⟨⟨lo', hi'⟩, hb, rfl⟩ := h
      obtain ⟨e, i, hu, hi⟩ := isSl_run hT
      obtain ⟨hb, hle, hle2⟩ := bounds_rep (P := P) hb (Nat.le_refl _) h1 h2 true
      refine ⟨_, slice_run hu hi hb, ?_⟩
      have : lo' = 0 := by omega
      subst this
      have : hi' = 0 := by omega
      subst this
      exact .nilS
  | own i sh t xs hl =>
    simp only [sliceSV, hl] at h
    cases hT : slT P T t <;> simp only [hT, cond_true, cond_false, Option.bind_eq_some_iff, Option.some.injEq] at h
    · exact nomatch h
    · obtain ⟨⟨lo', hi'⟩, hb, rfl⟩ := h
      obtain ⟨e, ti, hu, hi, hsz⟩ := slT_run hT
      obtain ⟨a, cap, b, o, hh, hcap, ha⟩ := arr_hdr hr hl
      obtain ⟨hb, hle, hle2⟩ := bounds_rep (P := P) hb hcap h1 h2 true
      rw [hh]
      refine ⟨_, slice_run hu hi hb, ?_⟩
      refine .sub i lo' (hi' - lo') sh t xs a _ cap (cap - lo') hl hh (by omega) (by omega) (by omega) ?_
      rw [hsz]
      by_cases hc : cap = lo'
      · exact .inl (by omega)
      · rw [if_neg hc]; exact .inr rfl
  | sub i o' n sh t xs a a' cap cap' hl hh hn hc hc' ha =>
    simp only [sliceSV, hl] at h
    cases hT : slT P T t <;> simp only [hT, cond_true, cond_false, Option.bind_eq_some_iff, Option.some.injEq] at h
    · exact nomatch h
    · obtain ⟨⟨lo', hi'⟩, hb, rfl⟩ := h
      obtain ⟨e, ti, hu, hi, hsz⟩ := slT_run hT
      obtain ⟨hb, hle, hle2⟩ := bounds_rep (P := P) hb hc h1 h2 true
      refine ⟨_, slice_run hu hi hb, ?_⟩
      refine .sub i (o' + lo') (hi' - lo') sh t xs a _ cap (cap' - lo') hl hh (by omega) (by omega) (by omega) ?_
      rw [hsz]
      by_cases hc2 : cap' = lo'
      · exact .inl (by omega)
      · rw [if_neg hc2]
        refine .inr ?_
        have ha := ha.resolve_left (by omega)
        subst ha
        cases a with
        | none => rfl
        | some ad =>
          simp only [Option.map_some, Option.some.injEq]
          unfold Addr.add
          by_cases z1 : o' * t.sz = 0 <;> by_cases z2 : lo' * t.sz = 0
          · simp [z1, z2, Nat.add_mul]
          · simp [z1, z2, Nat.add_mul]
          · simp [z1, z2, Nat.add_mul]
          · simp [z1, z2, Nat.add_mul]; omega
  | _ => exact nomatch h
theorem idx_spec {α : Type} {xs : List α} {k : Int} {e : α} (h : idx xs k = some e) : 0 ≤ k ∧ k.toNat < xs.length ∧ xs[k.toNat]? = some e := by
  unfold idx at h
  by_cases h0 : 0 ≤ k
  · simp only [h0, decide_true, cond_true] at h
    exact ⟨h0, (List.getElem?_eq_some_iff.1 h).1, h⟩
  · simp [h0] at h
theorem indexAt_run {T e : TypeId} {i : TypeInfo} {b o n cap : Nat} {k : Int} {kk : IntKind} (hu : P.underlying T = some (.slice e)) (hi : P.info? e = some i) (hk : 0 ≤ k ∧ k < (n : Int)) :
    (Instr.indexAt T (.slice (some ⟨b, o, none⟩) n cap) (.int kk k)).run P w = .ok (.pointer (some ⟨b, o + k.toNat * i.size, none⟩)) w := by
  simp [Instr.indexAt, asIntOf, und_of_info hu, hk, run_sizeOf' hi, addr_add]
theorem indexAddr_rep (hr : HRel H pl w) {T : TypeId} {x v : SV} {k : Int} {kk : IntKind} {u : Value} (h : indexAddrSV P T H x k = some v) (hx : SVRep w H pl x u) :
    ∃ z, (Instr.indexAt T u (.int kk k)).run P w = .ok z w ∧ SVRep w H pl v z := by
  cases hx with
  | r d x _ hx =>
    cases x with
    | sl t xs =>
      simp only [indexAddrSV] at h
      cases hT : slT P T t <;> simp only [hT, cond_true, cond_false, Option.bind_eq_some_iff, Option.some.injEq] at h
      · exact nomatch h
      · obtain ⟨el, hel, rfl⟩ := h
        obtain ⟨e, i, hu, hi, hsz⟩ := slT_run hT
        obtain ⟨h0, hlt, hget⟩ := idx_spec hel
        cases hx with
        | sl _ _ a cap b o vs hcap ha hc hr' =>
        have ha := ha.resolve_left (fun e => by subst e; simp at hlt)
        subst ha
        refine ⟨_, indexAt_run hu hi (by omega), ?_⟩
        rw [hsz]
        refine .rptr d _ b _ (fun j => vs k.toNat j) (fun j r hj => ?_) fun j r hj => hr' _ _ _ ⟨el, hget, hj⟩
        have := hc k.toNat j r ⟨el, hget, hj⟩
        rw [Nat.add_assoc]; exact this
    | _ => exact nomatch h
  | own i sh t xs hl =>
    simp only [indexAddrSV, hl] at h
    cases hT : slT P T t <;> simp only [hT, cond_true, cond_false] at h
    · exact nomatch h
    · by_cases hk : 0 ≤ k ∧ k < (xs.length : Int)
      · simp only [hk, and_self, decide_true, cond_true, Option.some.injEq] at h
        subst h
        obtain ⟨e, ti, hu, hi, hsz⟩ := slT_run hT
        obtain ⟨a, cap, b, o, hh, hcap, ha⟩ := arr_hdr hr hl
        have ha := ha.resolve_left (by omega)
        subst ha
        rw [hh]
        refine ⟨_, indexAt_run hu hi hk, ?_⟩
        rw [hsz]
        exact .ptrA i k.toNat 0 sh t xs b o _ cap hl (by omega) hh
      · simp [hk] at h
  | sub i o' n sh t xs a a' cap cap' hl hh hn hc hc' ha =>
    simp only [indexAddrSV, hl] at h
    cases hT : slT P T t <;> simp only [hT, cond_true, cond_false] at h
    · exact nomatch h
    · by_cases hk : 0 ≤ k ∧ k < (n : Int)
      · simp only [hk, and_self, decide_true, cond_true, Option.some.injEq] at h
        subst h
        obtain ⟨e, ti, hu, hi, hsz⟩ := slT_run hT
        obtain ⟨a2, cap2, b, o, hh2, hcap, ha2⟩ := arr_hdr hr hl
        rw [hh] at hh2; cases hh2
        have ha := ha.resolve_left (by omega)
        have ha2 := ha2.resolve_left (by omega)
        subst ha2
        simp only [Option.map_some, addr_add] at ha
        subst ha
        refine ⟨_, indexAt_run hu hi hk, ?_⟩
        rw [hsz]
        have := SVRep.ptrA (w := w) (pl := pl) i (o' + k.toNat) 0 sh t xs b o _ cap hl (by omega) hh
        rw [show o + o' * t.sz + k.toNat * t.sz = o + ((o' + k.toNat) * t.sz + 0) from by rw [Nat.add_mul]; omega]
        exact this
      · simp [hk] at h
  | bsl i n cs a hl hh =>
    simp only [indexAddrSV] at h
    cases he : elemT P T with
    | none => simp [he] at h
    | some e =>
      simp only [he, Option.bind_some] at h
      cases hs : sizeT P e with
      | none => simp [hs] at h
      | some sz =>
        simp only [hs, Option.bind_some] at h
        by_cases hk : 0 ≤ k ∧ k < (n : Int)
        · simp only [hk, and_self, decide_true, cond_true, Option.some.injEq] at h
          subst h
          obtain ⟨b, o, hb, _⟩ := hr.blk i _ hl
          rw [hh] at hb; cases hb
          have hu : P.underlying T = some (.slice e) := by
            unfold elemT at he
            split at he
            · rename_i e' hu; cases he; exact hu
            · exact nomatch he
          simp only [sizeT, Option.bind_eq_some_iff, Option.some.injEq] at hs
          obtain ⟨ti, hi, hsz⟩ := hs
          refine ⟨_, indexAt_run hu hi hk, ?_⟩
          rw [hsz]
          exact .ptrB i (k.toNat * sz) cs b o hl hh
        · simp [hk] at h
  | _ => exact nomatch h
theorem index_rep {T : TypeId} {l : List UInt8} {k : Int} {kk : IntKind} {c : UInt8} (hT : isStr P T = true) (h : idx l k = some c) :
    (Instr.index T (.string ⟨l.toArray⟩) (.int kk k)).run P w = .ok (.int .u8 c.toNat) w := by
  obtain ⟨h0, hlt, hget⟩ := idx_spec h
  have hsz : (⟨l.toArray⟩ : ByteArray).size = l.length := by show l.toArray.size = _; simp
  rw [run_index_string _ _ _ _ _ (isStr_run hT), dif_pos ⟨h0, by rw [hsz]; omega⟩]
  have : (⟨l.toArray⟩ : ByteArray)[k.toNat]'(by rw [hsz]; exact hlt) = c := by
    show l.toArray[k.toNat]'_ = c
    rw [List.getElem_toArray]
    have := List.getElem?_eq_getElem hlt
    rw [hget] at this; exact (Option.some.inj this).symm
  rw [this]
end
end Go.Proofs.Ev
