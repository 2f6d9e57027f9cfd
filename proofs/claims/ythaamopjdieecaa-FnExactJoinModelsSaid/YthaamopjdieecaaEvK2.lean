/- The evaluator over the model's code, and that it is sound: part 2. -/
import Derived.Test.YthaamopjdieecaaEvK1
import Derived.Laws.BytesArg
import Derived.ChangeFn
import Derived.Laws.IdiomCopy
import Derived.Laws.Rows
import Derived.Laws.AppendOwn
import Derived.Laws.MakeOwn
set_option linter.unusedVariables false
set_option linter.unusedSimpArgs false
namespace Go.Proofs.Ev
variable [Tok]
set_option linter.unusedSectionVars false
section
variable {w : World} {H : Heap} {pl : Pl} {P : Program}
def optRep (w : World) (H : Heap) (pl : Pl) : Option SV → Option Value → Prop
  | none, none => True
  | some v, some u => SVRep w H pl v u
  | _, _ => False
theorem sliceBound_run {k : IntKind} {x : Int} {y : Nat} {c : BoundsCode} (h : 0 ≤ x ∧ x ≤ (y : Int)) : (Instr.sliceBound (.int k x) y c).run P w = .ok x.toNat w := by
  simp [Instr.sliceBound, asIntOf, h]
theorem bounds_rep {n cap : Nat} {lo hi : Option SV} {l h : Nat} {ulo uhi : Option Value} (hb : bounds n lo hi = some (l, h)) (hcap : n ≤ cap)
    (h1 : optRep w H pl lo ulo) (h2 : optRep w H pl hi uhi) (isS : Bool) : (Instr.sliceBounds isS n cap ulo uhi none).run P w = .ok (l, h, cap) w ∧ l ≤ h ∧ h ≤ n := by
  simp only [bounds, Option.bind_eq_some_iff, Option.some.injEq, Prod.mk.injEq] at hb
  obtain ⟨h', hh, l', hl, rfl, rfl⟩ := hb
  have key : ∀ (v : SV) (u : Value) (y m : Nat), SVRep w H pl v u → (v.asI.bind fun x => cond (decide (0 ≤ x ∧ x ≤ (y : Int))) (some x.toNat) none) = some m →
      ∃ k x, u = .int k x ∧ (0 ≤ x ∧ x ≤ (y : Int)) ∧ m = x.toNat := fun v u y m hv hh => by
    simp only [Option.bind_eq_some_iff] at hh
    obtain ⟨x, hx, hc⟩ := hh
    obtain ⟨k, rfl⟩ := asI_rep hx hv
    by_cases hd : 0 ≤ x ∧ x ≤ (y : Int)
    · simp only [hd, and_self, decide_true, cond_true, Option.some.injEq] at hc
      exact ⟨k, x, rfl, hd, hc.symm⟩
    · simp [hd] at hc
  match hi, uhi, h2, hh with
  | none, none, _, hh =>
    cases hh
    match lo, ulo, h1, hl with
    | none, none, _, hl => cases hl; exact ⟨by simp [Instr.sliceBounds], by omega, by omega⟩
    | some v, some u, h1, hl =>
      obtain ⟨k, x, rfl, hx, rfl⟩ := key v u _ _ h1 hl
      exact ⟨by simp [Instr.sliceBounds, sliceBound_run hx], by omega, by omega⟩
  | some v', some u', h2, hh =>
    obtain ⟨k', x', rfl, hx', rfl⟩ := key v' u' _ _ h2 hh
    have hx2 : 0 ≤ x' ∧ x' ≤ (cap : Int) := by omega
    match lo, ulo, h1, hl with
    | none, none, _, hl => cases hl; exact ⟨by simp [Instr.sliceBounds, sliceBound_run hx2], by omega, by omega⟩
    | some v, some u, h1, hl =>
      obtain ⟨k, x, rfl, hx, rfl⟩ := key v u _ _ h1 hl
      exact ⟨by simp [Instr.sliceBounds, sliceBound_run hx2, sliceBound_run hx], by omega, by omega⟩
theorem slT_run {T : TypeId} {t : Ty} (h : slT P T t = true) : ∃ e i, P.underlying T = some (.slice e) ∧ P.info? e = some i ∧ i.size = t.sz := by
  unfold slT at h
  split at h
  · rename_i e hu
    split at h
    · rename_i n hn
      simp only [sizeT, Option.bind_eq_some_iff, Option.some.injEq] at hn
      obtain ⟨i, hi, rfl⟩ := hn
      exact ⟨e, i, hu, hi, Nat.eq_of_beq_eq_true h⟩
    · exact nomatch h
  · exact nomatch h
theorem isSl_run {T : TypeId} (h : isSl P T = true) : ∃ e i, P.underlying T = some (.slice e) ∧ P.info? e = some i := by
  unfold isSl at h
  split at h
  · rename_i e hu
    cases hi : P.info? e with
    | none => simp [sizeT, hi] at h
    | some i => exact ⟨e, i, hu, hi⟩
  · exact nomatch h
theorem isStr_run {T : TypeId} (h : isStr P T = true) : P.underlying T = some .string := by
  unfold isStr at h
  split at h
  · assumption
  · exact nomatch h
theorem slice_run {T e : TypeId} {i : TypeInfo} {a : Option Addr} {n cap l h : Nat} {ulo uhi : Option Value} (hu : P.underlying T = some (.slice e)) (hi : P.info? e = some i)
    (hb : (Instr.sliceBounds true n cap ulo uhi none).run P w = .ok (l, h, cap) w) :
    (Instr.sliceAt T (.slice a n cap) ulo uhi none).run P w = .ok (.slice (if cap = l then a else a.map (·.add (l * i.size))) (h - l) (cap - l)) w := by
  simp [Instr.sliceAt, und_of_info hu, Instr.slice, hb, run_sizeOf' hi]
theorem addr_add (b o n : Nat) : Addr.add ⟨b, o, none⟩ n = ⟨b, o + n, none⟩ := by
  unfold Addr.add; split
  · rename_i h0; rw [h0]; rfl
  · rfl
theorem cellIn_part {t : Ty} {xs : List t.El} {l h i j : Nat} {r : R} (hh : cellIn t ((xs.take h).drop l) i j r) : cellIn t xs (l + i) j r := by
  obtain ⟨x, hx, hr⟩ := hh
  refine ⟨x, ?_, hr⟩
  rw [List.getElem?_drop, List.getElem?_take] at hx
  split at hx
  · exact hx
  · exact nomatch hx
/-- A part of a read-only slice. -/
theorem RepR.part {ok : Cell → Prop} {t : Ty} {xs : List t.El} {a : Option Addr} {cap l h s : Nat} (hx : RepR w ok (.sl t xs) (.slice a xs.length cap)) (hs : s = t.sz) (h1 : l ≤ h) (h2 : h ≤ xs.length) :
    RepR w ok (.sl t ((xs.take h).drop l)) (.slice (if cap = l then a else a.map (·.add (l * s))) (h - l) (cap - l)) := by
  subst hs
  have hn : ((xs.take h).drop l).length = h - l := by simp; omega
  rw [← hn]
  cases hx with
  | sl _ _ _ _ b o vs hcap ha hc hr =>
    refine .sl t _ _ _ b (o + l * t.sz) (fun i j => vs (l + i) j) (by omega) ?_ (fun i j r hcell => ?_) fun i j r hcell => hr _ _ _ (cellIn_part hcell)
    · by_cases hl : l = h
      · exact .inl (List.length_eq_zero_iff.1 (by omega))
      · rcases ha with rfl | rfl
        · simp at h2; omega
        · refine .inr ?_
          rw [if_neg (by omega)]
          simp [addr_add]
    · have := hc _ _ _ (cellIn_part hcell)
      have e : o + l * t.sz + (i * t.sz + j) = o + ((l + i) * t.sz + j) := by rw [Nat.add_mul]; omega
      rw [e]; exact this
theorem sliceSV_rep (hr : HRel H pl w) {T : TypeId} {x v : SV} {lo hi : Option SV} {u : Value} {ulo uhi : Option Value} (h : sliceSV P T H x lo hi = some v)
    (hx : SVRep w H pl x u) (h1 : optRep w H pl lo ulo) (h2 : optRep w H pl hi uhi) :
    ∃ z, (Instr.sliceAt T u ulo uhi none).run P w = .ok z w ∧ SVRep w H pl v z := by
  cases hx with
  | r d x _ hx =>
    cases x with
    | str l =>
      cases hx
      simp only [sliceSV] at h
      cases hT : isStr P T <;> simp only [hT, cond_true, cond_false, Option.bind_eq_some_iff, Option.some.injEq] at h
      · exact nomatch h
      · obtain ⟨⟨lo', hi'⟩, hb, rfl⟩ := h
        obtain ⟨hb, hle, hle2⟩ := bounds_rep (P := P) hb (Nat.le_refl _) h1 h2 false
        refine ⟨_, ?_, rep_str⟩
        have hsz : (⟨l.toArray⟩ : ByteArray).size = l.length := by show l.toArray.size = _; simp
        have hex : (⟨l.toArray⟩ : ByteArray).extract lo' hi' = ⟨((l.take hi').drop lo').toArray⟩ := by
          apply ByteArray.ext
          rw [ByteArray.data_extract]
          simp [List.drop_take]
        simp [Instr.sliceAt, und_of_info (isStr_run hT), Instr.slice, hsz, hb, hex]
    | sl t xs =>
      simp only [sliceSV] at h
      cases hT : slT P T t <;> simp only [hT, cond_true, cond_false, Option.bind_eq_some_iff, Option.some.injEq] at h
      · exact nomatch h
      · obtain ⟨⟨lo', hi'⟩, hb, rfl⟩ := h
        obtain ⟨e, i, hu, hi, hsz⟩ := slT_run hT
        have hx0 := hx
        cases hx with
        | sl _ _ a cap b o vs hcap ha hc hr' =>
        obtain ⟨hb, hle, hle2⟩ := bounds_rep (P := P) hb hcap h1 h2 true
        exact ⟨_, slice_run hu hi hb, .r _ _ _ (hx0.part hsz hle hle2)⟩
    | _ => exact nomatch h
  | nilS =>
    simp only [sliceSV] at h
    cases hT : isSl P T <;> simp only [hT, cond_true, cond_false, Option.bind_eq_some_iff, Option.some.injEq] at h
    · exact nomatch h
    · obtain ⟨⟨lo', hi'⟩, hb, rfl⟩ := h
      obtain ⟨e, i, hu, hi⟩ := isSl_run hT
      obtain ⟨hb, hle, hle2⟩ := bounds_rep (P := P) hb (Nat.le_refl _) h1 h2 true
      refine ⟨_, slice_run hu hi hb, ?_⟩
      have : lo' = 0 := by omega
      subst this
      have : hi' = 0 := by omega
      subst this
      exact .nilS
  | own i sh t xs hl =>
    simp only [sliceSV, hl] at h
    cases hT : slT P T t <;> simp only [hT, cond_true, cond_false, Option.bind_eq_some_iff, Option.some.injEq] at h
    · exact nomatch h
    · obtain ⟨⟨lo', hi'⟩, hb, rfl⟩ := h
      obtain ⟨e, ti, hu, hi, hsz⟩ := slT_run hT
      obtain ⟨a, cap, b, o, hh, hcap, ha⟩ := arr_hdr hr hl
      obtain ⟨hb, hle, hle2⟩ := bounds_rep (P := P) hb hcap h1 h2 true
      rw [hh]
      refine ⟨_, slice_run hu hi hb, ?_⟩
      refine .sub i lo' (hi' - lo') sh t xs a _ cap (cap - lo') hl hh (by omega) (by omega) (by omega) ?_
      rw [hsz]
      by_cases hc : cap = lo'
      · exact .inl (by omega)
      · rw [if_neg hc]; exact .inr rfl
  | sub i o' n sh t xs a a' cap cap' hl hh hn hc hc' ha =>
    simp only [sliceSV, hl] at h
    cases hT : slT P T t <;> simp only [hT, cond_true, cond_false, Option.bind_eq_some_iff, Option.some.injEq] at h
    · exact nomatch h
    · obtain ⟨⟨lo', hi'⟩, hb, rfl⟩ := h
      obtain ⟨e, ti, hu, hi, hsz⟩ := slT_run hT
      obtain ⟨hb, hle, hle2⟩ := bounds_rep (P := P) hb hc h1 h2 true
      refine ⟨_, slice_run hu hi hb, ?_⟩
      refine .sub i (o' + lo') (hi' - lo') sh t xs a _ cap (cap' - lo') hl hh (by omega) (by omega) (by omega) ?_
      rw [hsz]
      by_cases hc2 : cap' = lo'
      · exact .inl (by omega)
      · rw [if_neg hc2]
        refine .inr ?_
        have ha := ha.resolve_left (by omega)
        subst ha
        cases a with
        | none => rfl
        | some ad =>
          simp only [Option.map_some, Option.some.injEq]
          unfold Addr.add
          by_cases z1 : o' * t.sz = 0 <;> by_cases z2 : lo' * t.sz = 0
          · simp [z1, z2, Nat.add_mul]
          · simp [z1, z2, Nat.add_mul]
          · simp [z1, z2, Nat.add_mul]
          · simp [z1, z2, Nat.add_mul]; omega
  | _ => exact nomatch h
theorem idx_spec {α : Type} {xs : List α} {k : Int} {e : α} (h : idx xs k = some e) : 0 ≤ k ∧ k.toNat < xs.length ∧ xs[k.toNat]? = some e := by
  unfold idx at h
  by_cases h0 : 0 ≤ k
  · simp only [h0, decide_true, cond_true] at h
    exact ⟨h0, (List.getElem?_eq_some_iff.1 h).1, h⟩
  · simp [h0] at h
theorem indexAt_run {T e : TypeId} {i : TypeInfo} {b o n cap : Nat} {k : Int} {kk : IntKind} (hu : P.underlying T = some (.slice e)) (hi : P.info? e = some i) (hk : 0 ≤ k ∧ k < (n : Int)) :
    (Instr.indexAt T (.slice (some ⟨b, o, none⟩) n cap) (.int kk k)).run P w = .ok (.pointer (some ⟨b, o + k.toNat * i.size, none⟩)) w := by
  simp [Instr.indexAt, asIntOf, und_of_info hu, hk, run_sizeOf' hi, addr_add]
theorem indexAddr_rep (hr : HRel H pl w) {T : TypeId} {x v : SV} {k : Int} {kk : IntKind} {u : Value} (h : indexAddrSV P T H x k = some v) (hx : SVRep w H pl x u) :
    ∃ z, (Instr.indexAt T u (.int kk k)).run P w = .ok z w ∧ SVRep w H pl v z := by
  cases hx with
  | r d x _ hx =>
    cases x with
    | sl t xs =>
      simp only [indexAddrSV] at h
      cases hT : slT P T t <;> simp only [hT, cond_true, cond_false, Option.bind_eq_some_iff, Option.some.injEq] at h
      · exact nomatch h
      · obtain ⟨el, hel, rfl⟩ := h
        obtain ⟨e, i, hu, hi, hsz⟩ := slT_run hT
        obtain ⟨h0, hlt, hget⟩ := idx_spec hel
        cases hx with
        | sl _ _ a cap b o vs hcap ha hc hr' =>
        have ha := ha.resolve_left (fun e => by subst e; simp at hlt)
        subst ha
        refine ⟨_, indexAt_run hu hi (by omega), ?_⟩
        rw [hsz]
        refine .rptr d _ b _ (fun j => vs k.toNat j) (fun j r hj => ?_) fun j r hj => hr' _ _ _ ⟨el, hget, hj⟩
        have := hc k.toNat j r ⟨el, hget, hj⟩
        rw [Nat.add_assoc]; exact this
    | _ => exact nomatch h
  | own i sh t xs hl =>
    simp only [indexAddrSV, hl] at h
    cases hT : slT P T t <;> simp only [hT, cond_true, cond_false] at h
    · exact nomatch h
    · by_cases hk : 0 ≤ k ∧ k < (xs.length : Int)
      · simp only [hk, and_self, decide_true, cond_true, Option.some.injEq] at h
        subst h
        obtain ⟨e, ti, hu, hi, hsz⟩ := slT_run hT
        obtain ⟨a, cap, b, o, hh, hcap, ha⟩ := arr_hdr hr hl
        have ha := ha.resolve_left (by omega)
        subst ha
        rw [hh]
        refine ⟨_, indexAt_run hu hi hk, ?_⟩
        rw [hsz]
        exact .ptrA i k.toNat 0 sh t xs b o _ cap hl (by omega) hh
      · simp [hk] at h
  | sub i o' n sh t xs a a' cap cap' hl hh hn hc hc' ha =>
    simp only [indexAddrSV, hl] at h
    cases hT : slT P T t <;> simp only [hT, cond_true, cond_false] at h
    · exact nomatch h
    · by_cases hk : 0 ≤ k ∧ k < (n : Int)
      · simp only [hk, and_self, decide_true, cond_true, Option.some.injEq] at h
        subst h
        obtain ⟨e, ti, hu, hi, hsz⟩ := slT_run hT
        obtain ⟨a2, cap2, b, o, hh2, hcap, ha2⟩ := arr_hdr hr hl
        rw [hh] at hh2; cases hh2
        have ha := ha.resolve_left (by omega)
        have ha2 := ha2.resolve_left (by omega)
        subst ha2
        simp only [Option.map_some, addr_add] at ha
        subst ha
        refine ⟨_, indexAt_run hu hi hk, ?_⟩
        rw [hsz]
        have := SVRep.ptrA (w := w) (pl := pl) i (o' + k.toNat) 0 sh t xs b o _ cap hl (by omega) hh
        rw [show o + o' * t.sz + k.toNat * t.sz = o + ((o' + k.toNat) * t.sz + 0) from by rw [Nat.add_mul]; omega]
        exact this
      · simp [hk] at h
  | bsl i n cs a hl hh =>
    simp only [indexAddrSV] at h
    cases he : elemT P T with
    | none => simp [he] at h
    | some e =>
      simp only [he, Option.bind_some] at h
      cases hs : sizeT P e with
      | none => simp [hs] at h
      | some sz =>
        simp only [hs, Option.bind_some] at h
        by_cases hk : 0 ≤ k ∧ k < (n : Int)
        · simp only [hk, and_self, decide_true, cond_true, Option.some.injEq] at h
          subst h
          obtain ⟨b, o, hb, _⟩ := hr.blk i _ hl
          rw [hh] at hb; cases hb
          have hu : P.underlying T = some (.slice e) := by
            unfold elemT at he
            split at he
            · rename_i e' hu; cases he; exact hu
            · exact nomatch he
          simp only [sizeT, Option.bind_eq_some_iff, Option.some.injEq] at hs
          obtain ⟨ti, hi, hsz⟩ := hs
          refine ⟨_, indexAt_run hu hi hk, ?_⟩
          rw [hsz]
          exact .ptrB i (k.toNat * sz) cs b o hl hh
        · simp [hk] at h
  | _ => exact nomatch h
theorem index_rep {T : TypeId} {l : List UInt8} {k : Int} {kk : IntKind} {c : UInt8} (hT : isStr P T = true) (h : idx l k = some c) :
    (Instr.index T (.string ⟨l.toArray⟩) (.int kk k)).run P w = .ok (.int .u8 c.toNat) w := by
  obtain ⟨h0, hlt, hget⟩ := idx_spec h
  have hsz : (⟨l.toArray⟩ : ByteArray).size = l.length := by show l.toArray.size = _; simp
  rw [run_index_string _ _ _ _ _ (isStr_run hT), dif_pos ⟨h0, by rw [hsz]; omega⟩]
  have : (⟨l.toArray⟩ : ByteArray)[k.toNat]'(by rw [hsz]; exact hlt) = c := by
    show l.toArray[k.toNat]'_ = c
    rw [List.getElem_toArray]
    have := List.getElem?_eq_getElem hlt
    rw [hget] at this; exact (Option.some.inj this).symm
  rw [this]
end
end Go.Proofs.Ev

namespace Go.Proofs.Ev
variable [Tok]
set_option linter.unusedSectionVars false
section
variable {w : World} {H : Heap} {pl : Pl} {P : Program}
theorem okd_mono {d d' : List Nat} (hd : ∀ i, mem i d = true → mem i d' = true) {p : Cell} (h : okd H pl d p) : okd H pl d' p :=
  ⟨h.1, fun i B hB hm hf => h.2 i B hB (fun h' => hm (hd i h')) hf⟩
theorem okd_own (hr : HRel H pl w) {i : Nat} {sh : Option (List Nat)} {t : Ty} {xs : List t.El} (hl : look H i = some (.arr sh t xs)) {d : List Nat} (hd : mem i d = true) {p : Cell} (h : pl.fp i p) : okd H pl d p := by
  refine ⟨hr.ob i _ p hl h, fun j B hB hm hf => ?_⟩
  have := hr.dis j i B _ p hB hl hf h
  subst this
  rw [hl] at hB; cases hB
  exact nomatch hm hd
theorem mem_append (i : Nat) (l l' : List Nat) : mem i (l ++ l') = (mem i l || mem i l') := by
  rw [Bool.eq_iff_iff]; simp [mem_iff]
/-- A part of an owned row, read only. -/
theorem own_repR (hr : HRel H pl w) {i : Nat} {sh : Option (List Nat)} {t : Ty} {xs : List t.El} (hl : look H i = some (.arr sh t xs)) {a a' : Option Addr} {cap cap' l n : Nat}
    (hh : pl.hdr i = .slice a xs.length cap) (hn : l + n ≤ xs.length) (hc : n ≤ cap') (hc' : l + cap' ≤ cap) (ha : cap' = 0 ∨ a' = a.map (·.add (l * t.sz))) :
    RepR w (okd H pl (i :: sh.getD [])) (.sl t ((xs.drop l).take n)) (.slice a' n cap') := by
  have hmi : mem i (i :: sh.getD []) = true := by simp [mem]
  have hlen : ((xs.drop l).take n).length = n := by simp; omega
  have hcell : ∀ x j r, cellIn t ((xs.drop l).take n) x j r → cellIn t xs (l + x) j r ∧ x < n := fun x j r ⟨e, h1, h2⟩ => by
    rw [List.getElem?_take] at h1
    split at h1
    · rw [List.getElem?_drop] at h1; exact ⟨⟨e, h1, h2⟩, by assumption⟩
    · exact nomatch h1
  have main : ∀ (R : ∃ inner : R → Value → (Cell → Prop) → Prop, (∀ r v f, inner r v f → (∀ p, f p → pl.fp i p) → RepR w (okd H pl (i :: sh.getD [])) r v) ∧ Nonempty (Row w inner t xs (pl.hdr i) (pl.fp i))),
      RepR w (okd H pl (i :: sh.getD [])) (.sl t ((xs.drop l).take n)) (.slice a' n cap') := fun ⟨inner, hin, ⟨R⟩⟩ => by
    obtain ⟨a2, cap2, b, o, vs, fs, q1, q2, q3, q4, q5, q6, q7, q8, q9⟩ := R
    rw [hh] at q1; cases q1
    conv => rhs; rw [← hlen]
    refine .sl t _ a' cap' b (o + l * t.sz) (fun x j => vs (l + x) j) (by omega) ?_ (fun x j r h => ?_) fun x j r h => ?_
    · by_cases h0 : n = 0
      · exact .inl (List.length_eq_zero_iff.1 (by omega))
      · have ha := ha.resolve_left (by omega)
        have q3 := q3.resolve_left (by omega)
        subst q3
        rw [ha, Option.map_some, addr_add]
        exact .inr rfl
    · obtain ⟨h1, h2⟩ := hcell x j r h
      have hlt := off_lt (cellIn_lt h1).1 (cellIn_lt h1).2 q2
      have e : o + l * t.sz + (x * t.sz + j) = o + ((l + x) * t.sz + j) := by rw [Nat.add_mul]; omega
      rw [e]
      exact ⟨okd_own hr hl hmi ((q9 _).2 (.inl ⟨rfl, by simp, by simp; omega⟩)), q5 _ _ _ h1⟩
    · obtain ⟨h1, h2⟩ := hcell x j r h
      exact hin _ _ _ (q6 _ _ _ h1) fun p hp => (q9 p).2 (.inr ⟨_, _, _, h1, hp⟩)
  have hb := hr.blk i _ hl
  cases sh with
  | none => exact main ⟨RepD w, fun r v f h hf => h.repR fun p hp => okd_own hr hl hmi (hf p hp), hb⟩
  | some d => exact main ⟨_, fun r v f h _ => h.1.frame fun p u hp hu => ⟨okd_mono (fun j hj => by simp only [Option.getD_some, mem]; cases Nat.beq i j <;> simp [hj]) hp, hu⟩, hb⟩
theorem list_rep (hr : HRel H pl w) {t : Ty} {v : SV} {u : Value} {d : List Nat} {xs : List t.El} (h : v.list H t = some (d, xs)) (hv : SVRep w H pl v u) :
    RepR w (okd H pl d) (.sl t xs) u ∧ ∃ a cap, u = .slice a xs.length cap := by
  cases hv with
  | r d' x _ hx =>
    simp only [SV.list, Option.bind_eq_some_iff, Option.some.injEq, Prod.mk.injEq] at h
    obtain ⟨ys, hy, rfl, rfl⟩ := h
    have := R.asL_spec hy
    subst this
    obtain ⟨a, cap, rfl, _⟩ := sl_inv (SVRep.r d' _ u hx)
    exact ⟨hx, a, cap, rfl⟩
  | nilS =>
    simp only [SV.list, Option.some.injEq, Prod.mk.injEq] at h
    obtain ⟨rfl, rfl⟩ := h
    exact ⟨.sl t [] none 0 0 0 (fun _ _ => undef) (Nat.le_refl _) (.inl rfl) (fun i j r hc => by have := (cellIn_lt hc).1; simp at this) (fun i j r hc => by have := (cellIn_lt hc).1; simp at this), none, 0, rfl⟩
  | own i sh t' ys hl =>
    simp only [SV.list, hl] at h
    split at h
    · rename_i e; subst e
      simp only [Option.some.injEq, Prod.mk.injEq] at h
      obtain ⟨rfl, rfl⟩ := h
      obtain ⟨a, cap, b, o, hh, hcap, ha⟩ := arr_hdr hr hl
      have := own_repR hr hl (a' := a) (cap' := cap) (l := 0) (n := ys.length) hh (by omega) hcap (by omega) (.inr (by cases a <;> simp [Addr.add]))
      simp only [List.drop_zero, List.take_length] at this
      rw [hh]
      exact ⟨this, a, cap, rfl⟩
    · exact nomatch h
  | sub i o n sh t' ys a a' cap cap' hl hh hn hc hc' ha =>
    simp only [SV.list, hl] at h
    split at h
    · rename_i e; subst e
      simp only [Option.some.injEq, Prod.mk.injEq] at h
      obtain ⟨rfl, rfl⟩ := h
      have hlen : ((ys.drop o).take n).length = n := by simp; omega
      exact ⟨own_repR hr hl hh hn hc (Nat.le_of_eq hc') ha, a', cap', by rw [hlen]⟩
    · exact nomatch h
  | _ => exact nomatch h
theorem list_repR (hr : HRel H pl w) {t : Ty} {v : SV} {u : Value} {d : List Nat} {xs : List t.El} (h : v.list H t = some (d, xs)) (hv : SVRep w H pl v u) :
    RepR w (okd H pl d) (.sl t xs) u := (list_rep hr h hv).1
theorem asR_rep (hr : HRel H pl w) {t : Ty} {v : SV} {u : Value} {d : List Nat} {r : R} (h : v.asR H t = some (d, r)) (hv : SVRep w H pl v u) : RepR w (okd H pl d) r u := by
  have plain : ∀ {v : SV}, SVRep w H pl v u → (match v with | .r d x => some (d, x) | _ => none : Option (List Nat × R)) = some (d, r) → RepR w (okd H pl d) r u := fun {v} hv h => by
    split at h
    · simp only [Option.some.injEq, Prod.mk.injEq] at h
      obtain ⟨rfl, rfl⟩ := h
      cases hv with
      | r _ _ _ hx => exact hx
    · exact nomatch h
  cases t with
  | sl t' =>
    simp only [SV.asR, Option.bind_eq_some_iff, Option.some.injEq, Prod.mk.injEq] at h
    obtain ⟨⟨d', xs⟩, h1, rfl, rfl⟩ := h
    exact (list_rep hr h1 hv).1
  | st s => exact nomatch h
  | int k => exact plain hv h
  | bool => exact plain hv h
  | str => exact plain hv h
  | tok =>
    simp only [SV.asR] at h
    split at h
    · simp only [Option.some.injEq, Prod.mk.injEq] at h
      obtain ⟨rfl, rfl⟩ := h
      cases hv with
      | r _ _ _ hx => exact hx
    · simp only [Option.some.injEq, Prod.mk.injEq] at h
      obtain ⟨rfl, rfl⟩ := h
      cases hv with
      | nilS => rw [← Tok.nil_env]; exact .tok 0
    · exact nomatch h
theorem asRs_rep (hr : HRel H pl w) : ∀ {ts : List Ty} {vs : List SV} {us : List Value} {d : List Nat} {rs : List R}, asRs H ts vs = some (d, rs) → vs.length = us.length →
    (∀ (j : Nat) (x : SV) (u : Value), vs[j]? = some x → us[j]? = some u → SVRep w H pl x u) →
    rs.length = us.length ∧ ∀ (j : Nat) (r : R) (u : Value), rs[j]? = some r → us[j]? = some u → RepR w (okd H pl d) r u
  | [], [], us, d, rs, h, hl, _ => by cases h; exact ⟨hl, fun j r u hr _ => by simp at hr⟩
  | t :: ts, v :: vs, u :: us, d, rs, h, hl, hp => by
    simp only [asRs, Option.bind_eq_some_iff, Option.some.injEq, Prod.mk.injEq] at h
    obtain ⟨⟨d1, r1⟩, h1, ⟨d2, rs2⟩, h2, rfl, rfl⟩ := h
    obtain ⟨g1, g2⟩ := asRs_rep hr h2 (by simpa using hl) fun j x u hx hu => hp (j + 1) x u (by simpa using hx) (by simpa using hu)
    refine ⟨by simp [g1], fun j r u' hj hu => ?_⟩
    cases j with
    | zero =>
      simp at hj hu; subst hj hu
      exact (asR_rep hr h1 (hp 0 v u rfl rfl)).frame fun p u hp hu => ⟨okd_mono (fun i hi => by rw [mem_append, hi]; rfl) hp, hu⟩
    | succ j => exact (g2 j r u' (by simpa using hj) (by simpa using hu)).frame fun p u hp hu => ⟨okd_mono (fun i hi => by rw [mem_append, hi, Bool.or_true]) hp, hu⟩
  | [], _ :: _, _, _, _, h, _, _ => nomatch h
  | _ :: _, [], _, _, _, h, _, _ => nomatch h
end
end Go.Proofs.Ev

namespace Go.Proofs.Ev
variable [Tok]
set_option linter.unusedSectionVars false
section
variable {w : World} {H : Heap} {pl : Pl} {P : Program}
/-- Cells and their values. -/
structure CRep (w : World) (H : Heap) (pl : Pl) (cs : List SV) (us : Array Value) : Prop where
  hl : cs.length = us.size
  h1 : ∀ (j : Nat) (v : Value), us[j]? = some v → one v = true
  h : ∀ (j : Nat) (x : SV) (v : Value), cs[j]? = some x → us[j]? = some v → SVRep w H pl x v
theorem CRep.agg {cs : List SV} {us : Array Value} (h : CRep w H pl cs us) : SVRep w H pl (.agg cs) (.agg us) := .agg _ _ h.hl h.h1 h.h
theorem SVRep.cells {v : SV} {u : Value} {cs : List SV} (h : SVRep w H pl v u) (hc : v.cells = some cs) (hr : HRel H pl w) : CRep w H pl cs u.cells := by
  have single : ∀ {v : SV} {u : Value}, SVRep w H pl v u → one u = true → CRep w H pl [v] #[u] := fun {v u} h h1 =>
    ⟨rfl, fun j x hx => by cases j with
      | zero => simp at hx; subst hx; exact h1
      | succ j => simp at hx, fun j x y hx hy => by cases j with
      | zero => simp at hx hy; subst hx hy; exact h
      | succ j => simp at hx⟩
  cases h with
  | agg cs' vs hl h1 h => cases hc; exact ⟨hl, h1, h⟩
  | tup => exact nomatch hc
  | undef => exact nomatch hc
  | r d x v hx =>
    cases hc
    have h1 := hx.isOne
    have e : u.cells = #[u] := by clear hx; cases u <;> first | rfl | exact nomatch h1
    rw [e]
    exact single (.r _ _ _ hx) h1
  | nilS => cases hc; exact single .nilS rfl
  | nilP => cases hc; exact single .nilP rfl
  | own i sh t xs hl =>
    cases hc
    obtain ⟨a, cap, b, o, hh, _⟩ := arr_hdr hr hl
    have := SVRep.own (w := w) (pl := pl) i sh t xs hl
    rw [hh] at this ⊢
    exact single this rfl
  | sub i o n sh t xs a a' cap cap' hl hh hn hc' hcc ha => cases hc; exact single (.sub i o n sh t xs a a' cap cap' hl hh hn hc' hcc ha) rfl
  | bsl i n cs a hl hh => cases hc; exact single (.bsl i n cs a hl hh) rfl
  | ptrB i o cs b k hl hh => cases hc; exact single (.ptrB i o cs b k hl hh) rfl
  | ptrA i x o sh t xs b k n cap hl hx hh => cases hc; exact single (.ptrA i x o sh t xs b k n cap hl hx hh) rfl
  | inn i x c sh t xs b k n cap v hl hx hc' hh hok hv h1 =>
    cases hc
    rw [show u.cells = #[u] from by cases u <;> first | rfl | exact nomatch h1]
    exact single (.inn i x c sh t xs b k n cap _ hl hx hc' hh hok hv h1) h1
  | rptr d cs b o vs h1 h2 => cases hc; exact single (.rptr d cs b o vs h1 h2) rfl
  | fn f as bs us vs hl h hl' h' => cases hc; exact single (.fn f as bs us vs hl h hl' h') rfl
theorem fold_set (off : Nat) : ∀ (l : List Value) (k : Nat) (cells : Array Value),
    ((l.zipIdx k).foldl (fun (cs : Array Value) (p : Value × Nat) => cs.setIfInBounds (off + p.2) p.1) cells).size = cells.size ∧
    ∀ m, m < cells.size → ((l.zipIdx k).foldl (fun (cs : Array Value) (p : Value × Nat) => cs.setIfInBounds (off + p.2) p.1) cells)[m]? =
      if off + k ≤ m ∧ m < off + k + l.length then l[m - (off + k)]? else cells[m]?
  | [], k, cells => ⟨rfl, fun m _ => by simp only [List.zipIdx_nil, List.foldl_nil, List.length_nil]; rw [if_neg (by omega)]⟩
  | v :: l, k, cells => by
    rw [List.zipIdx_cons, List.foldl_cons]
    obtain ⟨h1, h2⟩ := fold_set off l (k + 1) (cells.setIfInBounds (off + k) v)
    refine ⟨by rw [h1]; simp, fun m hm => ?_⟩
    rw [h2 m (by simpa using hm)]
    simp only [List.length_cons]
    by_cases hk : m = off + k
    · subst hk
      rw [if_neg (by omega), if_pos (by omega), Array.getElem?_setIfInBounds_self_of_lt hm]; simp
    · rw [Array.getElem?_setIfInBounds_ne (by omega)]
      by_cases hk2 : off + (k + 1) ≤ m ∧ m < off + (k + 1) + l.length
      · rw [if_pos hk2, if_pos (by omega), show m - (off + k) = (m - (off + (k + 1))) + 1 from by omega]; rfl
      · rw [if_neg hk2, if_neg (by omega)]
theorem fill_rep (hr : HRel H pl w) {places : Nat → Option (Nat × Nat)} : ∀ (parts : List (Nat × SV)) (vparts : List (Nat × Value)) (cs cs' : List SV) (us : Array Value),
    CRep w H pl cs us → parts.length = vparts.length →
    (∀ (j k : Nat) (x : SV) (k' : Nat) (u : Value), parts[j]? = some (k, x) → vparts[j]? = some (k', u) → k = k' ∧ SVRep w H pl x u) →
    fillCs places cs parts = some cs' → ∃ us', Instr.fill places us vparts = some us' ∧ CRep w H pl cs' us'
  | [], [], cs, cs', us, hc, _, _, h => by cases h; exact ⟨us, rfl, hc⟩
  | (k, x) :: parts, (k', u) :: vparts, cs, cs', us, hc, hl, hp, h => by
    obtain ⟨rfl, hxu⟩ := hp 0 k x k' u rfl rfl
    simp only [fillCs, Option.bind_eq_some_iff] at h
    obtain ⟨⟨off, size⟩, hpl, vs, hvs, h⟩ := h
    simp only at h
    cases h1 : Nat.beq vs.length size <;> simp only [h1, cond_true, cond_false] at h
    · exact nomatch h
    · cases h2 : Nat.ble (off + vs.length) cs.length <;> simp only [h2, cond_true, cond_false] at h
      · exact nomatch h
      · have h1 := Nat.eq_of_beq_eq_true h1
        have h2 := Nat.le_of_ble_eq_true h2
        have hcell := hxu.cells hvs hr
        obtain ⟨g1, g2⟩ := fold_set off u.cells.toList 0 us
        have hus : u.cells.zipIdx.foldl (fun (cs : Array Value) (p : Value × Nat) => cs.setIfInBounds (off + p.2) p.1) us =
            (u.cells.toList.zipIdx 0).foldl (fun (cs : Array Value) (p : Value × Nat) => cs.setIfInBounds (off + p.2) p.1) us := by
          rw [← Array.foldl_toList]; simp
        have hlen : u.cells.toList.length = vs.length := by simp [hcell.hl]
        have hcl := hc.hl
        have hget : ∀ m, (cs.take off ++ vs ++ cs.drop (off + vs.length))[m]? = if off ≤ m ∧ m < off + vs.length then vs[m - off]? else cs[m]? := fun m => by
          have hto : (cs.take off).length = off := by simp; omega
          by_cases c1 : m < off
          · rw [List.append_assoc, List.getElem?_append_left (by omega), List.getElem?_take, if_pos c1, if_neg (by omega)]
          · by_cases c2 : m < off + vs.length
            · rw [List.append_assoc, List.getElem?_append_right (by omega), List.getElem?_append_left (by omega), if_pos (by omega), hto]
            · rw [List.append_assoc, List.getElem?_append_right (by omega), List.getElem?_append_right (by omega), List.getElem?_drop, if_neg (by omega), hto,
                show off + vs.length + (m - off - vs.length) = m from by omega]
        have hc' : CRep w H pl (cs.take off ++ vs ++ cs.drop (off + vs.length)) (u.cells.zipIdx.foldl (fun (cs : Array Value) (p : Value × Nat) => cs.setIfInBounds (off + p.2) p.1) us) := by
          rw [hus]
          refine ⟨by rw [g1]; simp; omega, fun m v hv => ?_, fun m x v hx hv => ?_⟩
          · have hm : m < us.size := by have := (Array.getElem?_eq_some_iff.1 hv).1; omega
            rw [g2 m hm] at hv
            split at hv
            · exact hcell.h1 _ _ (by simpa using hv)
            · exact hc.h1 _ _ hv
          · have hm : m < us.size := by have := (Array.getElem?_eq_some_iff.1 hv).1; omega
            rw [g2 m hm] at hv
            rw [hget m] at hx
            simp only [hlen, Nat.add_zero] at hv
            split at hv
            · rename_i hif
              rw [if_pos hif] at hx
              exact hcell.h _ _ _ hx (by simpa using hv)
            · rename_i hif
              rw [if_neg hif] at hx
              exact hc.h _ _ _ hx hv
        obtain ⟨us', e1, e2⟩ := fill_rep hr parts vparts _ cs' _ hc' (by simpa using hl) (fun j k x k' u hx hu => hp (j + 1) k x k' u (by simpa using hx) (by simpa using hu)) h
        refine ⟨us', ?_, e2⟩
        rw [Instr.fill]
        simp only [hpl]
        have hz : u.cells.size = size := by rw [← hcell.hl]; exact h1
        rw [if_neg (by simp [hz]; omega)]
        exact e1
theorem zeroCs_rep (hr : HRel H pl w) {T : TypeId} {z : List SV} (h : zeroCs P T = some z) : ∃ u, (zeroValue T).run P w = .ok u w ∧ CRep w H pl z u.cells := by
  simp only [zeroCs, Option.bind_eq_some_iff] at h
  obtain ⟨i, hi, v, hv, x, hx, hc⟩ := h
  exact ⟨v, by simp [zeroValue, typeInfo, hi, hv], (constV_rep hx).cells hc hr⟩
theorem places_run {w : World} : ∀ {fs : List Field} {l : List (Nat × Nat)}, placesOf P fs = some l →
    (fs.mapM fun f => Prod.mk f.offset <$> sizeOf f.type : Sem (List (Nat × Nat))).run P w = .ok l w
  | [], l, h => by cases h; rfl
  | f :: fs, l, h => by
    simp only [placesOf, sizeT, Option.bind_eq_some_iff, Option.some.injEq] at h
    obtain ⟨s, ⟨i, hi, rfl⟩, l', hl', rfl⟩ := h
    rw [List.mapM_cons]
    simp [run_sizeOf' hi, places_run hl']
theorem partsO_rep {s : List (Nat × SV)} {a : Act} (hs : Slots w H pl s a) : ∀ {l : List (Nat × Operand)} {ps : List (Nat × SV)}, partsO s l = some ps →
    ps.length = l.length ∧ ∀ (j k : Nat) (x : SV) (k' : Nat) (u : Value), ps[j]? = some (k, x) → (l.map fun p => (p.1, a.eval p.2))[j]? = some (k', u) → k = k' ∧ SVRep w H pl x u
  | [], ps, h => by cases h; exact ⟨rfl, fun j k x k' u hx _ => by simp at hx⟩
  | (k0, o) :: l, ps, h => by
    simp only [partsO, Option.bind_eq_some_iff, Option.some.injEq] at h
    obtain ⟨v, hv, ps', hps, rfl⟩ := h
    obtain ⟨h1, h2⟩ := partsO_rep hs hps
    refine ⟨by simp [h1], fun j k x k' u hx hu => ?_⟩
    cases j with
    | zero => simp at hx hu; obtain ⟨rfl, rfl⟩ := hx; obtain ⟨rfl, rfl⟩ := hu; exact ⟨rfl, opd_rep hs hv⟩
    | succ j => exact h2 j k x k' u (by simpa using hx) (by simpa using hu)
theorem optO_rep {s : List (Nat × SV)} {a : Act} (hs : Slots w H pl s a) {o : Option Operand} {v : Option SV} (h : optO s o = some v) : optRep w H pl v (o.map a.eval) := by
  cases o with
  | none => cases h; trivial
  | some o =>
    simp only [optO, Option.bind_eq_some_iff, Option.some.injEq] at h
    obtain ⟨x, hx, rfl⟩ := h
    exact opd_rep hs hx
theorem build_rep (hr : HRel H pl w) {T : TypeId} {fs : Array Field} {l : List (Nat × Nat)} {z cs : List SV} {ps : List (Nat × SV)} {vps : Array (Nat × Value)}
    (hu : P.underlying T = some (.struct fs)) (hl : placesOf P fs.toList = some l) (hz : zeroCs P T = some z) (hc : fillCs (fun k => l[k]?) z ps = some cs) (hlen : ps.length = vps.toList.length)
    (hp : ∀ (j k : Nat) (x : SV) (k' : Nat) (u : Value), ps[j]? = some (k, x) → vps.toList[j]? = some (k', u) → k = k' ∧ SVRep w H pl x u) :
    ∃ u, (Instr.build T vps).run P w = .ok u w ∧ SVRep w H pl (.agg cs) u := by
  obtain ⟨zu, hzu, hzr⟩ := zeroCs_rep hr hz
  obtain ⟨us, h1, h2⟩ := fill_rep hr ps vps.toList z cs zu.cells hzr hlen hp hc
  refine ⟨.agg us, ?_, h2.agg⟩
  simp [Instr.build, hzu, und_of_info hu, Array.mapM_eq_mapM_toList, places_run hl, h1]
theorem bytes_conv (hr : HRel H pl w) {src dst : TypeId} {x : SV} {u : Value} {d : List Nat} {xs : List Int} (hb : bytesT P src = true) (hd : isStr P dst = true) (hl : x.list H (.int .u8) = some (d, xs)) (hx : SVRep w H pl x u) :
    ∃ z, (convert src dst u).run P w = .ok z w ∧ SVRep w H pl (.r [] (.str (bytesOf xs))) z := by
  obtain ⟨e, hs, he⟩ : ∃ e, P.underlying src = some (.slice e) ∧ P.underlying e = some (.int .u8) := by
    unfold bytesT at hb
    split at hb
    · rename_i e he
      split at hb
      · rename_i hu
        refine ⟨e, ?_, hu⟩
        unfold elemT at he
        split at he
        · rename_i e' hu'; cases he; exact hu'
        · exact nomatch he
      · exact nomatch hb
    · exact nomatch hb
  have hd' : P.underlying dst = some .string := by
    unfold isStr at hd
    split at hd
    · assumption
    · exact nomatch hd
  have hrep := (list_rep hr hl hx).1
  refine ⟨.string (strOfNums xs), ?_, .r _ _ _ (.str _)⟩
  cases hrep with
  | sl _ _ a cap b o vs hcap ha hc hrr =>
    rcases ha with rfl | rfl
    · cases a with
      | none => rw [run_convert_bytes_nil w src e hs he _ _ dst hd']; rfl
      | some A =>
        rw [run_convert_bytes_string w src dst e _ _ _ hs he hd']
        show (Conv.bytesToString (.slice (some A) 0 cap)).run P w = _
        rw [run_bytesToString w A 0 cap [] (by simpa using run_loadCells_list (P := P) w A [] (fun j v hj => by simp at hj))]
        rfl
    · refine run_convert_bytes_arg w src e hs he b o _ cap xs rfl (fun i hi => ?_) dst hd'
      have hcell : cellIn (.int .u8) xs i 0 (.int .u8 xs[i]) := ⟨xs[i], List.getElem?_eq_getElem hi, rfl⟩
      have h1 := (hc i 0 _ hcell).2
      have h2 := hrr i 0 _ hcell
      generalize vs i 0 = vv at h1 h2
      cases h2
      have : w.cell? ⟨b, o + (i * 1 + 0), none⟩ = some (.int .u8 xs[i]) := h1
      simpa [List.getD, List.getElem?_eq_getElem hi] using this
theorem fn_slots {s : List (Nat × SV)} {a : Act} (hs : Slots w H pl s a) {l : Array Operand} {vs : List SV} (h : opds s l.toList = some vs) :
    vs.length = (l.map a.eval).size ∧ ∀ (j : Nat) (x : SV) (u : Value), vs[j]? = some x → (l.map a.eval)[j]? = some u → SVRep w H pl x u := by
  obtain ⟨h1, h2⟩ := opds_rep hs h
  refine ⟨by simp [h1], fun j x u hx hu => h2 j x u hx ?_⟩
  rw [Array.getElem?_map] at hu
  simpa using hu
theorem opds_one {s : List (Nat × SV)} {l : List Operand} {v : SV} (h : opds s l = some [v]) : ∃ x, l = [x] ∧ opd s x = some v := by
  match l, h with
  | [x], h =>
    simp only [opds, Option.bind_eq_some_iff, Option.some.injEq] at h
    obtain ⟨v', hv, _, rfl, h⟩ := h
    cases h; exact ⟨x, rfl, hv⟩
  | x :: y :: l, h =>
    simp only [opds, Option.bind_eq_some_iff, Option.some.injEq] at h
    obtain ⟨v', hv, _, ⟨_, _, _, _, rfl⟩, h⟩ := h
    cases h
theorem opds_two {s : List (Nat × SV)} {l : List Operand} {u v : SV} (h : opds s l = some [u, v]) : ∃ x y, l = [x, y] ∧ opd s x = some u ∧ opd s y = some v := by
  match l, h with
  | x :: l, h =>
    simp only [opds, Option.bind_eq_some_iff, Option.some.injEq] at h
    obtain ⟨v', hv, vs, hvs, h⟩ := h
    cases h
    obtain ⟨y, rfl, hy⟩ := opds_one hvs
    exact ⟨x, y, rfl, hv, hy⟩
theorem opds_three {s : List (Nat × SV)} {l : List Operand} {u v z : SV} (h : opds s l = some [u, v, z]) : ∃ x y q, l = [x, y, q] ∧ opd s x = some u ∧ opd s y = some v ∧ opd s q = some z := by
  match l, h with
  | x :: l, h =>
    simp only [opds, Option.bind_eq_some_iff, Option.some.injEq] at h
    obtain ⟨v', hv, vs, hvs, h⟩ := h
    cases h
    obtain ⟨y, q, rfl, hy, hq⟩ := opds_two hvs
    exact ⟨x, y, q, rfl, hv, hy, hq⟩
theorem exec_val {s : Sem Value} {u : Value} (h : s.run P w = .ok u w) : (do pure (Next.value (← s)) : Sem Next).run P w = .ok (.value u) w := by simp [h]
/-- The operations that neither write nor make memory. -/
theorem evStill_sound {s : List (Nat × SV)} {op : Op} {v : SV} {a : Act} (hr : HRel H pl w) (hs : Slots w H pl s a) (h : evStill P s H op = some v) (o : Oper) (ho : o.op = op) :
    ∃ u, (execOp a.eval o).run P w = .ok (.value u) w ∧ SVRep w H pl v u := by
  subst ho
  unfold evStill at h
  split at h
  · rename_i x ho; exact ⟨_, by rw [execOp, ho]; rfl, opd_rep hs h⟩
  · rename_i x ho; exact ⟨_, by rw [execOp, ho]; rfl, opd_rep hs h⟩
  · rename_i c x y ho
    simp only [Option.bind_eq_some_iff] at h
    obtain ⟨cv, hc, b, hb, h⟩ := h
    have hcv := asB_rep hb (opd_rep hs hc)
    cases b
    · exact ⟨_, by rw [execOp, ho]; simp [asBool, hcv], opd_rep hs h⟩
    · exact ⟨_, by rw [execOp, ho]; simp [asBool, hcv], opd_rep hs h⟩
  · rename_i T parts ho
    split at h
    · rename_i fs hu
      simp only [Option.bind_eq_some_iff, Option.some.injEq] at h
      obtain ⟨l, hl, z, hz, ps, hps, cs, hcs, rfl⟩ := h
      obtain ⟨g1, g2⟩ := partsO_rep hs hps
      obtain ⟨u, h1, h2⟩ := build_rep (P := P) (vps := parts.map fun p => (p.1, a.eval p.2)) hr hu hl hz hcs (by simp [g1]) (fun j k x k' u hx hu => g2 j k x k' u hx (by simpa using hu))
      exact ⟨u, by rw [execOp, ho]; exact exec_val h1, h2⟩
    · exact nomatch h
  · rename_i T x ho
    simp only [Option.bind_eq_some_iff] at h
    obtain ⟨p, hp, cs, hcs, hv⟩ := h
    obtain ⟨b, o', hpu, hc⟩ := cellsAt_rep hr (opd_rep hs hp) hcs
    obtain ⟨u, h1, h2⟩ := load_rep hv b o' hc
    exact ⟨u, by rw [execOp, ho]; refine exec_val ?_; rw [Instr.loadAt, hpu]; exact h1, h2⟩
  · rename_i x ho
    simp only [Option.bind_eq_some_iff] at h
    obtain ⟨p, hp, h⟩ := h
    have hpr := opd_rep hs hp
    split at h
    · cases h
      refine ⟨a.eval x, ?_, hpr⟩
      rw [execOp, ho]
      generalize hux : a.eval x = ux at *
      cases hpr with
      | ptrB => simp only [hux]; rfl
      | ptrA => simp only [hux]; rfl
    · cases h
      refine ⟨a.eval x, ?_, hpr⟩
      rw [execOp, ho]
      generalize hux : a.eval x = ux at *
      cases hpr with
      | rptr => simp only [hux]; rfl
    · exact nomatch h
  · rename_i op T x y yT ho
    simp only [Option.bind_eq_some_iff] at h
    obtain ⟨x', hx, y', hy, h⟩ := h
    obtain ⟨u, h1, h2⟩ := bin_rep (P := P) x y h (opd_rep hs hx) (opd_rep hs hy)
    exact ⟨u, by rw [execOp, ho]; exact exec_val h1, h2⟩
  · rename_i op T x ho
    simp only [Option.bind_eq_some_iff] at h
    obtain ⟨x', hx, h⟩ := h
    obtain ⟨u, h1, h2⟩ := un_rep (P := P) h (opd_rep hs hx)
    exact ⟨u, by rw [execOp, ho]; exact exec_val h1, h2⟩
  · rename_i src dst x ho
    simp only [Option.bind_eq_some_iff] at h
    obtain ⟨x', hx, h⟩ := h
    cases hb : (bytesT P src && isStr P dst) <;> simp only [hb, cond_true, cond_false] at h
    rotate_left
    · simp only [Bool.and_eq_true] at hb
      rw [Option.bind_eq_some_iff] at h
      obtain ⟨⟨d, xs⟩, hl, h⟩ := h
      cases h
      obtain ⟨u, h1, h2⟩ := bytes_conv hr hb.1 hb.2 hl (opd_rep hs hx)
      exact ⟨u, by rw [execOp, ho]; exact exec_val h1, h2⟩
    obtain ⟨u, h1, h2⟩ := conv_rep h (opd_rep hs hx)
    exact ⟨u, by rw [execOp, ho]; exact exec_val h1, h2⟩
  · rename_i fn first cap ho
    simp only [Option.bind_eq_some_iff, Option.some.injEq] at h
    obtain ⟨as, has, bs, hbs, rfl⟩ := h
    obtain ⟨g1, g2⟩ := fn_slots hs has
    obtain ⟨g3, g4⟩ := fn_slots hs hbs
    exact ⟨_, by rw [execOp, ho]; rfl, .fn _ _ _ _ _ g1 g2 g3 g4⟩
  · rename_i T x lo hi ho
    simp only [Option.bind_eq_some_iff] at h
    obtain ⟨x', hx, lo', hlo, hi', hhi, h⟩ := h
    obtain ⟨u, h1, h2⟩ := sliceSV_rep hr h (opd_rep hs hx) (optO_rep hs hlo) (optO_rep hs hhi)
    exact ⟨u, by rw [execOp, ho]; exact exec_val h1, h2⟩
  · rename_i T x f ho
    simp only [Option.bind_eq_some_iff] at h
    obtain ⟨x', hx, fd, hfd, h⟩ := h
    have hxr := opd_rep hs hx
    split at h
    · rename_i d0 cs0
      cases h
      generalize hux : a.eval x = ux at *
      cases hxr with
      | rptr _ _ b o vs h1 h2 =>
        refine ⟨.pointer (some ⟨b, o + fd.offset, none⟩), by rw [execOp, ho]; refine exec_val ?_; rw [hux]; exact fieldAddr_rep hfd, ?_⟩
        refine .rptr d0 _ b _ (fun j => vs (fd.offset + j)) (fun j r hj => ?_) fun j r hj => ?_
        · rw [List.getElem?_drop] at hj
          rw [Nat.add_assoc]; exact h1 _ _ hj
        · rw [List.getElem?_drop] at hj
          exact h2 _ _ hj
    · rename_i i0 k0 o0
      cases h
      generalize hux : a.eval x = ux at *
      cases hxr with
      | ptrB _ _ cs b k hl hh =>
        refine ⟨.pointer (some ⟨b, k + o0 + fd.offset, none⟩), by rw [execOp, ho]; refine exec_val ?_; rw [hux]; exact fieldAddr_rep hfd, ?_⟩
        rw [Nat.add_assoc]
        exact .ptrB i0 (o0 + fd.offset) cs b k hl hh
      | ptrA _ _ _ sh t xs b k n cap hl hlt hh =>
        refine ⟨.pointer (some ⟨b, k + (k0 * t.sz + o0) + fd.offset, none⟩), by rw [execOp, ho]; refine exec_val ?_; rw [hux]; exact fieldAddr_rep hfd, ?_⟩
        rw [show k + (k0 * t.sz + o0) + fd.offset = k + (k0 * t.sz + (o0 + fd.offset)) from by omega]
        exact .ptrA i0 k0 (o0 + fd.offset) sh t xs b k n cap hl hlt hh
    · exact nomatch h
  · rename_i T x f ho
    simp only [Option.bind_eq_some_iff] at h
    obtain ⟨x', hx, fd, hfd, h⟩ := h
    have hxr := opd_rep hs hx
    split at h
    · rename_i cs0
      generalize hux : a.eval x = ux at *
      cases hxr with
      | agg _ vs hl h1 h2 =>
        obtain ⟨z, e1, e2⟩ := field_rep hfd h (.agg cs0 vs hl h1 h2)
        exact ⟨z, by rw [execOp, ho]; refine exec_val ?_; rw [hux]; exact e1, e2⟩
    · exact nomatch h
  · rename_i T x k ho
    simp only [Option.bind_eq_some_iff] at h
    obtain ⟨x', hx, k', hk, n, hn, h⟩ := h
    obtain ⟨kk, hkk⟩ := asI_rep hn (opd_rep hs hk)
    obtain ⟨u, h1, h2⟩ := indexAddr_rep (kk := kk) hr h (opd_rep hs hx)
    exact ⟨u, by rw [execOp, ho]; refine exec_val ?_; rw [hkk]; exact h1, h2⟩
  · rename_i T x k ho
    simp only [Option.bind_eq_some_iff] at h
    obtain ⟨x', hx, k', hk, n, hn, h⟩ := h
    obtain ⟨kk, hkk⟩ := asI_rep hn (opd_rep hs hk)
    split at h
    · rename_i d l
      cases hT : isStr P T <;> simp only [hT, cond_true, cond_false, Option.bind_eq_some_iff, Option.some.injEq] at h
      · exact nomatch h
      · obtain ⟨c, hc, rfl⟩ := h
        exact ⟨.int .u8 c.toNat, by rw [execOp, ho]; refine exec_val ?_; rw [hkk, str_inv (opd_rep hs hx)]; exact index_rep hT hc, rep_int⟩
    · exact nomatch h
  · rename_i x k ho
    simp only [Option.bind_eq_some_iff] at h
    obtain ⟨x', hx, h⟩ := h
    have hxr := opd_rep hs hx
    split at h
    · generalize hux : a.eval x = ux at *
      cases hxr with
      | tup cs vs hl h2 =>
        have hlt : k < vs.size := by have := (List.getElem?_eq_some_iff.1 h).1; omega
        exact ⟨vs[k], by rw [execOp, ho]; refine exec_val ?_; rw [hux]; simp [Instr.extract, Array.getElem?_eq_getElem hlt], h2 _ _ _ h (Array.getElem?_eq_getElem hlt)⟩
    · exact nomatch h
  · rename_i args argTypes ho
    simp only [Option.bind_eq_some_iff] at h
    obtain ⟨vs, hvs, h⟩ := h
    split at h
    · rename_i v' T rest hT
      obtain ⟨x, hx, hv⟩ := opds_one hvs
      cases hlt : lenT P T v' <;> simp only [hlt, cond_true, cond_false, Option.bind_eq_some_iff, Option.some.injEq] at h
      · exact nomatch h
      · obtain ⟨n, hn, rfl⟩ := h
        have hvr := opd_rep hs hv
        have ha : args.map a.eval = #[a.eval x] := by rw [show args = #[x] from Array.ext' hx]; simp
        have hT0 : argTypes[0]? = some T := by rw [← Array.getElem?_toList, hT]; rfl
        refine ⟨.int .i64 n, ?_, rep_int⟩
        have hrun : (Builtin.len_ argTypes o.type #[a.eval x]).run P w = .ok (goInt n) w := by
          rcases lenOf_rep hr hn hvr with ⟨d, l, rfl, hl, rfl⟩ | ⟨hns, ad, cap, hl⟩
          · have hstr : P.underlying T = some .string := by
              unfold lenT at hlt
              simp only at hlt
              split at hlt
              · assumption
              · exact nomatch hlt
            have hsz : (⟨l.toArray⟩ : ByteArray).size = l.length := by show l.toArray.size = _; simp
            simp [Builtin.len_, hT0, und_of_info hstr, hl, hsz]
          · have hsl : ∃ e, P.underlying T = some (.slice e) := by
              unfold lenT at hlt
              split at hlt
              · exact (hns _ _ rfl).elim
              · split at hlt
                · rename_i e he; exact ⟨e, he⟩
                · exact nomatch hlt
            obtain ⟨e, he⟩ := hsl
            simp [Builtin.len_, hT0, und_of_info he, hl]
        rw [execOp, ho]
        simp only [resolve, ha, invoke, builtin, Sem.run_bind, Sem.run_pure, Result.andThen_ok, hrun]
        rfl
    · exact nomatch h
  · rename_i args argTypes ho
    simp only [Option.bind_eq_some_iff] at h
    obtain ⟨vs, hvs, h⟩ := h
    split at h
    · rename_i T ts hT
      cases hsl : isSl P T <;> simp only [hsl, cond_true, cond_false, Option.some.injEq] at h
      · exact nomatch h
      · subst h
        obtain ⟨x, hx, hv⟩ := opds_one hvs
        have hvr := opd_rep hs hv
        have hxe : a.eval x = .slice none 0 0 := by generalize a.eval x = u at hvr; cases hvr; rfl
        have ha : args.map a.eval = #[.slice none 0 0] := by rw [show args = #[x] from Array.ext' hx]; simp [hxe]
        have hT0 : argTypes[0]? = some T := by rw [← Array.getElem?_toList, hT]; rfl
        obtain ⟨e, he⟩ : ∃ e, P.underlying T = some (.slice e) := by
          unfold isSl at hsl
          split at hsl
          · rename_i e he; exact ⟨e, he⟩
          · exact nomatch hsl
        refine ⟨.int .i64 0, ?_, rep_int⟩
        have hrun : (Builtin.cap_ argTypes o.type #[.slice none 0 0]).run P w = .ok (goInt 0) w := by
          simp [Builtin.cap_, hT0, und_of_info he]
        rw [execOp, ho]
        simp only [resolve, ha, invoke, builtin, Sem.run_bind, Sem.run_pure, Result.andThen_ok, hrun]
        rfl
    · exact nomatch h
  · rename_i args argTypes ho
    simp only [Option.bind_eq_some_iff] at h
    obtain ⟨vs, hvs, h⟩ := h
    split at h
    · rename_i d1 k x d2 l y
      cases h
      obtain ⟨p, q, hpq, hp, hq⟩ := opds_two hvs
      have ha : args.map a.eval = #[.int k x, .int l y] := by rw [show args = #[p, q] from Array.ext' hpq]; simp [int_inv (opd_rep hs hp), int_inv (opd_rep hs hq)]
      refine ⟨_, ?_, rep_int⟩
      rw [execOp, ho]
      simp only [resolve, ha, invoke, builtin, Sem.run_bind, Sem.run_pure, Result.andThen_ok, Builtin.min_, List.foldlM_cons, List.foldlM_nil, Builtin.min2]
    · rename_i d1 k x d2 l y d3 m z
      cases h
      obtain ⟨p, q, r, hpq, hp, hq, hr'⟩ := opds_three hvs
      have ha : args.map a.eval = #[.int k x, .int l y, .int m z] := by
        rw [show args = #[p, q, r] from Array.ext' hpq]; simp [int_inv (opd_rep hs hp), int_inv (opd_rep hs hq), int_inv (opd_rep hs hr')]
      refine ⟨_, ?_, rep_int⟩
      rw [execOp, ho]
      simp only [resolve, ha, invoke, builtin, Sem.run_bind, Sem.run_pure, Result.andThen_ok, Builtin.min_, List.foldlM_cons, List.foldlM_nil, Builtin.min2]
    · exact nomatch h
  · rename_i args argTypes ho
    simp only [Option.bind_eq_some_iff] at h
    obtain ⟨vs, hvs, h⟩ := h
    split at h
    · rename_i d1 k x d2 l y
      cases h
      obtain ⟨p, q, hpq, hp, hq⟩ := opds_two hvs
      have ha : args.map a.eval = #[.int k x, .int l y] := by rw [show args = #[p, q] from Array.ext' hpq]; simp [int_inv (opd_rep hs hp), int_inv (opd_rep hs hq)]
      refine ⟨_, ?_, rep_int⟩
      rw [execOp, ho]
      simp only [resolve, ha, invoke, builtin, Sem.run_bind, Sem.run_pure, Result.andThen_ok, Builtin.max_, List.foldlM_cons, List.foldlM_nil, Builtin.max2]
    · exact nomatch h
  · exact nomatch h
end
end Go.Proofs.Ev

namespace Go.Proofs.Ev
variable [Tok]
set_option linter.unusedSectionVars false
def mayC : MemPlace → Prop
  | .cell _ _ => True
  | .map _ => False
/-- What the world keeps besides the cells: all but the marks of blocks that have cells. -/
def Grown (w w' : World) : Prop := w'.os = w.os ∧ w'.output = w.output ∧ ∀ i : Nat, i < w.heap.size →
  match w.heap[i]?, w'.heap[i]? with
  | some (.cells c t fr), some (.cells c' t' fr') => t' = t ∧ (fr' = fr ∨ 0 < c.size) ∧ c'.size = c.size
  | o, o' => o' = o
theorem Grown.of_kept {w w' : World} (h : w.keptBut w' mayC) : Grown w w' := by
  obtain ⟨h1, h2, h3⟩ := h
  refine ⟨h1, h2, fun i hi => ?_⟩
  have := h3 i hi
  split at this
  · rename_i e1 e2
    obtain ⟨q1, q2, q3, _⟩ := this
    rw [e1, e2]; exact ⟨q1, .inl q2, q3⟩
  · rename_i e1 e2
    rw [e1, e2]
    rcases this with h | ⟨rfl, rfl⟩
    · exact h.elim
    · rfl
  · rename_i x y h4 h5
    rw [this]
    split
    · rename_i e1 e2
      rw [e1] at e2; cases e2
      exact ⟨rfl, .inl rfl, rfl⟩
    · rfl
theorem Grown.refl (w : World) : Grown w w := .of_kept (World.keptBut_refl _ _)
theorem Grown.trans {a b c : World} (h : Grown a b) (g : Grown b c) : Grown a c := by
  obtain ⟨h1, h2, h3⟩ := h
  obtain ⟨g1, g2, g3⟩ := g
  refine ⟨g1.trans h1, g2.trans h2, fun i hi => ?_⟩
  have p := h3 i hi
  have hib : i < b.heap.size := by
    cases ha : a.heap[i]? with
    | none => rw [Array.getElem?_eq_getElem hi] at ha; exact nomatch ha
    | some x =>
      cases hb : b.heap[i]? with
      | none => rw [ha, hb] at p; cases x <;> exact nomatch p
      | some y => exact (Array.getElem?_eq_some_iff.1 hb).1
  have q := g3 i hib
  split at p
  · rename_i c1 t1 f1 c2 t2 f2 e1 e2
    rw [e2] at q
    rw [e1]
    split at q
    · rename_i c3 t3 f3 c4 t4 f4 e3 e4
      cases e3
      rw [e4]
      obtain ⟨rfl, p2, p3⟩ := p
      obtain ⟨rfl, q2, q3⟩ := q
      refine ⟨rfl, ?_, q3.trans p3⟩
      rcases p2 with rfl | p2
      · rcases q2 with rfl | q2
        · exact .inl rfl
        · exact .inr (by omega)
      · exact .inr p2
    · rename_i x y h4 h5
      rw [q]
      exact p
  · rename_i x y h4
    rw [p] at q
    exact q
theorem Grown.alloc (w : World) (cs : Array Value) (e : TypeId) : Grown w (w.alloc (.cells cs e)) := .of_kept (World.keptBut_alloc _ _ _)
theorem Grown.setCells (w : World) (b o : Nat) (l : List Value) : Grown w (w.setCells b o l) := .of_kept (World.keptBut_setCells b l o w fun _ _ => trivial)
theorem Grown.drew (w : World) : Grown w w.drew := .of_kept (World.keptBut_refl w _)
structure StepTo (H H' : Heap) (T : Kil) (pl pl' : Pl) (w w' : World) : Prop where
  hr : HRel H' pl' w'
  kp : Keeps T w H pl w' H' pl'
  bs : pl'.base = pl.base
  gr : Grown w w'
  fr : ∀ p u, w.at? p = some u → (∀ i B, look H i = some B → ¬ pl.fp i p) → (∀ i B, look H' i = some B → ¬ pl'.fp i p) ∧ w'.at? p = some u ∧ w'.ice? p = w.ice? p
/-- What was handed in: the cells that are owned from the first, and each block with its header. -/
structure G0 where
  fp : Cell → Prop
  h : Nat → Value
  b : Nat → Blk
theorem Blk.like_trans {a b c : Blk} (h : a.like b) (g : b.like c) : a.like c := by
  cases a <;> cases b <;> cases c <;> simp_all [Blk.like]
/-- Each block that was handed in and is still told has its header, and is like what it was. -/
def Told (g : G0) (gh : List (Option Nat)) (nid : Nat) (H : Heap) (pl : Pl) : Prop :=
  ∀ (k i : Nat), gh[k]? = some (some i) → i < nid ∧ ∀ B, look H i = some B → pl.hdr i = g.h k ∧ (g.b k).like B
structure Rel (w0 : World) (fp0 : G0) (st : St) (pl : Pl) (a : Act) (w : World) : Prop where
  hr : HRel st.heap pl w
  sl : Slots w st.heap pl st.slots a
  sz : a.tmps.size = st.n
  df : a.defers = []
  fresh : ∀ i, st.nid ≤ i → look st.heap i = none
  gr : Grown w0 w
  fr : ∀ p u, w0.at? p = some u → ¬ fp0.fp p → (∀ i B, look st.heap i = some B → ¬ pl.fp i p) ∧ w.at? p = some u ∧ w.ice? p = w0.ice? p
  gk : Told fp0 st.gh st.nid st.heap pl
theorem Slots.put {w : World} {H : Heap} {pl : Pl} {s s' : List (Nat × SV)} {a : Act} {n : Nat} {dst : Option Tmp} {v : SV} {u : Value}
    (hs : Slots w H pl s a) (hn : a.tmps.size = n) (hp : putO s n dst v = some s') (hv : SVRep w H pl v u) : Slots w H pl s' (a.put dst u) := by
  cases dst with
  | none => cases hp; exact hs
  | some d =>
    simp only [putO] at hp
    cases hd : Nat.ble (d + 1) n <;> simp only [hd, cond_true, cond_false, Option.some.injEq] at hp
    · exact nomatch hp
    · subst hp
      have hd : d + 1 ≤ n := Nat.le_of_ble_eq_true hd
      intro t x hx
      rw [look_put] at hx
      by_cases e : d = t
      · subst e
        simp only [if_true, Option.some.injEq] at hx
        subst hx
        simp only [Act.put, Array.getD_eq_getD_getElem?, Array.getElem?_setIfInBounds_self_of_lt (show d < a.tmps.size by rw [hn]; exact hd), Option.getD_some]
        exact hv
      · rw [if_neg e] at hx
        simp only [Act.put, Array.getD_eq_getD_getElem?, Array.getElem?_setIfInBounds_ne e]
        have := hs t x hx
        simpa only [Array.getD_eq_getD_getElem?] using this
theorem Act.put_size (a : Act) (dst : Option Tmp) (v : Value) : (a.put dst v).tmps.size = a.tmps.size := by
  cases dst <;> simp [Act.put]
theorem Act.put_df (a : Act) (dst : Option Tmp) (v : Value) : (a.put dst v).defers = a.defers := by
  cases dst <;> rfl
theorem sweepH'_spec {T : Kil} (hT : ∀ i, mem i T.1 = true → mem i T.2 = true) {h h' : Heap} (e : sweepH' T h = some h') (i : Nat) :
    look h' i = cond (mem i T.1) none ((look h i).bind (Blk.sweep T)) := by
  unfold sweepH' at e
  split at e
  · rename_i hn
    cases e
    have := kil_nil hn hT
    subst this
    simp only [mem, cond_false]
    cases look h i with
    | none => rfl
    | some B => cases B with
      | box cs => simp [Blk.sweep, sweepL_nil]
      | arr sh t xs => cases sh <;> simp [Blk.sweep, hit_nil]
  · exact (look_sweepH _ _ _ e i).1
theorem look_sweepS' {T : Kil} (hT : ∀ i, mem i T.1 = true → mem i T.2 = true) (s : List (Nat × SV)) (t : Nat) : look (sweepS' T s) t = (look s t).map (SV.sweep T) := by
  unfold sweepS'
  split
  · rename_i hn
    have := kil_nil hn hT
    subst this
    cases look s t with
    | none => rfl
    | some v => simp [sweep_nil]
  · exact look_sweepS _ _ _
theorem Slots.keep {T : Kil} (hT : ∀ i, mem i T.1 = true → mem i T.2 = true) {w w' : World} {H H' : Heap} {pl pl' : Pl} {s : List (Nat × SV)} {a : Act} (hs : Slots w H pl s a) (hk : Keeps T w H pl w' H' pl') :
    Slots w' H' pl' (sweepS' T s) a := by
  intro t v hv
  rw [look_sweepS' hT] at hv
  obtain ⟨x, hx, rfl⟩ := Option.map_eq_some_iff.1 hv
  exact (hs t x hx).keep hk
theorem Told.step {g : G0} {gh : List (Option Nat)} {nid nid' : Nat} {H H' : Heap} {T : Kil} {pl pl' : Pl} {w w' : World} (h : Told g gh nid H pl) (hk : Keeps T w H pl w' H' pl') (hn : nid ≤ nid')
    (hb : ∀ (k i : Nat) (B : Blk), gh[k]? = some (some i) → look H' i = some B → mem i T.1 = false ∧ ∃ B', look H i = some B') : Told g gh nid' H' pl' := fun k i hi => by
  obtain ⟨h1, h2⟩ := h k i hi
  refine ⟨by omega, fun B hB => ?_⟩
  obtain ⟨q1, B0, q2⟩ := hb k i B hi hB
  obtain ⟨B', q3, q4, q5⟩ := hk.k1 i B0 q2 q1
  rw [hB] at q3; cases q3
  obtain ⟨q6, q7⟩ := h2 B0 q2
  exact ⟨q5.trans q6, Blk.like_trans q7 q4⟩
theorem Rel.take {w0 : World} {fp0 : G0} {st st' : St} {pl pl' : Pl} {a : Act} {w w' : World} {c : CR} {dst : Option Tmp} {u : Value}
    (h : Rel w0 fp0 st pl a w) (ht : st.take dst c = some st') (hup : ∀ i B, look c.upd i = some B → ∃ B', look st.heap i = some B')
    (hs : StepTo st.heap st'.heap c.kil pl pl' w w') (hv : SVRep w' st'.heap pl' c.v u) : Rel w0 fp0 st' pl' (a.put dst u) w' := by
  simp only [St.take, Option.bind_eq_some_iff, Option.some.injEq] at ht
  obtain ⟨h1, e1, s, h2, rfl⟩ := ht
  have hin : ∀ i B, look c.upd.reverse i = some B → ∃ B', look st.heap i = some B' := fun i B hq => by
    have : ∃ B, look c.upd i = some B := by
      clear hs hv h2 e1 hup
      generalize c.upd = l at hq
      induction l with
      | nil => simp [look] at hq
      | cons x l ih =>
        obtain ⟨k, b⟩ := x
        rw [look_cons]
        by_cases e : k = i
        · exact ⟨b, by simp [e]⟩
        · rw [if_neg e]
          rw [List.reverse_cons, look_append, look_cons, if_neg e] at hq
          simp only [look, Option.or_none] at hq
          exact ih hq
    obtain ⟨B, hB⟩ := this
    exact hup i B hB
  have hupd : ∀ i, st.nid ≤ i → look (upds c.upd st.heap) i = none := fun i hi => by
    rw [look_upds]
    have h0 := h.fresh i hi
    cases hq : look c.upd.reverse i with
    | none => exact h0
    | some B =>
      obtain ⟨B', hB'⟩ := hin i B hq
      rw [h0] at hB'; exact nomatch hB'
  refine ⟨hs.hr, ?_, by rw [Act.put_size]; exact h.sz, by rw [Act.put_df, h.df], fun i hi => ?_, h.gr.trans hs.gr, fun p u hp hn => ?_, h.gk.step hs.kp (by simp) fun k i B hki hB => ?_⟩
  · exact Slots.put (n := st.n) (h.sl.keep c.kil_le hs.kp) h.sz h2 hv
  · have hi : st.nid + c.news.length ≤ i := hi
    show look (h1 ++ newsH st.nid c.news) i = none
    rw [look_append, sweepH'_spec c.kil_le e1 i, hupd i (by omega), look_newsH, if_pos (by omega), List.getElem?_eq_none (by omega)]
    cases mem i c.kil.1 <;> rfl
  · obtain ⟨g1, g2, g3⟩ := h.fr p u hp hn
    obtain ⟨f1, f2, f3⟩ := hs.fr p u g2 g1
    exact ⟨f1, f2, f3.trans g3⟩
  · have hi : i < st.nid := (h.gk k i hki).1
    have hB : look (h1 ++ newsH st.nid c.news) i = some B := hB
    rw [look_append, look_newsH, if_neg (by omega), Option.or_none, sweepH'_spec c.kil_le e1 i] at hB
    cases hm : mem i c.kil.1 <;> simp only [hm, cond_true, cond_false] at hB
    · refine ⟨rfl, ?_⟩
      obtain ⟨B1, hB1, _⟩ := Option.bind_eq_some_iff.1 hB
      rw [look_upds] at hB1
      cases hq : look c.upd.reverse i with
      | none => rw [hq] at hB1; exact ⟨B1, by simpa using hB1⟩
      | some B2 => exact (hin i B2 hq).imp fun B' h => h
    · exact nomatch hB
/-- Nothing has happened. -/
theorem StepTo.refl {H : Heap} {pl : Pl} {w : World} (h : HRel H pl w) : StepTo H H ([], []) pl pl w w :=
  ⟨h, ⟨fun i B hB _ => ⟨B, hB, B.like_refl, rfl⟩, fun d p u _ h hp => ⟨h, hp⟩⟩, rfl, Grown.refl w, fun p u hp h => ⟨h, hp, rfl⟩⟩
/-- A block that no one touches. -/
theorem BlkRep.keep {T : Kil} {w w' : World} {H H' : Heap} {pl pl' : Pl} {i : Nat} {B B' : Blk} (hk : Keeps T w H pl w' H' pl')
    (hh : pl'.hdr i = pl.hdr i) (hf : ∀ p, pl'.fp i p ↔ pl.fp i p) (hc : ∀ p u, pl.fp i p → w.at? p = some u → w'.at? p = some u ∧ w'.ice? p = w.ice? p)
    (h : BlkRep w H pl i B) (hs : B.sweep T = some B') : BlkRep w' H' pl' i B' := by
  cases B with
  | box cs =>
    cases hs
    obtain ⟨b, o, h1, h2, h3⟩ := h
    refine ⟨b, o, hh.trans h1, fun p => by rw [hf, h2, sweepL_length], fun j v hv => ?_⟩
    rw [sweepL_get] at hv
    obtain ⟨x, hx, rfl⟩ := Option.map_eq_some_iff.1 hv
    obtain ⟨u, g1, g2, g3, g4⟩ := h3 j x hx
    have hp : pl.fp i (b, o + j) := (h2 _).2 ⟨rfl, by simp, by have := (List.getElem?_eq_some_iff.1 hx).1; simp; omega⟩
    obtain ⟨e1, e2⟩ := hc _ _ hp g1
    exact ⟨u, e1, by rw [e2]; exact g2, g3, g4.keep hk⟩
  | arr sh t xs =>
    cases sh with
    | none =>
      cases hs
      obtain ⟨R⟩ := h
      have := R.repD.frame hc
      obtain ⟨R'⟩ := this.row
      rw [← hh] at R'
      obtain ⟨a, cap, b, o, vs, fs, q1, q2, q3, q4, q5, q6, q7, q8, q9⟩ := R'
      exact ⟨⟨a, cap, b, o, vs, fs, q1, q2, q3, q4, q5, q6, q7, q8, fun p => (hf p).trans (q9 p)⟩⟩
    | some d =>
      simp only [Blk.sweep] at hs
      cases hd : hit T.2 d <;> simp only [hd, cond_true, cond_false, Option.some.injEq] at hs
      · subst hs
        obtain ⟨⟨a, cap, b, o, vs, fs, q1, q2, q3, q4, q5, q6, q7, q8, q9⟩⟩ := h
        have hin : ∀ p, reg b o (cap * t.sz) p → pl.fp i p := fun p hp => (q9 p).2 (.inl hp)
        refine ⟨⟨a, cap, b, o, vs, fs, hh.trans q1, q2, q3, fun j hj => ?_, fun x j r hr => ?_, fun x j r hr => ⟨?_, (q6 x j r hr).2⟩, q7, q8, fun p => (hf p).trans (q9 p)⟩⟩
        · obtain ⟨⟨v, hv⟩, hi⟩ := q4 j hj
          obtain ⟨e1, e2⟩ := hc _ _ (hin _ ⟨rfl, by simp, by simp; omega⟩) hv
          exact ⟨⟨v, e1⟩, by rw [e2]; exact hi⟩
        · have := off_lt (cellIn_lt hr).1 (cellIn_lt hr).2 q2
          exact (hc _ _ (hin _ ⟨rfl, by simp, by simp; omega⟩) (q5 x j r hr)).1
        · exact (q6 x j r hr).1.frame fun p u hp hu => hk.k2 d p u (hit_false T.2 d hd) hp hu
      · exact nomatch hs
def Pl.set (pl : Pl) (i : Nat) (hdr : Value) (fp : Cell → Prop) : Pl := ⟨fun j => if j = i then hdr else pl.hdr j, fun j => if j = i then fp else pl.fp j, pl.base⟩
theorem Blk.sweep_nil (B : Blk) : B.sweep ([], []) = some B := by
  cases B with
  | box cs => simp [Blk.sweep, sweepL_nil]
  | arr sh t xs => cases sh <;> simp [Blk.sweep, hit_nil]
theorem HRel.own_there {H : Heap} {pl : Pl} {w : World} (hr : HRel H pl w) : ∀ i B' p, look H i = some B' → pl.fp i p → ∃ u, w.at? p = some u := fun i B' p h hp => by
  have := hr.blk i B' h
  cases B' with
  | box cs =>
    obtain ⟨b, o, _, h2, h3⟩ := this
    obtain ⟨q1, q2, q3⟩ := (h2 p).1 hp
    have hlt : p.2 - o < cs.length := by omega
    obtain ⟨u, hu, _⟩ := h3 (p.2 - o) _ (List.getElem?_eq_getElem hlt)
    exact ⟨u, by rw [← hu]; congr 1; ext <;> simp <;> omega⟩
  | arr sh t xs =>
    cases sh with
    | none => obtain ⟨R⟩ := this; exact R.repD.there p hp
    | some d =>
      obtain ⟨R⟩ := this
      rcases (R.hfp p).1 hp with ⟨q1, q2, q3⟩ | ⟨x, j, r, hx, hf⟩
      · obtain ⟨⟨u, hu⟩, _⟩ := R.hreg (p.2 - R.o) (by omega)
        exact ⟨u, by rw [← hu]; congr 1; ext <;> simp <;> omega⟩
      · exact ((R.hr x j r hx).2 p hf).elim
/-- A new block, in new memory. -/
theorem new_step {H : Heap} {pl : Pl} {w w' : World} {n : Nat} {B : Blk} {hdr : Value} {fp : Cell → Prop} (hr : HRel H pl w) (hn : look H n = none)
    (hg : Grown w w') (hold : ∀ p u, w.at? p = some u → w'.at? p = some u ∧ w'.ice? p = w.ice? p) (hfp : ∀ p, fp p → w.at? p = none)
    (hB : Keeps ([], []) w H pl w' (H ++ [(n, B)]) (pl.set n hdr fp) → BlkRep w' (H ++ [(n, B)]) (pl.set n hdr fp) n B) :
    StepTo H (H ++ [(n, B)]) ([], []) pl (pl.set n hdr fp) w w' := by
  have hne : ∀ i B', look H i = some B' → i ≠ n := fun i B' h e => by subst e; rw [hn] at h; exact nomatch h
  have hlook : ∀ i B', look (H ++ [(n, B)]) i = some B' → (i = n ∧ B' = B) ∨ (i ≠ n ∧ look H i = some B') := fun i B' h => by
    rw [look_append, look_cons] at h
    by_cases e : n = i
    · subst e; rw [hn] at h; simp at h; exact .inl ⟨rfl, h.symm⟩
    · rw [if_neg e] at h; simp [look] at h; exact .inr ⟨fun h => e h.symm, h⟩
  have hown := hr.own_there
  have hkeep : Keeps ([], []) w H pl w' (H ++ [(n, B)]) (pl.set n hdr fp) := by
    refine ⟨fun i B' hB' _ => ⟨B', ?_, B'.like_refl, if_neg (hne i B' hB')⟩, fun d p u _ h hp => ⟨⟨h.1, fun i B' hB' hm hf => ?_⟩, (hold p u hp).1⟩⟩
    · rw [look_append, hB']; rfl
    · rcases hlook i B' hB' with ⟨rfl, rfl⟩ | ⟨hi, hB''⟩
      · simp only [Pl.set, if_true] at hf
        rw [hfp p hf] at hp; exact nomatch hp
      · simp only [Pl.set, if_neg hi] at hf
        exact h.2 i B' hB'' hm hf
  refine ⟨⟨fun i B' hB' => ?_, fun i j B1 B2 p h1 h2 f1 f2 => ?_, fun i B' p hB' hf => ?_, fun p hp => ?_⟩, hkeep, rfl, hg, fun p u hp h => ⟨fun i B' hB' hf => ?_, hold p u hp⟩⟩
  · rcases hlook i B' hB' with ⟨rfl, rfl⟩ | ⟨hi, hB''⟩
    · exact hB hkeep
    · exact (hr.blk i B' hB'').keep hkeep (if_neg hi) (fun p => by simp [Pl.set, hi]) (fun p u _ hu => hold p u hu) B'.sweep_nil
  · rcases hlook i B1 h1 with ⟨rfl, rfl⟩ | ⟨hi, q1⟩ <;> rcases hlook j B2 h2 with ⟨rfl, rfl⟩ | ⟨hj, q2⟩
    · rfl
    · simp only [Pl.set, if_true, if_neg hj] at f1 f2
      obtain ⟨u, hu⟩ := hown _ _ _ q2 f2
      rw [hfp p f1] at hu; exact nomatch hu
    · simp only [Pl.set, if_true, if_neg hi] at f1 f2
      obtain ⟨u, hu⟩ := hown _ _ _ q1 f1
      rw [hfp p f2] at hu; exact nomatch hu
    · simp only [Pl.set, if_neg hi, if_neg hj] at f1 f2
      exact hr.dis i j B1 B2 p q1 q2 f1 f2
  · rcases hlook i B' hB' with ⟨rfl, rfl⟩ | ⟨hi, hB''⟩
    · simp only [Pl.set, if_true] at hf
      exact hr.nb p (hfp p hf)
    · simp only [Pl.set, if_neg hi] at hf
      exact hr.ob i B' p hB'' hf
  · refine hr.nb p ?_
    cases hq : w.at? p with
    | none => rfl
    | some u => rw [(hold p u hq).1] at hp; exact nomatch hp
  · rcases hlook i B' hB' with ⟨rfl, rfl⟩ | ⟨hi, hB''⟩
    · simp only [Pl.set, if_true] at hf
      rw [hfp p hf] at hp; exact nomatch hp
    · simp only [Pl.set, if_neg hi] at hf
      exact h i B' hB'' hf
end Go.Proofs.Ev

namespace Go.Proofs.Ev
variable [Tok]
set_option linter.unusedSectionVars false
theorem take_heap {st st' : St} {dst : Option Tmp} {c : CR} (h : st.take dst c = some st') : after st.heap st.nid c = some st'.heap := by
  simp only [St.take, Option.bind_eq_some_iff, Option.some.injEq] at h
  obtain ⟨h1, e1, s, h2, rfl⟩ := h
  simp only [after, e1, Option.bind_some]
/-- What an operation does, for what came of it. -/
def OpSem (P : Program) (o : Oper) (a : Act) (w : World) (H : Heap) (pl : Pl) (nid : Nat) (c : CR) : Prop :=
  (∀ i B, look c.upd i = some B → ∃ B', look H i = some B') ∧
  ∀ (H' : Heap) (next : Act → World → Prop) (Q : Exit → Act → World → Prop), after H nid c = some H' →
    (∀ u pl' w', StepTo H H' c.kil pl pl' w w' → SVRep w' H' pl' c.v u → next (a.put o.dst u) w') → o.wp P a w next Q
section
variable {w : World} {H : Heap} {pl : Pl} {P : Program}
def push (w : World) (cs : Array Value) (T : TypeId) : World := { w with heap := w.heap.push (.cells cs T (0, 0)) }
theorem push_old (cs : Array Value) (T : TypeId) (p : Cell) (u : Value) (h : w.at? p = some u) : (push w cs T).at? p = some u ∧ (push w cs T).ice? p = w.ice? p := by
  obtain ⟨b, o⟩ := p
  have hb : b < w.heap.size := by
    unfold World.at? World.cell? at h
    cases hh : w.heap[b]? with
    | none => simp [hh] at h
    | some x => exact (Array.getElem?_eq_some_iff.1 hh).1
  have he : (push w cs T).heap[b]? = w.heap[b]? := by
    show (w.heap.push _)[b]? = _
    rw [Array.getElem?_push, if_neg (Nat.ne_of_lt hb)]
  unfold World.at? World.ice? World.cell? at *
  simp only [he, and_true]
  exact h
theorem push_new (cs : Array Value) (T : TypeId) (j : Nat) : (push w cs T).at? (w.heap.size, j) = cs[j]? ∧ (push w cs T).ice? (w.heap.size, j) = (0, 0, cs.size) ∧ w.at? (w.heap.size, j) = none := by
  unfold World.at? World.ice? World.cell? push
  refine ⟨by simp, by simp, by simp⟩
theorem run_newRow (T : TypeId) (cs : Array Value) : (newRow T cs).run P w = .ok ⟨w.heap.size, 0, none⟩ (push w cs T) := by
  simp [newRow, push]
/-- A new variable. -/
theorem box_step (hr : HRel H pl w) {n : Nat} (hn : look H n = none) {cs : List SV} {us : Array Value} (hc : CRep w H pl cs us) (T : TypeId) :
    ∃ pl', StepTo H (H ++ [(n, .box cs)]) ([], []) pl pl' w (push w us T) ∧ pl'.hdr n = .pointer (some ⟨w.heap.size, 0, none⟩) := by
  refine ⟨_, new_step (hdr := .pointer (some ⟨w.heap.size, 0, none⟩)) (fp := reg w.heap.size 0 cs.length) hr hn (Grown.alloc w us T) (push_old us T) (fun p hp => ?_) (fun hk => ?_), by simp [Pl.set]⟩
  · obtain ⟨p1, p2⟩ := p
    obtain ⟨h1, _, _⟩ := hp
    have h1 : p1 = w.heap.size := h1
    subst h1
    exact (push_new us T p2).2.2
  · refine ⟨w.heap.size, 0, by simp [Pl.set], fun p => by simp [Pl.set], fun j v hv => ?_⟩
    have hj : j < us.size := by have := (List.getElem?_eq_some_iff.1 hv).1; rw [hc.hl] at this; exact this
    have hg : us[j]? = some us[j] := Array.getElem?_eq_getElem hj
    obtain ⟨q1, q2, _⟩ := push_new (w := w) us T j
    refine ⟨us[j], by rw [Nat.zero_add, q1, hg], by rw [Nat.zero_add, q2]; rfl, hc.h1 _ _ hg, (hc.h _ _ _ hv hg).keep0 hk⟩
theorem exec_wp {o : Oper} {a : Act} {next : Act → World → Prop} {Q : Exit → Act → World → Prop} {u : Value} {w' : World}
    (h : (execOp a.eval o).run P w = .ok (.value u) w') (hn : next (a.put o.dst u) w') : o.wp P a w next Q := by
  unfold Oper.wp; rw [h]; exact hn
theorem alloc_sem {o : Oper} {a : Act} {T : TypeId} {n : Nat} {z : List SV} (hr : HRel H pl w) (hn : look H n = none) (ho : o.op = .alloc T) (hz : zeroCs P T = some z) :
    OpSem P o a w H pl n { v := .ptr n 0 0, news := [.box z] } := by
  refine ⟨fun i B h => by simp [look] at h, fun H' next Q ha hN => ?_⟩
  cases ha
  obtain ⟨u, hu, hc⟩ := zeroCs_rep (P := P) hr hz
  obtain ⟨pl', hs, hh⟩ := box_step hr hn hc T
  refine exec_wp (u := .pointer (some ⟨w.heap.size, 0, none⟩)) (w' := push w u.cells T) ?_ (hN _ pl' _ hs ?_)
  · rw [execOp, ho]; simp [Instr.alloc, hu, newVar, run_newRow]
  · have := SVRep.ptrB (w := push w u.cells T) (H := H ++ [(n, .box z)]) (pl := pl') n 0 z w.heap.size 0 (by rw [look_append, hn, look_cons]; simp) hh
    exact this
theorem box_sem {o : Oper} {a : Act} {T : TypeId} {x : Operand} {n : Nat} {v : SV} {cs : List SV} (hr : HRel H pl w) (hn : look H n = none) (ho : o.op = .box T x) (hv : SVRep w H pl v (a.eval x)) (hz : v.cells = some cs) :
    OpSem P o a w H pl n { v := .ptr n 0 0, news := [.box cs] } := by
  refine ⟨fun i B h => by simp [look] at h, fun H' next Q ha hN => ?_⟩
  cases ha
  have hc := hv.cells hz hr
  obtain ⟨pl', hs, hh⟩ := box_step hr hn hc T
  refine exec_wp (u := .pointer (some ⟨w.heap.size, 0, none⟩)) (w' := push w (a.eval x).cells T) ?_ (hN _ pl' _ hs ?_)
  · rw [execOp, ho]; simp [Instr.box, newVar, run_newRow]
  · have := SVRep.ptrB (w := push w (a.eval x).cells T) (H := H ++ [(n, .box cs)]) (pl := pl') n 0 cs w.heap.size 0 (by rw [look_append, hn, look_cons]; simp) hh
    exact this
theorem still_sem {o : Oper} {a : Act} {n : Nat} {v : SV} {u : Value} (hr : HRel H pl w) (h : (execOp a.eval o).run P w = .ok (.value u) w) (hv : SVRep w H pl v u) : OpSem P o a w H pl n { v := v } := by
  refine ⟨fun i B h => by simp [look] at h, fun H' next Q ha hN => ?_⟩
  cases ha
  have hH : upds [] H ++ newsH n [] = H := by simp [upds, newsH]
  simp only [hH] at hN
  exact exec_wp h (hN u pl w (StepTo.refl hr) hv)
/-- Into a variable. -/
theorem store_sem {o : Oper} {a : Act} {T : TypeId} {p x : Operand} {n i k sz : Nat} {v : SV} {cs cs' xs : List SV} (hr : HRel H pl w) (ho : o.op = .store T p x) (hl : look H i = some (.box cs))
    (hp : SVRep w H pl (.ptr i 0 k) (a.eval p)) (hv : SVRep w H pl v (a.eval x)) (hz : v.cells = some xs) (hT : sizeT P T = some sz) (hsz : sz = xs.length) (hs : setCells cs k xs = some cs') :
    OpSem P o a w H pl n { v := .undef, upd := [(i, .box cs')] } := by
  refine ⟨fun j B h => ?_, fun H' next Q ha hN => ?_⟩
  · rw [look_cons] at h
    by_cases e : i = j
    · subst e; exact ⟨_, hl⟩
    · rw [if_neg e] at h; simp [look] at h
  have hc := hv.cells hz hr
  simp only [sizeT, Option.bind_eq_some_iff, Option.some.injEq] at hT
  obtain ⟨ti, hti, rfl⟩ := hT
  unfold setCells at hs
  cases hb : Nat.ble (k + xs.length) cs.length <;> simp only [hb, cond_true, cond_false, Option.some.injEq] at hs
  · exact nomatch hs
  have hb := Nat.le_of_ble_eq_true hb
  subst hs
  obtain ⟨b, o', h1, h2, h3⟩ := hr.blk i _ hl
  have hpe : a.eval p = .pointer (some ⟨b, o' + k, none⟩) := by
    generalize a.eval p = up at hp
    cases hp with
    | ptrB _ _ cs'' b2 k2 hl2 hh2 => rw [h1] at hh2; cases hh2; rfl
    | ptrA _ _ _ sh t ys b2 k2 m cap hl2 hx hh2 => rw [h1] at hh2; exact nomatch hh2
  have hlen : (a.eval x).cells.toList.length = xs.length := by simp [hc.hl]
  have hcell : ∀ j, j < xs.length → ∃ u, w.at? (b, o' + k + j) = some u ∧ calm (w.ice? (b, o' + k + j)) = true := fun j hj => by
    obtain ⟨u, q1, q2, _⟩ := h3 (k + j) _ (List.getElem?_eq_getElem (show k + j < cs.length by omega))
    rw [Nat.add_assoc]; exact ⟨u, q1, q2⟩
  have hrun : (execOp a.eval o).run P w = .ok .skip (w.setCells b (o' + k) (a.eval x).cells.toList) := by
    have hst := run_storeCells_cells (P := P) b (o' + k) (a.eval x).cells.toList 0 w (fun j hj => by
        obtain ⟨u, q1, _⟩ := hcell j (by omega)
        simp only [Nat.add_zero]
        have q1 : w.cell? ⟨b, o' + k + j, none⟩ = some u := q1
        rw [q1]; rfl) (fun j hj => by
        obtain ⟨u, q1, q2⟩ := hcell j (by omega)
        simp only [Nat.add_zero]; exact calm_frozen q1 q2) (fun u hu => by
        obtain ⟨j, hj⟩ := List.getElem?_of_mem hu
        have := hc.h1 j u (by simpa using hj)
        cases u <;> simp_all [one, Value.oneCell'])
    have hsz2 : (a.eval x).cells.size = ti.size := by rw [← hc.hl]; exact hsz.symm
    rw [execOp, ho]
    simp only [Instr.storeAt, hpe, Instr.sureAddr, storeVar, Sem.run_bind, Sem.run_pure, Result.andThen_ok, run_sizeOf' hti, hsz2, ne_eq, not_true, if_false, Sem.run_ite]
    simp only [Nat.add_zero] at hst
    simp [hst]
  have hreg : ∀ q, pl.fp i q ↔ reg b o' cs.length q := h2
  have hlk : ∀ j B, look H' j = some B → (j = i ∧ B = .box (cs.take k ++ xs ++ cs.drop (k + xs.length))) ∨ (j ≠ i ∧ look H j = some B) := fun j B hB => by
    cases ha
    simp only [upds, newsH, List.append_nil, look_put] at hB
    by_cases e : i = j
    · subst e; simp only [if_true, Option.some.injEq] at hB; exact .inl ⟨rfl, hB.symm⟩
    · rw [if_neg e] at hB; exact .inr ⟨fun h => e h.symm, hB⟩
  have hlk2 : ∀ j B, look H j = some B → ∃ B', look H' j = some B' ∧ B.like B' ∧ (j ≠ i → B' = B) := fun j B hB => by
    cases ha
    simp only [upds, newsH, List.append_nil, look_put]
    by_cases e : i = j
    · subst e
      rw [hl] at hB; cases hB
      exact ⟨_, by simp; rfl, by simp [Blk.like]; omega, fun h => (h rfl).elim⟩
    · rw [if_neg e]; exact ⟨B, hB, B.like_refl, fun _ => rfl⟩
  have hout : ∀ q u, w.at? q = some u → ¬ (q.1 = b ∧ o' + k ≤ q.2 ∧ q.2 < o' + k + xs.length) → (w.setCells b (o' + k) (a.eval x).cells.toList).at? q = some u := fun q u hq hn' => by
    unfold World.at? at *
    rw [World.cell?_setCells_out b _ _ w _ (fun e1 _ => by simp at e1; rw [hlen]; simp; omega)]
    exact hq
  have hice : ∀ q, (w.setCells b (o' + k) (a.eval x).cells.toList).ice? q = w.ice? q := fun q => ice?_setCells _ _ _ _ _
  have hkeep : Keeps ([], []) w H pl (w.setCells b (o' + k) (a.eval x).cells.toList) H' pl := by
    refine ⟨fun j B hB _ => ?_, fun d q u _ hok hq => ⟨⟨hok.1, fun j B hB hm hf => ?_⟩, hout q u hq fun hin => ?_⟩⟩
    · obtain ⟨B', e1, e2, _⟩ := hlk2 j B hB; exact ⟨B', e1, e2, rfl⟩
    · rcases hlk j B hB with ⟨rfl, rfl⟩ | ⟨_, hB'⟩
      · exact hok.2 j _ hl (fun _ => rfl) hf
      · exact hok.2 j B hB' hm hf
    · exact hok.2 i _ hl (fun _ => rfl) ((hreg q).2 ⟨hin.1, by omega, by omega⟩)
  have hstep : StepTo H H' ([], []) pl pl w (w.setCells b (o' + k) (a.eval x).cells.toList) := by
    refine ⟨⟨fun j B hB => ?_, fun j j' B B' q e1 e2 f1 f2 => ?_, fun j B q hB hf => ?_, fun q hq => hr.nb q ?_⟩, hkeep, rfl, Grown.setCells _ _ _ _, fun q u hq hno => ⟨fun j B hB hf => ?_, hout q u hq fun hin => ?_, hice q⟩⟩
    · rcases hlk j B hB with ⟨rfl, rfl⟩ | ⟨hj, hB'⟩
      · refine ⟨b, o', h1, fun q => by rw [hreg]; simp [reg]; omega, fun m v' hv' => ?_⟩
        have hto : (cs.take k).length = k := by simp; omega
        by_cases c1 : m < k ∨ k + xs.length ≤ m
        · have hv'' : cs[m]? = some v' := by
            rcases c1 with c1 | c1
            · rwa [List.append_assoc, List.getElem?_append_left (by omega), List.getElem?_take, if_pos c1] at hv'
            · rwa [List.append_assoc, List.getElem?_append_right (by omega), List.getElem?_append_right (by omega), List.getElem?_drop, hto,
                show k + xs.length + (m - k - xs.length) = m from by omega] at hv'
          obtain ⟨u, q1, q2, q3, q4⟩ := h3 m v' hv''
          exact ⟨u, hout _ _ q1 (by simp; omega), by rw [hice]; exact q2, q3, q4.keep0 hkeep⟩
        · have hm : k ≤ m ∧ m < k + xs.length := by omega
          rw [List.append_assoc, List.getElem?_append_right (by omega), List.getElem?_append_left (by omega), hto] at hv'
          have hlt : m - k < (a.eval x).cells.size := by rw [← hc.hl]; omega
          have hg : (a.eval x).cells[m - k]? = some (a.eval x).cells[m - k] := Array.getElem?_eq_getElem hlt
          obtain ⟨u0, _, q2, _⟩ := h3 m _ (List.getElem?_eq_getElem (show m < cs.length by omega))
          refine ⟨(a.eval x).cells[m - k], ?_, by rw [hice]; exact q2, hc.h1 _ _ hg, (hc.h _ _ _ hv' hg).keep0 hkeep⟩
          have := World.cell?_setCells_in b (a.eval x).cells.toList (o' + k) w (fun j hj => by
            obtain ⟨u, q1, _⟩ := hcell j (by omega)
            have q1 : w.cell? ⟨b, o' + k + j, none⟩ = some u := q1
            rw [q1]; rfl) (m - k) (by simpa using hlt)
          rw [show o' + m = o' + k + (m - k) from by omega]
          simpa [World.at?] using this
      · refine (hr.blk j B hB').keep hkeep rfl (fun _ => Iff.rfl) (fun q u hf hq => ⟨hout q u hq fun hin => ?_, hice q⟩) B.sweep_nil
        exact hj (hr.dis j i _ _ q hB' hl hf ((hreg q).2 ⟨hin.1, by omega, by omega⟩))
    · have g : ∀ m D, look H' m = some D → ∃ D', look H m = some D' := fun m D hD => by
        rcases hlk m D hD with ⟨rfl, _⟩ | ⟨_, h⟩
        · exact ⟨_, hl⟩
        · exact ⟨_, h⟩
      obtain ⟨D, hD⟩ := g j B e1
      obtain ⟨D', hD'⟩ := g j' B' e2
      exact hr.dis j j' D D' q hD hD' f1 f2
    · rcases hlk j B hB with ⟨rfl, _⟩ | ⟨_, hB'⟩
      · exact hr.ob j _ q hl hf
      · exact hr.ob j B q hB' hf
    · unfold World.at? at *
      by_cases hin : q.1 = b ∧ o' + k ≤ q.2 ∧ q.2 < o' + k + xs.length
      · have := World.cell?_setCells_in b (a.eval x).cells.toList (o' + k) w (fun j hj => by
          obtain ⟨u, q1, _⟩ := hcell j (by omega)
          have q1 : w.cell? ⟨b, o' + k + j, none⟩ = some u := q1
          rw [q1]; rfl) (q.2 - (o' + k)) (by omega)
        obtain ⟨q1, q2⟩ := q
        obtain ⟨e1, e2, e3⟩ := hin
        simp only at e1 e2 e3 hq this
        subst e1
        have e4 : o' + k + (q2 - (o' + k)) = q2 := by omega
        simp only [e4, hq] at this
        exact nomatch this
      · rwa [World.cell?_setCells_out b _ _ w _ (fun e1 _ => by simp at e1; rw [hlen]; simp; omega)] at hq
    · rcases hlk j B hB with ⟨rfl, _⟩ | ⟨_, hB'⟩
      · exact hno j _ hl hf
      · exact hno j B hB' hf
    · exact hno i _ hl ((hreg q).2 ⟨hin.1, by omega, by omega⟩)
  unfold Oper.wp
  rw [hrun]
  exact hN undef pl _ hstep (.undef _)
end
end Go.Proofs.Ev

set_option linter.unusedVariables false
namespace Go.Proofs.Ev
variable [Tok]
set_option linter.unusedSectionVars false
/-- 'H'' is 'H' without the blocks of T.1, with 'B' at 'n'. -/
structure Turned (H H' : Heap) (T : Kil) (n : Nat) (B : Blk) : Prop where
  at_n : look H' n = some B
  fwd : ∀ k B0, look H k = some B0 → mem k T.1 = false → k ≠ n → ∃ B', B0.sweep T = some B' ∧ look H' k = some B'
  bwd : ∀ k B', look H' k = some B' → k ≠ n → mem k T.1 = false ∧ ∃ B0, look H k = some B0 ∧ B0.sweep T = some B'
section
variable {H H' : Heap} {T : Kil} {n : Nat} {B : Blk} {pl : Pl} {w w' : World} {hdr : Value} {fp : Cell → Prop}
theorem Blk.sweep_like {B B' : Blk} {T : Kil} (h : B.sweep T = some B') : B.like B' := by
  cases B with
  | box cs => cases h; simp [Blk.like, sweepL_length]
  | arr sh t xs =>
    cases sh with
    | none => cases h; simp [Blk.like]
    | some d =>
      simp only [Blk.sweep] at h
      cases hd : hit T.2 d <;> simp only [hd, cond_true, cond_false, Option.some.injEq] at h
      · subst h; simp [Blk.like]
      · exact nomatch h
theorem Blk.like_box {B B' : Blk} (h : B.like B') : B.isBox = B'.isBox := by
  cases B <;> cases B' <;> first | rfl | exact h.elim
theorem turn_keeps (hr : HRel H pl w) (ht : Turned H H' T n B) (h1 : ∀ i, mem i T.1 = true → mem i T.2 = true)
    (hn : look H n = none ∨ ∃ B0, look H n = some B0 ∧ mem n T.2 = true ∧ B0.like B ∧ hdr = pl.hdr n)
    (hold : ∀ p u, w.at? p = some u → (∀ i B, mem i T.2 = true → look H i = some B → ¬ pl.fp i p) → w'.at? p = some u ∧ w'.ice? p = w.ice? p)
    (hfp : ∀ p, fp p → w.at? p = none ∨ ∃ i B, mem i T.2 = true ∧ look H i = some B ∧ pl.fp i p) : Keeps T w H pl w' H' (pl.set n hdr fp) := by
  refine ⟨fun i B0 hB hm => ?_, fun d p u hd hok hu => ?_⟩
  · by_cases e : i = n
    · subst e
      rcases hn with hn | ⟨B1, g1, g2, g3, g4⟩
      · rw [hn] at hB; exact nomatch hB
      · rw [g1] at hB; cases hB
        exact ⟨B, ht.at_n, g3, by simp [Pl.set, g4]⟩
    · obtain ⟨B', g1, g2⟩ := ht.fwd i B0 hB hm e
      exact ⟨B', g2, Blk.sweep_like g1, by simp [Pl.set, e]⟩
  · have hout : ∀ i B, mem i T.2 = true → look H i = some B → ¬ pl.fp i p := fun i B1 hi hB => hok.2 i B1 hB fun hm => by rw [hd i hm] at hi; exact nomatch hi
    refine ⟨⟨hok.1, fun i B1 hB hm hf => ?_⟩, (hold p u hu hout).1⟩
    by_cases e : i = n
    · subst e
      simp only [Pl.set, if_true] at hf
      rcases hfp p hf with h | ⟨j, B2, g1, g2, g3⟩
      · rw [h] at hu; exact nomatch hu
      · exact hout j B2 g1 g2 g3
    · simp only [Pl.set, if_neg e] at hf
      obtain ⟨_, B0, g1, g2⟩ := ht.bwd i B1 hB e
      exact hok.2 i B0 g1 (fun h => (Blk.like_box (Blk.sweep_like g2)).trans (hm h)) hf
theorem turn_step (hg : Grown w w') (hr : HRel H pl w) (ht : Turned H H' T n B) (h1 : ∀ i, mem i T.1 = true → mem i T.2 = true) (h2 : ∀ i, mem i T.2 = true → mem i T.1 = true ∨ i = n)
    (hn : look H n = none ∨ ∃ B0, look H n = some B0 ∧ mem n T.2 = true ∧ B0.like B ∧ hdr = pl.hdr n)
    (hold : ∀ p u, w.at? p = some u → (∀ i B, mem i T.2 = true → look H i = some B → ¬ pl.fp i p) → w'.at? p = some u ∧ w'.ice? p = w.ice? p)
    (hdom : ∀ p, w'.at? p = none → pl.base p)
    (hfp : ∀ p, fp p → w.at? p = none ∨ ∃ i B, mem i T.2 = true ∧ look H i = some B ∧ pl.fp i p)
    (hB : Keeps T w H pl w' H' (pl.set n hdr fp) → BlkRep w' H' (pl.set n hdr fp) n B) : StepTo H H' T pl (pl.set n hdr fp) w w' := by
  have hk := turn_keeps hr ht h1 hn hold hfp
  have hown := hr.own_there
  have hother : ∀ k B', look H' k = some B' → k ≠ n → ∃ B0, look H k = some B0 ∧ B0.sweep T = some B' ∧ ∀ i B, mem i T.2 = true → look H i = some B → ∀ p, pl.fp k p → ¬ pl.fp i p := fun k B' hk' hne => by
    obtain ⟨g1, B0, g2, g3⟩ := ht.bwd k B' hk' hne
    refine ⟨B0, g2, g3, fun i B1 hi hB1 p hp hf => ?_⟩
    have := hr.dis k i B0 B1 p g2 hB1 hp hf
    subst this
    rcases h2 k hi with h | h
    · rw [g1] at h; exact nomatch h
    · exact hne h
  refine ⟨⟨fun k B' hB' => ?_, fun i j B1 B2 p e1 e2 f1 f2 => ?_, fun i B1 p hB1 hf => ?_, hdom⟩, hk, rfl, hg, fun p u hp hno => ⟨fun i B1 hB1 hf => ?_, hold p u hp fun i B _ hB => hno i B hB⟩⟩
  · by_cases e : k = n
    · subst e
      rw [ht.at_n] at hB'; cases hB'
      exact hB hk
    · obtain ⟨B0, g1, g2, g3⟩ := hother k B' hB' e
      exact (hr.blk k B0 g1).keep hk (by simp [Pl.set, e]) (fun p => by simp [Pl.set, e]) (fun p u hf hu => hold p u hu fun i B hi hB => g3 i B hi hB p hf) g2
  · have key : ∀ k B', look H' k = some B' → k ≠ n → (pl.set n hdr fp).fp k p → fp p → False := fun k B' hk' hne hf hfn => by
      simp only [Pl.set, if_neg hne] at hf
      obtain ⟨B0, g1, g2, g3⟩ := hother k B' hk' hne
      rcases hfp p hfn with h | ⟨i, B3, q1, q2, q3⟩
      · obtain ⟨u, hu⟩ := hown k B0 p g1 hf
        rw [h] at hu; exact nomatch hu
      · exact g3 i B3 q1 q2 p hf q3
    by_cases ei : i = n <;> by_cases ej : j = n
    · rw [ei, ej]
    · subst ei; simp only [Pl.set, if_true] at f1; exact (key j B2 e2 ej f2 f1).elim
    · subst ej; simp only [Pl.set, if_true] at f2; exact (key i B1 e1 ei f1 f2).elim
    · simp only [Pl.set, if_neg ei] at f1
      simp only [Pl.set, if_neg ej] at f2
      obtain ⟨_, C1, g1, _⟩ := ht.bwd i B1 e1 ei
      obtain ⟨_, C2, g2, _⟩ := ht.bwd j B2 e2 ej
      exact hr.dis i j C1 C2 p g1 g2 f1 f2
  · by_cases e : i = n
    · subst e
      simp only [Pl.set, if_true] at hf
      rcases hfp p hf with h | ⟨j, B2, q1, q2, q3⟩
      · exact hr.nb p h
      · exact hr.ob j B2 p q2 q3
    · simp only [Pl.set, if_neg e] at hf
      obtain ⟨_, C1, g1, _⟩ := ht.bwd i B1 hB1 e
      exact hr.ob i C1 p g1 hf
  · by_cases e : i = n
    · subst e
      simp only [Pl.set, if_true] at hf
      rcases hfp p hf with h | ⟨j, B2, q1, q2, q3⟩
      · rw [h] at hp; exact nomatch hp
      · exact hno j B2 q2 q3
    · simp only [Pl.set, if_neg e] at hf
      obtain ⟨_, C1, g1, _⟩ := ht.bwd i B1 hB1 e
      exact hno i C1 g1 hf
/-- A new block. -/
theorem turned_new {H1 : Heap} (hT : ∀ i, mem i T.1 = true → mem i T.2 = true) (hs : sweepH' T H = some H1) (hn : look H n = none) (hh : ∀ k B0, look H k = some B0 → mem k T.1 = false → ∃ B', B0.sweep T = some B') :
    Turned H (H1 ++ newsH n [B]) T n B := by
  have hl : ∀ k, look (H1 ++ newsH n [B]) k = (cond (mem k T.1) none ((look H k).bind (Blk.sweep T))).or (if n = k then some B else none) := fun k => by
    rw [look_append, sweepH'_spec hT hs k]
    simp only [newsH, look_cons, look]
  refine ⟨by rw [hl, hn]; cases mem n T.1 <;> simp, fun k B0 hB hm hne => ?_, fun k B' hB hne => ?_⟩
  · obtain ⟨B', hB'⟩ := hh k B0 hB hm
    exact ⟨B', hB', by rw [hl, hm, hB]; simp [hB']⟩
  · rw [hl, if_neg (fun e => hne e.symm)] at hB
    cases hm : mem k T.1 <;> simp only [hm, cond_true, cond_false, Option.or_none] at hB
    · obtain ⟨B0, g1, g2⟩ := Option.bind_eq_some_iff.1 hB
      exact ⟨rfl, B0, g1, g2⟩
    · exact nomatch hB
theorem sweepH'_all (hT : ∀ i, mem i T.1 = true → mem i T.2 = true) {H1 : Heap} (hs : sweepH' T H = some H1) : ∀ k B0, look H k = some B0 → mem k T.1 = false → ∃ B', B0.sweep T = some B' := fun k B0 hB hm => by
  unfold sweepH' at hs
  split at hs
  · rename_i h0
    have := kil_nil h0 hT
    subst this
    exact ⟨B0, B0.sweep_nil⟩
  · exact (look_sweepH _ _ _ hs k).2 B0 hB hm
end
end Go.Proofs.Ev

set_option linter.unusedVariables false
namespace Go.Proofs.Ev
variable [Tok]
set_option linter.unusedSectionVars false
/-- The block that a cell's value owns outright. -/
def SV.took : SV → List Nat
  | .own i => [i]
  | _ => []
def tookL : List SV → List Nat
  | [] => []
  | v :: l => v.took ++ tookL l
theorem tookL_append (a b : List SV) : tookL (a ++ b) = tookL a ++ tookL b := by
  induction a with
  | nil => rfl
  | cons v l ih => simp [tookL, ih]
theorem tookL_mem {i : Nat} : ∀ {l : List SV} {k : Nat}, l[k]? = some (.own i) → i ∈ tookL l
  | [], k, h => by simp at h
  | v :: l, 0, h => by simp at h; subst h; simp [tookL, SV.took]
  | v :: l, k + 1, h => by simp only [tookL, List.mem_append]; exact .inr (tookL_mem (by simpa using h))
theorem tookL_inj {i : Nat} : ∀ {l : List SV} {k k' : Nat}, (tookL l).Nodup → l[k]? = some (.own i) → l[k']? = some (.own i) → k = k'
  | [], k, k', _, h, _ => by simp at h
  | v :: l, k, k', hn, h, h' => by
    simp only [tookL, List.nodup_append] at hn
    cases k with
    | zero =>
      cases k' with
      | zero => rfl
      | succ k' =>
        simp at h; subst h
        exact (hn.2.2 i (by simp [SV.took]) i (tookL_mem (by simpa using h')) rfl).elim
    | succ k =>
      cases k' with
      | zero =>
        simp at h'; subst h'
        exact (hn.2.2 i (by simp [SV.took]) i (tookL_mem (by simpa using h)) rfl).elim
      | succ k' => rw [tookL_inj hn.2.1 (k := k) (k' := k') (by simpa using h) (by simpa using h')]
theorem absR_took {h : Heap} {t : Ty} {v : SV} {ids : List Nat} {r : R} (e : v.absR h t = some (ids, r)) : ids = v.took := by
  cases t with
  | st s => exact nomatch e
  | sl t' =>
    cases v with
    | nilS => cases e; rfl
    | own i =>
      simp only [SV.absR] at e
      split at e
      · split at e
        · cases e; rfl
        · exact nomatch e
      · exact nomatch e
    | _ => exact nomatch e
  | int k =>
    cases v with
    | r d x => cases x with
      | sl => exact nomatch e
      | tok => exact nomatch e
      | _ => cases e; rfl
    | _ => exact nomatch e
  | bool =>
    cases v with
    | r d x => cases x with
      | sl => exact nomatch e
      | tok => exact nomatch e
      | _ => cases e; rfl
    | _ => exact nomatch e
  | str =>
    cases v with
    | r d x => cases x with
      | sl => exact nomatch e
      | tok => exact nomatch e
      | _ => cases e; rfl
    | _ => exact nomatch e
  | tok =>
    cases v with
    | r d x => cases x with
      | tok n => cases e; rfl
      | _ => exact nomatch e
    | nilS => cases e; rfl
    | _ => exact nomatch e
theorem absRs_spec {h : Heap} : ∀ {ts : List Ty} {vs : List SV} {ids : List Nat} {rs : List R}, absRs h ts vs = some (ids, rs) →
    vs.length = ts.length ∧ rs.length = ts.length ∧ ids = tookL vs ∧ ∀ (j : Nat) (r : R), rs[j]? = some r → ∃ v ty, vs[j]? = some v ∧ v.absR h ty = some (v.took, r)
  | [], [], ids, rs, e => by cases e; exact ⟨rfl, rfl, rfl, fun j r hr => by simp at hr⟩
  | t :: ts, v :: vs, ids, rs, e => by
    simp only [absRs, Option.bind_eq_some_iff, Option.some.injEq, Prod.mk.injEq] at e
    obtain ⟨⟨d, r0⟩, h1, ⟨d', rs'⟩, h2, rfl, rfl⟩ := e
    obtain ⟨g1, g2, g3, g4⟩ := absRs_spec h2
    have ht := absR_took h1
    refine ⟨by simp [g1], by simp [g2], by simp [tookL, ht, g3], fun j r hr => ?_⟩
    cases j with
    | zero => simp at hr; subst hr; exact ⟨v, t, rfl, by rw [h1, ht]⟩
    | succ j => simpa using g4 j r (by simpa using hr)
  | [], _ :: _, _, _, e => nomatch e
  | _ :: _, [], _, _, e => nomatch e
theorem Ty.tys_length (t : Ty) : t.tys.length = t.sz := by
  cases t with
  | st s => cases s <;> rfl
  | _ => rfl
theorem cellIn_cons {t : Ty} {x : t.El} {xs : List t.El} {i j : Nat} {r : R} : cellIn t (x :: xs) i j r ↔ (i = 0 ∧ (t.cells x)[j]? = some r) ∨ ∃ i', i = i' + 1 ∧ cellIn t xs i' j r := by
  cases i with
  | zero => simp [cellIn]
  | succ i => simp [cellIn]
theorem absEls_spec {h : Heap} {t : Ty} : ∀ {n : Nat} {cs : List SV} {ids : List Nat} {xs : List t.El}, absEls h t n cs = some (ids, xs) →
    xs.length = n ∧ n * t.sz ≤ cs.length ∧ ids = tookL (cs.take (n * t.sz)) ∧ ∀ i j r, cellIn t xs i j r → ∃ v ty, cs[i * t.sz + j]? = some v ∧ v.absR h ty = some (v.took, r)
  | 0, cs, ids, xs, e => by cases e; exact ⟨rfl, by simp, by simp [tookL], fun i j r h => by obtain ⟨x, hx, _⟩ := h; simp at hx⟩
  | n + 1, cs, ids, xs, e => by
    simp only [absEls, Option.bind_eq_some_iff, Option.some.injEq, Prod.mk.injEq] at e
    obtain ⟨⟨d, rs⟩, h1, x, hx, ⟨d', ys⟩, h2, rfl, rfl⟩ := e
    obtain ⟨g1, g2, g3, g4⟩ := absRs_spec h1
    obtain ⟨k1, k2, k3, k4⟩ := absEls_spec h2
    have hc := Ty.ofCells_spec t rs x hx
    rw [Ty.tys_length] at g1 g2
    rw [List.length_take] at g1
    rw [List.length_drop] at k2
    refine ⟨by simp [k1], by rw [Nat.succ_mul]; omega, ?_, fun i j r hc' => ?_⟩
    · rw [g3, k3, ← tookL_append, Nat.succ_mul, Nat.add_comm (n * t.sz), List.take_add]
    · rcases cellIn_cons.1 hc' with ⟨rfl, hr⟩ | ⟨i', rfl, hr⟩
      · rw [hc] at hr
        obtain ⟨v, ty, q1, q2⟩ := g4 j r hr
        rw [List.getElem?_take] at q1
        split at q1
        · exact ⟨v, ty, by rw [Nat.zero_mul, Nat.zero_add]; exact q1, q2⟩
        · exact nomatch q1
      · obtain ⟨v, ty, q1, q2⟩ := k4 i' j r hr
        rw [List.getElem?_drop] at q1
        exact ⟨v, ty, by rw [Nat.succ_mul, show i' * t.sz + t.sz + j = t.sz + (i' * t.sz + j) from by omega]; exact q1, q2⟩
theorem RepD.congr {w : World} {r : R} {u : Value} {f f' : Cell → Prop} (h : RepD w r u f) (e : ∀ p, f p ↔ f' p) : RepD w r u f' := by
  have : f = f' := funext fun p => propext (e p)
  exact this ▸ h
/-- What a cell takes in, with it. -/
def tookF (pl : Pl) (v : SV) (p : Cell) : Prop := ∃ i, v = .own i ∧ pl.fp i p
theorem absR_rep {w : World} {H : Heap} {pl : Pl} (hr : HRel H pl w) {t : Ty} {v : SV} {u : Value} {r : R} {ids : List Nat} (e : v.absR H t = some (ids, r)) (hv : SVRep w H pl v u) : RepD w r u (tookF pl v) := by
  have plain : ∀ (x : R) d, v = .r d x → (∀ i, v ≠ .own i) := fun x d h i h' => by rw [h] at h'; exact nomatch h'
  have none' : ∀ {f : Cell → Prop}, (∀ p, ¬ f p) → (∀ i, v ≠ .own i) → ∀ p, f p ↔ tookF pl v p := fun hf hn p => ⟨fun h => (hf p h).elim, fun ⟨i, h, _⟩ => (hn i h).elim⟩
  cases t with
  | st s => exact nomatch e
  | sl t' =>
    cases v with
    | nilS =>
      cases e
      cases hv
      exact .sl t' [] none 0 0 0 (fun _ _ => .bool true) (fun _ _ _ => False) _ (Nat.le_refl _) (.inl rfl) (fun j hj => by simp at hj) (fun i j r ⟨x, hx, _⟩ => by simp at hx)
        (fun i j r ⟨x, hx, _⟩ => by simp at hx) (fun i j r p ⟨x, hx, _⟩ => by simp at hx) (fun i j r _ _ _ p ⟨x, hx, _⟩ => by simp at hx)
        (fun p => ⟨fun ⟨i, h, _⟩ => (nomatch h), fun h => h.elim (fun h => by have := h.2; simp at this) fun ⟨i, j, r, ⟨x, hx, _⟩, _⟩ => by simp at hx⟩)
    | own i =>
      simp only [SV.absR] at e
      split at e
      · rename_i t1 xs hl
        split at e
        · rename_i ht
          subst ht
          cases e
          cases hv with
          | own _ sh t2 ys hl2 =>
            obtain ⟨R⟩ := hr.blk i _ hl
            exact R.repD.congr fun p => ⟨fun h => ⟨i, rfl, h⟩, fun ⟨j, hj, h⟩ => by cases hj; exact h⟩
        · exact nomatch e
      · exact nomatch e
    | _ => exact nomatch e
  | int k =>
    cases v with
    | r d x =>
      cases hv with
      | r _ _ _ hx =>
        cases x with
        | int k n => cases e; cases hx; exact (RepD.int _ _).congr (none' (fun _ h => h) fun i h => nomatch h)
        | bool b => cases e; cases hx; exact (RepD.bool _).congr (none' (fun _ h => h) fun i h => nomatch h)
        | str l => cases e; cases hx; exact (RepD.str _).congr (none' (fun _ h => h) fun i h => nomatch h)
        | sl => exact nomatch e
        | tok => exact nomatch e
    | _ => exact nomatch e
  | bool =>
    cases v with
    | r d x =>
      cases hv with
      | r _ _ _ hx =>
        cases x with
        | int k n => cases e; cases hx; exact (RepD.int _ _).congr (none' (fun _ h => h) fun i h => nomatch h)
        | bool b => cases e; cases hx; exact (RepD.bool _).congr (none' (fun _ h => h) fun i h => nomatch h)
        | str l => cases e; cases hx; exact (RepD.str _).congr (none' (fun _ h => h) fun i h => nomatch h)
        | sl => exact nomatch e
        | tok => exact nomatch e
    | _ => exact nomatch e
  | str =>
    cases v with
    | r d x =>
      cases hv with
      | r _ _ _ hx =>
        cases x with
        | int k n => cases e; cases hx; exact (RepD.int _ _).congr (none' (fun _ h => h) fun i h => nomatch h)
        | bool b => cases e; cases hx; exact (RepD.bool _).congr (none' (fun _ h => h) fun i h => nomatch h)
        | str l => cases e; cases hx; exact (RepD.str _).congr (none' (fun _ h => h) fun i h => nomatch h)
        | sl => exact nomatch e
        | tok => exact nomatch e
    | _ => exact nomatch e
  | tok =>
    cases v with
    | r d x =>
      cases hv with
      | r _ _ _ hx =>
        cases x with
        | tok n => cases e; cases hx; exact (RepD.tok _).congr (none' (fun _ h => h) fun i h => nomatch h)
        | _ => exact nomatch e
    | nilS =>
      cases e
      cases hv
      rw [← Tok.nil_env]
      exact (RepD.tok _).congr (none' (fun _ h => h) fun i h => nomatch h)
    | _ => exact nomatch e
/-- What is taken in is a block of its own. -/
theorem absR_there {H : Heap} {t : Ty} {v : SV} {r : R} {ids : List Nat} (e : v.absR H t = some (ids, r)) {i : Nat} (hv : v = .own i) : ∃ t1 xs, look H i = some (.arr none t1 xs) := by
  subst hv
  cases t with
  | sl t' =>
    simp only [SV.absR] at e
    split at e
    · rename_i t1 xs hl; exact ⟨t1, xs, hl⟩
    · exact nomatch e
  | _ => exact nomatch e
end Go.Proofs.Ev

set_option linter.unusedVariables false
namespace Go.Proofs.Ev
variable [Tok]
set_option linter.unusedSectionVars false
section
variable {P : Program} {w : World}
theorem at_lt {w : World} {b o : Nat} {u : Value} (h : w.at? (b, o) = some u) : b < w.heap.size := by
  unfold World.at? World.cell? at h
  cases hh : w.heap[b]? with
  | none => simp [hh] at h
  | some x => exact (Array.getElem?_eq_some_iff.1 hh).1
theorem alloc_old {w : World} {ob : Obj} {p : Cell} {u : Value} (h : w.at? p = some u) : (w.alloc ob).at? p = some u ∧ (w.alloc ob).ice? p = w.ice? p := by
  obtain ⟨b, o⟩ := p
  have hb := at_lt h
  have he : (w.alloc ob).heap[b]? = w.heap[b]? := heap_alloc_old w ob b hb
  unfold World.at? World.ice? World.cell? at *
  simp only [he, and_true]
  exact h
theorem alloc_none {w : World} {ob : Obj} {p : Cell} (h : (w.alloc ob).at? p = none) : w.at? p = none := by
  cases hq : w.at? p with
  | none => rfl
  | some u => rw [(alloc_old hq).1] at h; exact nomatch h
theorem alloc_new {w : World} {cs : Array Value} {e : TypeId} (j : Nat) : (w.alloc (.cells cs e)).at? (w.heap.size, j) = cs[j]? ∧ (w.alloc (.cells cs e)).ice? (w.heap.size, j) = (0, 0, cs.size) ∧ w.at? (w.heap.size, j) = none := by
  have he := heap_alloc_new w (.cells cs e)
  refine ⟨?_, ?_, ?_⟩
  · unfold World.at? World.cell?; simp only [he]; simp
  · unfold World.ice?; simp only [he]
  · unfold World.at? World.cell?; simp
/-- What 'append' brings about. -/
structure Appended (P : Program) (w w' : World) (sz m n cap : Nat) (b o : Nat) (olds news : List Value) (a' : Option Addr) (cap' b' o' : Nat) : Prop where
  le : m + n ≤ cap'
  ha : cap' = 0 ∨ a' = some ⟨b', o', none⟩
  hreg : ∀ j, j < cap' * sz → (∃ v, w'.at? (b', o' + j) = some v) ∧ whole (w'.ice? (b', o' + j)) o' (cap' * sz) = true
  hold : ∀ j u, olds[j]? = some u → w'.at? (b', o' + j) = some u
  hnew : ∀ j u, news[j]? = some u → w'.at? (b', o' + (m * sz + j)) = some u
  hout : ∀ p u, w.at? p = some u → ¬ reg b o (cap * sz) p → w'.at? p = some u ∧ w'.ice? p = w.ice? p
  hdom : ∀ p, w'.at? p = none → w.at? p = none
  hfp : ∀ p, reg b' o' (cap' * sz) p → w.at? p = none ∨ reg b o (cap * sz) p
  stay : ∀ p u, w.at? p = some u → w'.ice? p = w.ice? p
  gr : Grown w w'
theorem append_run {T ty e : TypeId} {i : TypeInfo} {z : Value} (ht : P.underlying T = some (.slice e)) (hi : P.info? e = some i) (hz : i.zero = some z) (hzs : z.cells.size = i.size)
    {a : Option Addr} {m cap b o : Nat} (hcap : m ≤ cap) (ha : cap = 0 ∨ a = some ⟨b, o, none⟩) (hreg : ∀ j, j < cap * i.size → (∃ v, w.at? (b, o + j) = some v) ∧ whole (w.ice? (b, o + j)) o (cap * i.size) = true)
    {olds : List Value} (hol : olds.length = m * i.size) (holds : ∀ j u, olds[j]? = some u → w.at? (b, o + j) = some u)
    {x : Option Addr} {n c : Nat} {news : List Value} (hnl : news.length = n * i.size) (hnews : n = 0 ∨ ∃ A, x = some A ∧ ∀ j u, news[j]? = some u → w.cell? (A.add j) = some u) (h1 : ∀ u ∈ news, u.oneCell' = true)
    (hb : i.bytes ≤ 512) (hmn : m + n ≤ maxN) :
    ∃ a' cap' b' o' w', (Builtin.append_ #[T, T] ty #[.slice a m cap, .slice x n c]).run P w = .ok (.slice a' (m + n) cap') w' ∧ Appended P w w' i.size m n cap b o olds news a' cap' b' o' := by
  have hmn' : m + n ≤ 274877906944 := hmn
  have hf : ∀ w1 : World, (∀ A, w1.cell? A = w.cell? A) → (Builtin.firstCells i.size n (.slice x n c)).run P w1 = .ok news.toArray w1 := fun w1 hw1 => by
    rcases hnews with rfl | ⟨A, rfl, h⟩
    · have : news = [] := List.length_eq_zero_iff.1 (by simpa using hnl)
      subst this
      cases x with
      | none => exact run_firstCells_none w1 _ _ _ _
      | some A => exact run_firstCells_some w1 i.size 0 A 0 c [] (by simp) (fun j v hv => by simp at hv)
    · exact run_firstCells_some w1 i.size n A n c news hnl fun j v hv => (hw1 _).trans (h j v hv)
  by_cases hroom : m + n ≤ cap
  · by_cases hc0 : cap = 0
    · subst hc0
      have hm0 : m = 0 := by omega
      have hn0 : n = 0 := by omega
      subst hm0 hn0
      have hn' : news = [] := List.length_eq_zero_iff.1 (by simpa using hnl)
      have ho' : olds = [] := List.length_eq_zero_iff.1 (by simpa using hol)
      subst hn' ho'
      refine ⟨a, 0, b, o, w, ?_, ⟨Nat.le_refl _, .inl rfl, fun j hj => by simp at hj, fun j u h => by simp at h, fun j u h => by simp at h, fun p u hp _ => ⟨hp, rfl⟩, fun p h => h, fun p hp => by have := hp.2; simp at this; omega, fun p u _ => rfl, Grown.refl w⟩⟩
      have hf0 := hf w fun _ => rfl
      cases a with
      | none => simp [Builtin.append_, run_underlying ht, sizeOf, typeInfo, hi, Builtin.lenOf, hf0]
      | some A =>
        have hs : (storeCells (A.add (0 * i.size)) []).run P w = .ok () w := by simp [storeCells]
        simp [Builtin.append_, run_underlying ht, sizeOf, typeInfo, hi, Builtin.lenOf, hf0]
        first | done | (simp [storeCells])
    · have ha' := ha.resolve_left hc0
      subst ha'
      have hle : m * i.size + n * i.size ≤ cap * i.size := by rw [← Nat.add_mul]; exact Nat.mul_le_mul_right _ hroom
      have hst := run_storeCells_cells (P := P) b (o + m * i.size) news 0 w (fun j hj => by
          obtain ⟨⟨u, q1⟩, _⟩ := hreg (m * i.size + j) (by omega)
          simp only [Nat.add_zero]
          have q1 : w.cell? ⟨b, o + (m * i.size + j), none⟩ = some u := q1
          rw [show o + m * i.size + j = o + (m * i.size + j) from by omega, q1]; rfl) (fun j hj => by
          obtain ⟨⟨u, q1⟩, q2⟩ := hreg (m * i.size + j) (by omega)
          simp only [Nat.add_zero]
          rw [show o + m * i.size + j = o + (m * i.size + j) from by omega]; exact calm_frozen q1 (whole_calm q2)) h1
      simp only [Nat.add_zero] at hst
      have hf0 := hf w fun _ => rfl
      have hcellin : ∀ j, j < news.length → (w.setCells b (o + m * i.size) news).at? (b, o + (m * i.size + j)) = news[j]? := fun j hj => by
        have := World.cell?_setCells_in b news (o + m * i.size) w (fun j hj => by
          obtain ⟨⟨u, q1⟩, _⟩ := hreg (m * i.size + j) (by omega)
          have q1 : w.cell? ⟨b, o + (m * i.size + j), none⟩ = some u := q1
          rw [show o + m * i.size + j = o + (m * i.size + j) from by omega, q1]; rfl) j hj
        rw [show o + (m * i.size + j) = o + m * i.size + j from by omega]
        rw [List.getElem?_eq_getElem hj]
        simpa [World.at?] using this
      have hcellout : ∀ p u, w.at? p = some u → ¬ (p.1 = b ∧ o + m * i.size ≤ p.2 ∧ p.2 < o + m * i.size + news.length) → (w.setCells b (o + m * i.size) news).at? p = some u := fun p u hp hno => by
        unfold World.at? at *
        rw [World.cell?_setCells_out b _ _ w _ (fun e1 _ => by simp at e1; simp; omega)]
        exact hp
      have hice : ∀ p, (w.setCells b (o + m * i.size) news).ice? p = w.ice? p := fun p => ice?_setCells _ _ _ _ _
      refine ⟨some ⟨b, o, none⟩, cap, b, o, w.setCells b (o + m * i.size) news, ?_, ⟨hroom, .inr rfl, fun j hj => ⟨?_, by rw [hice]; exact (hreg j hj).2⟩, fun j u hu => ?_, fun j u hu => ?_, fun p u hp hno => ⟨hcellout p u hp fun hin => hno ⟨hin.1, by omega, by omega⟩, hice p⟩, fun p hp => ?_, fun p hp => .inr hp, fun p u _ => hice p, Grown.setCells _ _ _ _⟩⟩
      · simp [Builtin.append_, run_underlying ht, sizeOf, typeInfo, hi, Builtin.lenOf, hroom, hf0, Addr.add_lit, hst]
      · by_cases hin : m * i.size ≤ j ∧ j < m * i.size + news.length
        · have hj' := hcellin (j - m * i.size) (by omega)
          rw [show m * i.size + (j - m * i.size) = j from by omega] at hj'
          exact ⟨_, hj'.trans (List.getElem?_eq_getElem (by omega))⟩
        · obtain ⟨u, hu⟩ := (hreg j hj).1
          exact ⟨u, hcellout _ u hu fun h => hin ⟨by have := h.2.1; simp at this; omega, by have := h.2.2; simp at this; omega⟩⟩
      · have hj : j < m * i.size := by rw [← hol]; exact (List.getElem?_eq_some_iff.1 hu).1
        exact hcellout _ u (holds j u hu) fun h => by have := h.2.1; simp at this; omega
      · rw [hcellin j (List.getElem?_eq_some_iff.1 hu).1]; exact hu
      · cases hq : w.at? p with
        | none => rfl
        | some u =>
          by_cases hin : p.1 = b ∧ o + m * i.size ≤ p.2 ∧ p.2 < o + m * i.size + news.length
          · obtain ⟨p1, p2⟩ := p
            obtain ⟨e1, e2, e3⟩ := hin
            simp only at e1 e2 e3
            subst e1
            have := hcellin (p2 - (o + m * i.size)) (by omega)
            rw [show o + (m * i.size + (p2 - (o + m * i.size))) = p2 from by omega, hp, List.getElem?_eq_getElem (by omega)] at this
            exact nomatch this
          · rw [hcellout p u hq hin] at hp; exact nomatch hp
  · have hlt : cap < m + n := by omega
    have h63 : ((m + n : Nat) : Int) ≤ 9223372036854775807 := by omega
    have hfit : Builtin.nextslicecap (m + n) cap * i.bytes ≤ 281474976710656 := growslice_fits hlt (by
      have : (m + n) * i.bytes ≤ 274877906944 * 512 := Nat.mul_le_mul hmn' hb
      omega)
    have hge := grownCap_ge w (m + n) cap e
    have hfo : ∀ w1 : World, (∀ A, w1.cell? A = w.cell? A) → (Builtin.firstCells i.size m (.slice a m cap)).run P w1 = .ok olds.toArray w1 := fun w1 hw1 => by
      rcases ha with rfl | rfl
      · have hm0 : m = 0 := by omega
        subst hm0
        have ho' : olds = [] := List.length_eq_zero_iff.1 (by simpa using hol)
        subst ho'
        cases a with
        | none => exact run_firstCells_none w1 _ _ _ _
        | some A => exact run_firstCells_some w1 i.size 0 A 0 0 [] (by simp) (fun j v hv => by simp at hv)
      · exact run_firstCells_some w1 i.size m _ m cap olds hol fun j v hv => (hw1 _).trans (by
          have := holds j v hv
          rw [Addr.add_lit]; exact this)
    have hrun : (Builtin.append_ #[T, T] ty #[.slice a m cap, .slice x n c]).run P w =
        .ok (.slice (some ⟨w.heap.size, 0, none⟩) (m + n) (grownCap w (m + n) cap e))
          (w.drew.alloc (.cells (olds.toArray ++ news.toArray ++ Builtin.zeroCells z.cells (grownCap w (m + n) cap e - (m + n))) e)) := by
      have hn : ¬ (m + n ≤ cap) := by omega
      have h63' : ¬ (9223372036854775807 < ((m : Int) + (n : Int))) := by omega
      have h48' : ¬ (281474976710656 < Builtin.nextslicecap (m + n) cap * i.bytes) := by omega
      have hf0 := hf w.drew fun _ => rfl
      have hfo0 := hfo w.drew fun _ => rfl
      simp [Builtin.append_, run_underlying ht, sizeOf, typeInfo, zeroValue, hi, hz, Builtin.lenOf, hn, h63', h48', Question.forced, hf0, hfo0, newRow, grownCap]
      simp only [← Array.append_assoc, List.append_toArray]
    generalize hcs : olds.toArray ++ news.toArray ++ Builtin.zeroCells z.cells (grownCap w (m + n) cap e - (m + n)) = cs at hrun
    have hsize : cs.size = grownCap w (m + n) cap e * i.size := by
      rw [← hcs]
      simp only [Array.size_append, List.size_toArray, size_zeroCells, hzs, hol, hnl, ← Nat.add_mul]
      congr 1; omega
    have hnew := fun j => alloc_new (w := w.drew) (cs := cs) (e := e) j
    have hsz : w.drew.heap.size = w.heap.size := rfl
    refine ⟨_, _, w.heap.size, 0, _, hrun, ⟨hge, .inr rfl, fun j hj => ⟨⟨cs[j]'(by rw [hsize]; exact hj), ?_⟩, ?_⟩, fun j u hu => ?_, fun j u hu => ?_, fun p u hp _ => ?_, fun p hp => ?_, fun p hp => .inl ?_, fun p u hp => ?_, (Grown.drew w).trans (Grown.alloc w.drew cs e)⟩⟩
    · have := (hnew j).1
      rw [hsz] at this
      rw [Nat.zero_add, this]; simp
    · have := (hnew j).2.1
      rw [hsz] at this
      rw [Nat.zero_add, this, hsize]; exact whole_mk
    · have := (hnew j).1
      rw [hsz] at this
      have hj := (List.getElem?_eq_some_iff.1 hu).1
      rw [Nat.zero_add, this, ← hcs, Array.append_assoc, Array.getElem?_append_left (by simpa using hj)]
      simpa using hu
    · have := (hnew (m * i.size + j)).1
      rw [hsz] at this
      have hj := (List.getElem?_eq_some_iff.1 hu).1
      rw [Nat.zero_add, this, ← hcs, Array.append_assoc, Array.getElem?_append_right (by simp [hol]), Array.getElem?_append_left (by simp [hol]; omega)]
      simp only [List.size_toArray, hol, Nat.add_sub_cancel_left]
      simpa using hu
    · exact alloc_old (w := w.drew) hp
    · exact alloc_none (w := w.drew) hp
    · obtain ⟨p1, p2⟩ := p
      obtain ⟨e1, _, _⟩ := hp
      simp only at e1
      subst e1
      exact (hnew p2).2.2
    · exact (alloc_old (w := w.drew) hp).2
end
end Go.Proofs.Ev

set_option linter.unusedVariables false
namespace Go.Proofs.Ev
variable [Tok]
set_option linter.unusedSectionVars false
def Inner (w : World) (H : Heap) (pl : Pl) (sh : Option (List Nat)) (r : R) (u : Value) (f : Cell → Prop) : Prop :=
  match sh with
  | none => RepD w r u f
  | some d => RepR w (okd H pl d) r u ∧ ∀ p, ¬ f p
theorem one_oneCell {u : Value} (h : one u = true) : u.oneCell' = true := by cases u <;> simp_all [one, Value.oneCell']
theorem RepD.isOne {w : World} {r : R} {u : Value} {f : Cell → Prop} (h : RepD w r u f) : one u = true := by cases h <;> first | rfl | exact Tok.one_env _
theorem Inner.isOne {w : World} {H : Heap} {pl : Pl} {sh : Option (List Nat)} {r : R} {u : Value} {f : Cell → Prop} (h : Inner w H pl sh r u f) : one u = true := by
  cases sh with
  | none => exact RepD.isOne h
  | some d => exact RepR.isOne h.1
theorem BlkRep.rowI {w : World} {H : Heap} {pl : Pl} {i : Nat} {sh : Option (List Nat)} {t : Ty} {xs : List t.El} (h : BlkRep w H pl i (.arr sh t xs)) : Nonempty (Row w (Inner w H pl sh) t xs (pl.hdr i) (pl.fp i)) := by
  cases sh <;> exact h
theorem BlkRep.of_rowI {w : World} {H : Heap} {pl : Pl} {i : Nat} {sh : Option (List Nat)} {t : Ty} {xs : List t.El} (h : Nonempty (Row w (Inner w H pl sh) t xs (pl.hdr i) (pl.fp i))) : BlkRep w H pl i (.arr sh t xs) := by
  cases sh <;> exact h
/-- Elements as they lie somewhere, to be taken over: 'ids' are given up for what they own. -/
structure Src (w : World) (H : Heap) (pl : Pl) (sh : Option (List Nat)) (ids : List Nat) (t : Ty) (ys : List t.El) (u : Value) : Prop where
  ex : ∃ (x : Option Addr) (c : Nat) (news : List Value) (fs : Nat → Nat → Cell → Prop), u = .slice x ys.length c ∧ news.length = ys.length * t.sz ∧
    (ys.length = 0 ∨ ∃ A, x = some A ∧ ∀ (j : Nat) (v : Value), news[j]? = some v → w.cell? (A.add j) = some v) ∧ (∀ v ∈ news, one v = true) ∧
    (∀ i j r, cellIn t ys i j r → ∃ v, news[i * t.sz + j]? = some v ∧ Inner w H pl sh r v (fs i j)) ∧
    (∀ i j r p, cellIn t ys i j r → fs i j p → ∃ k B, mem k ids = true ∧ look H k = some B ∧ B.isBox = false ∧ pl.fp k p) ∧
    (∀ i j r i' j' r' p, cellIn t ys i j r → cellIn t ys i' j' r' → fs i j p → fs i' j' p → i = i' ∧ j = j')
theorem flat_ne {t : Ty} (h : flatTy t = true) {xs : List t.El} {i j : Nat} {r : R} (hc : cellIn t xs i j r) : ∀ t' l, r ≠ .sl t' l := by
  obtain ⟨x, _, hr⟩ := hc
  intro t' l e
  subst e
  have hm := List.mem_of_getElem? hr
  cases t with
  | sl t => exact nomatch h
  | int k => simp [Ty.cells] at hm
  | bool => simp [Ty.cells] at hm
  | str => simp [Ty.cells] at hm
  | st s => cases s with
    | shape => simp [Ty.cells, S.cells, shapeC] at hm
    | wish => simp [Ty.cells, S.cells, wishC] at hm
    | taskK => simp [Ty.cells, S.cells, taskKC] at hm
    | requestK => simp [Ty.cells, S.cells, requestKC] at hm
    | _ => exact nomatch h
  | tok => simp [Ty.cells] at hm
theorem RepR.toD {w : World} {ok : Cell → Prop} {r : R} {u : Value} (h : RepR w ok r u) (hs : ∀ t l, r ≠ .sl t l) : RepD w r u (fun _ => False) := by
  cases h with
  | int k n => exact .int k n
  | bool b => exact .bool b
  | str l => exact .str l
  | tok n => exact .tok n
  | sl t xs => exact (hs t xs rfl).elim
section
variable {w : World} {H : Heap} {pl : Pl} {t : Ty}
/-- The list of f's values. -/
theorem range_get {f : Nat → Value} {n k : Nat} (h : k < n) : ((List.range n).map f)[k]? = some (f k) := by simp [h]
theorem cell_lt {t : Ty} {xs : List t.El} {i j : Nat} {r : R} (h : cellIn t xs i j r) : i * t.sz + j < xs.length * t.sz := off_lt (cellIn_lt h).1 (cellIn_lt h).2 (Nat.le_refl _)
theorem src_of_list (hr : HRel H pl w) {v : SV} {u : Value} {d : List Nat} {ys : List t.El} (h : v.list H t = some (d, ys)) (hv : SVRep w H pl v u) (sh : Option (List Nat)) (hsh : (flatTy t = true ∧ sh = none) ∨ sh = some d) :
    Src w H pl sh [] t ys u := by
  have hl := (list_rep hr h hv).1
  cases hl with
  | sl _ _ a cap b o vs hcap ha hc hrr =>
    have hk : ∀ i j r, cellIn t ys i j r → (i * t.sz + j) / t.sz = i ∧ (i * t.sz + j) % t.sz = j := fun i j r hx => by
      have hj := (cellIn_lt hx).2
      refine ⟨by rw [Nat.mul_comm, Nat.mul_add_div t.sz_pos, Nat.div_eq_of_lt hj]; simp, by rw [Nat.mul_comm, Nat.mul_add_mod, Nat.mod_eq_of_lt hj]⟩
    have hback : ∀ k, k < ys.length * t.sz → ∃ r, cellIn t ys (k / t.sz) (k % t.sz) r := fun k hk => cellIn_of (by rw [Nat.div_lt_iff_lt_mul t.sz_pos]; exact hk) (Nat.mod_lt _ t.sz_pos)
    refine ⟨a, cap, (List.range (ys.length * t.sz)).map (fun k => vs (k / t.sz) (k % t.sz)), fun _ _ _ => False, rfl, by simp, ?_, fun v hv => ?_, fun i j r hx => ⟨vs i j, ?_, ?_⟩, fun i j r p _ hf => hf.elim, fun i j r i' j' r' p _ _ hf => hf.elim⟩
    · rcases ha with rfl | ha
      · exact .inl rfl
      · refine .inr ⟨_, ha, fun k v hv => ?_⟩
        have hlt : k < ys.length * t.sz := by have := (List.getElem?_eq_some_iff.1 hv).1; simpa using this
        rw [range_get hlt] at hv; cases hv
        obtain ⟨r, hx⟩ := hback k hlt
        have := (hc _ _ _ hx).2
        rw [Addr.add_lit]
        rw [show k / t.sz * t.sz + k % t.sz = k from by rw [Nat.mul_comm]; exact Nat.div_add_mod _ _] at this
        exact this
    · obtain ⟨k, hk', rfl⟩ := List.mem_map.1 hv
      have hlt : k < ys.length * t.sz := by simpa using hk'
      obtain ⟨r, hx⟩ := hback k hlt
      exact (hrr _ _ _ hx).isOne
    · rw [range_get (cell_lt hx), (hk i j r hx).1, (hk i j r hx).2]
    · rcases hsh with ⟨hf, rfl⟩ | rfl
      · exact (hrr i j r hx).toD (flat_ne hf hx)
      · exact ⟨hrr i j r hx, fun _ h => h⟩
theorem elsOf_spec {h : Heap} {t : Ty} : ∀ {n : Nat} {cs : List SV} {d : List Nat} {xs : List t.El}, elsOf h t n cs = some (d, xs) →
    xs.length = n ∧ n * t.sz ≤ cs.length ∧ ∀ i j r, cellIn t xs i j r → ∃ v ty d', cs[i * t.sz + j]? = some v ∧ v.asR h ty = some (d', r) ∧ ∀ k, mem k d' = true → mem k d = true
  | 0, cs, ids, xs, e => by cases e; exact ⟨rfl, by simp, fun i j r h => by obtain ⟨x, hx, _⟩ := h; simp at hx⟩
  | n + 1, cs, ids, xs, e => by
    simp only [elsOf, asEl, Option.bind_eq_some_iff, Option.some.injEq, Prod.mk.injEq] at e
    obtain ⟨⟨d, x⟩, ⟨⟨d0, rs⟩, h1, x', hx, hx0⟩, ⟨d', ys⟩, h2, rfl, rfl⟩ := e
    obtain ⟨rfl, rfl⟩ := hx0
    have key : ∀ {ts : List Ty} {vs : List SV} {d : List Nat} {rs : List R}, asRs h ts vs = some (d, rs) → vs.length = ts.length ∧ ∀ (j : Nat) (r : R), rs[j]? = some r → ∃ v ty d', vs[j]? = some v ∧ v.asR h ty = some (d', r) ∧ ∀ k, mem k d' = true → mem k d = true := by
      intro ts
      induction ts with
      | nil => intro vs d rs e; cases vs with
        | nil => cases e; exact ⟨rfl, fun j r hr => by simp at hr⟩
        | cons v vs => exact nomatch e
      | cons t ts ih =>
        intro vs d rs e
        cases vs with
        | nil => exact nomatch e
        | cons v vs =>
          simp only [asRs, Option.bind_eq_some_iff, Option.some.injEq, Prod.mk.injEq] at e
          obtain ⟨⟨d1, r1⟩, q1, ⟨d2, r2⟩, q2, rfl, rfl⟩ := e
          obtain ⟨g1, g2⟩ := ih q2
          refine ⟨by simp [g1], fun j r hr => ?_⟩
          cases j with
          | zero => simp at hr; subst hr; exact ⟨v, t, d1, rfl, q1, fun k hk => by rw [mem_append, hk]; rfl⟩
          | succ j =>
            obtain ⟨v', ty, d', p1, p2, p3⟩ := g2 j r (by simpa using hr)
            exact ⟨v', ty, d', by simpa using p1, p2, fun k hk => by rw [mem_append, p3 k hk, Bool.or_true]⟩
    obtain ⟨g1, g4⟩ := key h1
    obtain ⟨k1, k2, k4⟩ := elsOf_spec h2
    have hc := Ty.ofCells_spec t rs _ hx
    rw [Ty.tys_length, List.length_take] at g1
    rw [List.length_drop] at k2
    refine ⟨by simp [k1], by rw [Nat.succ_mul]; omega, fun i j r hc' => ?_⟩
    rcases cellIn_cons.1 hc' with ⟨rfl, hr⟩ | ⟨i', rfl, hr⟩
    · rw [hc] at hr
      obtain ⟨v, ty, d', q1, q2, q3⟩ := g4 j r hr
      rw [List.getElem?_take] at q1
      split at q1
      · exact ⟨v, ty, d', by rw [Nat.zero_mul, Nat.zero_add]; exact q1, q2, fun k hk => by rw [mem_append, q3 k hk]; rfl⟩
      · exact nomatch q1
    · obtain ⟨v, ty, d'', q1, q2, q3⟩ := k4 i' j r hr
      rw [List.getElem?_drop] at q1
      exact ⟨v, ty, d'', by rw [Nat.succ_mul, show i' * t.sz + t.sz + j = t.sz + (i' * t.sz + j) from by omega]; exact q1, q2, fun k hk => by rw [mem_append, q3 k hk, Bool.or_true]⟩
theorem nodupB_spec : ∀ {l : List Nat}, nodupB l = true → l.Nodup
  | [], _ => List.nodup_nil
  | x :: l, h => by
    simp only [nodupB] at h
    cases hm : mem x l <;> simp only [hm, cond_true, cond_false] at h
    · exact List.nodup_cons.2 ⟨fun h' => by rw [(mem_iff _ _).2 h'] at hm; exact (nomatch hm), nodupB_spec h⟩
    · exact nomatch h
/-- What cells own, cell by cell. -/
theorem took_at (hr : HRel H pl w) {n : Nat} {cs : List SV} {ids : List Nat} {xs : List t.El} (h : absEls H t n cs = some (ids, xs)) (hn : ids.Nodup) :
    (∀ i j r p v, cellIn t xs i j r → cs[i * t.sz + j]? = some v → tookF pl v p → ∃ k B, mem k ids = true ∧ look H k = some B ∧ B.isBox = false ∧ pl.fp k p) ∧
    (∀ i j r i' j' r' p v v', cellIn t xs i j r → cellIn t xs i' j' r' → cs[i * t.sz + j]? = some v → cs[i' * t.sz + j']? = some v' → tookF pl v p → tookF pl v' p → i = i' ∧ j = j') := by
  obtain ⟨h1, h2, h3, h4⟩ := absEls_spec h
  have there : ∀ i j r v k, cellIn t xs i j r → cs[i * t.sz + j]? = some v → v = .own k → (cs.take (n * t.sz))[i * t.sz + j]? = some (.own k) ∧ ∃ B, look H k = some B ∧ B.isBox = false := fun i j r v k hc hv e => by
    subst e
    have hlt := cell_lt hc
    rw [h1] at hlt
    refine ⟨by rw [List.getElem?_take, if_pos hlt]; exact hv, ?_⟩
    obtain ⟨v, ty, g1, g2⟩ := h4 i j r hc
    rw [hv] at g1; cases g1
    obtain ⟨t1, ys, hl⟩ := absR_there g2 rfl
    exact ⟨_, hl, rfl⟩
  refine ⟨fun i j r p v hc hv ⟨k, e, hf⟩ => ?_, fun i j r i' j' r' p v v' hc hc' hv hv' ⟨k, e, hf⟩ ⟨k', e', hf'⟩ => ?_⟩
  · obtain ⟨g1, B, g2, g3⟩ := there i j r v k hc hv e
    exact ⟨k, B, (mem_iff _ _).2 (by rw [h3]; exact tookL_mem g1), g2, g3, hf⟩
  · obtain ⟨g1, B, g2, _⟩ := there i j r v k hc hv e
    obtain ⟨g1', B', g2', _⟩ := there i' j' r' v' k' hc' hv' e'
    have := hr.dis k k' B B' p g2 g2' hf hf'
    subst this
    have hk := tookL_inj (h3 ▸ hn) g1 g1'
    have hj := (cellIn_lt hc).2
    have hj' := (cellIn_lt hc').2
    have e1 : (i * t.sz + j) / t.sz = i := by rw [Nat.mul_comm, Nat.mul_add_div t.sz_pos, Nat.div_eq_of_lt hj]; simp
    have e2 : (i' * t.sz + j') / t.sz = i' := by rw [Nat.mul_comm, Nat.mul_add_div t.sz_pos, Nat.div_eq_of_lt hj']; simp
    have e3 : (i * t.sz + j) % t.sz = j := by rw [Nat.mul_comm, Nat.mul_add_mod, Nat.mod_eq_of_lt hj]
    have e4 : (i' * t.sz + j') % t.sz = j' := by rw [Nat.mul_comm, Nat.mul_add_mod, Nat.mod_eq_of_lt hj']
    exact ⟨by rw [← e1, ← e2, hk], by rw [← e3, ← e4, hk]⟩
theorem src_of_any (hr : HRel H pl w) {v : SV} {u : Value} {sh : Option (List Nat)} {ids : List Nat} {ys : List t.El} (h : anyList H t v = some (sh, ids, ys)) (hv : SVRep w H pl v u) : Src w H pl sh ids t ys u := by
  have lst : ∀ {v : SV}, SVRep w H pl v u → ((v.list H t).bind fun p => cond (flatTy t) (some (none, [], p.2)) (some (some p.1, [], p.2))) = some (sh, ids, ys) → Src w H pl sh ids t ys u := fun {v} hv h => by
    rw [Option.bind_eq_some_iff] at h
    obtain ⟨⟨d, zs⟩, h1, h2⟩ := h
    cases hf : flatTy t <;> simp only [hf, cond_true, cond_false, Option.some.injEq, Prod.mk.injEq] at h2
    · obtain ⟨rfl, rfl, rfl⟩ := h2
      exact src_of_list hr h1 hv _ (.inr rfl)
    · obtain ⟨rfl, rfl, rfl⟩ := h2
      exact src_of_list hr h1 hv _ (.inl ⟨hf, rfl⟩)
  unfold anyList at h
  split at h
  · rename_i i n
    split at h
    · rename_i cs hl
      simp only [Option.bind_eq_some_iff, Option.some.injEq, Prod.mk.injEq] at h
      obtain ⟨⟨sh', ids', zs⟩, h1, rfl, rfl, rfl⟩ := h
      cases hv with
      | bsl _ _ cs2 a hl2 hh =>
        rw [hl] at hl2; cases hl2
        obtain ⟨b, o, q1, q2, q3⟩ := hr.blk i _ hl
        rw [q1] at hh; cases hh
        have mk : ∀ (fs : Nat → Nat → Cell → Prop), zs.length = n → n * t.sz ≤ cs.length →
            (∀ i' j r, cellIn t zs i' j r → ∀ v, cs[i' * t.sz + j]? = some v → ∀ u, SVRep w H pl v u → Inner w H pl sh' r u (fs i' j)) →
            (∀ i' j r p, cellIn t zs i' j r → fs i' j p → ∃ k B, mem k ids' = true ∧ look H k = some B ∧ B.isBox = false ∧ pl.fp k p) →
            (∀ i j r i' j' r' p, cellIn t zs i j r → cellIn t zs i' j' r' → fs i j p → fs i' j' p → i = i' ∧ j = j') → Src w H pl sh' (i :: ids') t zs (.slice (some ⟨b, o, none⟩) n n) := fun fs e1 e2 f1 f2 f3 => by
          subst e1
          have hcell : ∀ k, k < zs.length * t.sz → ∃ v u, cs[k]? = some v ∧ w.at? (b, o + k) = some u ∧ one u = true ∧ SVRep w H pl v u := fun k hk => by
            have hk' : k < cs.length := by omega
            obtain ⟨u, g1, _, g3, g4⟩ := q3 k _ (List.getElem?_eq_getElem hk')
            exact ⟨_, u, List.getElem?_eq_getElem hk', g1, g3, g4⟩
          refine ⟨some ⟨b, o, none⟩, zs.length, (List.range (zs.length * t.sz)).map (fun k => (w.at? (b, o + k)).getD undef), fs, rfl, by simp, .inr ⟨_, rfl, fun k v hv => ?_⟩, fun v hv => ?_, fun i' j r hc => ?_, fun i' j r p hc hf => ?_, f3⟩
          · have hlt : k < zs.length * t.sz := by have := (List.getElem?_eq_some_iff.1 hv).1; simpa using this
            rw [range_get hlt] at hv; cases hv
            obtain ⟨v, u, g1, g2, _⟩ := hcell k hlt
            rw [Addr.add_lit, g2]; exact g2
          · obtain ⟨k, hk', rfl⟩ := List.mem_map.1 hv
            obtain ⟨v, u, g1, g2, g3, _⟩ := hcell k (by simpa using hk')
            rw [g2]; exact g3
          · obtain ⟨v, u, g1, g2, g3, g4⟩ := hcell _ (cell_lt hc)
            exact ⟨u, by rw [range_get (cell_lt hc), g2]; rfl, f1 i' j r hc v g1 u g4⟩
          · obtain ⟨k, B, g1, g2⟩ := f2 i' j r p hc hf
            exact ⟨k, B, by simp only [mem]; cases Nat.beq i k <;> simp [g1], g2⟩
        unfold anyEls at h1
        rw [Option.bind_eq_some_iff] at h1
        obtain ⟨bb, hbb, h1⟩ := h1
        cases bb <;> simp only [cond_true, cond_false] at h1
        rotate_left
        · rw [Option.bind_eq_some_iff] at h1
          obtain ⟨q, hq, h1⟩ := h1
          obtain ⟨ids0, zs0⟩ := q
          cases hn : nodupB ids0 <;> simp only [hn, cond_true, cond_false, Option.some.injEq, Prod.mk.injEq] at h1
          · exact nomatch h1
          · obtain ⟨rfl, rfl, rfl⟩ := h1
            obtain ⟨k1, k2, k3, k4⟩ := absEls_spec hq
            obtain ⟨p1, p2⟩ := took_at hr hq (nodupB_spec hn)
            refine mk (fun i' j p => ∃ v, cs[i' * t.sz + j]? = some v ∧ tookF pl v p) k1 k2 (fun i' j r hc v hv u hu => ?_) (fun i' j r p hc ⟨v, hv, hf⟩ => p1 i' j r p v hc hv hf)
              (fun i j r i' j' r' p hc hc' ⟨v, hv, hf⟩ ⟨v', hv', hf'⟩ => p2 i j r i' j' r' p v v' hc hc' hv hv' hf hf')
            obtain ⟨v', ty, g1, g2⟩ := k4 i' j r hc
            rw [hv] at g1; cases g1
            exact (absR_rep hr g2 hu).congr fun p => ⟨fun h => ⟨v, hv, h⟩, fun ⟨v', hv', h⟩ => by rw [hv] at hv'; cases hv'; exact h⟩
        · simp only [Option.bind_eq_some_iff, Option.some.injEq, Prod.mk.injEq] at h1
          obtain ⟨⟨d, zs0⟩, hq, rfl, rfl, rfl⟩ := h1
          obtain ⟨k1, k2, k4⟩ := elsOf_spec hq
          refine mk (fun _ _ _ => False) k1 k2 (fun i' j r hc v hv u hu => ?_) (fun _ _ _ _ _ hf => hf.elim) (fun _ _ _ _ _ _ _ _ _ hf => hf.elim)
          obtain ⟨v', ty, d', g1, g2, g3⟩ := k4 i' j r hc
          rw [hv] at g1; cases g1
          exact ⟨(asR_rep hr g2 hu).frame fun p u hp hu => ⟨okd_mono g3 hp, hu⟩, fun _ h => h⟩
    · exact nomatch h
  · exact lst hv h
end
end Go.Proofs.Ev

set_option linter.unusedVariables false
namespace Go.Proofs.Ev
variable [Tok]
set_option linter.unusedSectionVars false
section
variable {w : World} {H : Heap} {pl : Pl} {t : Ty}
theorem cellIn_append {xs ys : List t.El} {i j : Nat} {r : R} (h : cellIn t (xs ++ ys) i j r) : (i < xs.length ∧ cellIn t xs i j r) ∨ (xs.length ≤ i ∧ cellIn t ys (i - xs.length) j r) := by
  obtain ⟨x, hx, hr⟩ := h
  by_cases c : i < xs.length
  · exact .inl ⟨c, x, by rwa [List.getElem?_append_left c] at hx, hr⟩
  · exact .inr ⟨by omega, x, by rwa [List.getElem?_append_right (by omega)] at hx, hr⟩
theorem Row.nil (inner : R → Value → (Cell → Prop) → Prop) : Nonempty (Row w inner t [] (.slice none 0 0) (fun _ => False)) :=
  ⟨none, 0, 0, 0, fun _ _ => undef, fun _ _ _ => False, rfl, Nat.le_refl _, .inl rfl, fun j hj => by simp at hj, fun i j r ⟨x, hx, _⟩ => by simp at hx, fun i j r ⟨x, hx, _⟩ => by simp at hx,
    fun i j r p ⟨x, hx, _⟩ => by simp at hx, fun i j r _ _ _ p ⟨x, hx, _⟩ => by simp at hx, fun p => ⟨fun h => h.elim, fun h => h.elim (fun h => by have := h.2; simp at this) fun ⟨i, j, r, ⟨x, hx, _⟩, _⟩ => by simp at hx⟩⟩
theorem divmod_cell {xs : List t.El} {i j : Nat} {r : R} (hx : cellIn t xs i j r) : (i * t.sz + j) / t.sz = i ∧ (i * t.sz + j) % t.sz = j := by
  have hj := (cellIn_lt hx).2
  exact ⟨by rw [Nat.mul_comm, Nat.mul_add_div t.sz_pos, Nat.div_eq_of_lt hj]; simp, by rw [Nat.mul_comm, Nat.mul_add_mod, Nat.mod_eq_of_lt hj]⟩
theorem cell_back {xs : List t.El} {k : Nat} (hk : k < xs.length * t.sz) : ∃ r, cellIn t xs (k / t.sz) (k % t.sz) r := cellIn_of (by rw [Nat.div_lt_iff_lt_mul t.sz_pos]; exact hk) (Nat.mod_lt _ t.sz_pos)
theorem divmod_back (k : Nat) : k / t.sz * t.sz + k % t.sz = k := by rw [Nat.mul_comm]; exact Nat.div_add_mod _ _
/-- The row behind an 'append'. -/
theorem append_row {sh sh1 sh' : Option (List Nat)} {xs ys : List t.El} {fp0 : Cell → Prop} {u0 ux : Value} {ids G : List Nat} {T ty e : TypeId} {ti : TypeInfo} {z : Value} {P : Program} {n : Nat} {H' : Heap}
    (hr : HRel H pl w) (hT : P.underlying T = some (.slice e)) (hi : P.info? e = some ti) (hz : ti.zero = some z) (hzs : z.cells.size = ti.size) (hsz : ti.size = t.sz) (hb : ti.bytes ≤ 512)
    (hrow : Nonempty (Row w (Inner w H pl sh) t xs u0 fp0)) (hfp0 : ∀ p, fp0 p → ∃ k B, mem k G = true ∧ mem k ids = false ∧ look H k = some B ∧ pl.fp k p)
    (hsrc : Src w H pl sh1 ids t ys ux) (hids : ∀ k, mem k ids = true → mem k G = true) (hj : joinSh sh sh1 = some sh') (hhit : hit G (sh'.getD []) = false)
    (hlen : xs.length + ys.length ≤ maxN) (hn : look H n = none) (hH' : Turned H H' (G, G ++ []) n (.arr sh' t (xs ++ ys))) :
    ∃ u' fp' w', (Builtin.append_ #[T, T] ty #[u0, ux]).run P w = .ok u' w' ∧ StepTo H H' (G, G ++ []) pl (pl.set n u' fp') w w' := by
  obtain ⟨⟨a, cap, b, o, vs, fs, rfl, hcap, ha, hreg, hc, hrr, hd1, hd2, hfp⟩⟩ := hrow
  obtain ⟨⟨x, c, news, fs1, rfl, hnl, hnews, hone, hin1, hown1, hdis1⟩⟩ := hsrc
  have hown := hr.own_there
  have holds : ∀ j u, ((List.range (xs.length * t.sz)).map (fun k => vs (k / t.sz) (k % t.sz)))[j]? = some u → w.at? (b, o + j) = some u := fun j u hu => by
    have hlt : j < xs.length * t.sz := by have := (List.getElem?_eq_some_iff.1 hu).1; simpa using this
    rw [range_get hlt] at hu; cases hu
    obtain ⟨r, hx⟩ := cell_back hlt
    have := hc _ _ _ hx
    rwa [divmod_back] at this
  obtain ⟨a', cap', b', o', w', hrun, A⟩ := append_run (P := P) (w := w) (ty := ty) (n := ys.length) (c := c) (x := x) (news := news) hT hi hz hzs hcap ha (by rw [hsz]; exact hreg) (by rw [hsz]; simp) holds (by rw [hsz]; exact hnl) hnews (fun u hu => one_oneCell (hone u hu)) hb hlen
  rw [hsz] at A
  have hreg0 : ∀ p, reg b o (cap * t.sz) p → ∃ k B, mem k G = true ∧ mem k ids = false ∧ look H k = some B ∧ pl.fp k p := fun p hp => hfp0 p ((hfp p).2 (.inl hp))
  have hfs0 : ∀ i j r p, cellIn t xs i j r → fs i j p → ∃ k B, mem k G = true ∧ mem k ids = false ∧ look H k = some B ∧ pl.fp k p := fun i j r p hx hf => hfp0 p ((hfp p).2 (.inr ⟨i, j, r, hx, hf⟩))
  have hsep : ∀ p, (∃ k B, mem k G = true ∧ mem k ids = false ∧ look H k = some B ∧ pl.fp k p) → (∃ k B, mem k ids = true ∧ look H k = some B ∧ B.isBox = false ∧ pl.fp k p) → False := fun p ⟨k, B, _, g2, g3, g4⟩ ⟨k', B', q1, q2, _, q4⟩ => by
    have := hr.dis k k' B B' p g3 q2 g4 q4
    subst this
    rw [g2] at q1; exact nomatch q1
  have hfs1reg : ∀ i j r p, cellIn t ys i j r → fs1 i j p → ¬ reg b o (cap * t.sz) p := fun i j r p hx hf hp => hsep p (hreg0 p hp) (hown1 i j r p hx hf)
  have hnewreg : ∀ p, reg b' o' (cap' * t.sz) p → ¬ reg b o (cap * t.sz) p → w.at? p = none := fun p hp hno => (A.hfp p hp).resolve_right hno
  have nocase : ∀ p, reg b' o' (cap' * t.sz) p → ¬ reg b o (cap * t.sz) p → (∃ k B, look H k = some B ∧ pl.fp k p) → False := fun p hp hno ⟨k, B, g1, g2⟩ => by
    obtain ⟨u, hu⟩ := hown k B p g1 g2
    rw [hnewreg p hp hno] at hu; exact nomatch hu
  let F : Nat → Nat → Cell → Prop := fun i j p => sh' = none ∧ (if i < xs.length then fs i j p else fs1 (i - xs.length) j p)
  have hF : ∀ i j r p, cellIn t (xs ++ ys) i j r → F i j p → (∃ i j r, cellIn t xs i j r ∧ fs i j p) ∨ ∃ i j r, cellIn t ys i j r ∧ fs1 i j p := fun i j r p hx hf => by
    rcases cellIn_append hx with ⟨hlt, hx⟩ | ⟨hge, hx⟩
    · have h2 := hf.2; rw [if_pos hlt] at h2; exact .inl ⟨_, _, _, hx, h2⟩
    · have h2 := hf.2; rw [if_neg (by omega)] at h2; exact .inr ⟨_, _, _, hx, h2⟩
  let FP : Cell → Prop := fun p => reg b' o' (cap' * t.sz) p ∨ ∃ i j r, cellIn t (xs ++ ys) i j r ∧ F i j p
  refine ⟨_, FP, w', hrun, ?_⟩
  have toRO : ∀ {r : R} {u : Value} {f : Cell → Prop} {d : List Nat}, sh' = some d → RepD w r u f → (∀ p, f p → ∃ k B, mem k G = true ∧ look H k = some B ∧ pl.fp k p) → (∀ p, f p → ¬ reg b o (cap * t.sz) p) →
      RepR w' (okd H' (pl.set n (.slice a' (xs.length + ys.length) cap') FP) d) r u := fun {r u f d} hs h hk hno =>
    (h.repR (ok := f) fun p hp => hp).frame fun p u hp hu => ⟨⟨by obtain ⟨k, B, _, g2, g3⟩ := hk p hp; exact hr.ob k B p g2 g3, fun i' B' hB' _ hf' => by
      obtain ⟨k, B, g1, g2, g3⟩ := hk p hp
      by_cases c : i' = n
      · subst c
        simp only [Pl.set, if_true] at hf'
        rcases hf' with hf' | ⟨_, _, _, _, hf'⟩
        · exact nocase p hf' (hno p hp) ⟨k, B, g2, g3⟩
        · exact nomatch (hs.symm.trans hf'.1)
      · obtain ⟨q1, B0, q2, _⟩ := hH'.bwd i' B' hB' c
        simp only [Pl.set, if_neg c] at hf'
        have := hr.dis i' k B0 B p q2 g2 hf' g3
        subst this
        have q1 : mem i' G = false := q1
        rw [q1] at g1; exact nomatch g1⟩, (A.hout p u hu (hno p hp)).1⟩
  refine turn_step A.gr hr hH' (fun i hi => by show mem i (G ++ []) = true; rw [List.append_nil]; exact hi) (fun i hi => .inl (by have hi : mem i (G ++ []) = true := hi; rwa [List.append_nil] at hi)) (.inl hn) (fun p u hp hno => A.hout p u hp fun hre => ?_) (fun p hp => hr.nb p (A.hdom p hp)) (fun p hp => ?_) fun hk => ?_
  · obtain ⟨k, B, g1, _, g3, g4⟩ := hreg0 p hre
    exact hno k B (by rw [List.append_nil]; exact g1) g3 g4
  · rcases hp with hp | ⟨i, j, r, hx, hf⟩
    · rcases A.hfp p hp with h | h
      · exact .inl h
      · obtain ⟨k, B, g1, _, g3, g4⟩ := hreg0 p h
        exact .inr ⟨k, B, by rw [List.append_nil]; exact g1, g3, g4⟩
    rcases hF i j r p hx hf with ⟨i, j, r, hx, hf⟩ | ⟨i, j, r, hx, hf⟩
    · obtain ⟨k, B, g1, _, g3, g4⟩ := hfs0 i j r p hx hf
      exact .inr ⟨k, B, by rw [List.append_nil]; exact g1, g3, g4⟩
    · obtain ⟨k, B, g1, g2, _, g4⟩ := hown1 i j r p hx hf
      exact .inr ⟨k, B, by rw [List.append_nil]; exact hids k g1, g2, g4⟩
  · refine BlkRep.of_rowI ⟨a', cap', b', o', fun i j => if i < xs.length then vs i j else (news[(i - xs.length) * t.sz + j]?).getD undef, F, ?_, by rw [List.length_append]; exact A.le, A.ha, A.hreg, fun i j r hx => ?_, fun i j r hx => ?_, fun i j r p hx hf => ?_, fun i j r i' j' r' p hx hx' hf hf' => ?_, fun p => ?_⟩
    · simp [Pl.set]
    · rcases cellIn_append hx with ⟨hlt, hx⟩ | ⟨hge, hx⟩
      · rw [if_pos hlt]
        refine A.hold _ _ ?_
        rw [range_get (cell_lt hx), (divmod_cell hx).1, (divmod_cell hx).2]
      · rw [if_neg (by omega)]
        obtain ⟨v, g1, _⟩ := hin1 _ _ _ hx
        rw [g1, Option.getD_some]
        have := A.hnew _ _ g1
        rw [show i * t.sz + j = xs.length * t.sz + ((i - xs.length) * t.sz + j) from by rw [← Nat.add_assoc, ← Nat.add_mul]; congr 2; omega]
        exact this
    · have frameD : ∀ {r : R} {u : Value} {f : Cell → Prop}, RepD w r u f → (∀ p, f p → ¬ reg b o (cap * t.sz) p) → RepD w' r u f := fun h hno => h.frame fun p u hf hu => A.hout p u hu (hno p hf)
      have frameR : ∀ {r : R} {u : Value} {d d' : List Nat}, RepR w (okd H pl d) r u → (∀ k, mem k d = true → mem k d' = true) → hit G d' = false → RepR w' (okd H' (pl.set n (.slice a' (xs.length + ys.length) cap') FP) d') r u := fun {r u d d'} h hd hh =>
        h.frame fun p u hp hu => hk.k2 d' p u (fun i hi => by show mem i (G ++ []) = false; rw [List.append_nil]; exact hit_false G d' hh i hi) (okd_mono hd hp) hu
      have nof : ∀ {d : List Nat}, sh' = some d → ∀ p, ¬ F i j p := fun e p hf => nomatch (e.symm.trans hf.1)
      rcases cellIn_append hx with ⟨hlt, hx⟩ | ⟨hge, hx⟩
      · rw [if_pos hlt]
        have := hrr i j r hx
        cases sh with
        | none =>
          cases sh1 with
          | none => cases hj; exact (frameD this fun p hf => hd1 i j r p hx hf).congr fun p => by simp only [F, true_and, if_pos hlt]
          | some d1 =>
            cases hj
            exact ⟨toRO rfl this (fun p hf => by obtain ⟨k, B, g1, _, g3, g4⟩ := hfs0 i j r p hx hf; exact ⟨k, B, g1, g3, g4⟩) fun p hf => hd1 i j r p hx hf, nof rfl⟩
        | some d0 =>
          cases sh1 with
          | none => cases hj; exact ⟨frameR this.1 (fun k hk => hk) hhit, nof rfl⟩
          | some d1 =>
            cases hj
            exact ⟨frameR this.1 (fun k hk => by rw [mem_append, hk]; rfl) hhit, nof rfl⟩
      · rw [if_neg (show ¬ i < xs.length by omega)]
        obtain ⟨v, g1, g2⟩ := hin1 _ _ _ hx
        rw [g1, Option.getD_some]
        cases sh with
        | none =>
          cases sh1 with
          | none => cases hj; exact (frameD g2 fun p hf => hfs1reg _ _ _ p hx hf).congr fun p => by simp only [F, true_and, if_neg (show ¬ i < xs.length by omega)]
          | some d1 => cases hj; exact ⟨frameR g2.1 (fun k hk => hk) hhit, nof rfl⟩
        | some d0 =>
          cases sh1 with
          | none =>
            cases hj
            exact ⟨toRO rfl g2 (fun p hf => by obtain ⟨k, B, g1, g2, _, g4⟩ := hown1 _ j r p hx hf; exact ⟨k, B, hids k g1, g2, g4⟩) fun p hf => hfs1reg _ _ _ p hx hf, nof rfl⟩
          | some d1 =>
            cases hj
            exact ⟨frameR g2.1 (fun k hk => by rw [mem_append, hk, Bool.or_true]) hhit, nof rfl⟩
    · intro hre
      have hf := hf.2
      rcases cellIn_append hx with ⟨hlt, hx⟩ | ⟨hge, hx⟩
      · simp only [if_pos hlt] at hf
        obtain ⟨k, B, g1, _, g3, g4⟩ := hfs0 i j r p hx hf
        exact nocase p hre (hd1 i j r p hx hf) ⟨k, B, g3, g4⟩
      · simp only [if_neg (show ¬ i < xs.length by omega)] at hf
        obtain ⟨k, B, g1, g2, _, g4⟩ := hown1 _ j r p hx hf
        exact nocase p hre (hfs1reg _ j r p hx hf) ⟨k, B, g2, g4⟩
    · have hf := hf.2
      have hf' := hf'.2
      rcases cellIn_append hx with ⟨hlt, hx⟩ | ⟨hge, hx⟩ <;> rcases cellIn_append hx' with ⟨hlt', hx'⟩ | ⟨hge', hx'⟩
      · simp only [if_pos hlt] at hf
        simp only [if_pos hlt'] at hf'
        exact hd2 i j r i' j' r' p hx hx' hf hf'
      · simp only [if_pos hlt] at hf
        simp only [if_neg (show ¬ i' < xs.length by omega)] at hf'
        exact (hsep p (hfs0 i j r p hx hf) (hown1 _ _ _ p hx' hf')).elim
      · simp only [if_neg (show ¬ i < xs.length by omega)] at hf
        simp only [if_pos hlt'] at hf'
        exact (hsep p (hfs0 _ _ _ p hx' hf') (hown1 _ _ _ p hx hf)).elim
      · simp only [if_neg (show ¬ i < xs.length by omega)] at hf
        simp only [if_neg (show ¬ i' < xs.length by omega)] at hf'
        have := hdis1 _ _ _ _ _ _ p hx hx' hf hf'
        exact ⟨by omega, this.2⟩
    · simp only [Pl.set, if_true]; exact Iff.rfl
end
end Go.Proofs.Ev
