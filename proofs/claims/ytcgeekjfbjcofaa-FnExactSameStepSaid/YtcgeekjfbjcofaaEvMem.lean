/- Soundness of the operations that make or write memory. -/
import Derived.Test.YtcgeekjfbjcofaaEvStep
import Derived.Laws.IdiomCopy
set_option linter.unusedVariables false
set_option linter.unusedSimpArgs false
namespace Go.Proofs.Ev
theorem take_heap {st st' : St} {dst : Option Tmp} {c : CR} (h : st.take dst c = some st') : after st.heap st.nid c = some st'.heap := by
  simp only [St.take, Option.bind_eq_some_iff, Option.some.injEq] at h
  obtain ⟨h1, e1, s, h2, rfl⟩ := h
  simp only [after, e1, Option.bind_some]
/-- What an operation does, for what came of it. -/
def OpSem (P : Program) (o : Oper) (a : Act) (w : World) (H : Heap) (pl : Pl) (nid : Nat) (c : CR) : Prop :=
  (∀ i B, look c.upd i = some B → ∃ B', look H i = some B') ∧
  ∀ (H' : Heap) (next : Act → World → Prop) (Q : Exit → Act → World → Prop), after H nid c = some H' →
    (∀ u pl' w', StepTo H H' c.kil pl pl' w w' → SVRep w' H' pl' c.v u → next (a.put o.dst u) w') → o.wp P a w next Q
section
variable {w : World} {H : Heap} {pl : Pl} {P : Program}
def push (w : World) (cs : Array Value) (T : TypeId) : World := { w with heap := w.heap.push (.cells cs T (0, 0)) }
theorem push_old (cs : Array Value) (T : TypeId) (p : Cell) (u : Value) (h : w.at? p = some u) : (push w cs T).at? p = some u ∧ (push w cs T).ice? p = w.ice? p := by
  obtain ⟨b, o⟩ := p
  have hb : b < w.heap.size := by
    unfold World.at? World.cell? at h
    cases hh : w.heap[b]? with
    | none => simp [hh] at h
    | some x => exact (Array.getElem?_eq_some_iff.1 hh).1
  have he : (push w cs T).heap[b]? = w.heap[b]? := by
    show (w.heap.push _)[b]? = _
    rw [Array.getElem?_push, if_neg (Nat.ne_of_lt hb)]
  unfold World.at? World.ice? World.cell? World.frozen? at *
  simp only [he, and_true]
  exact h
theorem push_new (cs : Array Value) (T : TypeId) (j : Nat) : (push w cs T).at? (w.heap.size, j) = cs[j]? ∧ (push w cs T).ice? (w.heap.size, j) = false ∧ w.at? (w.heap.size, j) = none := by
  unfold World.at? World.ice? World.cell? World.frozen? push
  refine ⟨by simp, by simp, by simp⟩
theorem run_newRow (T : TypeId) (cs : Array Value) : (newRow T cs).run P w = .ok ⟨w.heap.size, 0, none⟩ (push w cs T) := by
  simp [newRow, push]
/-- A new variable. -/
theorem box_step (hr : HRel H pl w) {n : Nat} (hn : look H n = none) {cs : List SV} {us : Array Value} (hc : CRep w H pl cs us) (T : TypeId) :
    ∃ pl', StepTo H (H ++ [(n, .box cs)]) ([], []) pl pl' w (push w us T) ∧ pl'.hdr n = .pointer (some ⟨w.heap.size, 0, none⟩) := by
  refine ⟨_, new_step (hdr := .pointer (some ⟨w.heap.size, 0, none⟩)) (fp := reg w.heap.size 0 cs.length) hr hn (Grown.alloc w us T) (push_old us T) (fun p hp => ?_) (fun hk => ?_), by simp [Pl.set]⟩
  · obtain ⟨p1, p2⟩ := p
    obtain ⟨h1, _, _⟩ := hp
    have h1 : p1 = w.heap.size := h1
    subst h1
    exact (push_new us T p2).2.2
  · refine ⟨w.heap.size, 0, by simp [Pl.set], fun p => by simp [Pl.set], fun j v hv => ?_⟩
    have hj : j < us.size := by have := (List.getElem?_eq_some_iff.1 hv).1; rw [hc.hl] at this; exact this
    have hg : us[j]? = some us[j] := Array.getElem?_eq_getElem hj
    obtain ⟨q1, q2, _⟩ := push_new (w := w) us T j
    refine ⟨us[j], by rw [Nat.zero_add, q1, hg], by rw [Nat.zero_add]; exact q2, hc.h1 _ _ hg, (hc.h _ _ _ hv hg).keep0 hk⟩
theorem exec_wp {o : Oper} {a : Act} {next : Act → World → Prop} {Q : Exit → Act → World → Prop} {u : Value} {w' : World}
    (h : (execOp a.eval o).run P w = .ok (.value u) w') (hn : next (a.put o.dst u) w') : o.wp P a w next Q := by
  unfold Oper.wp; rw [h]; exact hn
theorem alloc_sem {o : Oper} {a : Act} {T : TypeId} {n : Nat} {z : List SV} (hr : HRel H pl w) (hn : look H n = none) (ho : o.op = .alloc T) (hz : zeroCs P T = some z) :
    OpSem P o a w H pl n { v := .ptr n 0 0, news := [.box z] } := by
  refine ⟨fun i B h => by simp [look] at h, fun H' next Q ha hN => ?_⟩
  cases ha
  obtain ⟨u, hu, hc⟩ := zeroCs_rep (P := P) hr hz
  obtain ⟨pl', hs, hh⟩ := box_step hr hn hc T
  refine exec_wp (u := .pointer (some ⟨w.heap.size, 0, none⟩)) (w' := push w u.cells T) ?_ (hN _ pl' _ hs ?_)
  · rw [execOp, ho]; simp [Instr.alloc, hu, newVar, run_newRow]
  · have := SVRep.ptrB (w := push w u.cells T) (H := H ++ [(n, .box z)]) (pl := pl') n 0 z w.heap.size 0 (by rw [look_append, hn, look_cons]; simp) hh
    exact this
theorem box_sem {o : Oper} {a : Act} {T : TypeId} {x : Operand} {n : Nat} {v : SV} {cs : List SV} (hr : HRel H pl w) (hn : look H n = none) (ho : o.op = .box T x) (hv : SVRep w H pl v (a.eval x)) (hz : v.cells = some cs) :
    OpSem P o a w H pl n { v := .ptr n 0 0, news := [.box cs] } := by
  refine ⟨fun i B h => by simp [look] at h, fun H' next Q ha hN => ?_⟩
  cases ha
  have hc := hv.cells hz hr
  obtain ⟨pl', hs, hh⟩ := box_step hr hn hc T
  refine exec_wp (u := .pointer (some ⟨w.heap.size, 0, none⟩)) (w' := push w (a.eval x).cells T) ?_ (hN _ pl' _ hs ?_)
  · rw [execOp, ho]; simp [Instr.box, newVar, run_newRow]
  · have := SVRep.ptrB (w := push w (a.eval x).cells T) (H := H ++ [(n, .box cs)]) (pl := pl') n 0 cs w.heap.size 0 (by rw [look_append, hn, look_cons]; simp) hh
    exact this
theorem still_sem {o : Oper} {a : Act} {n : Nat} {v : SV} {u : Value} (hr : HRel H pl w) (h : (execOp a.eval o).run P w = .ok (.value u) w) (hv : SVRep w H pl v u) : OpSem P o a w H pl n { v := v } := by
  refine ⟨fun i B h => by simp [look] at h, fun H' next Q ha hN => ?_⟩
  cases ha
  have hH : upds [] H ++ newsH n [] = H := by simp [upds, newsH]
  simp only [hH] at hN
  exact exec_wp h (hN u pl w (StepTo.refl hr) hv)
/-- Into a variable. -/
theorem store_sem {o : Oper} {a : Act} {T : TypeId} {p x : Operand} {n i k sz : Nat} {v : SV} {cs cs' xs : List SV} (hr : HRel H pl w) (ho : o.op = .store T p x) (hl : look H i = some (.box cs))
    (hp : SVRep w H pl (.ptr i 0 k) (a.eval p)) (hv : SVRep w H pl v (a.eval x)) (hz : v.cells = some xs) (hT : sizeT P T = some sz) (hsz : sz = xs.length) (hs : setCells cs k xs = some cs') :
    OpSem P o a w H pl n { v := .undef, upd := [(i, .box cs')] } := by
  refine ⟨fun j B h => ?_, fun H' next Q ha hN => ?_⟩
  · rw [look_cons] at h
    by_cases e : i = j
    · subst e; exact ⟨_, hl⟩
    · rw [if_neg e] at h; simp [look] at h
  have hc := hv.cells hz hr
  simp only [sizeT, Option.bind_eq_some_iff, Option.some.injEq] at hT
  obtain ⟨ti, hti, rfl⟩ := hT
  unfold setCells at hs
  cases hb : Nat.ble (k + xs.length) cs.length <;> simp only [hb, cond_true, cond_false, Option.some.injEq] at hs
  · exact nomatch hs
  have hb := Nat.le_of_ble_eq_true hb
  subst hs
  obtain ⟨b, o', h1, h2, h3⟩ := hr.blk i _ hl
  have hpe : a.eval p = .pointer (some ⟨b, o' + k, none⟩) := by
    generalize a.eval p = up at hp
    cases hp with
    | ptrB _ _ cs'' b2 k2 hl2 hh2 => rw [h1] at hh2; cases hh2; rfl
    | ptrA _ _ _ sh t ys b2 k2 m cap hl2 hx hh2 => rw [h1] at hh2; exact nomatch hh2
  have hlen : (a.eval x).cells.toList.length = xs.length := by simp [hc.hl]
  have hcell : ∀ j, j < xs.length → ∃ u, w.at? (b, o' + k + j) = some u ∧ w.ice? (b, o' + k + j) = false := fun j hj => by
    obtain ⟨u, q1, q2, _⟩ := h3 (k + j) _ (List.getElem?_eq_getElem (show k + j < cs.length by omega))
    rw [Nat.add_assoc]; exact ⟨u, q1, q2⟩
  have hrun : (execOp a.eval o).run P w = .ok .skip (w.setCells b (o' + k) (a.eval x).cells.toList) := by
    have hst := run_storeCells_cells (P := P) b (o' + k) (a.eval x).cells.toList 0 w (fun j hj => by
        obtain ⟨u, q1, _⟩ := hcell j (by omega)
        simp only [Nat.add_zero]
        have q1 : w.cell? ⟨b, o' + k + j, none⟩ = some u := q1
        rw [q1]; rfl) (fun j hj => by
        obtain ⟨u, _, q2⟩ := hcell j (by omega)
        simp only [Nat.add_zero]; exact q2) (fun u hu => by
        obtain ⟨j, hj⟩ := List.getElem?_of_mem hu
        have := hc.h1 j u (by simpa using hj)
        cases u <;> simp_all [one, Value.oneCell'])
    have hsz2 : (a.eval x).cells.size = ti.size := by rw [← hc.hl]; exact hsz.symm
    rw [execOp, ho]
    simp only [Instr.storeAt, hpe, Instr.sureAddr, storeVar, Sem.run_bind, Sem.run_pure, Result.andThen_ok, run_sizeOf' hti, hsz2, ne_eq, not_true, if_false, Sem.run_ite]
    simp only [Nat.add_zero] at hst
    simp [hst]
  have hreg : ∀ q, pl.fp i q ↔ reg b o' cs.length q := h2
  have hlk : ∀ j B, look H' j = some B → (j = i ∧ B = .box (cs.take k ++ xs ++ cs.drop (k + xs.length))) ∨ (j ≠ i ∧ look H j = some B) := fun j B hB => by
    cases ha
    simp only [upds, newsH, List.append_nil, look_put] at hB
    by_cases e : i = j
    · subst e; simp only [if_true, Option.some.injEq] at hB; exact .inl ⟨rfl, hB.symm⟩
    · rw [if_neg e] at hB; exact .inr ⟨fun h => e h.symm, hB⟩
  have hlk2 : ∀ j B, look H j = some B → ∃ B', look H' j = some B' ∧ B.like B' ∧ (j ≠ i → B' = B) := fun j B hB => by
    cases ha
    simp only [upds, newsH, List.append_nil, look_put]
    by_cases e : i = j
    · subst e
      rw [hl] at hB; cases hB
      exact ⟨_, by simp; rfl, by simp [Blk.like]; omega, fun h => (h rfl).elim⟩
    · rw [if_neg e]; exact ⟨B, hB, B.like_refl, fun _ => rfl⟩
  have hout : ∀ q u, w.at? q = some u → ¬ (q.1 = b ∧ o' + k ≤ q.2 ∧ q.2 < o' + k + xs.length) → (w.setCells b (o' + k) (a.eval x).cells.toList).at? q = some u := fun q u hq hn' => by
    unfold World.at? at *
    rw [World.cell?_setCells_out b _ _ w _ (fun e1 _ => by simp at e1; rw [hlen]; simp; omega)]
    exact hq
  have hice : ∀ q, (w.setCells b (o' + k) (a.eval x).cells.toList).ice? q = w.ice? q := fun q => World.frozen?_setCells _ _ _ _ _
  have hkeep : Keeps ([], []) w H pl (w.setCells b (o' + k) (a.eval x).cells.toList) H' pl := by
    refine ⟨fun j B hB _ => ?_, fun d q u _ hok hq => ⟨⟨hok.1, fun j B hB hm hf => ?_⟩, hout q u hq fun hin => ?_⟩⟩
    · obtain ⟨B', e1, e2, _⟩ := hlk2 j B hB; exact ⟨B', e1, e2, rfl⟩
    · rcases hlk j B hB with ⟨rfl, rfl⟩ | ⟨_, hB'⟩
      · exact hok.2 j _ hl (fun _ => rfl) hf
      · exact hok.2 j B hB' hm hf
    · exact hok.2 i _ hl (fun _ => rfl) ((hreg q).2 ⟨hin.1, by omega, by omega⟩)
  have hstep : StepTo H H' ([], []) pl pl w (w.setCells b (o' + k) (a.eval x).cells.toList) := by
    refine ⟨⟨fun j B hB => ?_, fun j j' B B' q e1 e2 f1 f2 => ?_, fun j B q hB hf => ?_, fun q hq => hr.nb q ?_⟩, hkeep, rfl, Grown.setCells _ _ _ _, fun q u hq hno => ⟨fun j B hB hf => ?_, hout q u hq fun hin => ?_, hice q⟩⟩
    · rcases hlk j B hB with ⟨rfl, rfl⟩ | ⟨hj, hB'⟩
      · refine ⟨b, o', h1, fun q => by rw [hreg]; simp [reg]; omega, fun m v' hv' => ?_⟩
        have hto : (cs.take k).length = k := by simp; omega
        by_cases c1 : m < k ∨ k + xs.length ≤ m
        · have hv'' : cs[m]? = some v' := by
            rcases c1 with c1 | c1
            · rwa [List.append_assoc, List.getElem?_append_left (by omega), List.getElem?_take, if_pos c1] at hv'
            · rwa [List.append_assoc, List.getElem?_append_right (by omega), List.getElem?_append_right (by omega), List.getElem?_drop, hto,
                show k + xs.length + (m - k - xs.length) = m from by omega] at hv'
          obtain ⟨u, q1, q2, q3, q4⟩ := h3 m v' hv''
          exact ⟨u, hout _ _ q1 (by simp; omega), (hice _).trans q2, q3, q4.keep0 hkeep⟩
        · have hm : k ≤ m ∧ m < k + xs.length := by omega
          rw [List.append_assoc, List.getElem?_append_right (by omega), List.getElem?_append_left (by omega), hto] at hv'
          have hlt : m - k < (a.eval x).cells.size := by rw [← hc.hl]; omega
          have hg : (a.eval x).cells[m - k]? = some (a.eval x).cells[m - k] := Array.getElem?_eq_getElem hlt
          obtain ⟨u0, _, q2, _⟩ := h3 m _ (List.getElem?_eq_getElem (show m < cs.length by omega))
          refine ⟨(a.eval x).cells[m - k], ?_, (hice _).trans q2, hc.h1 _ _ hg, (hc.h _ _ _ hv' hg).keep0 hkeep⟩
          have := World.cell?_setCells_in b (a.eval x).cells.toList (o' + k) w (fun j hj => by
            obtain ⟨u, q1, _⟩ := hcell j (by omega)
            have q1 : w.cell? ⟨b, o' + k + j, none⟩ = some u := q1
            rw [q1]; rfl) (m - k) (by simpa using hlt)
          rw [show o' + m = o' + k + (m - k) from by omega]
          simpa [World.at?] using this
      · refine (hr.blk j B hB').keep hkeep rfl (fun _ => Iff.rfl) (fun q u hf hq => ⟨hout q u hq fun hin => ?_, hice q⟩) B.sweep_nil
        exact hj (hr.dis j i _ _ q hB' hl hf ((hreg q).2 ⟨hin.1, by omega, by omega⟩))
    · have g : ∀ m D, look H' m = some D → ∃ D', look H m = some D' := fun m D hD => by
        rcases hlk m D hD with ⟨rfl, _⟩ | ⟨_, h⟩
        · exact ⟨_, hl⟩
        · exact ⟨_, h⟩
      obtain ⟨D, hD⟩ := g j B e1
      obtain ⟨D', hD'⟩ := g j' B' e2
      exact hr.dis j j' D D' q hD hD' f1 f2
    · rcases hlk j B hB with ⟨rfl, _⟩ | ⟨_, hB'⟩
      · exact hr.ob j _ q hl hf
      · exact hr.ob j B q hB' hf
    · unfold World.at? at *
      by_cases hin : q.1 = b ∧ o' + k ≤ q.2 ∧ q.2 < o' + k + xs.length
      · have := World.cell?_setCells_in b (a.eval x).cells.toList (o' + k) w (fun j hj => by
          obtain ⟨u, q1, _⟩ := hcell j (by omega)
          have q1 : w.cell? ⟨b, o' + k + j, none⟩ = some u := q1
          rw [q1]; rfl) (q.2 - (o' + k)) (by omega)
        obtain ⟨q1, q2⟩ := q
        obtain ⟨e1, e2, e3⟩ := hin
        simp only at e1 e2 e3 hq this
        subst e1
        have e4 : o' + k + (q2 - (o' + k)) = q2 := by omega
        simp only [e4, hq] at this
        exact nomatch this
      · rwa [World.cell?_setCells_out b _ _ w _ (fun e1 _ => by simp at e1; rw [hlen]; simp; omega)] at hq
    · rcases hlk j B hB with ⟨rfl, _⟩ | ⟨_, hB'⟩
      · exact hno j _ hl hf
      · exact hno j B hB' hf
    · exact hno i _ hl ((hreg q).2 ⟨hin.1, by omega, by omega⟩)
  unfold Oper.wp
  rw [hrun]
  exact hN undef pl _ hstep (.undef _)
end
end Go.Proofs.Ev
