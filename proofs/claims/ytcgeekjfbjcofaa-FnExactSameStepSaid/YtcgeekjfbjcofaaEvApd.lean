/- 'append' in the model, wherever its row lies. -/
import Derived.Test.YtcgeekjfbjcofaaEvAbs
import Derived.Laws.AppendOwn
import Derived.Laws.MakeOwn
set_option linter.unusedSimpArgs false
set_option linter.unusedVariables false
namespace Go.Proofs.Ev
section
variable {P : Program} {w : World}
theorem at_drew (w : World) (p : Cell) : w.drew.at? p = w.at? p ∧ w.drew.ice? p = w.ice? p := ⟨rfl, rfl⟩
theorem at_lt {w : World} {b o : Nat} {u : Value} (h : w.at? (b, o) = some u) : b < w.heap.size := by
  unfold World.at? World.cell? at h
  cases hh : w.heap[b]? with
  | none => simp [hh] at h
  | some x => exact (Array.getElem?_eq_some_iff.1 hh).1
theorem alloc_old {w : World} {ob : Obj} {p : Cell} {u : Value} (h : w.at? p = some u) : (w.alloc ob).at? p = some u ∧ (w.alloc ob).ice? p = w.ice? p := by
  obtain ⟨b, o⟩ := p
  have hb := at_lt h
  have he : (w.alloc ob).heap[b]? = w.heap[b]? := heap_alloc_old w ob b hb
  unfold World.at? World.ice? World.cell? World.frozen? at *
  simp only [he, and_true]
  exact h
theorem alloc_none {w : World} {ob : Obj} {p : Cell} (h : (w.alloc ob).at? p = none) : w.at? p = none := by
  cases hq : w.at? p with
  | none => rfl
  | some u => rw [(alloc_old hq).1] at h; exact nomatch h
theorem alloc_new {w : World} {cs : Array Value} {e : TypeId} (j : Nat) : (w.alloc (.cells cs e)).at? (w.heap.size, j) = cs[j]? ∧ (w.alloc (.cells cs e)).ice? (w.heap.size, j) = false ∧ w.at? (w.heap.size, j) = none := by
  have he := heap_alloc_new w (.cells cs e)
  refine ⟨?_, ?_, ?_⟩
  · unfold World.at? World.cell?; simp only [he]; simp
  · unfold World.ice? World.frozen?; simp only [he]; simp
  · unfold World.at? World.cell?; simp
/-- What 'append' brings about. -/
structure Appended (P : Program) (w w' : World) (sz m n cap : Nat) (b o : Nat) (olds news : List Value) (a' : Option Addr) (cap' b' o' : Nat) : Prop where
  le : m + n ≤ cap'
  ha : cap' = 0 ∨ a' = some ⟨b', o', none⟩
  hreg : ∀ j, j < cap' * sz → (∃ v, w'.at? (b', o' + j) = some v) ∧ w'.ice? (b', o' + j) = false
  hold : ∀ j u, olds[j]? = some u → w'.at? (b', o' + j) = some u
  hnew : ∀ j u, news[j]? = some u → w'.at? (b', o' + (m * sz + j)) = some u
  hout : ∀ p u, w.at? p = some u → ¬ reg b o (cap * sz) p → w'.at? p = some u ∧ w'.ice? p = w.ice? p
  hdom : ∀ p, w'.at? p = none → w.at? p = none
  hfp : ∀ p, reg b' o' (cap' * sz) p → w.at? p = none ∨ reg b o (cap * sz) p
  stay : ∀ p u, w.at? p = some u → w'.ice? p = w.ice? p
  gr : Grown w w'
theorem reg_mk {b o n j : Nat} (h : j < n) : reg b o n (b, o + j) := ⟨rfl, by simp, by simp; omega⟩
theorem append_run {T ty e : TypeId} {i : TypeInfo} {z : Value} (ht : P.underlying T = some (.slice e)) (hi : P.info? e = some i) (hz : i.zero = some z) (hzs : z.cells.size = i.size)
    {a : Option Addr} {m cap b o : Nat} (hcap : m ≤ cap) (ha : cap = 0 ∨ a = some ⟨b, o, none⟩) (hreg : ∀ j, j < cap * i.size → (∃ v, w.at? (b, o + j) = some v) ∧ w.ice? (b, o + j) = false)
    {olds : List Value} (hol : olds.length = m * i.size) (holds : ∀ j u, olds[j]? = some u → w.at? (b, o + j) = some u)
    {x : Option Addr} {n c : Nat} {news : List Value} (hnl : news.length = n * i.size) (hnews : n = 0 ∨ ∃ A, x = some A ∧ ∀ j u, news[j]? = some u → w.cell? (A.add j) = some u) (h1 : ∀ u ∈ news, u.oneCell' = true)
    (hb : i.bytes ≤ 512) (hmn : m + n ≤ maxN) :
    ∃ a' cap' b' o' w', (Builtin.append_ #[T, T] ty #[.slice a m cap, .slice x n c]).run P w = .ok (.slice a' (m + n) cap') w' ∧ Appended P w w' i.size m n cap b o olds news a' cap' b' o' := by
  have hmn' : m + n ≤ 274877906944 := hmn
  have hf : ∀ w1 : World, (∀ A, w1.cell? A = w.cell? A) → (Builtin.firstCells i.size n (.slice x n c)).run P w1 = .ok news.toArray w1 := fun w1 hw1 => by
    rcases hnews with rfl | ⟨A, rfl, h⟩
    · have : news = [] := List.length_eq_zero_iff.1 (by simpa using hnl)
      subst this
      cases x with
      | none => exact run_firstCells_none w1 _ _ _ _
      | some A => exact run_firstCells_some w1 i.size 0 A 0 c [] (by simp) (fun j v hv => by simp at hv)
    · exact run_firstCells_some w1 i.size n A n c news hnl fun j v hv => (hw1 _).trans (h j v hv)
  by_cases hroom : m + n ≤ cap
  · by_cases hc0 : cap = 0
    · subst hc0
      have hm0 : m = 0 := by omega
      have hn0 : n = 0 := by omega
      subst hm0 hn0
      have hn' : news = [] := List.length_eq_zero_iff.1 (by simpa using hnl)
      have ho' : olds = [] := List.length_eq_zero_iff.1 (by simpa using hol)
      subst hn' ho'
      refine ⟨a, 0, b, o, w, ?_, ⟨Nat.le_refl _, .inl rfl, fun j hj => by simp at hj, fun j u h => by simp at h, fun j u h => by simp at h, fun p u hp _ => ⟨hp, rfl⟩, fun p h => h, fun p hp => by have := hp.2; simp at this; omega, fun p u _ => rfl, Grown.refl w⟩⟩
      have hf0 := hf w fun _ => rfl
      cases a with
      | none => simp [Builtin.append_, run_underlying ht, sizeOf, typeInfo, hi, Builtin.lenOf, hf0]
      | some A =>
        have hs : (storeCells (A.add (0 * i.size)) []).run P w = .ok () w := by simp [storeCells]
        simp [Builtin.append_, run_underlying ht, sizeOf, typeInfo, hi, Builtin.lenOf, hf0]
        first | done | (simp [storeCells])
    · have ha' := ha.resolve_left hc0
      subst ha'
      have hle : m * i.size + n * i.size ≤ cap * i.size := by rw [← Nat.add_mul]; exact Nat.mul_le_mul_right _ hroom
      have hst := run_storeCells_cells (P := P) b (o + m * i.size) news 0 w (fun j hj => by
          obtain ⟨⟨u, q1⟩, _⟩ := hreg (m * i.size + j) (by omega)
          simp only [Nat.add_zero]
          have q1 : w.cell? ⟨b, o + (m * i.size + j), none⟩ = some u := q1
          rw [show o + m * i.size + j = o + (m * i.size + j) from by omega, q1]; rfl) (fun j hj => by
          obtain ⟨_, q2⟩ := hreg (m * i.size + j) (by omega)
          simp only [Nat.add_zero]
          rw [show o + m * i.size + j = o + (m * i.size + j) from by omega]; exact q2) h1
      simp only [Nat.add_zero] at hst
      have hf0 := hf w fun _ => rfl
      have hcellin : ∀ j, j < news.length → (w.setCells b (o + m * i.size) news).at? (b, o + (m * i.size + j)) = news[j]? := fun j hj => by
        have := World.cell?_setCells_in b news (o + m * i.size) w (fun j hj => by
          obtain ⟨⟨u, q1⟩, _⟩ := hreg (m * i.size + j) (by omega)
          have q1 : w.cell? ⟨b, o + (m * i.size + j), none⟩ = some u := q1
          rw [show o + m * i.size + j = o + (m * i.size + j) from by omega, q1]; rfl) j hj
        rw [show o + (m * i.size + j) = o + m * i.size + j from by omega]
        rw [List.getElem?_eq_getElem hj]
        simpa [World.at?] using this
      have hcellout : ∀ p u, w.at? p = some u → ¬ (p.1 = b ∧ o + m * i.size ≤ p.2 ∧ p.2 < o + m * i.size + news.length) → (w.setCells b (o + m * i.size) news).at? p = some u := fun p u hp hno => by
        unfold World.at? at *
        rw [World.cell?_setCells_out b _ _ w _ (fun e1 _ => by simp at e1; simp; omega)]
        exact hp
      have hice : ∀ p, (w.setCells b (o + m * i.size) news).ice? p = w.ice? p := fun p => World.frozen?_setCells _ _ _ _ _
      refine ⟨some ⟨b, o, none⟩, cap, b, o, w.setCells b (o + m * i.size) news, ?_, ⟨hroom, .inr rfl, fun j hj => ⟨?_, (hice _).trans (hreg j hj).2⟩, fun j u hu => ?_, fun j u hu => ?_, fun p u hp hno => ⟨hcellout p u hp fun hin => hno ⟨hin.1, by omega, by omega⟩, hice p⟩, fun p hp => ?_, fun p hp => .inr hp, fun p u _ => hice p, Grown.setCells _ _ _ _⟩⟩
      · simp [Builtin.append_, run_underlying ht, sizeOf, typeInfo, hi, Builtin.lenOf, hroom, hf0, Addr.add_lit, hst]
      · by_cases hin : m * i.size ≤ j ∧ j < m * i.size + news.length
        · have hj' := hcellin (j - m * i.size) (by omega)
          rw [show m * i.size + (j - m * i.size) = j from by omega] at hj'
          exact ⟨_, hj'.trans (List.getElem?_eq_getElem (by omega))⟩
        · obtain ⟨u, hu⟩ := (hreg j hj).1
          exact ⟨u, hcellout _ u hu fun h => hin ⟨by have := h.2.1; simp at this; omega, by have := h.2.2; simp at this; omega⟩⟩
      · have hj : j < m * i.size := by rw [← hol]; exact (List.getElem?_eq_some_iff.1 hu).1
        exact hcellout _ u (holds j u hu) fun h => by have := h.2.1; simp at this; omega
      · rw [hcellin j (List.getElem?_eq_some_iff.1 hu).1]; exact hu
      · cases hq : w.at? p with
        | none => rfl
        | some u =>
          by_cases hin : p.1 = b ∧ o + m * i.size ≤ p.2 ∧ p.2 < o + m * i.size + news.length
          · obtain ⟨p1, p2⟩ := p
            obtain ⟨e1, e2, e3⟩ := hin
            simp only at e1 e2 e3
            subst e1
            have := hcellin (p2 - (o + m * i.size)) (by omega)
            rw [show o + (m * i.size + (p2 - (o + m * i.size))) = p2 from by omega, hp, List.getElem?_eq_getElem (by omega)] at this
            exact nomatch this
          · rw [hcellout p u hq hin] at hp; exact nomatch hp
  · have hlt : cap < m + n := by omega
    have h63 : ((m + n : Nat) : Int) ≤ 9223372036854775807 := by omega
    have hfit : Builtin.nextslicecap (m + n) cap * i.bytes ≤ 281474976710656 := growslice_fits hlt (by
      have : (m + n) * i.bytes ≤ 274877906944 * 512 := Nat.mul_le_mul hmn' hb
      omega)
    have hge := grownCap_ge w (m + n) cap e
    have hfo : ∀ w1 : World, (∀ A, w1.cell? A = w.cell? A) → (Builtin.firstCells i.size m (.slice a m cap)).run P w1 = .ok olds.toArray w1 := fun w1 hw1 => by
      rcases ha with rfl | rfl
      · have hm0 : m = 0 := by omega
        subst hm0
        have ho' : olds = [] := List.length_eq_zero_iff.1 (by simpa using hol)
        subst ho'
        cases a with
        | none => exact run_firstCells_none w1 _ _ _ _
        | some A => exact run_firstCells_some w1 i.size 0 A 0 0 [] (by simp) (fun j v hv => by simp at hv)
      · exact run_firstCells_some w1 i.size m _ m cap olds hol fun j v hv => (hw1 _).trans (by
          have := holds j v hv
          rw [Addr.add_lit]; exact this)
    have hrun : (Builtin.append_ #[T, T] ty #[.slice a m cap, .slice x n c]).run P w =
        .ok (.slice (some ⟨w.heap.size, 0, none⟩) (m + n) (grownCap w (m + n) cap e))
          (w.drew.alloc (.cells (olds.toArray ++ news.toArray ++ Builtin.zeroCells z.cells (grownCap w (m + n) cap e - (m + n))) e)) := by
      have hn : ¬ (m + n ≤ cap) := by omega
      have h63' : ¬ (9223372036854775807 < ((m : Int) + (n : Int))) := by omega
      have h48' : ¬ (281474976710656 < Builtin.nextslicecap (m + n) cap * i.bytes) := by omega
      have hf0 := hf w.drew fun _ => rfl
      have hfo0 := hfo w.drew fun _ => rfl
      simp [Builtin.append_, run_underlying ht, sizeOf, typeInfo, zeroValue, hi, hz, Builtin.lenOf, hn, h63', h48', Question.forced, hf0, hfo0, newRow, grownCap]
      simp only [← Array.append_assoc, List.append_toArray]
    generalize hcs : olds.toArray ++ news.toArray ++ Builtin.zeroCells z.cells (grownCap w (m + n) cap e - (m + n)) = cs at hrun
    have hsize : cs.size = grownCap w (m + n) cap e * i.size := by
      rw [← hcs]
      simp only [Array.size_append, List.size_toArray, size_zeroCells, hzs, hol, hnl, ← Nat.add_mul]
      congr 1; omega
    have hnew := fun j => alloc_new (w := w.drew) (cs := cs) (e := e) j
    have hsz : w.drew.heap.size = w.heap.size := rfl
    refine ⟨_, _, w.heap.size, 0, _, hrun, ⟨hge, .inr rfl, fun j hj => ⟨⟨cs[j]'(by rw [hsize]; exact hj), ?_⟩, ?_⟩, fun j u hu => ?_, fun j u hu => ?_, fun p u hp _ => ?_, fun p hp => ?_, fun p hp => .inl ?_, fun p u hp => ?_, (Grown.drew w).trans (Grown.alloc w.drew cs e)⟩⟩
    · have := (hnew j).1
      rw [hsz] at this
      rw [Nat.zero_add, this]; simp
    · have := (hnew j).2.1
      rw [hsz] at this
      rw [Nat.zero_add]; exact this
    · have := (hnew j).1
      rw [hsz] at this
      have hj := (List.getElem?_eq_some_iff.1 hu).1
      rw [Nat.zero_add, this, ← hcs, Array.append_assoc, Array.getElem?_append_left (by simpa using hj)]
      simpa using hu
    · have := (hnew (m * i.size + j)).1
      rw [hsz] at this
      have hj := (List.getElem?_eq_some_iff.1 hu).1
      rw [Nat.zero_add, this, ← hcs, Array.append_assoc, Array.getElem?_append_right (by simp [hol]), Array.getElem?_append_left (by simp [hol]; omega)]
      simp only [List.size_toArray, hol, Nat.add_sub_cancel_left]
      simpa using hu
    · exact alloc_old (w := w.drew) hp
    · exact alloc_none (w := w.drew) hp
    · obtain ⟨p1, p2⟩ := p
      obtain ⟨e1, _, _⟩ := hp
      simp only at e1
      subst e1
      exact (hnew p2).2.2
    · exact (alloc_old (w := w.drew) hp).2
end
end Go.Proofs.Ev
