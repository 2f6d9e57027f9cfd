/- A function: its contract, out of the evaluator. -/
import Derived.Test.YtcgeekjfbjcofaaEvRun
import Derived.Test.YtcgeekjfbjcofaaEvList
set_option linter.unusedVariables false
set_option linter.unusedSimpArgs false
namespace Go.Proofs.Ev
inductive Arg where
  | one (r : R)
  | agg (rs : List R)
  | fn (f : Fn) (first cap : List R)
def Arg.sv : Arg → SV
  | .one r => .r [] r
  | .agg rs => .agg (rs.map (SV.r []))
  | .fn f a b => .fn f (a.map (SV.r [])) (b.map (SV.r []))
def RepRs (w : World) (ok : Cell → Prop) (rs : List R) (vs : Array Value) : Prop :=
  rs.length = vs.size ∧ ∀ (j : Nat) (r : R) (u : Value), rs[j]? = some r → vs[j]? = some u → RepR w ok r u
def RepArg (w : World) (ok : Cell → Prop) : Arg → Value → Prop
  | .one r, v => RepR w ok r v
  | .agg rs, v => ∃ vs, v = .agg vs ∧ RepRs w ok rs vs
  | .fn f a b, v => ∃ us vs, v = .func f us vs ∧ RepRs w ok a us ∧ RepRs w ok b vs
/-- A function that only computes: what it gives lies in new memory, or where its arguments lie. -/
def PureCalls (P : Program) (g : FuncId) (args : List Arg) (out : Out) : Prop :=
  Enters P g ∧ ∀ (w : World) (us : Array Value) (ok : Cell → Prop), args.length = us.size → (∀ (j : Nat) (x : Arg) (u : Value), args[j]? = some x → us[j]? = some u → RepArg w ok x u) →
    Calls P g us w fun e w' => ∃ u pl, e = .returned u ∧ HRel (newsH 0 out.2) pl w' ∧ SVRep w' (newsH 0 out.2) pl out.1 u ∧ pl.base = (fun p => ok p ∨ w.at? p = none) ∧
      (∀ p x, w.at? p = some x → w'.at? p = some x ∧ w'.ice? p = w.ice? p) ∧ (∀ i B p, look (newsH 0 out.2) i = some B → pl.fp i p → w.at? p = none) ∧ Grown w w'

/-! ### the end of a function -/
def resO (P : Program) (st : St) : ResultVar → Option SV
  | .tmp t => look st.slots t
  | .cell a T => (look st.slots a).bind fun p => (cellsAt st.heap p).bind fun cs => ofCellsV P T cs
def resL (P : Program) (st : St) : List ResultVar → Option (List SV)
  | [] => some []
  | r :: l => (resO P st r).bind fun v => (resL P st l).bind fun vs => some (v :: vs)
def finV (P : Program) (fn : Func) (st : St) : Option SV :=
  (resL P st fn.results.toList).bind fun vs => match vs with
    | [v] => some v
    | vs => some (.tup vs)
/-- What a result is: of one cell; a slice in new memory ('shl': its inner slices are read only); a slice that is read only; a struct; several. -/
inductive RT where
  | sc
  | own (t : Ty)
  | shl (t : Ty)
  | ro (t : Ty)
  | agg (l : List RT)
  | tup (l : List RT)
mutual
/-- The slices of a result that are its own. -/
def RT.srcs : RT → SV → Option (List (Bool × Ty × Option Nat))
  | .sc, _ => some []
  | .ro _, _ => some []
  | .own t, .own i => some [(false, t, some i)]
  | .own t, .nilS => some [(false, t, none)]
  | .shl t, .own i => some [(true, t, some i)]
  | .shl t, .nilS => some [(true, t, none)]
  | .agg l, .agg cs => srcsL l cs
  | .tup l, .tup cs => srcsL l cs
  | _, _ => none
def srcsL : List RT → List SV → Option (List (Bool × Ty × Option Nat))
  | [], [] => some []
  | r :: l, v :: cs => (r.srcs v).bind fun a => (srcsL l cs).bind fun b => some (a ++ b)
  | _, _ => none
end
def idsOf : List (Bool × Ty × Option Nat) → List Nat
  | [] => []
  | (_, _, some i) :: l => i :: idsOf l
  | (_, _, none) :: l => idsOf l
mutual
def RT.out (h : Heap) (L : List Nat) : RT → Nat → SV → Option (SV × Nat)
  | .sc, k, .r _ (.int kk n) => some (.r [] (.int kk n), k)
  | .sc, k, .r _ (.bool b) => some (.r [] (.bool b), k)
  | .sc, k, .r _ (.str l) => some (.r [] (.str l), k)
  | .own _, k, _ => some (.own k, k + 1)
  | .shl _, k, _ => some (.own k, k + 1)
  | .ro t, k, v => (v.list h t).bind fun p => cond (hit L p.1) none (some (.r [] (.sl t p.2), k))
  | .agg l, k, .agg cs => (outL h L l k cs).bind fun p => some (.agg p.1, p.2)
  | .tup l, k, .tup cs => (outL h L l k cs).bind fun p => some (.tup p.1, p.2)
  | _, _, _ => none
def outL (h : Heap) (L : List Nat) : List RT → Nat → List SV → Option (List SV × Nat)
  | [], k, [] => some ([], k)
  | r :: l, k, v :: cs => (r.out h L k v).bind fun p => (outL h L l p.2 cs).bind fun q => some (p.1 :: q.1, q.2)
  | _, _, _ => none
end
def placeOf (i : Nat) : List Nat → Nat → Option Nat
  | [], _ => none
  | k :: l, n => cond (Nat.beq k i) (some n) (placeOf i l (n + 1))
def nodup : List Nat → Bool
  | [] => true
  | k :: l => cond (mem k l) false (nodup l)
def outBlk (h : Heap) (L : List Nat) : Bool × Ty × Option Nat → Option Blk
  | (false, t, none) => some (.arr none t [])
  | (true, t, none) => some (.arr (some []) t [])
  | (false, t, some i) => match look h i with
    | some (.arr none t' xs) => cond (decide (t' = t)) (some (.arr none t' xs)) none
    | _ => none
  | (true, t, some i) => match look h i with
    | some (.arr (some d) t' xs) => cond (hit L d) none (cond (decide (t' = t)) (some (.arr (some []) t' xs)) none)
    | _ => none
def outBlks (h : Heap) (L : List Nat) : List (Bool × Ty × Option Nat) → Option (List Blk)
  | [] => some []
  | i :: l => (outBlk h L i).bind fun b => (outBlks h L l).bind fun l => some (b :: l)
def canon (rt : RT) (h : Heap) (v : SV) : Option Out :=
  (rt.srcs v).bind fun s => cond (nodup (idsOf s)) ((outBlks h (idsOf s) s).bind fun bs => (rt.out h (idsOf s) 0 v).bind fun p => some (p.1, bs)) none
def fin {ρ : Type} (P : Program) (fn : Func) (rt : RT) (dec : Out → Option ρ) : Ex → St → Option ρ
  | .exit _, _ => none
  | .normal, st => (finV P fn st).bind fun v => (canon rt st.heap v).bind dec
  | .ret, st => (finV P fn st).bind fun v => (canon rt st.heap v).bind dec
def slots0 : Nat → List Arg → List (Nat × SV)
  | _, [] => []
  | n, a :: l => (n, a.sv) :: slots0 (n + 1) l
def st0 (fn : Func) (args : List Arg) : St := { slots := slots0 0 args, heap := [], nid := 0, n := fn.ntmps }

section
variable {P : Program}
def resM (a : Act) : ResultVar → Sem Value
  | .tmp t => pure (a.tmps.getD t undef)
  | .cell b t => do loadVar t (← asAddr (a.tmps.getD b undef))
theorem results_eq (fn : Func) (a : Act) : results fn a.tmps = (fn.results.mapM (resM a) >>= fun vs => pure (if h : vs.size = 1 then vs[0] else .tuple vs)) := by
  unfold results
  congr 1
theorem resO_rep {w : World} {st : St} {pl : Pl} {a : Act} (hr : HRel st.heap pl w) (hs : Slots w st.heap pl st.slots a) {r : ResultVar} {v : SV} (h : resO P st r = some v) :
    ∃ u, (resM a r).run P w = .ok u w ∧ SVRep w st.heap pl v u := by
  cases r with
  | tmp t => exact ⟨_, rfl, hs t v h⟩
  | cell b T =>
    simp only [resO, Option.bind_eq_some_iff] at h
    obtain ⟨p, hp, cs, hcs, hv⟩ := h
    obtain ⟨b', o', hpu, hc⟩ := cellsAt_rep hr (hs b p hp) hcs
    obtain ⟨u, h1, h2⟩ := load_rep hv b' o' hc
    exact ⟨u, by simp [resM, hpu, asAddr, h1], h2⟩
theorem resL_rep {w : World} {st : St} {pl : Pl} {a : Act} (hr : HRel st.heap pl w) (hs : Slots w st.heap pl st.slots a) : ∀ {l : List ResultVar} {vs : List SV}, resL P st l = some vs →
    ∃ us, (l.mapM (resM a) : Sem (List Value)).run P w = .ok us w ∧ vs.length = us.length ∧
      ∀ (j : Nat) (x : SV) (u : Value), vs[j]? = some x → us[j]? = some u → SVRep w st.heap pl x u
  | [], vs, h => by cases h; exact ⟨[], rfl, rfl, fun j x u hx _ => by simp at hx⟩
  | r :: l, vs, h => by
    simp only [resL, Option.bind_eq_some_iff, Option.some.injEq] at h
    obtain ⟨v, hv, vs', hvs, rfl⟩ := h
    obtain ⟨us, h1, h2, h3⟩ := resL_rep hr hs hvs
    obtain ⟨u, h4, h5⟩ := resO_rep (P := P) hr hs hv
    refine ⟨u :: us, ?_, by simp [h2], fun j x u' hx hu => ?_⟩
    · rw [List.mapM_cons, Sem.run_bind, h4]
      simp only [Result.andThen_ok, Sem.run_bind, h1, Sem.run_pure]
    · cases j with
      | zero => simp at hx hu; subst hx hu; exact h5
      | succ j => exact h3 j x u' (by simpa using hx) (by simpa using hu)
theorem finV_rep {w : World} {st : St} {pl : Pl} {a : Act} (hr : HRel st.heap pl w) (hs : Slots w st.heap pl st.slots a) {fn : Func} {v : SV} (h : finV P fn st = some v) :
    ∃ u, (results fn a.tmps).run P w = .ok u w ∧ SVRep w st.heap pl v u := by
  simp only [finV, Option.bind_eq_some_iff] at h
  obtain ⟨vs, hvs, h⟩ := h
  obtain ⟨us, h1, h2, h3⟩ := resL_rep (P := P) hr hs hvs
  have hm : (fn.results.mapM (resM a) : Sem (Array Value)).run P w = .ok us.toArray w := by
    rw [Array.mapM_eq_mapM_toList, Sem.run_map, h1]; rfl
  split at h
  · rename_i v'
    cases h
    match us, h2, h3, hm with
    | [u], h2, h3, hm =>
      refine ⟨u, ?_, h3 0 _ _ rfl rfl⟩
      rw [results_eq, Sem.run_bind, hm]
      simp
  · rename_i hne
    cases h
    have hsz : ¬ us.toArray.size = 1 := fun e => by
      have : us.length = 1 := by simpa using e
      match vs, h2, hne with
      | [v'], h2, hne => exact hne v' rfl
      | [], h2, _ => simp at h2; omega
      | _ :: _ :: _, h2, _ => simp at h2; omega
    refine ⟨.tuple us.toArray, ?_, .tup _ _ (by simpa using h2) fun j x u hx hu => h3 j x u hx (by simpa using hu)⟩
    rw [results_eq, Sem.run_bind, hm]
    simp only [Result.andThen_ok, dif_neg hsz]; rfl
theorem placeOf_spec {i : Nat} : ∀ {L : List Nat} {n k : Nat}, placeOf i L n = some k → n ≤ k ∧ L[k - n]? = some i
  | j :: l, n, k, h => by
    simp only [placeOf] at h
    cases hj : Nat.beq j i <;> simp only [hj, cond_true, cond_false, Option.some.injEq] at h
    · obtain ⟨h1, h2⟩ := placeOf_spec h
      exact ⟨by omega, by rw [show k - n = (k - (n + 1)) + 1 from by omega]; exact h2⟩
    · subst h; exact ⟨Nat.le_refl _, by simp [Nat.eq_of_beq_eq_true hj]⟩
theorem nodup_spec : ∀ {L : List Nat}, nodup L = true → L.Nodup
  | [], _ => List.nodup_nil
  | k :: l, h => by
    simp only [nodup] at h
    cases hk : mem k l <;> simp only [hk, cond_true, cond_false] at h
    · refine List.nodup_cons.2 ⟨fun hm => ?_, nodup_spec h⟩
      rw [(mem_iff k l).2 hm] at hk; exact nomatch hk
    · exact nomatch h
theorem outBlks_spec {h : Heap} {L : List Nat} : ∀ {l : List (Bool × Ty × Option Nat)} {bs : List Blk}, outBlks h L l = some bs → bs.length = l.length ∧
    ∀ (k : Nat) (b : Blk), bs[k]? = some b → ∃ s, l[k]? = some s ∧ outBlk h L s = some b
  | [], bs, e => by cases e; exact ⟨rfl, fun k b hb => by simp at hb⟩
  | i :: l, bs, e => by
    simp only [outBlks, Option.bind_eq_some_iff, Option.some.injEq] at e
    obtain ⟨b, h2, l', h3, rfl⟩ := e
    obtain ⟨g1, g2⟩ := outBlks_spec h3
    refine ⟨by simp [g1], fun k b' hb => ?_⟩
    cases k with
    | zero => simp at hb; subst hb; exact ⟨i, rfl, h2⟩
    | succ k => simpa using g2 k b' (by simpa using hb)
def Pl.out (pl : Pl) (L : List Nat) : Pl := ⟨fun k => pl.hdr (L.getD k 0), fun k => pl.fp (L.getD k 0), pl.base⟩
def Pl.res (pl : Pl) (S : List (Bool × Ty × Option Nat)) : Pl :=
  ⟨fun k => match S[k]? with
    | some (_, _, some i) => pl.hdr i
    | _ => .slice none 0 0,
   fun k p => match S[k]? with
    | some (_, _, some i) => pl.fp i p
    | _ => False, pl.base⟩
theorem mem_idsOf {S : List (Bool × Ty × Option Nat)} {k : Nat} {b : Bool} {t : Ty} {i : Nat} (h : S[k]? = some (b, t, some i)) : i ∈ idsOf S := by
  induction S generalizing k with
  | nil => simp at h
  | cons x l ih =>
    obtain ⟨b', t', o⟩ := x
    cases k with
    | zero => simp at h; obtain ⟨rfl, rfl, rfl⟩ := h; simp [idsOf]
    | succ k =>
      have := ih (k := k) (by simpa using h)
      cases o <;> simp [idsOf, this]
theorem idsOf_inj {S : List (Bool × Ty × Option Nat)} (hn : (idsOf S).Nodup) {k k' : Nat} {b b' : Bool} {t t' : Ty} {i : Nat} (h : S[k]? = some (b, t, some i)) (h' : S[k']? = some (b', t', some i)) : k = k' := by
  induction S generalizing k k' with
  | nil => simp at h
  | cons x l ih =>
    obtain ⟨b0, t0, o⟩ := x
    cases k with
    | zero =>
      cases k' with
      | zero => rfl
      | succ k' =>
        simp at h; obtain ⟨rfl, rfl, rfl⟩ := h
        have := mem_idsOf (k := k') (by simpa using h')
        simp [idsOf] at hn
        exact (hn.1 this).elim
    | succ k =>
      cases k' with
      | zero =>
        simp at h'; obtain ⟨rfl, rfl, rfl⟩ := h'
        have := mem_idsOf (k := k) (by simpa using h)
        simp [idsOf] at hn
        exact (hn.1 this).elim
      | succ k' =>
        have hn' : (idsOf l).Nodup := by
          cases o with
          | none => exact hn
          | some x => simp [idsOf] at hn; exact hn.2
        rw [ih hn' (k := k) (k' := k') (by simpa using h) (by simpa using h')]
section
variable {w : World} {H : Heap} {pl : Pl} {S : List (Bool × Ty × Option Nat)} {bs : List Blk}
theorem res_back (hL : outBlks H (idsOf S) S = some bs) {k : Nat} {B : Blk} (hB : look (newsH 0 bs) k = some B) : ∃ s, S[k]? = some s ∧ outBlk H (idsOf S) s = some B := by
  rw [look_newsH, if_pos (Nat.zero_le _), Nat.sub_zero] at hB
  exact (outBlks_spec hL).2 k B hB
theorem outBlk_look {L : List Nat} {b : Bool} {t : Ty} {i : Nat} {B : Blk} (h : outBlk H L (b, t, some i) = some B) : ∃ sh xs, look H i = some (.arr sh t xs) ∧
    ((sh = none ∧ B = .arr none t xs) ∨ ∃ d, sh = some d ∧ hit L d = false ∧ B = .arr (some []) t xs) := by
  cases b with
  | false =>
    simp only [outBlk] at h
    split at h
    · rename_i t' xs hl
      cases ht : decide (t' = t) <;> simp only [ht, cond_true, cond_false, Option.some.injEq] at h
      · exact nomatch h
      · have ht : t' = t := by simpa using ht
        subst ht
        exact ⟨none, xs, hl, .inl ⟨rfl, h.symm⟩⟩
    · exact nomatch h
  | true =>
    simp only [outBlk] at h
    split at h
    · rename_i d t' xs hl
      cases hd : hit L d <;> simp only [hd, cond_true, cond_false] at h
      · cases ht : decide (t' = t) <;> simp only [ht, cond_true, cond_false, Option.some.injEq] at h
        · exact nomatch h
        · have ht : t' = t := by simpa using ht
          subst ht
          exact ⟨some d, xs, hl, .inr ⟨d, rfl, hd, h.symm⟩⟩
      · exact nomatch h
    · exact nomatch h
theorem out_okd (hL : outBlks H (idsOf S) S = some bs) {d : List Nat} (hd : hit (idsOf S) d = false) {p : Cell} (h : okd H pl d p) : okd (newsH 0 bs) (pl.res S) [] p := by
  refine ⟨h.1, fun k B hB _ hf => ?_⟩
  obtain ⟨⟨b, t, o⟩, h1, h2⟩ := res_back hL hB
  cases o with
  | none => simp [Pl.res, h1] at hf
  | some i =>
    simp only [Pl.res, h1] at hf
    obtain ⟨sh, xs, hl, _⟩ := outBlk_look h2
    refine h.2 i _ hl (fun hm => ?_) hf
    have hm2 := hit_false _ d hd i hm
    rw [(mem_iff i _).2 (mem_idsOf h1)] at hm2
    exact nomatch hm2
theorem srcs_own {r : RT} {v : SV} {s : List (Bool × Ty × Option Nat)} {t : Ty} {b : Bool} (hr : r = if b then .shl t else .own t) (h : r.srcs v = some s) : (∃ i, v = .own i ∧ s = [(b, t, some i)]) ∨ (v = .nilS ∧ s = [(b, t, none)]) := by
  cases b <;> simp at hr <;> subst hr <;> (cases v <;> simp only [RT.srcs] at h <;> first | (cases h; done) | (cases h; first | exact .inl ⟨_, rfl, rfl⟩ | exact .inr ⟨rfl, rfl⟩))
/-- One slice of a result. -/
theorem own_out (hL : outBlks H (idsOf S) S = some bs) {k : Nat} {b : Bool} {t : Ty} {v : SV} {u : Value} (hv : SVRep w H pl v u)
    (h : (∃ i, v = .own i ∧ S[k]? = some (b, t, some i)) ∨ (v = .nilS ∧ S[k]? = some (b, t, none))) : SVRep w (newsH 0 bs) (pl.res S) (.own k) u := by
  have hlt : ∀ {s}, S[k]? = some s → k < bs.length := fun {s} h => by rw [(outBlks_spec hL).1]; exact (List.getElem?_eq_some_iff.1 h).1
  have hget : ∀ {s}, S[k]? = some s → ∃ B, look (newsH 0 bs) k = some B ∧ outBlk H (idsOf S) s = some B := fun {s} h => by
    have hk := List.getElem?_eq_getElem (hlt h)
    obtain ⟨s', h1, h2⟩ := (outBlks_spec hL).2 k _ hk
    rw [h] at h1; cases h1
    exact ⟨_, by rw [look_newsH, if_pos (Nat.zero_le _), Nat.sub_zero]; exact hk, h2⟩
  rcases h with ⟨i, rfl, h⟩ | ⟨rfl, h⟩
  · obtain ⟨B, h1, h2⟩ := hget h
    obtain ⟨sh, xs, hl, h3⟩ := outBlk_look h2
    have e : (pl.res S).hdr k = pl.hdr i := by simp only [Pl.res, h]
    cases hv with
    | own _ sh' t' ys hl' =>
      rw [← e]
      rcases h3 with ⟨_, rfl⟩ | ⟨d, _, _, rfl⟩
      · exact .own k none t xs h1
      · exact .own k (some []) t xs h1
  · obtain ⟨B, h1, h2⟩ := hget h
    have e : (pl.res S).hdr k = .slice none 0 0 := by simp only [Pl.res, h]
    cases hv with
    | nilS =>
      rw [← e]
      cases b with
      | false => cases h2; exact .own k none t [] h1
      | true => cases h2; exact .own k (some []) t [] h1
mutual
theorem out_rep (hr : HRel H pl w) (hL : outBlks H (idsOf S) S = some bs) : (r : RT) → {v v' : SV} → {u : Value} → {k k' : Nat} → {s : List (Bool × Ty × Option Nat)} → r.srcs v = some s → (∀ (j : Nat) (x : Bool × Ty × Option Nat), s[j]? = some x → S[k + j]? = some x) →
    r.out H (idsOf S) k v = some (v', k') → SVRep w H pl v u → SVRep w (newsH 0 bs) (pl.res S) v' u ∧ k' = k + s.length
  | .sc, v, v', u, k, k', s, hs, hS, h, hv => by
    simp only [RT.srcs, Option.some.injEq] at hs
    subst hs
    cases hv with
    | r d x _ hx => cases hx <;> (simp only [RT.out, Option.some.injEq, Prod.mk.injEq] at h) <;> first | (obtain ⟨rfl, rfl⟩ := h; exact ⟨by first | exact rep_int | exact rep_bool | exact rep_str, rfl⟩) | (exact nomatch h)
    | _ => simp [RT.out] at h
  | .own t, v, v', u, k, k', s, hs, hS, h, hv => by
    simp only [RT.out, Option.some.injEq, Prod.mk.injEq] at h
    obtain ⟨rfl, rfl⟩ := h
    rcases srcs_own (b := false) rfl hs with ⟨i, rfl, rfl⟩ | ⟨rfl, rfl⟩
    · exact ⟨own_out hL hv (.inl ⟨i, rfl, hS 0 _ rfl⟩), rfl⟩
    · exact ⟨own_out hL hv (.inr ⟨rfl, hS 0 _ rfl⟩), rfl⟩
  | .shl t, v, v', u, k, k', s, hs, hS, h, hv => by
    simp only [RT.out, Option.some.injEq, Prod.mk.injEq] at h
    obtain ⟨rfl, rfl⟩ := h
    rcases srcs_own (b := true) rfl hs with ⟨i, rfl, rfl⟩ | ⟨rfl, rfl⟩
    · exact ⟨own_out hL hv (.inl ⟨i, rfl, hS 0 _ rfl⟩), rfl⟩
    · exact ⟨own_out hL hv (.inr ⟨rfl, hS 0 _ rfl⟩), rfl⟩
  | .ro t, v, v', u, k, k', s, hs, hS, h, hv => by
    simp only [RT.srcs, Option.some.injEq] at hs
    subst hs
    simp only [RT.out, Option.bind_eq_some_iff] at h
    obtain ⟨⟨d, xs⟩, h1, h2⟩ := h
    cases hd : hit (idsOf S) d <;> simp only [hd, cond_true, cond_false, Option.some.injEq, Prod.mk.injEq] at h2
    · obtain ⟨rfl, rfl⟩ := h2
      exact ⟨.r _ _ _ ((list_repR hr h1 hv).frame fun p u hp hu => ⟨out_okd hL hd hp, hu⟩), rfl⟩
    · exact nomatch h2
  | .agg l, v, v', u, k, k', s, hs, hS, h, hv => by
    cases hv with
    | agg cs vs h1 h2 h3 =>
      simp only [RT.out, Option.bind_eq_some_iff, Option.some.injEq, Prod.mk.injEq] at h
      obtain ⟨⟨l', k2⟩, h4, rfl, rfl⟩ := h
      simp only [RT.srcs] at hs
      obtain ⟨g1, g2, g3⟩ := outL_rep hr hL l hs hS h4 vs.toList (by simpa using h1) fun j x u hx hu => h3 j x u hx (by simpa using hu)
      exact ⟨.agg _ _ (by simpa using g1) h2 fun j x u hx hu => g2 j x u hx (by simpa using hu), g3⟩
    | _ => simp [RT.out] at h
  | .tup l, v, v', u, k, k', s, hs, hS, h, hv => by
    cases hv with
    | tup cs vs h1 h3 =>
      simp only [RT.out, Option.bind_eq_some_iff, Option.some.injEq, Prod.mk.injEq] at h
      obtain ⟨⟨l', k2⟩, h4, rfl, rfl⟩ := h
      simp only [RT.srcs] at hs
      obtain ⟨g1, g2, g3⟩ := outL_rep hr hL l hs hS h4 vs.toList (by simpa using h1) fun j x u hx hu => h3 j x u hx (by simpa using hu)
      exact ⟨.tup _ _ (by simpa using g1) fun j x u hx hu => g2 j x u hx (by simpa using hu), g3⟩
    | _ => simp [RT.out] at h
theorem outL_rep (hr : HRel H pl w) (hL : outBlks H (idsOf S) S = some bs) : (l : List RT) → {cs cs' : List SV} → {k k' : Nat} → {s : List (Bool × Ty × Option Nat)} → srcsL l cs = some s → (∀ (j : Nat) (x : Bool × Ty × Option Nat), s[j]? = some x → S[k + j]? = some x) →
    outL H (idsOf S) l k cs = some (cs', k') → (us : List Value) → cs.length = us.length → (∀ (j : Nat) (x : SV) (u : Value), cs[j]? = some x → us[j]? = some u → SVRep w H pl x u) →
    cs'.length = us.length ∧ (∀ (j : Nat) (x : SV) (u : Value), cs'[j]? = some x → us[j]? = some u → SVRep w (newsH 0 bs) (pl.res S) x u) ∧ k' = k + s.length
  | [], [], cs', k, k', s, hs, hS, h, us, hl, _ => by
    simp only [srcsL, Option.some.injEq] at hs
    simp only [outL, Option.some.injEq, Prod.mk.injEq] at h
    subst hs
    obtain ⟨rfl, rfl⟩ := h
    exact ⟨hl, fun j x u hx _ => by simp at hx, rfl⟩
  | r :: l, v :: cs, cs', k, k', s, hs, hS, h, u :: us, hl, hp => by
    simp only [srcsL, Option.bind_eq_some_iff, Option.some.injEq] at hs
    obtain ⟨s1, hs1, s2, hs2, rfl⟩ := hs
    simp only [outL, Option.bind_eq_some_iff, Option.some.injEq, Prod.mk.injEq] at h
    obtain ⟨⟨v', k2⟩, h1, ⟨l', k3⟩, h2, rfl, rfl⟩ := h
    obtain ⟨g1, g2⟩ := out_rep hr hL r hs1 (fun j x hx => hS j x (by rw [List.getElem?_append_left (List.getElem?_eq_some_iff.1 hx).1]; exact hx)) h1 (hp 0 v u rfl rfl)
    simp only at h2
    subst g2
    obtain ⟨q1, q2, q3⟩ := outL_rep hr hL l hs2 (fun j x hx => by
        have := hS (s1.length + j) x (by rw [List.getElem?_append_right (by omega), Nat.add_sub_cancel_left]; exact hx)
        rw [Nat.add_assoc]; exact this) h2 us (by simpa using hl) fun j x u hx hu => hp (j + 1) x u (by simpa using hx) (by simpa using hu)
    refine ⟨by simp [q1], fun j x u' hx hu => ?_, by simp; omega⟩
    cases j with
    | zero => simp at hx hu; subst hx hu; exact g1
    | succ j => exact q2 j x u' (by simpa using hx) (by simpa using hu)
  | [], _ :: _, _, _, _, _, hs, _, _, _, _, _ => nomatch hs
  | _ :: _, [], _, _, _, _, hs, _, _, _, _, _ => nomatch hs
end
theorem out_hrel (hr : HRel H pl w) (hn : nodup (idsOf S) = true) (hL : outBlks H (idsOf S) S = some bs) : HRel (newsH 0 bs) (pl.res S) w := by
  refine ⟨fun k B hB => ?_, fun k k' B B' p h1 h2 f1 f2 => ?_, fun k B p hB hf => ?_, hr.nb⟩
  · obtain ⟨⟨b, t, o⟩, h1, h2⟩ := res_back hL hB
    cases o with
    | none =>
      have e : (pl.res S).hdr k = .slice none 0 0 := by simp only [Pl.res, h1]
      have ef : ∀ p, ¬ (pl.res S).fp k p := fun p hp => by simp [Pl.res, h1] at hp
      have row : ∀ inner, Nonempty (Row w inner t [] ((pl.res S).hdr k) ((pl.res S).fp k)) := fun inner =>
        ⟨⟨none, 0, 0, 0, fun _ _ => undef, fun _ _ _ => False, e, Nat.le_refl _, .inl rfl, fun j hj => by simp at hj, fun i j r h => by have := (cellIn_lt h).1; simp at this, fun i j r h => by have := (cellIn_lt h).1; simp at this,
          fun i j r p h => by have := (cellIn_lt h).1; simp at this, fun i j r i' j' r' p h => by have := (cellIn_lt h).1; simp at this, fun p => ⟨fun hp => (ef p hp).elim, fun hp => by
            rcases hp with ⟨_, h, h'⟩ | ⟨i, j, r, h, _⟩
            · omega
            · have := (cellIn_lt h).1; simp at this⟩⟩⟩
      cases b with
      | false => cases h2; exact row _
      | true => cases h2; exact row _
    | some i =>
      have e : (pl.res S).hdr k = pl.hdr i := by simp only [Pl.res, h1]
      have ef : (pl.res S).fp k = pl.fp i := by funext p; simp only [Pl.res, h1]
      obtain ⟨sh, xs, hl, h3⟩ := outBlk_look h2
      have hb := hr.blk i _ hl
      rcases h3 with ⟨rfl, rfl⟩ | ⟨d, rfl, hd, rfl⟩
      · show Nonempty (Row w (RepD w) t xs ((pl.res S).hdr k) ((pl.res S).fp k))
        rw [e, ef]; exact hb
      · obtain ⟨⟨a, cap, b, o, vs, fs, q1, q2, q3, q4, q5, q6, q7, q8, q9⟩⟩ := hb
        exact ⟨⟨a, cap, b, o, vs, fs, e.trans q1, q2, q3, q4, q5, fun i j r hc => ⟨(q6 i j r hc).1.frame fun p u hp hu => ⟨out_okd hL hd hp, hu⟩, (q6 i j r hc).2⟩, q7, q8, fun p => by rw [ef]; exact q9 p⟩⟩
  · obtain ⟨⟨b, t, o⟩, g1, g2⟩ := res_back hL h1
    obtain ⟨⟨b', t', o'⟩, g1', g2'⟩ := res_back hL h2
    cases o with
    | none => simp [Pl.res, g1] at f1
    | some i =>
      cases o' with
      | none => simp [Pl.res, g1'] at f2
      | some i' =>
        simp only [Pl.res, g1] at f1
        simp only [Pl.res, g1'] at f2
        obtain ⟨_, _, hl, _⟩ := outBlk_look g2
        obtain ⟨_, _, hl', _⟩ := outBlk_look g2'
        have := hr.dis i i' _ _ p hl hl' f1 f2
        subst this
        exact idsOf_inj (nodup_spec hn) g1 g1'
  · obtain ⟨⟨b, t, o⟩, g1, g2⟩ := res_back hL hB
    cases o with
    | none => simp [Pl.res, g1] at hf
    | some i =>
      simp only [Pl.res, g1] at hf
      obtain ⟨_, _, hl, _⟩ := outBlk_look g2
      exact hr.ob i _ p hl hf
end
theorem look_slots0 (args : List Arg) (n t : Nat) : look (slots0 n args) t = if n ≤ t then (args[t - n]?).map Arg.sv else none := by
  induction args generalizing n with
  | nil => simp [slots0, look]
  | cons a l ih =>
    rw [slots0, look_cons, ih]
    by_cases h : n = t
    · subst h; simp
    · by_cases h2 : n ≤ t
      · rw [if_neg h, if_pos (by omega), if_pos h2, show t - n = (t - (n + 1)) + 1 from by omega]; rfl
      · rw [if_neg h, if_neg (by omega), if_neg h2]
theorem repRs_sv {w : World} {ok : Cell → Prop} {pl : Pl} (hb : ∀ p, ok p → pl.base p) {rs : List R} {vs : Array Value} (h : RepRs w ok rs vs) :
    (rs.map (SV.r [])).length = vs.size ∧ ∀ (j : Nat) (x : SV) (u : Value), (rs.map (SV.r []))[j]? = some x → vs[j]? = some u → SVRep w [] pl x u := by
  refine ⟨by simpa using h.1, fun j x u hx hu => ?_⟩
  rw [List.getElem?_map] at hx
  obtain ⟨r, hr, rfl⟩ := Option.map_eq_some_iff.1 hx
  exact .r _ _ _ ((h.2 j r u hr hu).frame fun p u hp hu => ⟨⟨hb p hp, fun i B hB => by simp [look] at hB⟩, hu⟩)
theorem arg_rep {w : World} {ok : Cell → Prop} {pl : Pl} (hb : ∀ p, ok p → pl.base p) {x : Arg} {u : Value} (h : RepArg w ok x u) : SVRep w [] pl x.sv u := by
  cases x with
  | one r => exact .r _ _ _ (h.frame fun p u hp hu => ⟨⟨hb p hp, fun i B hB => by simp [look] at hB⟩, hu⟩)
  | agg rs =>
    obtain ⟨vs, rfl, h⟩ := h
    obtain ⟨g1, g2⟩ := repRs_sv (pl := pl) hb h
    refine .agg _ _ g1 (fun j v hv => ?_) g2
    have hj : j < rs.length := by rw [h.1]; exact (Array.getElem?_eq_some_iff.1 hv).1
    exact (h.2 j _ v (List.getElem?_eq_getElem hj) hv).isOne
  | fn f a b =>
    obtain ⟨us, vs, rfl, h, h'⟩ := h
    obtain ⟨g1, g2⟩ := repRs_sv (pl := pl) hb h
    obtain ⟨g3, g4⟩ := repRs_sv (pl := pl) hb h'
    exact .fn _ _ _ _ _ g1 g2 g3 g4
/-- THE CONTRACT, out of the evaluator. -/
theorem pure_of_ev {ρ : Type} {E : Env} (hE : EnvOk E) {LP : Nat → Ev ρ → Ev ρ} {g : FuncId} {fn : Func} {c : Code} {args : List Arg} {r : ρ} {dec : Out → Option ρ} {enc : ρ → Out} (hd : ∀ o r, dec o = some r → o = enc r) (hf : E.P.funcs[g]? = some fn) (hc : fn.body = some c)
    (hnm : (fn.name == "runtime.NumGoroutine") = false) (hn : Nat.ble args.length fn.ntmps = true) (hLP : LPGood E LP 0 c) {rt : RT} (h : ev E LP 0 c (st0 fn args) (fin E.P fn rt dec) = some r) : PureCalls E.P g args (enc r) := by
  generalize ho : enc r = out
  refine ⟨enters_of hf (by rw [hc]; rfl) hnm, fun w us ok hlen hargs => ?_⟩
  have hn := Nat.le_of_ble_eq_true hn
  refine calls_of_wp hf hc ?_
  let pl0 : Pl := ⟨fun _ => undef, fun _ _ => False, fun p => ok p ∨ w.at? p = none⟩
  have hrel : Rl w (fun _ => False) pl0.base fn.ntmps (st0 fn args) { tmps := us ++ Array.replicate (fn.ntmps - us.size) undef, defers := [] } w := by
    refine ⟨pl0, ⟨⟨fun i B hB => by simp [st0, look] at hB, fun i j B B' p hB => by simp [st0, look] at hB, fun i B p hB => by simp [st0, look] at hB, fun p hp => .inr hp⟩, fun t v hv => ?_, by simp [st0]; omega, rfl, fun i _ => rfl, Grown.refl w, fun p u hp _ => ⟨fun i B hB => by simp [st0, look] at hB, hp, rfl⟩⟩, rfl, rfl⟩
    simp only [st0] at hv
    rw [look_slots0, if_pos (Nat.zero_le _), Nat.sub_zero] at hv
    obtain ⟨x, hx, rfl⟩ := Option.map_eq_some_iff.1 hv
    have ht : t < us.size := by rw [← hlen]; exact (List.getElem?_eq_some_iff.1 hx).1
    have hg : (us ++ Array.replicate (fn.ntmps - us.size) undef).getD t undef = us[t] := by
      rw [Array.getD_eq_getD_getElem?, Array.getElem?_append_left ht, Array.getElem?_eq_getElem ht]; rfl
    rw [hg]
    exact arg_rep (fun p hp => Or.inl hp) (hargs t x _ hx (Array.getElem?_eq_getElem ht))
  refine ev_sound hE c 0 hLP w (fun _ => False) pl0.base fn.ntmps _ _ w _ r _ hrel h fun e st' a' w' hK hr' => ?_
  obtain ⟨pl, hr, hb, _⟩ := hr'
  have key : ∀ v, finV E.P fn st' = some v → canon rt st'.heap v = some out → a'.defers = [] ∧ ∃ u, (results fn a'.tmps).run E.P w' = .ok u w' ∧ ∃ u' pl', Ending.returned u = .returned u' ∧ HRel (newsH 0 out.2) pl' w' ∧
      SVRep w' (newsH 0 out.2) pl' out.1 u' ∧ pl'.base = (fun p => ok p ∨ w.at? p = none) ∧
      (∀ p x, w.at? p = some x → w'.at? p = some x ∧ w'.ice? p = w.ice? p) ∧ (∀ i B p, look (newsH 0 out.2) i = some B → pl'.fp i p → w.at? p = none) ∧ Grown w w' := fun v hv hcn => by
    obtain ⟨u, hu, hvr⟩ := finV_rep (P := E.P) hr.hr hr.sl hv
    simp only [canon, Option.bind_eq_some_iff] at hcn
    obtain ⟨S, hS, hcn⟩ := hcn
    cases hnd : nodup (idsOf S) <;> simp only [hnd, cond_true, cond_false, Option.bind_eq_some_iff, Option.some.injEq] at hcn
    · exact nomatch hcn
    · obtain ⟨bs, hbs, ⟨v', k'⟩, hv', rfl⟩ := hcn
      refine ⟨hr.df, u, hu, u, pl.res S, rfl, out_hrel hr.hr hnd hbs, (out_rep hr.hr hbs rt hS (fun j x hx => by rw [Nat.zero_add]; exact hx) hv' hvr).1, hb, fun p x hp => ?_, fun i B p hB hf => ?_, hr.gr⟩
      · obtain ⟨_, g2, g3⟩ := hr.fr p x hp (fun h => h)
        exact ⟨g2, g3⟩
      · obtain ⟨⟨b, t, o⟩, g1, g2⟩ := res_back hbs hB
        cases o with
        | none => simp [Pl.res, g1] at hf
        | some i' =>
          simp only [Pl.res, g1] at hf
          obtain ⟨_, _, hl, _⟩ := outBlk_look g2
          cases hq : w.at? p with
          | none => rfl
          | some x => exact ((hr.fr p x hq (fun h => h)).1 i' _ hl hf).elim
  cases e with
  | exit j => exact nomatch hK
  | normal =>
    simp only [fin, Option.bind_eq_some_iff] at hK
    obtain ⟨v, hv, o, hcn, hdec⟩ := hK
    exact key v hv (hcn.trans (congrArg some ((hd o r hdec).trans ho)))
  | ret =>
    simp only [fin, Option.bind_eq_some_iff] at hK
    obtain ⟨v, hv, o, hcn, hdec⟩ := hK
    exact key v hv (hcn.trans (congrArg some ((hd o r hdec).trans ho)))
end
end Go.Proofs.Ev
