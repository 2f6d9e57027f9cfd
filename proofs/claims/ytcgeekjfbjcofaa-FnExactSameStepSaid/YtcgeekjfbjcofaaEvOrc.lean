/- A contract as an oracle. -/
import Derived.Test.YtcgeekjfbjcofaaEvFun
set_option linter.unusedVariables false
set_option linter.unusedSimpArgs false
namespace Go.Proofs.Ev
section
variable {w : World} {H : Heap} {pl : Pl} {P : Program}
end
/-- A parameter's shape. -/
inductive Sh where
  | one (t : Ty)
  | agg (ts : List Ty)
  | fn
def toArg (h : Heap) : Sh → SV → Option (List Nat × Arg)
  | .one t, v => (v.asR h t).bind fun p => some (p.1, .one p.2)
  | .agg ts, .agg cs => (asRs h ts cs).bind fun p => some (p.1, .agg p.2)
  | .fn, .fn f [] [] => some ([], .fn f [] [])
  | _, _ => none
def toArgs (h : Heap) : List Sh → List SV → Option (List Nat × List Arg)
  | [], [] => some ([], [])
  | s :: ss, v :: vs => (toArg h s v).bind fun p => (toArgs h ss vs).bind fun q => some (p.1 ++ q.1, p.2 :: q.2)
  | _, _ => none
mutual
/-- A result where it is called. -/
def SV.shift (n : Nat) (d : List Nat) : SV → SV
  | .own i => .own (n + i)
  | .r [] x => mkR d x
  | .nilS => .nilS
  | .agg cs => .agg (shiftL n d cs)
  | .tup cs => .tup (shiftL n d cs)
  | _ => .undef
def shiftL (n : Nat) (d : List Nat) : List SV → List SV
  | [] => []
  | v :: l => v.shift n d :: shiftL n d l
end
def Blk.shift (d : List Nat) : Blk → Blk
  | .arr none t xs => .arr none t xs
  | .arr (some _) t xs => .arr (some d) t xs
  | .box cs => .box cs
def shiftB (d : List Nat) : List Blk → List Blk
  | [] => []
  | b :: l => b.shift d :: shiftB d l
def goodB : List Blk → Bool
  | [] => true
  | .arr none _ _ :: l => goodB l
  | .arr (some []) _ _ :: l => goodB l
  | _ :: _ => false
/-- An oracle out of a function: 'G' gives, for the arguments, what comes of it. -/
abbrev PG := (ρ : Type) → List Arg → (Out → Option ρ) → Option ρ
def pureOrc (ss : List Sh) (G : PG) : Orc := fun ρ nid vs h K =>
  (toArgs h ss vs).bind fun p => G ρ p.2 fun o => cond (goodB o.2) (K { v := o.1.shift nid p.1, news := shiftB p.1 o.2 }) none
def PureOk (P : Program) (g : FuncId) (G : PG) : Prop :=
  ∀ (ρ : Type) args (K : Out → Option ρ) (out : ρ), G ρ args K = some out → ∃ o, K o = some out ∧ PureCalls P g args o
section
variable {w : World} {H : Heap} {pl : Pl} {P : Program}
theorem toArg_rep (hr : HRel H pl w) {s : Sh} {v : SV} {u : Value} {d : List Nat} {x : Arg} (h : toArg H s v = some (d, x)) (hv : SVRep w H pl v u) : RepArg w (okd H pl d) x u := by
  unfold toArg at h
  split at h
  · simp only [Option.bind_eq_some_iff, Option.some.injEq, Prod.mk.injEq] at h
    obtain ⟨⟨d', r⟩, h1, rfl, rfl⟩ := h
    exact asR_rep hr h1 hv
  · simp only [Option.bind_eq_some_iff, Option.some.injEq, Prod.mk.injEq] at h
    obtain ⟨⟨d', rs⟩, h1, rfl, rfl⟩ := h
    cases hv with
    | agg cs vs hl h2 h3 =>
      obtain ⟨g1, g2⟩ := asRs_rep hr h1 (us := vs.toList) (by simpa using hl) fun j x u hx hu => h3 j x u hx (by simpa using hu)
      exact ⟨vs, rfl, by simpa using g1, fun j r u hr hu => g2 j r u hr (by simpa using hu)⟩
  · cases h
    cases hv with
    | fn f as bs us vs hl h1 hl' h2 =>
      exact ⟨us, vs, rfl, ⟨hl, fun j r u hr _ => by simp at hr⟩, ⟨hl', fun j r u hr _ => by simp at hr⟩⟩
  · exact nomatch h
theorem RepArg.mono {ok ok' : Cell → Prop} (hk : ∀ p, ok p → ok' p) {x : Arg} {u : Value} (h : RepArg w ok x u) : RepArg w ok' x u := by
  cases x with
  | one r => exact RepR.frame h fun p u hp hu => ⟨hk p hp, hu⟩
  | agg rs => obtain ⟨vs, e, h1, h2⟩ := h; exact ⟨vs, e, h1, fun j r u hr hu => (h2 j r u hr hu).frame fun p u hp hu => ⟨hk p hp, hu⟩⟩
  | fn f a b =>
    obtain ⟨us, vs, e, ⟨h1, h2⟩, h3, h4⟩ := h
    exact ⟨us, vs, e, ⟨h1, fun j r u hr hu => (h2 j r u hr hu).frame fun p u hp hu => ⟨hk p hp, hu⟩⟩, h3, fun j r u hr hu => (h4 j r u hr hu).frame fun p u hp hu => ⟨hk p hp, hu⟩⟩
theorem toArgs_rep (hr : HRel H pl w) : ∀ {ss : List Sh} {vs : List SV} {us : List Value} {d : List Nat} {xs : List Arg}, toArgs H ss vs = some (d, xs) → vs.length = us.length →
    (∀ (j : Nat) (x : SV) (u : Value), vs[j]? = some x → us[j]? = some u → SVRep w H pl x u) →
    xs.length = us.length ∧ ∀ (j : Nat) (x : Arg) (u : Value), xs[j]? = some x → us[j]? = some u → RepArg w (okd H pl d) x u
  | [], [], us, d, xs, h, hl, _ => by cases h; exact ⟨hl, fun j r u hr _ => by simp at hr⟩
  | s :: ss, v :: vs, u :: us, d, xs, h, hl, hp => by
    simp only [toArgs, Option.bind_eq_some_iff, Option.some.injEq, Prod.mk.injEq] at h
    obtain ⟨⟨d1, x1⟩, h1, ⟨d2, xs2⟩, h2, rfl, rfl⟩ := h
    obtain ⟨g1, g2⟩ := toArgs_rep hr h2 (by simpa using hl) fun j x u hx hu => hp (j + 1) x u (by simpa using hx) (by simpa using hu)
    refine ⟨by simp [g1], fun j r u' hj hu => ?_⟩
    cases j with
    | zero => simp at hj hu; subst hj hu; exact (toArg_rep hr h1 (hp 0 v u rfl rfl)).mono fun p hp => okd_mono (fun i hi => by rw [mem_append, hi]; rfl) hp
    | succ j => exact (g2 j r u' (by simpa using hj) (by simpa using hu)).mono fun p hp => okd_mono (fun i hi => by rw [mem_append, hi, Bool.or_true]) hp
  | [], _ :: _, _, _, _, h, _, _ => nomatch h
  | _ :: _, [], _, _, _, h, _, _ => nomatch h
theorem look_shiftB (d : List Nat) (bs : List Blk) (n i : Nat) : look (newsH n (shiftB d bs)) i = (look (newsH n bs) i).map (Blk.shift d) := by
  induction bs generalizing n with
  | nil => rfl
  | cons b l ih =>
    rw [shiftB, newsH, newsH, look_cons, look_cons, ih]
    by_cases h : n = i <;> simp [h]
theorem goodB_spec : ∀ {bs : List Blk}, goodB bs = true → ∀ (k : Nat) (b : Blk), bs[k]? = some b → ∃ t xs, b = .arr none t xs ∨ b = .arr (some []) t xs
  | .arr none t xs :: l, h, k, b, hb => by
    cases k with
    | zero => simp at hb; exact ⟨t, xs, .inl hb.symm⟩
    | succ k => exact goodB_spec (bs := l) h k b (by simpa using hb)
  | .arr (some []) t xs :: l, h, k, b, hb => by
    cases k with
    | zero => simp at hb; exact ⟨t, xs, .inr hb.symm⟩
    | succ k => exact goodB_spec (bs := l) h k b (by simpa using hb)
def Pl.join (pl po : Pl) (n m : Nat) : Pl := ⟨fun i => if i < n ∨ n + m ≤ i then pl.hdr i else po.hdr (i - n), fun i => if i < n ∨ n + m ≤ i then pl.fp i else po.fp (i - n), pl.base⟩
section
variable {w w' : World} {H : Heap} {pl po : Pl} {n : Nat} {bs : List Blk} {d : List Nat}
theorem look_lt {i : Nat} {B : Blk} {bs : List Blk} (h : look (newsH 0 bs) i = some B) : i < bs.length := by
  rw [look_newsH, if_pos (Nat.zero_le _), Nat.sub_zero] at h
  exact (List.getElem?_eq_some_iff.1 h).1
theorem shiftB_length (d : List Nat) : (bs : List Blk) → (shiftB d bs).length = bs.length
  | [] => rfl
  | _ :: l => by simp [shiftB, shiftB_length d l]
theorem look_out {d : List Nat} {bs : List Blk} {n i : Nat} (hi : i < n ∨ n + bs.length ≤ i) : look (newsH n (shiftB d bs)) i = none := by
  rw [look_newsH]
  by_cases h : n ≤ i
  · rw [if_pos h, List.getElem?_eq_none]; rw [shiftB_length]; omega
  · rw [if_neg h]
theorem look_in {H : Heap} {n m i : Nat} (hn : ∀ k, k < m → look H (n + k) = none) (hi : ¬ (i < n ∨ n + m ≤ i)) : look H i = none := by
  have := hn (i - n) (by omega)
  rwa [show n + (i - n) = i from by omega] at this
theorem toArg_le {h h' : Heap} (hh : Ext h h') (s : Sh) (v : SV) : Le (toArg h s v) (toArg h' s v) := by
  intro p hp
  unfold toArg at hp
  split at hp <;> simp only [toArg]
  · exact ((asR_le hh _ _).bind fun _ => Le.refl _) p hp
  · exact ((asRs_le hh _ _).bind fun _ => Le.refl _) p hp
  · exact hp
  · exact nomatch hp
theorem toArgs_le {h h' : Heap} (hh : Ext h h') : (ss : List Sh) → (vs : List SV) → Le (toArgs h ss vs) (toArgs h' ss vs)
  | [], [] => Le.refl _
  | s :: ss, v :: vs => (toArg_le hh s v).bind fun _ => (toArgs_le hh ss vs).bind fun _ => Le.refl _
  | [], _ :: _ => Le.refl _
  | _ :: _, [] => Le.refl _
/-- What a result that is read only reads, where it is called. -/
theorem join_okd (hr : HRel H pl w) (hn : ∀ k, k < bs.length → look H (n + k) = none) (hown : ∀ i B p, look H i = some B → pl.fp i p → ∃ u, w.at? p = some u)
    (hb : po.base = fun p => okd H pl d p ∨ w.at? p = none) {p : Cell} (h : okd (newsH 0 bs) po [] p) : okd (H ++ newsH n (shiftB d bs)) (pl.join po n bs.length) d p := by
  have hbase : okd H pl d p ∨ w.at? p = none := by have := h.1; rw [hb] at this; exact this
  refine ⟨hbase.elim (fun h => h.1) (hr.nb p), fun i B hB hm hf => ?_⟩
  by_cases hi : i < n ∨ n + bs.length ≤ i
  · simp only [Pl.join, if_pos hi] at hf
    have hB' : look H i = some B := by
      rw [look_append, look_out hi] at hB
      simpa using hB
    rcases hbase with h' | h'
    · exact h'.2 i B hB' hm hf
    · obtain ⟨u, hu⟩ := hown i B p hB' hf
      rw [h'] at hu; exact nomatch hu
  · simp only [Pl.join, if_neg hi] at hf
    rw [look_append, look_in hn hi, look_shiftB, look_newsH, if_pos (by omega)] at hB
    simp only [Option.none_or, Option.map_eq_some_iff] at hB
    obtain ⟨b0, hb0, rfl⟩ := hB
    exact h.2 (i - n) b0 (by rw [look_newsH, if_pos (Nat.zero_le _), Nat.sub_zero]; exact hb0) (fun hm => by simp [mem] at hm) hf
theorem join_look (hn : ∀ k, k < bs.length → look H (n + k) = none) (k : Nat) (hk : k < bs.length) : look (H ++ newsH n (shiftB d bs)) (n + k) = (look (newsH 0 bs) k).map (Blk.shift d) := by
  rw [look_append, hn _ hk, look_shiftB, look_newsH, look_newsH, if_pos (by omega), if_pos (Nat.zero_le _), Nat.add_sub_cancel_left, Nat.sub_zero]; rfl
mutual
theorem shift_rep (hr : HRel H pl w) (hn : ∀ k, k < bs.length → look H (n + k) = none) (hown : ∀ i B p, look H i = some B → pl.fp i p → ∃ u, w.at? p = some u)
    (hb : po.base = fun p => okd H pl d p ∨ w.at? p = none) : (v : SV) → {u : Value} → SVRep w' (newsH 0 bs) po v u → SVRep w' (H ++ newsH n (shiftB d bs)) (pl.join po n bs.length) (v.shift n d) u
  | .own i, u, h => by
    cases h with
    | own _ sh t xs hl =>
      have hib : i < bs.length := look_lt hl
      have hk := join_look (d := d) (bs := bs) hn i hib
      rw [hl] at hk
      have hh : (pl.join po n bs.length).hdr (n + i) = po.hdr i := by
        show (if n + i < n ∨ n + bs.length ≤ n + i then _ else po.hdr (n + i - n)) = po.hdr i
        rw [if_neg (by omega), Nat.add_sub_cancel_left]
      rw [← hh]
      cases sh with
      | none => exact .own (n + i) none t xs hk
      | some d0 => exact .own (n + i) (some d) t xs hk
  | .r [] x, u, h => by
    cases h with
    | r _ _ _ hx => exact rep_mkR (hx.frame fun p u hp hu => ⟨join_okd hr hn hown hb hp, hu⟩)
  | .r (_ :: _) x, u, h => .undef _
  | .nilS, u, h => by cases h; exact .nilS
  | .agg cs, u, h => by
    cases h with
    | agg _ vs h1 h2 h3 =>
      obtain ⟨g1, g2⟩ := shiftL_rep hr hn hown hb cs vs.toList (by simpa using h1) fun j x u hx hu => h3 j x u hx (by simpa using hu)
      exact .agg _ _ (by simpa using g1) h2 fun j x u hx hu => g2 j x u hx (by simpa using hu)
  | .tup cs, u, h => by
    cases h with
    | tup _ vs h1 h3 =>
      obtain ⟨g1, g2⟩ := shiftL_rep hr hn hown hb cs vs.toList (by simpa using h1) fun j x u hx hu => h3 j x u hx (by simpa using hu)
      exact .tup _ _ (by simpa using g1) fun j x u hx hu => g2 j x u hx (by simpa using hu)
  | .nilP, _, _ => .undef _
  | .sub _ _ _, _, _ => .undef _
  | .bsl _ _, _, _ => .undef _
  | .ptr _ _ _, _, _ => .undef _
  | .rptr _ _, _, _ => .undef _
  | .fn _ _ _, _, _ => .undef _
  | .undef, _, _ => .undef _
theorem shiftL_rep (hr : HRel H pl w) (hn : ∀ k, k < bs.length → look H (n + k) = none) (hown : ∀ i B p, look H i = some B → pl.fp i p → ∃ u, w.at? p = some u)
    (hb : po.base = fun p => okd H pl d p ∨ w.at? p = none) : (cs : List SV) → (us : List Value) → cs.length = us.length →
    (∀ (j : Nat) (x : SV) (u : Value), cs[j]? = some x → us[j]? = some u → SVRep w' (newsH 0 bs) po x u) →
    (shiftL n d cs).length = us.length ∧ ∀ (j : Nat) (x : SV) (u : Value), (shiftL n d cs)[j]? = some x → us[j]? = some u → SVRep w' (H ++ newsH n (shiftB d bs)) (pl.join po n bs.length) x u
  | [], us, hl, _ => ⟨hl, fun j x u hx _ => by simp [shiftL] at hx⟩
  | v :: cs, u :: us, hl, hp => by
    obtain ⟨g1, g2⟩ := shiftL_rep hr hn hown hb cs us (by simpa using hl) fun j x u hx hu => hp (j + 1) x u (by simpa using hx) (by simpa using hu)
    refine ⟨by simp [shiftL, g1], fun j x u' hx hu => ?_⟩
    cases j with
    | zero => simp [shiftL] at hx hu; subst hx hu; exact shift_rep hr hn hown hb v (hp 0 v u rfl rfl)
    | succ j => exact g2 j x u' (by simpa [shiftL] using hx) (by simpa using hu)
end
theorem join_step (hgr : Grown w w') (hr : HRel H pl w) (hn : ∀ k, k < bs.length → look H (n + k) = none) (hg : goodB bs = true) (hro : HRel (newsH 0 bs) po w') (hb : po.base = fun p => okd H pl d p ∨ w.at? p = none)
    (hold : ∀ p x, w.at? p = some x → w'.at? p = some x ∧ w'.ice? p = w.ice? p) (hnew : ∀ i B p, look (newsH 0 bs) i = some B → po.fp i p → w.at? p = none) :
    StepTo H (H ++ newsH n (shiftB d bs)) ([], []) pl (pl.join po n bs.length) w w' := by
  have hown := hr.own_there
  have hcase : ∀ i B, look (H ++ newsH n (shiftB d bs)) i = some B → ((i < n ∨ n + bs.length ≤ i) ∧ look H i = some B) ∨ (¬ (i < n ∨ n + bs.length ≤ i) ∧ ∃ b0, look (newsH 0 bs) (i - n) = some b0 ∧ B = b0.shift d) := fun i B hB => by
    by_cases hi : i < n ∨ n + bs.length ≤ i
    · rw [look_append, look_out hi] at hB
      exact .inl ⟨hi, by simpa using hB⟩
    · rw [show i = n + (i - n) from by omega, join_look hn _ (by omega)] at hB
      obtain ⟨b0, h1, h2⟩ := Option.map_eq_some_iff.1 hB
      exact .inr ⟨hi, b0, h1, h2.symm⟩
  have hlt : ∀ i B, look H i = some B → (i < n ∨ n + bs.length ≤ i) := fun i B hB => by
    by_cases hi : i < n ∨ n + bs.length ≤ i
    · exact hi
    · rw [look_in hn hi] at hB; exact nomatch hB
  have hkeep : Keeps ([], []) w H pl w' (H ++ newsH n (shiftB d bs)) (pl.join po n bs.length) := by
    refine ⟨fun i B hB _ => ⟨B, by rw [look_append, hB]; rfl, B.like_refl, by simp only [Pl.join, if_pos (hlt i B hB)]⟩, fun d' p u _ hok hu => ⟨⟨hok.1, fun i B hB hm hf => ?_⟩, (hold p u hu).1⟩⟩
    rcases hcase i B hB with ⟨hi, hB'⟩ | ⟨hi, b0, h1, _⟩
    · simp only [Pl.join, if_pos hi] at hf; exact hok.2 i B hB' hm hf
    · simp only [Pl.join, if_neg hi] at hf
      rw [hnew _ b0 p h1 hf] at hu; exact nomatch hu
  refine ⟨⟨fun i B hB => ?_, fun i j B B' p h1 h2 f1 f2 => ?_, fun i B p hB hf => ?_, fun p hp => hr.nb p ?_⟩, hkeep, rfl, hgr, fun p u hp hno => ⟨fun i B hB hf => ?_, hold p u hp⟩⟩
  · rcases hcase i B hB with ⟨hi, hB'⟩ | ⟨hi, b0, h1, rfl⟩
    · exact (hr.blk i B hB').keep hkeep (by simp only [Pl.join, if_pos hi]) (fun p => by simp only [Pl.join, if_pos hi]) (fun p u _ hu => hold p u hu) B.sweep_nil
    · have hbl := hro.blk _ b0 h1
      have hget : bs[i - n]? = some b0 := by rw [look_newsH, if_pos (Nat.zero_le _), Nat.sub_zero] at h1; exact h1
      have e1 : (pl.join po n bs.length).hdr i = po.hdr (i - n) := by simp only [Pl.join, if_neg hi]
      have e2 : (pl.join po n bs.length).fp i = po.fp (i - n) := by simp only [Pl.join, if_neg hi]
      obtain ⟨t, xs, rfl | rfl⟩ := goodB_spec hg _ _ hget
      · show Nonempty (Row w' (RepD w') t xs ((pl.join po n bs.length).hdr i) ((pl.join po n bs.length).fp i))
        rw [e1, e2]; exact hbl
      · obtain ⟨⟨a, cap, b, o, vs, fs, q1, q2, q3, q4, q5, q6, q7, q8, q9⟩⟩ := hbl
        refine ⟨⟨a, cap, b, o, vs, fs, by rw [e1]; exact q1, q2, q3, q4, q5, fun i j r hc => ⟨(q6 i j r hc).1.frame fun p u hp hu => ⟨join_okd hr hn hown hb hp, hu⟩, (q6 i j r hc).2⟩, q7, q8, fun p => by rw [e2]; exact q9 p⟩⟩
  · rcases hcase i B h1 with ⟨hi, q1⟩ | ⟨hi, b0, q1, _⟩ <;> rcases hcase j B' h2 with ⟨hj, q2⟩ | ⟨hj, b1, q2, _⟩
    · simp only [Pl.join, if_pos hi] at f1
      simp only [Pl.join, if_pos hj] at f2
      exact hr.dis i j _ _ p q1 q2 f1 f2
    · simp only [Pl.join, if_pos hi] at f1
      simp only [Pl.join, if_neg hj] at f2
      obtain ⟨u, hu⟩ := hown i _ p q1 f1
      rw [hnew _ _ p q2 f2] at hu; exact nomatch hu
    · simp only [Pl.join, if_neg hi] at f1
      simp only [Pl.join, if_pos hj] at f2
      obtain ⟨u, hu⟩ := hown j _ p q2 f2
      rw [hnew _ _ p q1 f1] at hu; exact nomatch hu
    · simp only [Pl.join, if_neg hi] at f1
      simp only [Pl.join, if_neg hj] at f2
      have := hro.dis _ _ _ _ p q1 q2 f1 f2
      omega
  · rcases hcase i B hB with ⟨hi, q1⟩ | ⟨hi, b0, q1, _⟩
    · simp only [Pl.join, if_pos hi] at hf; exact hr.ob i B p q1 hf
    · simp only [Pl.join, if_neg hi] at hf
      exact hr.nb p (hnew _ _ p q1 hf)
  · cases hq : w.at? p with
    | none => rfl
    | some u => rw [(hold p u hq).1] at hp; exact nomatch hp
  · rcases hcase i B hB with ⟨hi, q1⟩ | ⟨hi, b0, q1, _⟩
    · simp only [Pl.join, if_pos hi] at hf; exact hno i B q1 hf
    · simp only [Pl.join, if_neg hi] at hf
      rw [hnew _ _ p q1 hf] at hp; exact nomatch hp
end
theorem pureOrc_ok {g : FuncId} {ss : List Sh} {G : PG} (h : PureOk P g G) : OrcOk P g (pureOrc ss G) := by
  intro ρ nid vs H K out hK
  simp only [pureOrc, Option.bind_eq_some_iff] at hK
  obtain ⟨⟨d, args⟩, hargs, hG⟩ := hK
  obtain ⟨o, ho, hen, hcalls⟩ := h ρ args _ out hG
  cases hg : goodB o.2 <;> simp only [hg, cond_true, cond_false] at ho
  · exact nomatch ho
  · refine ⟨_, ho, hen, fun i B hB => by simp [look] at hB, fun H1 pl w us he hr hn hl hp H' ha => ?_⟩
    have hn : ∀ k, k < o.2.length → look H1 (nid + k) = none := fun k hk => hn k (by rw [shiftB_length]; exact hk)
    obtain ⟨g1, g2⟩ := toArgs_rep (us := us.toList) hr (toArgs_le he _ _ _ hargs) (by simpa using hl) fun j x u hx hu => hp j x u hx (by simpa using hu)
    refine (hcalls w us (okd H1 pl d) (by simpa using g1) fun j x u hx hu => g2 j x u hx (by simpa using hu)).mono fun e w' ⟨u, po, he, h1, h2, h3, h4, h5, h6⟩ => ?_
    cases ha
    have hst := join_step (d := d) h6 hr hn hg h1 h3 h4 h5
    exact ⟨u, _, he, hst, shift_rep hr hn hr.own_there h3 o.1 h2⟩
end
end Go.Proofs.Ev
