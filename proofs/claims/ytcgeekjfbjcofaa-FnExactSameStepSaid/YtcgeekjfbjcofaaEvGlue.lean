/- What the printed texts lean on. -/
import Derived.Test.YtcgeekjfbjcofaaEvNorm
import Derived.KernelRfl
set_option linter.unusedVariables false
set_option linter.unusedSimpArgs false
namespace Go.Proofs.Ev
section
variable {ρ : Type}
/-- The loops of a text that lie in no other loop, each with the block around it. -/
def loopsIn : Nat → Code → List (Nat × Code)
  | cb, .seq a b => loopsIn cb a ++ loopsIn cb b
  | cb, .cond _ a b => loopsIn cb a ++ loopsIn cb b
  | _, .block id c => loopsIn id c
  | cb, .scope c => loopsIn cb c
  | cb, .loop c => [(cb, c)]
  | _, _ => []
theorem lpgood_list {E : Env} {LP : Nat → Ev ρ → Ev ρ} : ∀ (c : Code) (cb : Nat), (∀ x ∈ loopsIn cb c, Sound E.P (.loop x.2) (LP x.1 fun st K => ev E LP x.1 x.2 st K)) → LPGood E LP cb c
  | .seq a b, cb, h => ⟨lpgood_list a cb fun x hx => h x (by simp [loopsIn, hx]), lpgood_list b cb fun x hx => h x (by simp [loopsIn, hx])⟩
  | .cond _ a b, cb, h => ⟨lpgood_list a cb fun x hx => h x (by simp [loopsIn, hx]), lpgood_list b cb fun x hx => h x (by simp [loopsIn, hx])⟩
  | .block id c, _, h => lpgood_list c id h
  | .scope c, cb, h => lpgood_list c cb h
  | .loop c, cb, h => h (cb, c) (by simp [loopsIn])
  | .skip, _, _ => trivial
  | .label _, _, _ => trivial
  | .region _ _ _, _, _ => trivial
  | .exit _, _, _ => trivial
  | .ret, _, _ => trivial
  | .rangeFunc _ _ _ _, _, _ => trivial
  | .goto _, _, _ => trivial
  | .refuse _, _, _ => trivial
def AllIn (p : Nat × Code → Prop) : List (Nat × Code) → Prop
  | [] => True
  | x :: l => p x ∧ AllIn p l
theorem allIn_mem {p : Nat × Code → Prop} : ∀ {l : List (Nat × Code)}, AllIn p l → ∀ x ∈ l, p x
  | y :: l, h, x, hx => by
    rcases List.mem_cons.1 hx with rfl | hx
    · exact h.1
    · exact allIn_mem h.2 x hx
theorem lpgood_of {E : Env} {LP : Nat → Ev ρ → Ev ρ} {c : Code} {cb : Nat} {l : List (Nat × Code)} (hl : loopsIn cb c = l)
    (h : AllIn (fun x => Sound E.P (.loop x.2) (LP x.1 fun st K => ev E LP x.1 x.2 st K)) l) : LPGood E LP cb c :=
  lpgood_list c cb (by rw [hl]; exact allIn_mem h)
theorem lpgood_none {E : Env} {LP : Nat → Ev ρ → Ev ρ} {c : Code} {cb : Nat} (hl : loopsIn cb c = []) : LPGood E LP cb c := lpgood_of hl trivial
theorem orc_cond {P : Program} {n g : Nat} {o o' : Orc} (h : OrcOk P n o) (h' : OrcOk P g o') : OrcOk P g (cond (Nat.beq g n) o o') := by
  cases hb : Nat.beq g n
  · exact h'
  · have : g = n := Nat.eq_of_beq_eq_true hb
    subst this; exact h
/-- The second where the first does not take the arguments. -/
def altOrc (o o' : Orc) : Orc := fun ρ nid vs h K => match o ρ nid vs h K with
  | some r => some r
  | none => o' ρ nid vs h K
theorem altOrc_ok {P : Program} {g : FuncId} {o o' : Orc} (h : OrcOk P g o) (h' : OrcOk P g o') : OrcOk P g (altOrc o o') := by
  intro ρ nid vs H K out hK
  simp only [altOrc] at hK
  split at hK
  · rename_i r hr; cases hK; exact h ρ nid vs H K _ hr
  · exact h' ρ nid vs H K _ hK
theorem loop_ok {P : Program} {c : Code} {f : Ev ρ} {p V : Type} (hf : Sound P c f) {keep : List Nat} (kx : Ex → List Nat) (k : Nat) {dec : Nat → NF → Option (p × V)} {tm : p × V → St}
    {g : p → V → (V → Option ρ) → (Ex → St → Option ρ) → Option ρ} (hd : ∀ n nf v, dec n nf = some v → denorm keep n nf = tm v)
    (hg : ∀ (q : p) (v : V) (K K1 : Ex → St → Option ρ), f (tm (q, v)) (fun e st' => match e with
        | .normal => (norm keep st').bind fun nf => K1 .normal (denorm keep st'.n nf)
        | e => (norm (kx e) st').bind fun nf => K e (denorm (kx e) st'.n nf)) = g q v (fun v' => K1 .normal (tm (q, v'))) K) :
    Sound P (.loop c) (loopOrc keep dec fun pv K => iter (fun v next => g pv.1 v next K) k pv.2) :=
  loopOrc_sound hf kx k hd fun pv K => (iter_loopV (tm := fun v => tm (pv.1, v)) (g := fun v next K => g pv.1 v next K) (fun v K K1 next hn => by
    have : next = fun v' => K1 .normal (tm (pv.1, v')) := funext fun v' => (hn v').symm
    rw [this]; exact hg pv.1 v K K1) K k pv.2).symm
/-- How far a loop's first state is read: at the given number of slots alone. -/
theorem dec_at {T : Type} {keep : List Nat} {N : Nat} {d : NF → Option T} {tm : T → St} (h : ∀ nf v, d nf = some v → denorm keep N nf = tm v) (n : Nat) (nf : NF) (v : T)
    (e : cond (Nat.beq n N) (d nf) none = some v) : denorm keep n nf = tm v := by
  cases hb : Nat.beq n N <;> simp only [hb, cond_true, cond_false] at e
  · exact nomatch e
  · have : n = N := Nat.eq_of_beq_eq_true hb
    subst this; exact h nf v e
/-- A function's contract, out of the evaluator. -/
theorem pureOk_of_ev {A R : Type} {E : Env} (hE : EnvOk E) {LP : Nat → Ev R → Ev R} {g : FuncId} {fn : Func} (hf : E.P.funcs[g]? = some fn) (hc : fn.body.isSome = true)
    (hnm : (fn.name == "runtime.NumGoroutine") = false) (argsOf : A → List Arg) (argD : List Arg → Option A) (hA : ∀ l a, argD l = some a → l = argsOf a)
    (hn : ∀ a, Nat.ble (argsOf a).length fn.ntmps = true) (hLP : LPGood E LP 0 (fn.body.getD .skip)) {rt : RT} {dec : Out → Option R} {enc : R → Out} (hd : ∀ o r, dec o = some r → o = enc r)
    {F : A → Option R} (h : ∀ a, ev E LP 0 (fn.body.getD .skip) (st0 fn (argsOf a)) (fin E.P fn rt dec) = F a) :
    PureOk E.P g fun _ l K => (argD l).bind fun a => (F a).bind fun r => K (enc r) := by
  intro ρ l K out hK
  simp only [Option.bind_eq_some_iff] at hK
  obtain ⟨a, ha, r, hr, hK⟩ := hK
  obtain ⟨c, hcb⟩ := Option.isSome_iff_exists.1 hc
  have hgc : fn.body.getD .skip = c := by rw [hcb]; rfl
  rw [hA l a ha]
  exact ⟨enc r, hK, pure_of_ev hE hd hf hcb hnm (hn a) (hgc ▸ hLP) (by rw [← hgc, h a]; exact hr)⟩
end
end Go.Proofs.Ev
