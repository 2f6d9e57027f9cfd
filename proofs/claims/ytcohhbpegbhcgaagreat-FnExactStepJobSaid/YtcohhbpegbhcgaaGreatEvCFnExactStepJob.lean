/- Text of this claim. -/
import Derived.Test.YtcohhbpegbhcgaaGreatEvK5
import Derived.Test.YtcohhbpegbhcgaaGreatProg
import Derived.Test.YtcohhbpegbhcgaaGreatEvD1
import Derived.Test.YtcohhbpegbhcgaaGreatEvD3
import Derived.Test.YtcohhbpegbhcgaaGreatEvD5
import Derived.Test.YtcohhbpegbhcgaaGreatEvD9
import Derived.Test.YtcohhbpegbhcgaaGreatEvXCFnExactStepJob
set_option linter.unusedVariables false
set_option linter.unusedSimpArgs false
set_option linter.unusedVariables false
set_option linter.unusedSimpArgs false
set_option maxRecDepth 100000
set_option maxHeartbeats 4000000
namespace Go.Proofs.Ev
noncomputable section
variable [Tok]
set_option linter.unusedSectionVars false
def yr6 (k : Nat) : Orc := pureOrc [.agg [(.int .i64), (.int .i64), (.int .i64), (.sl (.st .layer)), (.int .i64), (.int .i64), (.int .i64), (.int .i64), (.sl (.int .i64)), (.int .i64)]] (yr3 k)
theorem yr7 (k : Nat) : OrcOk Tryz.prog 28 (yr6 k) := pureOrc_ok (yr5 k)
noncomputable def E_I_in (k : Nat) : Env := { P := Tryz.prog, tt := tt, orc := fun g => noOrc }
theorem yr8 (k : Nat) : EnvOk (E_I_in k) := fun g => (noOrc_ok _ _)
noncomputable def c_I_in : Code := (Tryz.f53.body).getD .skip
def yr9 (ρ : Type) (k : Nat) : Nat → Ev ρ → Ev ρ := fun _ _ _ _ => none
def yra (a : Int × Int × Int) : List Arg := [.one (.int .i64 a.1), .one (.int .i64 a.2.1), .one (.int .i64 a.2.2)]
def yrb (l : List Arg) : Option (Int × Int × Int) := match l with
  | [.one (.int .i64 b0), .one (.int .i64 b1), .one (.int .i64 b2)] => some (b0, b1, b2)
  | _ => none
def yrc (r : Bool) : Out := (.r [] (.bool r), [])
def yrd (o : Out) : Option (Bool) := match o with
  | (.r [] (.bool z1), []) => some z1
  | _ => none
def I_in_G (k : Nat) : PG := fun _ l K => (yrb l).bind fun a => (I_in k a.1 a.2.1 a.2.2).bind fun r => K (yrc r)
theorem yre (k : Nat) (a : Int × Int × Int) : ev (E_I_in k) (yr9 (Bool) k) 0 c_I_in (st0 Tryz.f53 (yra a)) (fin Tryz.prog Tryz.f53 (.sc) yrd) = I_in k a.1 a.2.1 a.2.2 := by kernel_rfl
theorem yrf (k : Nat) : PureOk Tryz.prog 53 (I_in_G k) :=
  pureOk_of_ev (yr8 k) Tryz.func53 (by kernel_rfl) (by kernel_rfl) yra yrb
    (fun l a h => by unfold yrb at h; split at h <;> first | (cases h; rfl) | cases h) (fun a => rfl) (lpgood_none (by kernel_rfl))
    (fun o r h => by unfold yrd at h; split at h <;> first | (cases h; rfl) | cases h) (yre k)
def o_I_in (k : Nat) : Orc := pureOrc [.one (.int .i64), .one (.int .i64), .one (.int .i64)] (I_in_G k)
theorem yrg (k : Nat) : OrcOk Tryz.prog 53 (o_I_in k) := pureOrc_ok (yrf k)
noncomputable def yrh (k : Nat) : Env := { P := Tryz.prog, tt := tt, orc := fun g => cond (Nat.beq g 53) (o_I_in k) (noOrc) }
theorem yri (k : Nat) : EnvOk (yrh k) := fun g => (orc_cond (yrg k) (noOrc_ok _ _))
noncomputable def yrj : Code := (Tryz.f77.body).getD .skip
def yrk (ρ : Type) (k : Nat) : Nat → Ev ρ → Ev ρ := fun _ _ _ _ => none
def yrl (a : Shape) : List Arg := [.agg [.int .i64 a.h, .int .i64 a.w, .int .i64 a.c]]
def yrm (l : List Arg) : Option (Shape) := match l with
  | [.agg [.int .i64 b0_0, .int .i64 b0_1, .int .i64 b0_2]] => some (⟨b0_0, b0_1, b0_2⟩ : Shape)
  | _ => none
def yrn (r : Bool) : Out := (.r [] (.bool r), [])
def yro (o : Out) : Option (Bool) := match o with
  | (.r [] (.bool z1), []) => some z1
  | _ => none
def yrp (k : Nat) : PG := fun _ l K => (yrm l).bind fun a => (I_ShapeOk k a).bind fun r => K (yrn r)
theorem yrq (k : Nat) (a : Shape) : ev (yrh k) (yrk (Bool) k) 0 yrj (st0 Tryz.f77 (yrl a)) (fin Tryz.prog Tryz.f77 (.sc) yro) = I_ShapeOk k a := by kernel_rfl
theorem yrr (k : Nat) : PureOk Tryz.prog 77 (yrp k) :=
  pureOk_of_ev (yri k) Tryz.func77 (by kernel_rfl) (by kernel_rfl) yrl yrm
    (fun l a h => by unfold yrm at h; split at h <;> first | (cases h; rfl) | cases h) (fun a => rfl) (lpgood_none (by kernel_rfl))
    (fun o r h => by unfold yro at h; split at h <;> first | (cases h; rfl) | cases h) (yrq k)
def yrs (k : Nat) : Orc := pureOrc [.agg [(.int .i64), (.int .i64), (.int .i64)]] (yrp k)
theorem yrt (k : Nat) : OrcOk Tryz.prog 77 (yrs k) := pureOrc_ok (yrr k)
noncomputable def yru (k : Nat) : Env := { P := Tryz.prog, tt := tt, orc := fun g => cond (Nat.beq g 77) (yrs k) (noOrc) }
theorem yrv (k : Nat) : EnvOk (yru k) := fun g => (orc_cond (yrt k) (noOrc_ok _ _))
noncomputable def yrw : Code := (Tryz.f78.body).getD .skip
def yrx (ρ : Type) (k : Nat) : Nat → Ev ρ → Ev ρ := fun _ _ _ _ => none
def yry (a : Shape) : List Arg := [.agg [.int .i64 a.h, .int .i64 a.w, .int .i64 a.c]]
def yrz (l : List Arg) : Option (Shape) := match l with
  | [.agg [.int .i64 b0_0, .int .i64 b0_1, .int .i64 b0_2]] => some (⟨b0_0, b0_1, b0_2⟩ : Shape)
  | _ => none
def ys0 (r : Int) : Out := (.r [] (.int .i64 r), [])
def ys1 (o : Out) : Option (Int) := match o with
  | (.r [] (.int .i64 z1), []) => some z1
  | _ => none
def ys2 (k : Nat) : PG := fun _ l K => (yrz l).bind fun a => (I_SizeOf k a).bind fun r => K (ys0 r)
theorem ys3 (k : Nat) (a : Shape) : ev (yru k) (yrx (Int) k) 0 yrw (st0 Tryz.f78 (yry a)) (fin Tryz.prog Tryz.f78 (.sc) ys1) = I_SizeOf k a := by kernel_rfl
theorem ys4 (k : Nat) : PureOk Tryz.prog 78 (ys2 k) :=
  pureOk_of_ev (yrv k) Tryz.func78 (by kernel_rfl) (by kernel_rfl) yry yrz
    (fun l a h => by unfold yrz at h; split at h <;> first | (cases h; rfl) | cases h) (fun a => rfl) (lpgood_none (by kernel_rfl))
    (fun o r h => by unfold ys1 at h; split at h <;> first | (cases h; rfl) | cases h) (ys3 k)
def ys5 (k : Nat) : Orc := pureOrc [.agg [(.int .i64), (.int .i64), (.int .i64)]] (ys2 k)
theorem ys6 (k : Nat) : OrcOk Tryz.prog 78 (ys5 k) := pureOrc_ok (ys4 k)
noncomputable def ys7 (k : Nat) : Env := { P := Tryz.prog, tt := tt, orc := fun g => noOrc }
theorem ys8 (k : Nat) : EnvOk (ys7 k) := fun g => (noOrc_ok _ _)
noncomputable def ys9 : Code := (Tryz.f95.body).getD .skip
def ysa (ρ : Type) (k : Nat) : Nat → Ev ρ → Ev ρ := fun _ _ _ _ => none
def ysb (a : Layer) : List Arg := [.agg [.int .i64 a.kind, .int .i64 a.out, .int .i64 a.size, .int .i64 a.step, .int .i64 a.mult, .int .i64 a.shift, .int .i64 a.zero, .sl (.int .i64) a.weights, .sl (.int .i64) a.bias]]
def ysc (l : List Arg) : Option (Layer) := match l with
  | [.agg [.int .i64 b0_0, .int .i64 b0_1, .int .i64 b0_2, .int .i64 b0_3, .int .i64 b0_4, .int .i64 b0_5, .int .i64 b0_6, .sl (.int .i64) b0_7, .sl (.int .i64) b0_8]] => some (⟨b0_0, b0_1, b0_2, b0_3, b0_4, b0_5, b0_6, b0_7, b0_8⟩ : Layer)
  | _ => none
def ysd (r : Bool) : Out := (.r [] (.bool r), [])
def yse (o : Out) : Option (Bool) := match o with
  | (.r [] (.bool z1), []) => some z1
  | _ => none
def ysf (k : Nat) : PG := fun _ l K => (ysc l).bind fun a => (I_Layer_hasNone k a).bind fun r => K (ysd r)
theorem ysg (k : Nat) (a : Layer) : ev (ys7 k) (ysa (Bool) k) 0 ys9 (st0 Tryz.f95 (ysb a)) (fin Tryz.prog Tryz.f95 (.sc) yse) = I_Layer_hasNone k a := by kernel_rfl
theorem ysh (k : Nat) : PureOk Tryz.prog 95 (ysf k) :=
  pureOk_of_ev (ys8 k) Tryz.func95 (by kernel_rfl) (by kernel_rfl) ysb ysc
    (fun l a h => by unfold ysc at h; split at h <;> first | (cases h; rfl) | cases h) (fun a => rfl) (lpgood_none (by kernel_rfl))
    (fun o r h => by unfold yse at h; split at h <;> first | (cases h; rfl) | cases h) (ysg k)
def ysi (k : Nat) : Orc := pureOrc [.agg [(.int .i64), (.int .i64), (.int .i64), (.int .i64), (.int .i64), (.int .i64), (.int .i64), (.sl (.int .i64)), (.sl (.int .i64))]] (ysf k)
theorem ysj (k : Nat) : OrcOk Tryz.prog 95 (ysi k) := pureOrc_ok (ysh k)
noncomputable def ysk (k : Nat) : Env := { P := Tryz.prog, tt := tt, orc := fun g => cond (Nat.beq g 53) (o_I_in k) (noOrc) }
theorem ysl (k : Nat) : EnvOk (ysk k) := fun g => (orc_cond (yrg k) (noOrc_ok _ _))
noncomputable def ysm : Code := (Tryz.f93.body).getD .skip
def ysn (ρ : Type) (k : Nat) : Nat → Ev ρ → Ev ρ := fun _ _ _ _ => none
def yso (a : Int) : List Arg := [.one (.int .i64 a)]
def ysp (l : List Arg) : Option (Int) := match l with
  | [.one (.int .i64 b0)] => some b0
  | _ => none
def ysq (r : Bool) : Out := (.r [] (.bool r), [])
def ysr (o : Out) : Option (Bool) := match o with
  | (.r [] (.bool z1), []) => some z1
  | _ => none
def yss (k : Nat) : PG := fun _ l K => (ysp l).bind fun a => (I_areItems_c1 k a).bind fun r => K (ysq r)
theorem yst (k : Nat) (a : Int) : ev (ysk k) (ysn (Bool) k) 0 ysm (st0 Tryz.f93 (yso a)) (fin Tryz.prog Tryz.f93 (.sc) ysr) = I_areItems_c1 k a := by kernel_rfl
theorem ysu (k : Nat) : PureOk Tryz.prog 93 (yss k) :=
  pureOk_of_ev (ysl k) Tryz.func93 (by kernel_rfl) (by kernel_rfl) yso ysp
    (fun l a h => by unfold ysp at h; split at h <;> first | (cases h; rfl) | cases h) (fun a => rfl) (lpgood_none (by kernel_rfl))
    (fun o r h => by unfold ysr at h; split at h <;> first | (cases h; rfl) | cases h) (yst k)
def ysv (k : Nat) : Orc := pureOrc [.one (.int .i64)] (yss k)
theorem ysw (k : Nat) : OrcOk Tryz.prog 93 (ysv k) := pureOrc_ok (ysu k)
noncomputable def ysx (k : Nat) : Env := { P := Tryz.prog, tt := tt, orc := fun g => cond (Nat.beq g 93) (ysv k) (noOrc) }
theorem ysy (k : Nat) : EnvOk (ysx k) := fun g => (orc_cond (ysw k) (noOrc_ok _ _))
noncomputable def ysz : Code := (Tryz.f110.body).getD .skip
noncomputable def yt0 : Code := ((loopsIn 0 ysz).getD 0 (0, .skip)).2
def yt1 : List Nat := [0, 1, 7, 8]
def yt2 : List (Where × Co) := []
def yt3 : Ex → List Nat
  | .exit j => cond (Nat.beq j 0) [] []
  | .ret => [4]
  | .normal => []
def yt4 : Ex → List (Where × Co)
  | .exit j => cond (Nat.beq j 0) [] []
  | .ret => []
  | .normal => []
def yt5 (pv : (List Int × Int) × (Int)) : St := { slots := [(0, .r [] (.sl (.int .i64) pv.1.1)), (1, .fn (.func 93) [] []), (7, .r [] (.int .i64 pv.1.2)), (8, .r [] (.int .i64 pv.2))], heap := [], nid := 0, n := 19, gh := [] }
def yt6 (nf : NF) : Option ((List Int × Int) × (Int)) := match nf with
  | ([.r [] (.sl (.int .i64) w0), .fn (.func 93) [] [], .r [] (.int .i64 w1), .r [] (.int .i64 w2)], [], []) => some ((w0, w1), w2)
  | _ => none
theorem yt7 (nf : NF) (v : (List Int × Int) × (Int)) (h : yt6 nf = some v) : denorm yt1 19 nf = yt5 v := by
  unfold yt6 at h
  split at h
  · cases h; rfl
  · cases h
def yt8 (p : List Int × Int) (x : Unit) : St := { slots := [], heap := [], nid := 0, n := 19, gh := [] }
def yt9 (p : List Int × Int) (x : Int) : St := { slots := [(4, .r [] (.int .i64 x))], heap := [], nid := 0, n := 19, gh := [] }
def yta (ρ : Type) (k : Nat) : Nat → Ev ρ → Ev ρ := fun id f => cond (Nat.beq id 0) (loopOrc yt1 yt2 (fun n nf => cond (Nat.beq n 19) (yt6 nf) none) fun pv K => iter (fun v next => slices_IndexFunc_lint_int__I_areItems_c1_g0 k pv.1 v next (fun x => K (.exit 0) (yt8 pv.1 x)) (fun x => K .ret (yt9 pv.1 x))) k pv.2) ((fun _ _ _ _ => none) id f)
theorem ytb {ρ : Type} (k : Nat) (p : List Int × Int) (v : Int) (K K1 : Ex → St → Option ρ) : ev (ysx k) (yta ρ k) 0 yt0 (yt5 (p, v)) (fun e st' => match e with
    | .normal => (normC yt1 yt2 st').bind fun nf => K1 .normal (denorm yt1 st'.n nf)
    | e => (normC (yt3 e) (yt4 e) st').bind fun nf => K e (denorm (yt3 e) st'.n nf)) = slices_IndexFunc_lint_int__I_areItems_c1_g0 k p v (fun v' => K1 .normal (yt5 (p, v'))) (fun x => K (.exit 0) (yt8 p x)) (fun x => K .ret (yt9 p x)) := by kernel_rfl
theorem ytc {ρ : Type} (k : Nat) : Sound Tryz.prog (.loop yt0) (yta ρ k 0 fun st K => ev (ysx k) (yta ρ k) 0 yt0 st K) :=
  loop_ok (ev_sound (ysy k) yt0 0 (lpgood_none (by kernel_rfl))) yt3 yt4 k (g := fun p v next K => slices_IndexFunc_lint_int__I_areItems_c1_g0 k p v next (fun x => K (.exit 0) (yt8 p x)) (fun x => K .ret (yt9 p x))) (dec_at yt7) (fun p v K K1 => ytb k p v K K1)
def ytd (a : List Int) : List Arg := [.one (.sl (.int .i64) a), .fn (.func 93) [] []]
def yte (l : List Arg) : Option (List Int) := match l with
  | [.one (.sl (.int .i64) b0), .fn (.func 93) [] []] => some b0
  | _ => none
def ytf (r : Int) : Out := (.r [] (.int .i64 r), [])
def ytg (o : Out) : Option (Int) := match o with
  | (.r [] (.int .i64 z1), []) => some z1
  | _ => none
def yth (k : Nat) : PG := fun _ l K => (yte l).bind fun a => (slices_IndexFunc_lint_int__I_areItems_c1 k a).bind fun r => K (ytf r)
theorem yti (k : Nat) (a : List Int) : ev (ysx k) (yta (Int) k) 0 ysz (st0 Tryz.f110 (ytd a)) (fin Tryz.prog Tryz.f110 (.sc) ytg) = slices_IndexFunc_lint_int__I_areItems_c1 k a := by kernel_rfl
theorem ytj (k : Nat) : PureOk Tryz.prog 110 (yth k) :=
  pureOk_of_ev (ysy k) Tryz.func110 (by kernel_rfl) (by kernel_rfl) ytd yte
    (fun l a h => by unfold yte at h; split at h <;> first | (cases h; rfl) | cases h) (fun a => rfl) (lpgood_of (l := [(0, yt0)]) (by kernel_rfl) ⟨ytc k, trivial⟩)
    (fun o r h => by unfold ytg at h; split at h <;> first | (cases h; rfl) | cases h) (yti k)
def ytk (k : Nat) : Orc := pureOrc [.one (.sl (.int .i64)), .fn] (yth k)
theorem ytl (k : Nat) : OrcOk Tryz.prog 110 (ytk k) := pureOrc_ok (ytj k)
noncomputable def ytm (k : Nat) : Env := { P := Tryz.prog, tt := tt, orc := fun g => cond (Nat.beq g 110) (ytk k) (noOrc) }
theorem ytn (k : Nat) : EnvOk (ytm k) := fun g => (orc_cond (ytl k) (noOrc_ok _ _))
noncomputable def yto : Code := (Tryz.f92.body).getD .skip
def ytp (ρ : Type) (k : Nat) : Nat → Ev ρ → Ev ρ := fun _ _ _ _ => none
def ytq (a : List Int) : List Arg := [.one (.sl (.int .i64) a), .fn (.func 93) [] []]
def ytr (l : List Arg) : Option (List Int) := match l with
  | [.one (.sl (.int .i64) b0), .fn (.func 93) [] []] => some b0
  | _ => none
def yts (r : Bool) : Out := (.r [] (.bool r), [])
def ytt (o : Out) : Option (Bool) := match o with
  | (.r [] (.bool z1), []) => some z1
  | _ => none
def ytu (k : Nat) : PG := fun _ l K => (ytr l).bind fun a => (slices_ContainsFunc_lint_int__I_areItems_c1 k a).bind fun r => K (yts r)
theorem ytv (k : Nat) (a : List Int) : ev (ytm k) (ytp (Bool) k) 0 yto (st0 Tryz.f92 (ytq a)) (fin Tryz.prog Tryz.f92 (.sc) ytt) = slices_ContainsFunc_lint_int__I_areItems_c1 k a := by kernel_rfl
theorem ytw (k : Nat) : PureOk Tryz.prog 92 (ytu k) :=
  pureOk_of_ev (ytn k) Tryz.func92 (by kernel_rfl) (by kernel_rfl) ytq ytr
    (fun l a h => by unfold ytr at h; split at h <;> first | (cases h; rfl) | cases h) (fun a => rfl) (lpgood_none (by kernel_rfl))
    (fun o r h => by unfold ytt at h; split at h <;> first | (cases h; rfl) | cases h) (ytv k)
def ytx (k : Nat) : Orc := pureOrc [.one (.sl (.int .i64)), .fn] (ytu k)
theorem yty (k : Nat) : OrcOk Tryz.prog 92 (ytx k) := pureOrc_ok (ytw k)
noncomputable def ytz (k : Nat) : Env := { P := Tryz.prog, tt := tt, orc := fun g => cond (Nat.beq g 92) (ytx k) (noOrc) }
theorem yu0 (k : Nat) : EnvOk (ytz k) := fun g => (orc_cond (yty k) (noOrc_ok _ _))
noncomputable def yu1 : Code := (Tryz.f79.body).getD .skip
def yu2 (ρ : Type) (k : Nat) : Nat → Ev ρ → Ev ρ := fun _ _ _ _ => none
def yu3 (a : List Int) : List Arg := [.one (.sl (.int .i64) a)]
def yu4 (l : List Arg) : Option (List Int) := match l with
  | [.one (.sl (.int .i64) b0)] => some b0
  | _ => none
def yu5 (r : Bool) : Out := (.r [] (.bool r), [])
def yu6 (o : Out) : Option (Bool) := match o with
  | (.r [] (.bool z1), []) => some z1
  | _ => none
def yu7 (k : Nat) : PG := fun _ l K => (yu4 l).bind fun a => (I_areItems k a).bind fun r => K (yu5 r)
theorem yu8 (k : Nat) (a : List Int) : ev (ytz k) (yu2 (Bool) k) 0 yu1 (st0 Tryz.f79 (yu3 a)) (fin Tryz.prog Tryz.f79 (.sc) yu6) = I_areItems k a := by kernel_rfl
theorem yu9 (k : Nat) : PureOk Tryz.prog 79 (yu7 k) :=
  pureOk_of_ev (yu0 k) Tryz.func79 (by kernel_rfl) (by kernel_rfl) yu3 yu4
    (fun l a h => by unfold yu4 at h; split at h <;> first | (cases h; rfl) | cases h) (fun a => rfl) (lpgood_none (by kernel_rfl))
    (fun o r h => by unfold yu6 at h; split at h <;> first | (cases h; rfl) | cases h) (yu8 k)
def yua (k : Nat) : Orc := pureOrc [.one (.sl (.int .i64))] (yu7 k)
theorem yub (k : Nat) : OrcOk Tryz.prog 79 (yua k) := pureOrc_ok (yu9 k)
noncomputable def yuc (k : Nat) : Env := { P := Tryz.prog, tt := tt, orc := fun g => cond (Nat.beq g 53) (o_I_in k) (noOrc) }
theorem yud (k : Nat) : EnvOk (yuc k) := fun g => (orc_cond (yrg k) (noOrc_ok _ _))
noncomputable def yue : Code := (Tryz.f111.body).getD .skip
def yuf (ρ : Type) (k : Nat) : Nat → Ev ρ → Ev ρ := fun _ _ _ _ => none
def yug (a : Int) : List Arg := [.one (.int .i64 a)]
def yuh (l : List Arg) : Option (Int) := match l with
  | [.one (.int .i64 b0)] => some b0
  | _ => none
def yui (r : Bool) : Out := (.r [] (.bool r), [])
def yuj (o : Out) : Option (Bool) := match o with
  | (.r [] (.bool z1), []) => some z1
  | _ => none
def yuk (k : Nat) : PG := fun _ l K => (yuh l).bind fun a => (I_Layer_isScaled_c1 k a).bind fun r => K (yui r)
theorem yul (k : Nat) (a : Int) : ev (yuc k) (yuf (Bool) k) 0 yue (st0 Tryz.f111 (yug a)) (fin Tryz.prog Tryz.f111 (.sc) yuj) = I_Layer_isScaled_c1 k a := by kernel_rfl
theorem yum (k : Nat) : PureOk Tryz.prog 111 (yuk k) :=
  pureOk_of_ev (yud k) Tryz.func111 (by kernel_rfl) (by kernel_rfl) yug yuh
    (fun l a h => by unfold yuh at h; split at h <;> first | (cases h; rfl) | cases h) (fun a => rfl) (lpgood_none (by kernel_rfl))
    (fun o r h => by unfold yuj at h; split at h <;> first | (cases h; rfl) | cases h) (yul k)
def yun (k : Nat) : Orc := pureOrc [.one (.int .i64)] (yuk k)
theorem yuo (k : Nat) : OrcOk Tryz.prog 111 (yun k) := pureOrc_ok (yum k)
noncomputable def yup (k : Nat) : Env := { P := Tryz.prog, tt := tt, orc := fun g => cond (Nat.beq g 111) (yun k) (noOrc) }
theorem yuq (k : Nat) : EnvOk (yup k) := fun g => (orc_cond (yuo k) (noOrc_ok _ _))
noncomputable def yur : Code := (Tryz.f110.body).getD .skip
noncomputable def yus : Code := ((loopsIn 0 yur).getD 0 (0, .skip)).2
def yut : List Nat := [0, 1, 7, 8]
def yuu : List (Where × Co) := []
def yuv : Ex → List Nat
  | .exit j => cond (Nat.beq j 0) [] []
  | .ret => [4]
  | .normal => []
def yuw : Ex → List (Where × Co)
  | .exit j => cond (Nat.beq j 0) [] []
  | .ret => []
  | .normal => []
def yux (pv : (List Int × Int) × (Int)) : St := { slots := [(0, .r [] (.sl (.int .i64) pv.1.1)), (1, .fn (.func 111) [] []), (7, .r [] (.int .i64 pv.1.2)), (8, .r [] (.int .i64 pv.2))], heap := [], nid := 0, n := 19, gh := [] }
def yuy (nf : NF) : Option ((List Int × Int) × (Int)) := match nf with
  | ([.r [] (.sl (.int .i64) w0), .fn (.func 111) [] [], .r [] (.int .i64 w1), .r [] (.int .i64 w2)], [], []) => some ((w0, w1), w2)
  | _ => none
theorem yuz (nf : NF) (v : (List Int × Int) × (Int)) (h : yuy nf = some v) : denorm yut 19 nf = yux v := by
  unfold yuy at h
  split at h
  · cases h; rfl
  · cases h
def yv0 (p : List Int × Int) (x : Unit) : St := { slots := [], heap := [], nid := 0, n := 19, gh := [] }
def yv1 (p : List Int × Int) (x : Int) : St := { slots := [(4, .r [] (.int .i64 x))], heap := [], nid := 0, n := 19, gh := [] }
def yv2 (ρ : Type) (k : Nat) : Nat → Ev ρ → Ev ρ := fun id f => cond (Nat.beq id 0) (loopOrc yut yuu (fun n nf => cond (Nat.beq n 19) (yuy nf) none) fun pv K => iter (fun v next => slices_IndexFunc_lint_int__I_Layer_isScaled_c1_g0 k pv.1 v next (fun x => K (.exit 0) (yv0 pv.1 x)) (fun x => K .ret (yv1 pv.1 x))) k pv.2) ((fun _ _ _ _ => none) id f)
theorem yv3 {ρ : Type} (k : Nat) (p : List Int × Int) (v : Int) (K K1 : Ex → St → Option ρ) : ev (yup k) (yv2 ρ k) 0 yus (yux (p, v)) (fun e st' => match e with
    | .normal => (normC yut yuu st').bind fun nf => K1 .normal (denorm yut st'.n nf)
    | e => (normC (yuv e) (yuw e) st').bind fun nf => K e (denorm (yuv e) st'.n nf)) = slices_IndexFunc_lint_int__I_Layer_isScaled_c1_g0 k p v (fun v' => K1 .normal (yux (p, v'))) (fun x => K (.exit 0) (yv0 p x)) (fun x => K .ret (yv1 p x)) := by kernel_rfl
theorem yv4 {ρ : Type} (k : Nat) : Sound Tryz.prog (.loop yus) (yv2 ρ k 0 fun st K => ev (yup k) (yv2 ρ k) 0 yus st K) :=
  loop_ok (ev_sound (yuq k) yus 0 (lpgood_none (by kernel_rfl))) yuv yuw k (g := fun p v next K => slices_IndexFunc_lint_int__I_Layer_isScaled_c1_g0 k p v next (fun x => K (.exit 0) (yv0 p x)) (fun x => K .ret (yv1 p x))) (dec_at yuz) (fun p v K K1 => yv3 k p v K K1)
def yv5 (a : List Int) : List Arg := [.one (.sl (.int .i64) a), .fn (.func 111) [] []]
def yv6 (l : List Arg) : Option (List Int) := match l with
  | [.one (.sl (.int .i64) b0), .fn (.func 111) [] []] => some b0
  | _ => none
def yv7 (r : Int) : Out := (.r [] (.int .i64 r), [])
def yv8 (o : Out) : Option (Int) := match o with
  | (.r [] (.int .i64 z1), []) => some z1
  | _ => none
def yv9 (k : Nat) : PG := fun _ l K => (yv6 l).bind fun a => (slices_IndexFunc_lint_int__I_Layer_isScaled_c1 k a).bind fun r => K (yv7 r)
theorem yva (k : Nat) (a : List Int) : ev (yup k) (yv2 (Int) k) 0 yur (st0 Tryz.f110 (yv5 a)) (fin Tryz.prog Tryz.f110 (.sc) yv8) = slices_IndexFunc_lint_int__I_Layer_isScaled_c1 k a := by kernel_rfl
theorem yvb (k : Nat) : PureOk Tryz.prog 110 (yv9 k) :=
  pureOk_of_ev (yuq k) Tryz.func110 (by kernel_rfl) (by kernel_rfl) yv5 yv6
    (fun l a h => by unfold yv6 at h; split at h <;> first | (cases h; rfl) | cases h) (fun a => rfl) (lpgood_of (l := [(0, yus)]) (by kernel_rfl) ⟨yv4 k, trivial⟩)
    (fun o r h => by unfold yv8 at h; split at h <;> first | (cases h; rfl) | cases h) (yva k)
def yvc (k : Nat) : Orc := pureOrc [.one (.sl (.int .i64)), .fn] (yv9 k)
theorem yvd (k : Nat) : OrcOk Tryz.prog 110 (yvc k) := pureOrc_ok (yvb k)
noncomputable def yve (k : Nat) : Env := { P := Tryz.prog, tt := tt, orc := fun g => cond (Nat.beq g 110) (yvc k) (noOrc) }
theorem yvf (k : Nat) : EnvOk (yve k) := fun g => (orc_cond (yvd k) (noOrc_ok _ _))
noncomputable def yvg : Code := (Tryz.f92.body).getD .skip
def yvh (ρ : Type) (k : Nat) : Nat → Ev ρ → Ev ρ := fun _ _ _ _ => none
def yvi (a : List Int) : List Arg := [.one (.sl (.int .i64) a), .fn (.func 111) [] []]
def yvj (l : List Arg) : Option (List Int) := match l with
  | [.one (.sl (.int .i64) b0), .fn (.func 111) [] []] => some b0
  | _ => none
def yvk (r : Bool) : Out := (.r [] (.bool r), [])
def yvl (o : Out) : Option (Bool) := match o with
  | (.r [] (.bool z1), []) => some z1
  | _ => none
def yvm (k : Nat) : PG := fun _ l K => (yvj l).bind fun a => (slices_ContainsFunc_lint_int__I_Layer_isScaled_c1 k a).bind fun r => K (yvk r)
theorem yvn (k : Nat) (a : List Int) : ev (yve k) (yvh (Bool) k) 0 yvg (st0 Tryz.f92 (yvi a)) (fin Tryz.prog Tryz.f92 (.sc) yvl) = slices_ContainsFunc_lint_int__I_Layer_isScaled_c1 k a := by kernel_rfl
theorem yvo (k : Nat) : PureOk Tryz.prog 92 (yvm k) :=
  pureOk_of_ev (yvf k) Tryz.func92 (by kernel_rfl) (by kernel_rfl) yvi yvj
    (fun l a h => by unfold yvj at h; split at h <;> first | (cases h; rfl) | cases h) (fun a => rfl) (lpgood_none (by kernel_rfl))
    (fun o r h => by unfold yvl at h; split at h <;> first | (cases h; rfl) | cases h) (yvn k)
def yvp (k : Nat) : Orc := pureOrc [.one (.sl (.int .i64)), .fn] (yvm k)
theorem yvq (k : Nat) : OrcOk Tryz.prog 92 (yvp k) := pureOrc_ok (yvo k)
noncomputable def yvr (k : Nat) : Env := { P := Tryz.prog, tt := tt, orc := fun g => cond (Nat.beq g 53) (o_I_in k) (cond (Nat.beq g 79) (yua k) (cond (Nat.beq g 92) (yvp k) (noOrc))) }
theorem yvs (k : Nat) : EnvOk (yvr k) := fun g => (orc_cond (yrg k) (orc_cond (yub k) (orc_cond (yvq k) (noOrc_ok _ _))))
noncomputable def yvt : Code := (Tryz.f96.body).getD .skip
def yvu (ρ : Type) (k : Nat) : Nat → Ev ρ → Ev ρ := fun _ _ _ _ => none
def yvv (a : Layer × Int) : List Arg := [.agg [.int .i64 a.1.kind, .int .i64 a.1.out, .int .i64 a.1.size, .int .i64 a.1.step, .int .i64 a.1.mult, .int .i64 a.1.shift, .int .i64 a.1.zero, .sl (.int .i64) a.1.weights, .sl (.int .i64) a.1.bias], .one (.int .i64 a.2)]
def yvw (l : List Arg) : Option (Layer × Int) := match l with
  | [.agg [.int .i64 b0_0, .int .i64 b0_1, .int .i64 b0_2, .int .i64 b0_3, .int .i64 b0_4, .int .i64 b0_5, .int .i64 b0_6, .sl (.int .i64) b0_7, .sl (.int .i64) b0_8], .one (.int .i64 b1)] => some ((⟨b0_0, b0_1, b0_2, b0_3, b0_4, b0_5, b0_6, b0_7, b0_8⟩ : Layer), b1)
  | _ => none
def yvx (r : Bool) : Out := (.r [] (.bool r), [])
def yvy (o : Out) : Option (Bool) := match o with
  | (.r [] (.bool z1), []) => some z1
  | _ => none
def yvz (k : Nat) : PG := fun _ l K => (yvw l).bind fun a => (I_Layer_isScaled k a.1 a.2).bind fun r => K (yvx r)
theorem yw0 (k : Nat) (a : Layer × Int) : ev (yvr k) (yvu (Bool) k) 0 yvt (st0 Tryz.f96 (yvv a)) (fin Tryz.prog Tryz.f96 (.sc) yvy) = I_Layer_isScaled k a.1 a.2 := by kernel_rfl
theorem yw1 (k : Nat) : PureOk Tryz.prog 96 (yvz k) :=
  pureOk_of_ev (yvs k) Tryz.func96 (by kernel_rfl) (by kernel_rfl) yvv yvw
    (fun l a h => by unfold yvw at h; split at h <;> first | (cases h; rfl) | cases h) (fun a => rfl) (lpgood_none (by kernel_rfl))
    (fun o r h => by unfold yvy at h; split at h <;> first | (cases h; rfl) | cases h) (yw0 k)
def yw2 (k : Nat) : Orc := pureOrc [.agg [(.int .i64), (.int .i64), (.int .i64), (.int .i64), (.int .i64), (.int .i64), (.int .i64), (.sl (.int .i64)), (.sl (.int .i64))], .one (.int .i64)] (yvz k)
theorem yw3 (k : Nat) : OrcOk Tryz.prog 96 (yw2 k) := pureOrc_ok (yw1 k)
noncomputable def yw4 (k : Nat) : Env := { P := Tryz.prog, tt := tt, orc := fun g => cond (Nat.beq g 53) (o_I_in k) (noOrc) }
theorem yw5 (k : Nat) : EnvOk (yw4 k) := fun g => (orc_cond (yrg k) (noOrc_ok _ _))
noncomputable def yw6 : Code := (Tryz.f97.body).getD .skip
def yw7 (ρ : Type) (k : Nat) : Nat → Ev ρ → Ev ρ := fun _ _ _ _ => none
def yw8 (a : Layer × Shape) : List Arg := [.agg [.int .i64 a.1.kind, .int .i64 a.1.out, .int .i64 a.1.size, .int .i64 a.1.step, .int .i64 a.1.mult, .int .i64 a.1.shift, .int .i64 a.1.zero, .sl (.int .i64) a.1.weights, .sl (.int .i64) a.1.bias], .agg [.int .i64 a.2.h, .int .i64 a.2.w, .int .i64 a.2.c]]
def yw9 (l : List Arg) : Option (Layer × Shape) := match l with
  | [.agg [.int .i64 b0_0, .int .i64 b0_1, .int .i64 b0_2, .int .i64 b0_3, .int .i64 b0_4, .int .i64 b0_5, .int .i64 b0_6, .sl (.int .i64) b0_7, .sl (.int .i64) b0_8], .agg [.int .i64 b1_0, .int .i64 b1_1, .int .i64 b1_2]] => some ((⟨b0_0, b0_1, b0_2, b0_3, b0_4, b0_5, b0_6, b0_7, b0_8⟩ : Layer), (⟨b1_0, b1_1, b1_2⟩ : Shape))
  | _ => none
def ywa (r : Bool) : Out := (.r [] (.bool r), [])
def ywb (o : Out) : Option (Bool) := match o with
  | (.r [] (.bool z1), []) => some z1
  | _ => none
def ywc (k : Nat) : PG := fun _ l K => (yw9 l).bind fun a => (I_Layer_isWindow k a.1 a.2).bind fun r => K (ywa r)
theorem ywd (k : Nat) (a : Layer × Shape) : ev (yw4 k) (yw7 (Bool) k) 0 yw6 (st0 Tryz.f97 (yw8 a)) (fin Tryz.prog Tryz.f97 (.sc) ywb) = I_Layer_isWindow k a.1 a.2 := by kernel_rfl
theorem ywe (k : Nat) : PureOk Tryz.prog 97 (ywc k) :=
  pureOk_of_ev (yw5 k) Tryz.func97 (by kernel_rfl) (by kernel_rfl) yw8 yw9
    (fun l a h => by unfold yw9 at h; split at h <;> first | (cases h; rfl) | cases h) (fun a => rfl) (lpgood_none (by kernel_rfl))
    (fun o r h => by unfold ywb at h; split at h <;> first | (cases h; rfl) | cases h) (ywd k)
def ywf (k : Nat) : Orc := pureOrc [.agg [(.int .i64), (.int .i64), (.int .i64), (.int .i64), (.int .i64), (.int .i64), (.int .i64), (.sl (.int .i64)), (.sl (.int .i64))], .agg [(.int .i64), (.int .i64), (.int .i64)]] (ywc k)
theorem ywg (k : Nat) : OrcOk Tryz.prog 97 (ywf k) := pureOrc_ok (ywe k)
noncomputable def ywh (k : Nat) : Env := { P := Tryz.prog, tt := tt, orc := fun g => noOrc }
theorem ywi (k : Nat) : EnvOk (ywh k) := fun g => (noOrc_ok _ _)
noncomputable def ywj : Code := (Tryz.f98.body).getD .skip
def ywk (ρ : Type) (k : Nat) : Nat → Ev ρ → Ev ρ := fun _ _ _ _ => none
def ywl (a : Layer × Shape × Int) : List Arg := [.agg [.int .i64 a.1.kind, .int .i64 a.1.out, .int .i64 a.1.size, .int .i64 a.1.step, .int .i64 a.1.mult, .int .i64 a.1.shift, .int .i64 a.1.zero, .sl (.int .i64) a.1.weights, .sl (.int .i64) a.1.bias], .agg [.int .i64 a.2.1.h, .int .i64 a.2.1.w, .int .i64 a.2.1.c], .one (.int .i64 a.2.2)]
def ywm (l : List Arg) : Option (Layer × Shape × Int) := match l with
  | [.agg [.int .i64 b0_0, .int .i64 b0_1, .int .i64 b0_2, .int .i64 b0_3, .int .i64 b0_4, .int .i64 b0_5, .int .i64 b0_6, .sl (.int .i64) b0_7, .sl (.int .i64) b0_8], .agg [.int .i64 b1_0, .int .i64 b1_1, .int .i64 b1_2], .one (.int .i64 b2)] => some ((⟨b0_0, b0_1, b0_2, b0_3, b0_4, b0_5, b0_6, b0_7, b0_8⟩ : Layer), (⟨b1_0, b1_1, b1_2⟩ : Shape), b2)
  | _ => none
def ywn (r : Shape) : Out := (.agg [.r [] (.int .i64 r.h), .r [] (.int .i64 r.w), .r [] (.int .i64 r.c)], [])
def ywo (o : Out) : Option (Shape) := match o with
  | (.agg [.r [] (.int .i64 z1), .r [] (.int .i64 z2), .r [] (.int .i64 z3)], []) => some (⟨z1, z2, z3⟩ : Shape)
  | _ => none
def ywp (k : Nat) : PG := fun _ l K => (ywm l).bind fun a => (I_Layer_windows k a.1 a.2.1 a.2.2).bind fun r => K (ywn r)
theorem ywq (k : Nat) (a : Layer × Shape × Int) : ev (ywh k) (ywk (Shape) k) 0 ywj (st0 Tryz.f98 (ywl a)) (fin Tryz.prog Tryz.f98 (.agg [.sc, .sc, .sc]) ywo) = I_Layer_windows k a.1 a.2.1 a.2.2 := by kernel_rfl
theorem ywr (k : Nat) : PureOk Tryz.prog 98 (ywp k) :=
  pureOk_of_ev (ywi k) Tryz.func98 (by kernel_rfl) (by kernel_rfl) ywl ywm
    (fun l a h => by unfold ywm at h; split at h <;> first | (cases h; rfl) | cases h) (fun a => rfl) (lpgood_none (by kernel_rfl))
    (fun o r h => by unfold ywo at h; split at h <;> first | (cases h; rfl) | cases h) (ywq k)
def yws (k : Nat) : Orc := pureOrc [.agg [(.int .i64), (.int .i64), (.int .i64), (.int .i64), (.int .i64), (.int .i64), (.int .i64), (.sl (.int .i64)), (.sl (.int .i64))], .agg [(.int .i64), (.int .i64), (.int .i64)], .one (.int .i64)] (ywp k)
theorem ywt (k : Nat) : OrcOk Tryz.prog 98 (yws k) := pureOrc_ok (ywr k)
noncomputable def ywu (k : Nat) : Env := { P := Tryz.prog, tt := tt, orc := fun g => noOrc }
theorem ywv (k : Nat) : EnvOk (ywu k) := fun g => (noOrc_ok _ _)
noncomputable def yww : Code := (Tryz.f99.body).getD .skip
def ywx (ρ : Type) (k : Nat) : Nat → Ev ρ → Ev ρ := fun _ _ _ _ => none
def ywy (a : Layer) : List Arg := [.agg [.int .i64 a.kind, .int .i64 a.out, .int .i64 a.size, .int .i64 a.step, .int .i64 a.mult, .int .i64 a.shift, .int .i64 a.zero, .sl (.int .i64) a.weights, .sl (.int .i64) a.bias]]
def ywz (l : List Arg) : Option (Layer) := match l with
  | [.agg [.int .i64 b0_0, .int .i64 b0_1, .int .i64 b0_2, .int .i64 b0_3, .int .i64 b0_4, .int .i64 b0_5, .int .i64 b0_6, .sl (.int .i64) b0_7, .sl (.int .i64) b0_8]] => some (⟨b0_0, b0_1, b0_2, b0_3, b0_4, b0_5, b0_6, b0_7, b0_8⟩ : Layer)
  | _ => none
def yx0 (r : Bool) : Out := (.r [] (.bool r), [])
def yx1 (o : Out) : Option (Bool) := match o with
  | (.r [] (.bool z1), []) => some z1
  | _ => none
def yx2 (k : Nat) : PG := fun _ l K => (ywz l).bind fun a => (I_Layer_isBare k a).bind fun r => K (yx0 r)
theorem yx3 (k : Nat) (a : Layer) : ev (ywu k) (ywx (Bool) k) 0 yww (st0 Tryz.f99 (ywy a)) (fin Tryz.prog Tryz.f99 (.sc) yx1) = I_Layer_isBare k a := by kernel_rfl
theorem yx4 (k : Nat) : PureOk Tryz.prog 99 (yx2 k) :=
  pureOk_of_ev (ywv k) Tryz.func99 (by kernel_rfl) (by kernel_rfl) ywy ywz
    (fun l a h => by unfold ywz at h; split at h <;> first | (cases h; rfl) | cases h) (fun a => rfl) (lpgood_none (by kernel_rfl))
    (fun o r h => by unfold yx1 at h; split at h <;> first | (cases h; rfl) | cases h) (yx3 k)
def yx5 (k : Nat) : Orc := pureOrc [.agg [(.int .i64), (.int .i64), (.int .i64), (.int .i64), (.int .i64), (.int .i64), (.int .i64), (.sl (.int .i64)), (.sl (.int .i64))]] (yx2 k)
theorem yx6 (k : Nat) : OrcOk Tryz.prog 99 (yx5 k) := pureOrc_ok (yx4 k)
noncomputable def yx7 (k : Nat) : Env := { P := Tryz.prog, tt := tt, orc := fun g => cond (Nat.beq g 53) (o_I_in k) (cond (Nat.beq g 77) (yrs k) (cond (Nat.beq g 78) (ys5 k) (cond (Nat.beq g 95) (ysi k) (cond (Nat.beq g 96) (yw2 k) (cond (Nat.beq g 97) (ywf k) (cond (Nat.beq g 98) (yws k) (cond (Nat.beq g 99) (yx5 k) (noOrc)))))))) }
theorem yx8 (k : Nat) : EnvOk (yx7 k) := fun g => (orc_cond (yrg k) (orc_cond (yrt k) (orc_cond (ys6 k) (orc_cond (ysj k) (orc_cond (yw3 k) (orc_cond (ywg k) (orc_cond (ywt k) (orc_cond (yx6 k) (noOrc_ok _ _)))))))))
noncomputable def yx9 : Code := (Tryz.f83.body).getD .skip
def yxa (ρ : Type) (k : Nat) : Nat → Ev ρ → Ev ρ := fun _ _ _ _ => none
def yxb (a : Shape × Layer) : List Arg := [.agg [.int .i64 a.1.h, .int .i64 a.1.w, .int .i64 a.1.c], .agg [.int .i64 a.2.kind, .int .i64 a.2.out, .int .i64 a.2.size, .int .i64 a.2.step, .int .i64 a.2.mult, .int .i64 a.2.shift, .int .i64 a.2.zero, .sl (.int .i64) a.2.weights, .sl (.int .i64) a.2.bias]]
def yxc (l : List Arg) : Option (Shape × Layer) := match l with
  | [.agg [.int .i64 b0_0, .int .i64 b0_1, .int .i64 b0_2], .agg [.int .i64 b1_0, .int .i64 b1_1, .int .i64 b1_2, .int .i64 b1_3, .int .i64 b1_4, .int .i64 b1_5, .int .i64 b1_6, .sl (.int .i64) b1_7, .sl (.int .i64) b1_8]] => some ((⟨b0_0, b0_1, b0_2⟩ : Shape), (⟨b1_0, b1_1, b1_2, b1_3, b1_4, b1_5, b1_6, b1_7, b1_8⟩ : Layer))
  | _ => none
def yxd (r : Shape × Bool) : Out := (.tup [.agg [.r [] (.int .i64 r.1.h), .r [] (.int .i64 r.1.w), .r [] (.int .i64 r.1.c)], .r [] (.bool r.2)], [])
def yxe (o : Out) : Option (Shape × Bool) := match o with
  | (.tup [.agg [.r [] (.int .i64 z1), .r [] (.int .i64 z2), .r [] (.int .i64 z3)], .r [] (.bool z4)], []) => some ((⟨z1, z2, z3⟩ : Shape), z4)
  | _ => none
def yxf (k : Nat) : PG := fun _ l K => (yxc l).bind fun a => (I_OutShape k a.1 a.2).bind fun r => K (yxd r)
theorem yxg (k : Nat) (a : Shape × Layer) : ev (yx7 k) (yxa (Shape × Bool) k) 0 yx9 (st0 Tryz.f83 (yxb a)) (fin Tryz.prog Tryz.f83 (.tup [.agg [.sc, .sc, .sc], .sc]) yxe) = I_OutShape k a.1 a.2 := by kernel_rfl
theorem yxh (k : Nat) : PureOk Tryz.prog 83 (yxf k) :=
  pureOk_of_ev (yx8 k) Tryz.func83 (by kernel_rfl) (by kernel_rfl) yxb yxc
    (fun l a h => by unfold yxc at h; split at h <;> first | (cases h; rfl) | cases h) (fun a => rfl) (lpgood_none (by kernel_rfl))
    (fun o r h => by unfold yxe at h; split at h <;> first | (cases h; rfl) | cases h) (yxg k)
def yxi (k : Nat) : Orc := pureOrc [.agg [(.int .i64), (.int .i64), (.int .i64)], .agg [(.int .i64), (.int .i64), (.int .i64), (.int .i64), (.int .i64), (.int .i64), (.int .i64), (.sl (.int .i64)), (.sl (.int .i64))]] (yxf k)
theorem yxj (k : Nat) : OrcOk Tryz.prog 83 (yxi k) := pureOrc_ok (yxh k)
noncomputable def yxk (k : Nat) : Env := { P := Tryz.prog, tt := tt, orc := fun g => cond (Nat.beq g 83) (yxi k) (noOrc) }
theorem yxl (k : Nat) : EnvOk (yxk k) := fun g => (orc_cond (yxj k) (noOrc_ok _ _))
noncomputable def yxm : Code := (Tryz.f76.body).getD .skip
noncomputable def yxn : Code := ((loopsIn 0 yxm).getD 0 (0, .skip)).2
def yxo : List Nat := [4, 5, 16, 17, 18]
def yxp : List (Where × Co) := []
def yxq : Ex → List Nat
  | .exit j => cond (Nat.beq j 0) [4] []
  | .ret => [2, 3]
  | .normal => []
def yxr : Ex → List (Where × Co)
  | .exit j => cond (Nat.beq j 0) [] []
  | .ret => []
  | .normal => []
def yxs (pv : (List Layer × Int) × (Int × List Shape × Int × Int × Int)) : St := { slots := [(4, .own 0), (5, .ptr 1 0 0), (16, .r [] (.sl (.st .layer) pv.1.1)), (17, .r [] (.int .i64 pv.1.2)), (18, .r [] (.int .i64 pv.2.1))], heap := [(0, .arr none (.st .shape) pv.2.2.1), (1, .box [.r [] (.int .i64 pv.2.2.2.1), .r [] (.int .i64 pv.2.2.2.2.1), .r [] (.int .i64 pv.2.2.2.2.2)])], nid := 2, n := 37, gh := [] }
def yxt (nf : NF) : Option ((List Layer × Int) × (Int × List Shape × Int × Int × Int)) := match nf with
  | ([.own 0, .ptr 1 0 0, .r [] (.sl (.st .layer) w0), .r [] (.int .i64 w1), .r [] (.int .i64 w2)], [.arr none (.st .shape) w3, .box [.r [] (.int .i64 w4), .r [] (.int .i64 w5), .r [] (.int .i64 w6)]], []) => some ((w0, w1), (w2, w3, w4, w5, w6))
  | _ => none
theorem yxu (nf : NF) (v : (List Layer × Int) × (Int × List Shape × Int × Int × Int)) (h : yxt nf = some v) : denorm yxo 37 nf = yxs v := by
  unfold yxt at h
  split at h
  · cases h; rfl
  · cases h
def yxv (p : List Layer × Int) (x : List Shape) : St := { slots := [(4, .own 0)], heap := [(0, .arr none (.st .shape) x)], nid := 1, n := 37, gh := [] }
def yxw (p : List Layer × Int) (x : Bool) : St := { slots := [(2, .nilS), (3, .r [] (.bool x))], heap := [], nid := 0, n := 37, gh := [] }
def yxx (ρ : Type) (k : Nat) : Nat → Ev ρ → Ev ρ := fun id f => cond (Nat.beq id 0) (loopOrc yxo yxp (fun n nf => cond (Nat.beq n 37) (yxt nf) none) fun pv K => iter (fun v next => I_Model_shapes_g0 k pv.1 v next (fun x => K (.exit 0) (yxv pv.1 x)) (fun x => K .ret (yxw pv.1 x))) k pv.2) ((fun _ _ _ _ => none) id f)
theorem yxy {ρ : Type} (k : Nat) (p : List Layer × Int) (v : Int × List Shape × Int × Int × Int) (K K1 : Ex → St → Option ρ) : ev (yxk k) (yxx ρ k) 0 yxn (yxs (p, v)) (fun e st' => match e with
    | .normal => (normC yxo yxp st').bind fun nf => K1 .normal (denorm yxo st'.n nf)
    | e => (normC (yxq e) (yxr e) st').bind fun nf => K e (denorm (yxq e) st'.n nf)) = I_Model_shapes_g0 k p v (fun v' => K1 .normal (yxs (p, v'))) (fun x => K (.exit 0) (yxv p x)) (fun x => K .ret (yxw p x)) := by kernel_rfl
theorem yxz {ρ : Type} (k : Nat) : Sound Tryz.prog (.loop yxn) (yxx ρ k 0 fun st K => ev (yxk k) (yxx ρ k) 0 yxn st K) :=
  loop_ok (ev_sound (yxl k) yxn 0 (lpgood_none (by kernel_rfl))) yxq yxr k (g := fun p v next K => I_Model_shapes_g0 k p v next (fun x => K (.exit 0) (yxv p x)) (fun x => K .ret (yxw p x))) (dec_at yxu) (fun p v K K1 => yxy k p v K K1)
def yy0 (a : Model) : List Arg := [.agg [.int .i64 a.inp.h, .int .i64 a.inp.w, .int .i64 a.inp.c, .sl (.st .layer) a.layers]]
def yy1 (l : List Arg) : Option (Model) := match l with
  | [.agg [.int .i64 b0_0, .int .i64 b0_1, .int .i64 b0_2, .sl (.st .layer) b0_3]] => some (⟨(⟨b0_0, b0_1, b0_2⟩ : Shape), b0_3⟩ : Model)
  | _ => none
def yy2 (r : List Shape × Bool) : Out := (.tup [.own 0, .r [] (.bool r.2)], [.arr none (.st .shape) r.1])
def yy3 (o : Out) : Option (List Shape × Bool) := match o with
  | (.tup [.own 0, .r [] (.bool z2)], [.arr none (.st .shape) z1]) => some (z1, z2)
  | _ => none
def yy4 (k : Nat) : PG := fun _ l K => (yy1 l).bind fun a => (I_Model_shapes k a).bind fun r => K (yy2 r)
theorem yy5 (k : Nat) (a : Model) : ev (yxk k) (yxx (List Shape × Bool) k) 0 yxm (st0 Tryz.f76 (yy0 a)) (fin Tryz.prog Tryz.f76 (.tup [.own (.st .shape), .sc]) yy3) = I_Model_shapes k a := by kernel_rfl
theorem yy6 (k : Nat) : PureOk Tryz.prog 76 (yy4 k) :=
  pureOk_of_ev (yxl k) Tryz.func76 (by kernel_rfl) (by kernel_rfl) yy0 yy1
    (fun l a h => by unfold yy1 at h; split at h <;> first | (cases h; rfl) | cases h) (fun a => rfl) (lpgood_of (l := [(0, yxn)]) (by kernel_rfl) ⟨yxz k, trivial⟩)
    (fun o r h => by unfold yy3 at h; split at h <;> first | (cases h; rfl) | cases h) (yy5 k)
def yy7 (k : Nat) : Orc := pureOrc [.agg [(.int .i64), (.int .i64), (.int .i64), (.sl (.st .layer))]] (yy4 k)
theorem yy8 (k : Nat) : OrcOk Tryz.prog 76 (yy7 k) := pureOrc_ok (yy6 k)
noncomputable def yy9 (k : Nat) : Env := { P := Tryz.prog, tt := tt, orc := fun g => cond (Nat.beq g 53) (o_I_in k) (cond (Nat.beq g 76) (yy7 k) (noOrc)) }
theorem yya (k : Nat) : EnvOk (yy9 k) := fun g => (orc_cond (yrg k) (orc_cond (yy8 k) (noOrc_ok _ _)))
noncomputable def yyb : Code := (Tryz.f52.body).getD .skip
def yyc (ρ : Type) (k : Nat) : Nat → Ev ρ → Ev ρ := fun _ _ _ _ => none
def yyd (a : Model) : List Arg := [.agg [.int .i64 a.inp.h, .int .i64 a.inp.w, .int .i64 a.inp.c, .sl (.st .layer) a.layers]]
def yye (l : List Arg) : Option (Model) := match l with
  | [.agg [.int .i64 b0_0, .int .i64 b0_1, .int .i64 b0_2, .sl (.st .layer) b0_3]] => some (⟨(⟨b0_0, b0_1, b0_2⟩ : Shape), b0_3⟩ : Model)
  | _ => none
def yyf (r : Bool) : Out := (.r [] (.bool r), [])
def yyg (o : Out) : Option (Bool) := match o with
  | (.r [] (.bool z1), []) => some z1
  | _ => none
def yyh (k : Nat) : PG := fun _ l K => (yye l).bind fun a => (I_ModelOk k a).bind fun r => K (yyf r)
theorem yyi (k : Nat) (a : Model) : ev (yy9 k) (yyc (Bool) k) 0 yyb (st0 Tryz.f52 (yyd a)) (fin Tryz.prog Tryz.f52 (.sc) yyg) = I_ModelOk k a := by kernel_rfl
theorem yyj (k : Nat) : PureOk Tryz.prog 52 (yyh k) :=
  pureOk_of_ev (yya k) Tryz.func52 (by kernel_rfl) (by kernel_rfl) yyd yye
    (fun l a h => by unfold yye at h; split at h <;> first | (cases h; rfl) | cases h) (fun a => rfl) (lpgood_none (by kernel_rfl))
    (fun o r h => by unfold yyg at h; split at h <;> first | (cases h; rfl) | cases h) (yyi k)
def yyk (k : Nat) : Orc := pureOrc [.agg [(.int .i64), (.int .i64), (.int .i64), (.sl (.st .layer))]] (yyh k)
theorem yyl (k : Nat) : OrcOk Tryz.prog 52 (yyk k) := pureOrc_ok (yyj k)
noncomputable def yym (k : Nat) : Env := { P := Tryz.prog, tt := tt, orc := fun g => cond (Nat.beq g 77) (yrs k) (cond (Nat.beq g 78) (ys5 k) (cond (Nat.beq g 79) (yua k) (noOrc))) }
theorem yyn (k : Nat) : EnvOk (yym k) := fun g => (orc_cond (yrt k) (orc_cond (ys6 k) (orc_cond (yub k) (noOrc_ok _ _))))
noncomputable def yyo : Code := (Tryz.f54.body).getD .skip
def yyp (ρ : Type) (k : Nat) : Nat → Ev ρ → Ev ρ := fun _ _ _ _ => none
def yyq (a : Tensor) : List Arg := [.agg [.int .i64 a.sh.h, .int .i64 a.sh.w, .int .i64 a.sh.c, .sl (.int .i64) a.data]]
def yyr (l : List Arg) : Option (Tensor) := match l with
  | [.agg [.int .i64 b0_0, .int .i64 b0_1, .int .i64 b0_2, .sl (.int .i64) b0_3]] => some (⟨(⟨b0_0, b0_1, b0_2⟩ : Shape), b0_3⟩ : Tensor)
  | _ => none
def yys (r : Bool) : Out := (.r [] (.bool r), [])
def yyt (o : Out) : Option (Bool) := match o with
  | (.r [] (.bool z1), []) => some z1
  | _ => none
def yyu (k : Nat) : PG := fun _ l K => (yyr l).bind fun a => (I_TensorOk k a).bind fun r => K (yys r)
theorem yyv (k : Nat) (a : Tensor) : ev (yym k) (yyp (Bool) k) 0 yyo (st0 Tryz.f54 (yyq a)) (fin Tryz.prog Tryz.f54 (.sc) yyt) = I_TensorOk k a := by kernel_rfl
theorem yyw (k : Nat) : PureOk Tryz.prog 54 (yyu k) :=
  pureOk_of_ev (yyn k) Tryz.func54 (by kernel_rfl) (by kernel_rfl) yyq yyr
    (fun l a h => by unfold yyr at h; split at h <;> first | (cases h; rfl) | cases h) (fun a => rfl) (lpgood_none (by kernel_rfl))
    (fun o r h => by unfold yyt at h; split at h <;> first | (cases h; rfl) | cases h) (yyv k)
def yyx (k : Nat) : Orc := pureOrc [.agg [(.int .i64), (.int .i64), (.int .i64), (.sl (.int .i64))]] (yyu k)
theorem yyy (k : Nat) : OrcOk Tryz.prog 54 (yyx k) := pureOrc_ok (yyw k)
noncomputable def yyz (k : Nat) : Env := { P := Tryz.prog, tt := tt, orc := fun g => cond (Nat.beq g 52) (yyk k) (cond (Nat.beq g 76) (yy7 k) (noOrc)) }
theorem yz0 (k : Nat) : EnvOk (yyz k) := fun g => (orc_cond (yyl k) (orc_cond (yy8 k) (noOrc_ok _ _)))
noncomputable def yz1 : Code := (Tryz.f55.body).getD .skip
def yz2 (ρ : Type) (k : Nat) : Nat → Ev ρ → Ev ρ := fun _ _ _ _ => none
def yz3 (a : Model) : List Arg := [.agg [.int .i64 a.inp.h, .int .i64 a.inp.w, .int .i64 a.inp.c, .sl (.st .layer) a.layers]]
def yz4 (l : List Arg) : Option (Model) := match l with
  | [.agg [.int .i64 b0_0, .int .i64 b0_1, .int .i64 b0_2, .sl (.st .layer) b0_3]] => some (⟨(⟨b0_0, b0_1, b0_2⟩ : Shape), b0_3⟩ : Model)
  | _ => none
def yz5 (r : List Shape) : Out := (.own 0, [.arr none (.st .shape) r])
def yz6 (o : Out) : Option (List Shape) := match o with
  | (.own 0, [.arr none (.st .shape) z1]) => some z1
  | _ => none
def yz7 (k : Nat) : PG := fun _ l K => (yz4 l).bind fun a => (I_ShapesOf k a).bind fun r => K (yz5 r)
theorem yz8 (k : Nat) (a : Model) : ev (yyz k) (yz2 (List Shape) k) 0 yz1 (st0 Tryz.f55 (yz3 a)) (fin Tryz.prog Tryz.f55 (.own (.st .shape)) yz6) = I_ShapesOf k a := by kernel_rfl
theorem yz9 (k : Nat) : PureOk Tryz.prog 55 (yz7 k) :=
  pureOk_of_ev (yz0 k) Tryz.func55 (by kernel_rfl) (by kernel_rfl) yz3 yz4
    (fun l a h => by unfold yz4 at h; split at h <;> first | (cases h; rfl) | cases h) (fun a => rfl) (lpgood_none (by kernel_rfl))
    (fun o r h => by unfold yz6 at h; split at h <;> first | (cases h; rfl) | cases h) (yz8 k)
def yza (k : Nat) : Orc := pureOrc [.agg [(.int .i64), (.int .i64), (.int .i64), (.sl (.st .layer))]] (yz7 k)
theorem yzb (k : Nat) : OrcOk Tryz.prog 55 (yza k) := pureOrc_ok (yz9 k)
noncomputable def yzc (k : Nat) : Env := { P := Tryz.prog, tt := tt, orc := fun g => cond (Nat.beq g 78) (ys5 k) (cond (Nat.beq g 83) (yxi k) (noOrc)) }
theorem yzd (k : Nat) : EnvOk (yzc k) := fun g => (orc_cond (ys6 k) (orc_cond (yxj k) (noOrc_ok _ _)))
noncomputable def yze : Code := (Tryz.f80.body).getD .skip
def yzf (ρ : Type) (k : Nat) : Nat → Ev ρ → Ev ρ := fun _ _ _ _ => none
def yzg (a : Shape × Layer) : List Arg := [.agg [.int .i64 a.1.h, .int .i64 a.1.w, .int .i64 a.1.c], .agg [.int .i64 a.2.kind, .int .i64 a.2.out, .int .i64 a.2.size, .int .i64 a.2.step, .int .i64 a.2.mult, .int .i64 a.2.shift, .int .i64 a.2.zero, .sl (.int .i64) a.2.weights, .sl (.int .i64) a.2.bias]]
def yzh (l : List Arg) : Option (Shape × Layer) := match l with
  | [.agg [.int .i64 b0_0, .int .i64 b0_1, .int .i64 b0_2], .agg [.int .i64 b1_0, .int .i64 b1_1, .int .i64 b1_2, .int .i64 b1_3, .int .i64 b1_4, .int .i64 b1_5, .int .i64 b1_6, .sl (.int .i64) b1_7, .sl (.int .i64) b1_8]] => some ((⟨b0_0, b0_1, b0_2⟩ : Shape), (⟨b1_0, b1_1, b1_2, b1_3, b1_4, b1_5, b1_6, b1_7, b1_8⟩ : Layer))
  | _ => none
def yzi (r : Int) : Out := (.r [] (.int .i64 r), [])
def yzj (o : Out) : Option (Int) := match o with
  | (.r [] (.int .i64 z1), []) => some z1
  | _ => none
def yzk (k : Nat) : PG := fun _ l K => (yzh l).bind fun a => (I_CostOf k a.1 a.2).bind fun r => K (yzi r)
theorem yzl (k : Nat) (a : Shape × Layer) : ev (yzc k) (yzf (Int) k) 0 yze (st0 Tryz.f80 (yzg a)) (fin Tryz.prog Tryz.f80 (.sc) yzj) = I_CostOf k a.1 a.2 := by kernel_rfl
theorem yzm (k : Nat) : PureOk Tryz.prog 80 (yzk k) :=
  pureOk_of_ev (yzd k) Tryz.func80 (by kernel_rfl) (by kernel_rfl) yzg yzh
    (fun l a h => by unfold yzh at h; split at h <;> first | (cases h; rfl) | cases h) (fun a => rfl) (lpgood_none (by kernel_rfl))
    (fun o r h => by unfold yzj at h; split at h <;> first | (cases h; rfl) | cases h) (yzl k)
def yzn (k : Nat) : Orc := pureOrc [.agg [(.int .i64), (.int .i64), (.int .i64)], .agg [(.int .i64), (.int .i64), (.int .i64), (.int .i64), (.int .i64), (.int .i64), (.int .i64), (.sl (.int .i64)), (.sl (.int .i64))]] (yzk k)
theorem yzo (k : Nat) : OrcOk Tryz.prog 80 (yzn k) := pureOrc_ok (yzm k)
noncomputable def yzp (k : Nat) : Env := { P := Tryz.prog, tt := tt, orc := fun g => cond (Nat.beq g 55) (yza k) (cond (Nat.beq g 80) (yzn k) (noOrc)) }
theorem yzq (k : Nat) : EnvOk (yzp k) := fun g => (orc_cond (yzb k) (orc_cond (yzo k) (noOrc_ok _ _)))
noncomputable def yzr : Code := (Tryz.f57.body).getD .skip
noncomputable def yzs : Code := ((loopsIn 0 yzr).getD 0 (0, .skip)).2
def yzt : List Nat := [1, 3, 8, 9, 10]
def yzu : List (Where × Co) := []
def yzv : Ex → List Nat
  | .exit j => cond (Nat.beq j 0) [3] []
  | .ret => []
  | .normal => []
def yzw : Ex → List (Where × Co)
  | .exit j => cond (Nat.beq j 0) [] []
  | .ret => []
  | .normal => []
def yzx (pv : (Int × Int × Int × Int × List Layer × List Shape) × (Int × List Int)) : St := { slots := [(1, .ptr 0 0 0), (3, .own 1), (8, .own 2), (9, .r [] (.int .i64 pv.1.1)), (10, .r [] (.int .i64 pv.2.1))], heap := [(0, .box [.r [] (.int .i64 pv.1.2.1), .r [] (.int .i64 pv.1.2.2.1), .r [] (.int .i64 pv.1.2.2.2.1), .r [] (.sl (.st .layer) pv.1.2.2.2.2.1)]), (1, .arr none (.int .i64) pv.2.2), (2, .arr none (.st .shape) pv.1.2.2.2.2.2)], nid := 3, n := 32, gh := [] }
def yzy (nf : NF) : Option ((Int × Int × Int × Int × List Layer × List Shape) × (Int × List Int)) := match nf with
  | ([.ptr 0 0 0, .own 1, .own 2, .r [] (.int .i64 w0), .r [] (.int .i64 w1)], [.box [.r [] (.int .i64 w2), .r [] (.int .i64 w3), .r [] (.int .i64 w4), .r [] (.sl (.st .layer) w5)], .arr none (.int .i64) w6, .arr none (.st .shape) w7], []) => some ((w0, w2, w3, w4, w5, w7), (w1, w6))
  | _ => none
theorem yzz (nf : NF) (v : (Int × Int × Int × Int × List Layer × List Shape) × (Int × List Int)) (h : yzy nf = some v) : denorm yzt 32 nf = yzx v := by
  unfold yzy at h
  split at h
  · cases h; rfl
  · cases h
def y100 (p : Int × Int × Int × Int × List Layer × List Shape) (x : List Int) : St := { slots := [(3, .own 0)], heap := [(0, .arr none (.int .i64) x)], nid := 1, n := 32, gh := [] }
def y101 (ρ : Type) (k : Nat) : Nat → Ev ρ → Ev ρ := fun id f => cond (Nat.beq id 0) (loopOrc yzt yzu (fun n nf => cond (Nat.beq n 32) (yzy nf) none) fun pv K => iter (fun v next => I_CostsOf_g0 k pv.1 v next (fun x => K (.exit 0) (y100 pv.1 x))) k pv.2) ((fun _ _ _ _ => none) id f)
theorem y102 {ρ : Type} (k : Nat) (p : Int × Int × Int × Int × List Layer × List Shape) (v : Int × List Int) (K K1 : Ex → St → Option ρ) : ev (yzp k) (y101 ρ k) 0 yzs (yzx (p, v)) (fun e st' => match e with
    | .normal => (normC yzt yzu st').bind fun nf => K1 .normal (denorm yzt st'.n nf)
    | e => (normC (yzv e) (yzw e) st').bind fun nf => K e (denorm (yzv e) st'.n nf)) = I_CostsOf_g0 k p v (fun v' => K1 .normal (yzx (p, v'))) (fun x => K (.exit 0) (y100 p x)) := by kernel_rfl
theorem y103 {ρ : Type} (k : Nat) : Sound Tryz.prog (.loop yzs) (y101 ρ k 0 fun st K => ev (yzp k) (y101 ρ k) 0 yzs st K) :=
  loop_ok (ev_sound (yzq k) yzs 0 (lpgood_none (by kernel_rfl))) yzv yzw k (g := fun p v next K => I_CostsOf_g0 k p v next (fun x => K (.exit 0) (y100 p x))) (dec_at yzz) (fun p v K K1 => y102 k p v K K1)
def y104 (a : Model) : List Arg := [.agg [.int .i64 a.inp.h, .int .i64 a.inp.w, .int .i64 a.inp.c, .sl (.st .layer) a.layers]]
def y105 (l : List Arg) : Option (Model) := match l with
  | [.agg [.int .i64 b0_0, .int .i64 b0_1, .int .i64 b0_2, .sl (.st .layer) b0_3]] => some (⟨(⟨b0_0, b0_1, b0_2⟩ : Shape), b0_3⟩ : Model)
  | _ => none
def y106 (r : List Int) : Out := (.own 0, [.arr none (.int .i64) r])
def y107 (o : Out) : Option (List Int) := match o with
  | (.own 0, [.arr none (.int .i64) z1]) => some z1
  | _ => none
def y108 (k : Nat) : PG := fun _ l K => (y105 l).bind fun a => (I_CostsOf k a).bind fun r => K (y106 r)
theorem y109 (k : Nat) (a : Model) : ev (yzp k) (y101 (List Int) k) 0 yzr (st0 Tryz.f57 (y104 a)) (fin Tryz.prog Tryz.f57 (.own (.int .i64)) y107) = I_CostsOf k a := by kernel_rfl
theorem y10a (k : Nat) : PureOk Tryz.prog 57 (y108 k) :=
  pureOk_of_ev (yzq k) Tryz.func57 (by kernel_rfl) (by kernel_rfl) y104 y105
    (fun l a h => by unfold y105 at h; split at h <;> first | (cases h; rfl) | cases h) (fun a => rfl) (lpgood_of (l := [(0, yzs)]) (by kernel_rfl) ⟨y103 k, trivial⟩)
    (fun o r h => by unfold y107 at h; split at h <;> first | (cases h; rfl) | cases h) (y109 k)
def y10b (k : Nat) : Orc := pureOrc [.agg [(.int .i64), (.int .i64), (.int .i64), (.sl (.st .layer))]] (y108 k)
theorem y10c (k : Nat) : OrcOk Tryz.prog 57 (y10b k) := pureOrc_ok (y10a k)
noncomputable def y10d (k : Nat) : Env := { P := Tryz.prog, tt := tt, orc := fun g => noOrc }
theorem y10e (k : Nat) : EnvOk (y10d k) := fun g => (noOrc_ok _ _)
noncomputable def y10f : Code := (Tryz.f56.body).getD .skip
noncomputable def y10g : Code := ((loopsIn 0 y10f).getD 0 (0, .skip)).2
def y10h : List Nat := [3, 6, 7, 8]
def y10i : List (Where × Co) := []
def y10j : Ex → List Nat
  | .exit j => cond (Nat.beq j 0) [3] []
  | .ret => []
  | .normal => []
def y10k : Ex → List (Where × Co)
  | .exit j => cond (Nat.beq j 0) [] []
  | .ret => []
  | .normal => []
def y10l (pv : (List Int × Int) × (Int × Int)) : St := { slots := [(3, .r [] (.int .i64 pv.2.1)), (6, .r [] (.sl (.int .i64) pv.1.1)), (7, .r [] (.int .i64 pv.1.2)), (8, .r [] (.int .i64 pv.2.2))], heap := [], nid := 0, n := 17, gh := [] }
def y10m (nf : NF) : Option ((List Int × Int) × (Int × Int)) := match nf with
  | ([.r [] (.int .i64 w0), .r [] (.sl (.int .i64) w1), .r [] (.int .i64 w2), .r [] (.int .i64 w3)], [], []) => some ((w1, w2), (w0, w3))
  | _ => none
theorem y10n (nf : NF) (v : (List Int × Int) × (Int × Int)) (h : y10m nf = some v) : denorm y10h 17 nf = y10l v := by
  unfold y10m at h
  split at h
  · cases h; rfl
  · cases h
def y10o (p : List Int × Int) (x : Int) : St := { slots := [(3, .r [] (.int .i64 x))], heap := [], nid := 0, n := 17, gh := [] }
def y10p (ρ : Type) (k : Nat) : Nat → Ev ρ → Ev ρ := fun id f => cond (Nat.beq id 0) (loopOrc y10h y10i (fun n nf => cond (Nat.beq n 17) (y10m nf) none) fun pv K => iter (fun v next => I_sum_g0 k pv.1 v next (fun x => K (.exit 0) (y10o pv.1 x))) k pv.2) ((fun _ _ _ _ => none) id f)
theorem y10q {ρ : Type} (k : Nat) (p : List Int × Int) (v : Int × Int) (K K1 : Ex → St → Option ρ) : ev (y10d k) (y10p ρ k) 0 y10g (y10l (p, v)) (fun e st' => match e with
    | .normal => (normC y10h y10i st').bind fun nf => K1 .normal (denorm y10h st'.n nf)
    | e => (normC (y10j e) (y10k e) st').bind fun nf => K e (denorm (y10j e) st'.n nf)) = I_sum_g0 k p v (fun v' => K1 .normal (y10l (p, v'))) (fun x => K (.exit 0) (y10o p x)) := by kernel_rfl
theorem y10r {ρ : Type} (k : Nat) : Sound Tryz.prog (.loop y10g) (y10p ρ k 0 fun st K => ev (y10d k) (y10p ρ k) 0 y10g st K) :=
  loop_ok (ev_sound (y10e k) y10g 0 (lpgood_none (by kernel_rfl))) y10j y10k k (g := fun p v next K => I_sum_g0 k p v next (fun x => K (.exit 0) (y10o p x))) (dec_at y10n) (fun p v K K1 => y10q k p v K K1)
def y10s (a : List Int) : List Arg := [.one (.sl (.int .i64) a)]
def y10t (l : List Arg) : Option (List Int) := match l with
  | [.one (.sl (.int .i64) b0)] => some b0
  | _ => none
def y10u (r : Int) : Out := (.r [] (.int .i64 r), [])
def y10v (o : Out) : Option (Int) := match o with
  | (.r [] (.int .i64 z1), []) => some z1
  | _ => none
def y10w (k : Nat) : PG := fun _ l K => (y10t l).bind fun a => (I_sum k a).bind fun r => K (y10u r)
theorem y10x (k : Nat) (a : List Int) : ev (y10d k) (y10p (Int) k) 0 y10f (st0 Tryz.f56 (y10s a)) (fin Tryz.prog Tryz.f56 (.sc) y10v) = I_sum k a := by kernel_rfl
theorem y10y (k : Nat) : PureOk Tryz.prog 56 (y10w k) :=
  pureOk_of_ev (y10e k) Tryz.func56 (by kernel_rfl) (by kernel_rfl) y10s y10t
    (fun l a h => by unfold y10t at h; split at h <;> first | (cases h; rfl) | cases h) (fun a => rfl) (lpgood_of (l := [(0, y10g)]) (by kernel_rfl) ⟨y10r k, trivial⟩)
    (fun o r h => by unfold y10v at h; split at h <;> first | (cases h; rfl) | cases h) (y10x k)
def y10z (k : Nat) : Orc := pureOrc [.one (.sl (.int .i64))] (y10w k)
theorem y110 (k : Nat) : OrcOk Tryz.prog 56 (y10z k) := pureOrc_ok (y10y k)
noncomputable def y111 (k : Nat) : Env := { P := Tryz.prog, tt := tt, orc := fun g => cond (Nat.beq g 52) (yyk k) (cond (Nat.beq g 53) (o_I_in k) (cond (Nat.beq g 54) (yyx k) (cond (Nat.beq g 55) (yza k) (cond (Nat.beq g 56) (y10z k) (cond (Nat.beq g 57) (y10b k) (noOrc)))))) }
theorem y112 (k : Nat) : EnvOk (y111 k) := fun g => (orc_cond (yyl k) (orc_cond (yrg k) (orc_cond (yyy k) (orc_cond (yzb k) (orc_cond (y110 k) (orc_cond (y10c k) (noOrc_ok _ _)))))))
noncomputable def y113 : Code := (Tryz.f27.body).getD .skip
def y114 (ρ : Type) (k : Nat) : Nat → Ev ρ → Ev ρ := fun _ _ _ _ => none
def y115 (a : Job) : List Arg := [.agg [.int .i64 a.model.inp.h, .int .i64 a.model.inp.w, .int .i64 a.model.inp.c, .sl (.st .layer) a.model.layers, .int .i64 a.at_, .int .i64 a.act.sh.h, .int .i64 a.act.sh.w, .int .i64 a.act.sh.c, .sl (.int .i64) a.act.data, .int .i64 a.spent]]
def y116 (l : List Arg) : Option (Job) := match l with
  | [.agg [.int .i64 b0_0, .int .i64 b0_1, .int .i64 b0_2, .sl (.st .layer) b0_3, .int .i64 b0_4, .int .i64 b0_5, .int .i64 b0_6, .int .i64 b0_7, .sl (.int .i64) b0_8, .int .i64 b0_9]] => some (⟨(⟨(⟨b0_0, b0_1, b0_2⟩ : Shape), b0_3⟩ : Model), b0_4, (⟨(⟨b0_5, b0_6, b0_7⟩ : Shape), b0_8⟩ : Tensor), b0_9⟩ : Job)
  | _ => none
def y117 (r : Bool) : Out := (.r [] (.bool r), [])
def y118 (o : Out) : Option (Bool) := match o with
  | (.r [] (.bool z1), []) => some z1
  | _ => none
def y119 (k : Nat) : PG := fun _ l K => (y116 l).bind fun a => (I_JobOk k a).bind fun r => K (y117 r)
theorem y11a (k : Nat) (a : Job) : ev (y111 k) (y114 (Bool) k) 0 y113 (st0 Tryz.f27 (y115 a)) (fin Tryz.prog Tryz.f27 (.sc) y118) = I_JobOk k a := by kernel_rfl
theorem y11b (k : Nat) : PureOk Tryz.prog 27 (y119 k) :=
  pureOk_of_ev (y112 k) Tryz.func27 (by kernel_rfl) (by kernel_rfl) y115 y116
    (fun l a h => by unfold y116 at h; split at h <;> first | (cases h; rfl) | cases h) (fun a => rfl) (lpgood_none (by kernel_rfl))
    (fun o r h => by unfold y118 at h; split at h <;> first | (cases h; rfl) | cases h) (y11a k)
def y11c (k : Nat) : Orc := pureOrc [.agg [(.int .i64), (.int .i64), (.int .i64), (.sl (.st .layer)), (.int .i64), (.int .i64), (.int .i64), (.int .i64), (.sl (.int .i64)), (.int .i64)]] (y119 k)
theorem y11d (k : Nat) : OrcOk Tryz.prog 27 (y11c k) := pureOrc_ok (y11b k)
noncomputable def y11e (k : Nat) : Env := { P := Tryz.prog, tt := tt, orc := fun g => noOrc }
theorem y11f (k : Nat) : EnvOk (y11e k) := fun g => (noOrc_ok _ _)
noncomputable def y11g : Code := (Tryz.f29.body).getD .skip
def y11h (ρ : Type) (k : Nat) : Nat → Ev ρ → Ev ρ := fun _ _ _ _ => none
def y11i (a : Job) : List Arg := [.agg [.int .i64 a.model.inp.h, .int .i64 a.model.inp.w, .int .i64 a.model.inp.c, .sl (.st .layer) a.model.layers, .int .i64 a.at_, .int .i64 a.act.sh.h, .int .i64 a.act.sh.w, .int .i64 a.act.sh.c, .sl (.int .i64) a.act.data, .int .i64 a.spent]]
def y11j (l : List Arg) : Option (Job) := match l with
  | [.agg [.int .i64 b0_0, .int .i64 b0_1, .int .i64 b0_2, .sl (.st .layer) b0_3, .int .i64 b0_4, .int .i64 b0_5, .int .i64 b0_6, .int .i64 b0_7, .sl (.int .i64) b0_8, .int .i64 b0_9]] => some (⟨(⟨(⟨b0_0, b0_1, b0_2⟩ : Shape), b0_3⟩ : Model), b0_4, (⟨(⟨b0_5, b0_6, b0_7⟩ : Shape), b0_8⟩ : Tensor), b0_9⟩ : Job)
  | _ => none
def y11k (r : Bool) : Out := (.r [] (.bool r), [])
def y11l (o : Out) : Option (Bool) := match o with
  | (.r [] (.bool z1), []) => some z1
  | _ => none
def y11m (k : Nat) : PG := fun _ l K => (y11j l).bind fun a => (I_Job_isDone k a).bind fun r => K (y11k r)
theorem y11n (k : Nat) (a : Job) : ev (y11e k) (y11h (Bool) k) 0 y11g (st0 Tryz.f29 (y11i a)) (fin Tryz.prog Tryz.f29 (.sc) y11l) = I_Job_isDone k a := by kernel_rfl
theorem y11o (k : Nat) : PureOk Tryz.prog 29 (y11m k) :=
  pureOk_of_ev (y11f k) Tryz.func29 (by kernel_rfl) (by kernel_rfl) y11i y11j
    (fun l a h => by unfold y11j at h; split at h <;> first | (cases h; rfl) | cases h) (fun a => rfl) (lpgood_none (by kernel_rfl))
    (fun o r h => by unfold y11l at h; split at h <;> first | (cases h; rfl) | cases h) (y11n k)
def y11p (k : Nat) : Orc := pureOrc [.agg [(.int .i64), (.int .i64), (.int .i64), (.sl (.st .layer)), (.int .i64), (.int .i64), (.int .i64), (.int .i64), (.sl (.int .i64)), (.int .i64)]] (y11m k)
theorem y11q (k : Nat) : OrcOk Tryz.prog 29 (y11p k) := pureOrc_ok (y11o k)
noncomputable def y11r (k : Nat) : Env := { P := Tryz.prog, tt := tt, orc := fun g => cond (Nat.beq g 27) (y11c k) (cond (Nat.beq g 57) (y10b k) (noOrc)) }
theorem y11s (k : Nat) : EnvOk (y11r k) := fun g => (orc_cond (y11d k) (orc_cond (y10c k) (noOrc_ok _ _)))
noncomputable def y11t : Code := (Tryz.f67.body).getD .skip
def y11u (ρ : Type) (k : Nat) : Nat → Ev ρ → Ev ρ := fun _ _ _ _ => none
def y11v (a : Job) : List Arg := [.agg [.int .i64 a.model.inp.h, .int .i64 a.model.inp.w, .int .i64 a.model.inp.c, .sl (.st .layer) a.model.layers, .int .i64 a.at_, .int .i64 a.act.sh.h, .int .i64 a.act.sh.w, .int .i64 a.act.sh.c, .sl (.int .i64) a.act.data, .int .i64 a.spent]]
def y11w (l : List Arg) : Option (Job) := match l with
  | [.agg [.int .i64 b0_0, .int .i64 b0_1, .int .i64 b0_2, .sl (.st .layer) b0_3, .int .i64 b0_4, .int .i64 b0_5, .int .i64 b0_6, .int .i64 b0_7, .sl (.int .i64) b0_8, .int .i64 b0_9]] => some (⟨(⟨(⟨b0_0, b0_1, b0_2⟩ : Shape), b0_3⟩ : Model), b0_4, (⟨(⟨b0_5, b0_6, b0_7⟩ : Shape), b0_8⟩ : Tensor), b0_9⟩ : Job)
  | _ => none
def y11x (r : List Int) : Out := (.r [] (.sl (.int .i64) r), [])
def y11y (o : Out) : Option (List Int) := match o with
  | (.r [] (.sl (.int .i64) z1), []) => some z1
  | _ => none
def y11z (k : Nat) : PG := fun _ l K => (y11w l).bind fun a => (I_LeftOf k a).bind fun r => K (y11x r)
theorem y120 (k : Nat) (a : Job) : ev (y11r k) (y11u (List Int) k) 0 y11t (st0 Tryz.f67 (y11v a)) (fin Tryz.prog Tryz.f67 (.ro (.int .i64)) y11y) = I_LeftOf k a := by kernel_rfl
theorem y121 (k : Nat) : PureOk Tryz.prog 67 (y11z k) :=
  pureOk_of_ev (y11s k) Tryz.func67 (by kernel_rfl) (by kernel_rfl) y11v y11w
    (fun l a h => by unfold y11w at h; split at h <;> first | (cases h; rfl) | cases h) (fun a => rfl) (lpgood_none (by kernel_rfl))
    (fun o r h => by unfold y11y at h; split at h <;> first | (cases h; rfl) | cases h) (y120 k)
def y122 (k : Nat) : Orc := pureOrc [.agg [(.int .i64), (.int .i64), (.int .i64), (.sl (.st .layer)), (.int .i64), (.int .i64), (.int .i64), (.int .i64), (.sl (.int .i64)), (.int .i64)]] (y11z k)
theorem y123 (k : Nat) : OrcOk Tryz.prog 67 (y122 k) := pureOrc_ok (y121 k)
noncomputable def y124 (k : Nat) : Env := { P := Tryz.prog, tt := tt, orc := fun g => cond (Nat.beq g 67) (y122 k) (noOrc) }
theorem y125 (k : Nat) : EnvOk (y124 k) := fun g => (orc_cond (y123 k) (noOrc_ok _ _))
noncomputable def y126 : Code := (Tryz.f40.body).getD .skip
def y127 (ρ : Type) (k : Nat) : Nat → Ev ρ → Ev ρ := fun _ _ _ _ => none
def y128 (a : Job) : List Arg := [.agg [.int .i64 a.model.inp.h, .int .i64 a.model.inp.w, .int .i64 a.model.inp.c, .sl (.st .layer) a.model.layers, .int .i64 a.at_, .int .i64 a.act.sh.h, .int .i64 a.act.sh.w, .int .i64 a.act.sh.c, .sl (.int .i64) a.act.data, .int .i64 a.spent]]
def y129 (l : List Arg) : Option (Job) := match l with
  | [.agg [.int .i64 b0_0, .int .i64 b0_1, .int .i64 b0_2, .sl (.st .layer) b0_3, .int .i64 b0_4, .int .i64 b0_5, .int .i64 b0_6, .int .i64 b0_7, .sl (.int .i64) b0_8, .int .i64 b0_9]] => some (⟨(⟨(⟨b0_0, b0_1, b0_2⟩ : Shape), b0_3⟩ : Model), b0_4, (⟨(⟨b0_5, b0_6, b0_7⟩ : Shape), b0_8⟩ : Tensor), b0_9⟩ : Job)
  | _ => none
def y12a (r : Int) : Out := (.r [] (.int .i64 r), [])
def y12b (o : Out) : Option (Int) := match o with
  | (.r [] (.int .i64 z1), []) => some z1
  | _ => none
def y12c (k : Nat) : PG := fun _ l K => (y129 l).bind fun a => (I_NextCost k a).bind fun r => K (y12a r)
theorem y12d (k : Nat) (a : Job) : ev (y124 k) (y127 (Int) k) 0 y126 (st0 Tryz.f40 (y128 a)) (fin Tryz.prog Tryz.f40 (.sc) y12b) = I_NextCost k a := by kernel_rfl
theorem y12e (k : Nat) : PureOk Tryz.prog 40 (y12c k) :=
  pureOk_of_ev (y125 k) Tryz.func40 (by kernel_rfl) (by kernel_rfl) y128 y129
    (fun l a h => by unfold y129 at h; split at h <;> first | (cases h; rfl) | cases h) (fun a => rfl) (lpgood_none (by kernel_rfl))
    (fun o r h => by unfold y12b at h; split at h <;> first | (cases h; rfl) | cases h) (y12d k)
def y12f (k : Nat) : Orc := pureOrc [.agg [(.int .i64), (.int .i64), (.int .i64), (.sl (.st .layer)), (.int .i64), (.int .i64), (.int .i64), (.int .i64), (.sl (.int .i64)), (.int .i64)]] (y12c k)
theorem y12g (k : Nat) : OrcOk Tryz.prog 40 (y12f k) := pureOrc_ok (y12e k)
noncomputable def y12h (k : Nat) : Env := { P := Tryz.prog, tt := tt, orc := fun g => noOrc }
theorem y12i (k : Nat) : EnvOk (y12h k) := fun g => (noOrc_ok _ _)
noncomputable def y12j : Code := (Tryz.f121.body).getD .skip
def y12k (ρ : Type) (k : Nat) : Nat → Ev ρ → Ev ρ := fun _ _ _ _ => none
def y12l (a : Int × Int × Int) : List Arg := [.one (.int .i64 a.1), .one (.int .i64 a.2.1), .one (.int .i64 a.2.2)]
def y12m (l : List Arg) : Option (Int × Int × Int) := match l with
  | [.one (.int .i64 b0), .one (.int .i64 b1), .one (.int .i64 b2)] => some (b0, b1, b2)
  | _ => none
def y12n (r : Int) : Out := (.r [] (.int .i64 r), [])
def y12o (o : Out) : Option (Int) := match o with
  | (.r [] (.int .i64 z1), []) => some z1
  | _ => none
def y12p (k : Nat) : PG := fun _ l K => (y12m l).bind fun a => (I_cut k a.1 a.2.1 a.2.2).bind fun r => K (y12n r)
theorem y12q (k : Nat) (a : Int × Int × Int) : ev (y12h k) (y12k (Int) k) 0 y12j (st0 Tryz.f121 (y12l a)) (fin Tryz.prog Tryz.f121 (.sc) y12o) = I_cut k a.1 a.2.1 a.2.2 := by kernel_rfl
theorem y12r (k : Nat) : PureOk Tryz.prog 121 (y12p k) :=
  pureOk_of_ev (y12i k) Tryz.func121 (by kernel_rfl) (by kernel_rfl) y12l y12m
    (fun l a h => by unfold y12m at h; split at h <;> first | (cases h; rfl) | cases h) (fun a => rfl) (lpgood_none (by kernel_rfl))
    (fun o r h => by unfold y12o at h; split at h <;> first | (cases h; rfl) | cases h) (y12q k)
def y12s (k : Nat) : Orc := pureOrc [.one (.int .i64), .one (.int .i64), .one (.int .i64)] (y12p k)
theorem y12t (k : Nat) : OrcOk Tryz.prog 121 (y12s k) := pureOrc_ok (y12r k)
noncomputable def y12u (k : Nat) : Env := { P := Tryz.prog, tt := tt, orc := fun g => cond (Nat.beq g 121) (y12s k) (noOrc) }
theorem y12v (k : Nat) : EnvOk (y12u k) := fun g => (orc_cond (y12t k) (noOrc_ok _ _))
noncomputable def y12w : Code := (Tryz.f117.body).getD .skip
def y12x (ρ : Type) (k : Nat) : Nat → Ev ρ → Ev ρ := fun _ _ _ _ => none
def y12y (a : Int) : List Arg := [.one (.int .i64 a)]
def y12z (l : List Arg) : Option (Int) := match l with
  | [.one (.int .i64 b0)] => some b0
  | _ => none
def y130 (r : Int) : Out := (.r [] (.int .i64 r), [])
def y131 (o : Out) : Option (Int) := match o with
  | (.r [] (.int .i64 z1), []) => some z1
  | _ => none
def y132 (k : Nat) : PG := fun _ l K => (y12z l).bind fun a => (I_Sat8 k a).bind fun r => K (y130 r)
theorem y133 (k : Nat) (a : Int) : ev (y12u k) (y12x (Int) k) 0 y12w (st0 Tryz.f117 (y12y a)) (fin Tryz.prog Tryz.f117 (.sc) y131) = I_Sat8 k a := by kernel_rfl
theorem y134 (k : Nat) : PureOk Tryz.prog 117 (y132 k) :=
  pureOk_of_ev (y12v k) Tryz.func117 (by kernel_rfl) (by kernel_rfl) y12y y12z
    (fun l a h => by unfold y12z at h; split at h <;> first | (cases h; rfl) | cases h) (fun a => rfl) (lpgood_none (by kernel_rfl))
    (fun o r h => by unfold y131 at h; split at h <;> first | (cases h; rfl) | cases h) (y133 k)
def y135 (k : Nat) : Orc := pureOrc [.one (.int .i64)] (y132 k)
theorem y136 (k : Nat) : OrcOk Tryz.prog 117 (y135 k) := pureOrc_ok (y134 k)
noncomputable def y137 (k : Nat) : Env := { P := Tryz.prog, tt := tt, orc := fun g => cond (Nat.beq g 121) (y12s k) (noOrc) }
theorem y138 (k : Nat) : EnvOk (y137 k) := fun g => (orc_cond (y12t k) (noOrc_ok _ _))
noncomputable def y139 : Code := (Tryz.f120.body).getD .skip
def y13a (ρ : Type) (k : Nat) : Nat → Ev ρ → Ev ρ := fun _ _ _ _ => none
def y13b (a : Int) : List Arg := [.one (.int .i64 a)]
def y13c (l : List Arg) : Option (Int) := match l with
  | [.one (.int .i64 b0)] => some b0
  | _ => none
def y13d (r : Int) : Out := (.r [] (.int .i64 r), [])
def y13e (o : Out) : Option (Int) := match o with
  | (.r [] (.int .i64 z1), []) => some z1
  | _ => none
def y13f (k : Nat) : PG := fun _ l K => (y13c l).bind fun a => (I_Sat32 k a).bind fun r => K (y13d r)
theorem y13g (k : Nat) (a : Int) : ev (y137 k) (y13a (Int) k) 0 y139 (st0 Tryz.f120 (y13b a)) (fin Tryz.prog Tryz.f120 (.sc) y13e) = I_Sat32 k a := by kernel_rfl
theorem y13h (k : Nat) : PureOk Tryz.prog 120 (y13f k) :=
  pureOk_of_ev (y138 k) Tryz.func120 (by kernel_rfl) (by kernel_rfl) y13b y13c
    (fun l a h => by unfold y13c at h; split at h <;> first | (cases h; rfl) | cases h) (fun a => rfl) (lpgood_none (by kernel_rfl))
    (fun o r h => by unfold y13e at h; split at h <;> first | (cases h; rfl) | cases h) (y13g k)
def y13i (k : Nat) : Orc := pureOrc [.one (.int .i64)] (y13f k)
theorem y13j (k : Nat) : OrcOk Tryz.prog 120 (y13i k) := pureOrc_ok (y13h k)
noncomputable def y13k (k : Nat) : Env := { P := Tryz.prog, tt := tt, orc := fun g => cond (Nat.beq g 120) (y13i k) (noOrc) }
theorem y13l (k : Nat) : EnvOk (y13k k) := fun g => (orc_cond (y13j k) (noOrc_ok _ _))
noncomputable def y13m : Code := (Tryz.f114.body).getD .skip
def y13n (ρ : Type) (k : Nat) : Nat → Ev ρ → Ev ρ := fun _ _ _ _ => none
def y13o (a : Int × Int) : List Arg := [.one (.int .i64 a.1), .one (.int .i64 a.2)]
def y13p (l : List Arg) : Option (Int × Int) := match l with
  | [.one (.int .i64 b0), .one (.int .i64 b1)] => some (b0, b1)
  | _ => none
def y13q (r : Int) : Out := (.r [] (.int .i64 r), [])
def y13r (o : Out) : Option (Int) := match o with
  | (.r [] (.int .i64 z1), []) => some z1
  | _ => none
def y13s (k : Nat) : PG := fun _ l K => (y13p l).bind fun a => (I_AddSat k a.1 a.2).bind fun r => K (y13q r)
theorem y13t (k : Nat) (a : Int × Int) : ev (y13k k) (y13n (Int) k) 0 y13m (st0 Tryz.f114 (y13o a)) (fin Tryz.prog Tryz.f114 (.sc) y13r) = I_AddSat k a.1 a.2 := by kernel_rfl
theorem y13u (k : Nat) : PureOk Tryz.prog 114 (y13s k) :=
  pureOk_of_ev (y13l k) Tryz.func114 (by kernel_rfl) (by kernel_rfl) y13o y13p
    (fun l a h => by unfold y13p at h; split at h <;> first | (cases h; rfl) | cases h) (fun a => rfl) (lpgood_none (by kernel_rfl))
    (fun o r h => by unfold y13r at h; split at h <;> first | (cases h; rfl) | cases h) (y13t k)
def y13v (k : Nat) : Orc := pureOrc [.one (.int .i64), .one (.int .i64)] (y13s k)
theorem y13w (k : Nat) : OrcOk Tryz.prog 114 (y13v k) := pureOrc_ok (y13u k)
noncomputable def y13x (k : Nat) : Env := { P := Tryz.prog, tt := tt, orc := fun g => cond (Nat.beq g 114) (y13v k) (cond (Nat.beq g 117) (y135 k) (noOrc)) }
theorem y13y (k : Nat) : EnvOk (y13x k) := fun g => (orc_cond (y13w k) (orc_cond (y136 k) (noOrc_ok _ _)))
noncomputable def y13z : Code := (Tryz.f112.body).getD .skip
noncomputable def y140 : Code := ((loopsIn 0 y13z).getD 0 (0, .skip)).2
def y141 : List Nat := [0, 1, 5, 11, 12]
def y142 : List (Where × Co) := []
def y143 : Ex → List Nat
  | .exit j => cond (Nat.beq j 0) [5] []
  | .ret => []
  | .normal => []
def y144 : Ex → List (Where × Co)
  | .exit j => cond (Nat.beq j 0) [] []
  | .ret => []
  | .normal => []
def y145 (pv : (List Int × List Int × Int) × (Int × Int)) : St := { slots := [(0, .r [] (.sl (.int .i64) pv.1.1)), (1, .r [] (.sl (.int .i64) pv.1.2.1)), (5, .r [] (.int .i64 pv.2.1)), (11, .r [] (.int .i64 pv.1.2.2)), (12, .r [] (.int .i64 pv.2.2))], heap := [], nid := 0, n := 30, gh := [] }
def y146 (nf : NF) : Option ((List Int × List Int × Int) × (Int × Int)) := match nf with
  | ([.r [] (.sl (.int .i64) w0), .r [] (.sl (.int .i64) w1), .r [] (.int .i64 w2), .r [] (.int .i64 w3), .r [] (.int .i64 w4)], [], []) => some ((w0, w1, w3), (w2, w4))
  | _ => none
theorem y147 (nf : NF) (v : (List Int × List Int × Int) × (Int × Int)) (h : y146 nf = some v) : denorm y141 30 nf = y145 v := by
  unfold y146 at h
  split at h
  · cases h; rfl
  · cases h
def y148 (p : List Int × List Int × Int) (x : Int) : St := { slots := [(5, .r [] (.int .i64 x))], heap := [], nid := 0, n := 30, gh := [] }
def y149 (ρ : Type) (k : Nat) : Nat → Ev ρ → Ev ρ := fun id f => cond (Nat.beq id 0) (loopOrc y141 y142 (fun n nf => cond (Nat.beq n 30) (y146 nf) none) fun pv K => iter (fun v next => I_DotOf_g0 k pv.1 v next (fun x => K (.exit 0) (y148 pv.1 x))) k pv.2) ((fun _ _ _ _ => none) id f)
theorem y14a {ρ : Type} (k : Nat) (p : List Int × List Int × Int) (v : Int × Int) (K K1 : Ex → St → Option ρ) : ev (y13x k) (y149 ρ k) 0 y140 (y145 (p, v)) (fun e st' => match e with
    | .normal => (normC y141 y142 st').bind fun nf => K1 .normal (denorm y141 st'.n nf)
    | e => (normC (y143 e) (y144 e) st').bind fun nf => K e (denorm (y143 e) st'.n nf)) = I_DotOf_g0 k p v (fun v' => K1 .normal (y145 (p, v'))) (fun x => K (.exit 0) (y148 p x)) := by kernel_rfl
theorem y14b {ρ : Type} (k : Nat) : Sound Tryz.prog (.loop y140) (y149 ρ k 0 fun st K => ev (y13x k) (y149 ρ k) 0 y140 st K) :=
  loop_ok (ev_sound (y13y k) y140 0 (lpgood_none (by kernel_rfl))) y143 y144 k (g := fun p v next K => I_DotOf_g0 k p v next (fun x => K (.exit 0) (y148 p x))) (dec_at y147) (fun p v K K1 => y14a k p v K K1)
def y14c (a : List Int × List Int) : List Arg := [.one (.sl (.int .i64) a.1), .one (.sl (.int .i64) a.2)]
def y14d (l : List Arg) : Option (List Int × List Int) := match l with
  | [.one (.sl (.int .i64) b0), .one (.sl (.int .i64) b1)] => some (b0, b1)
  | _ => none
def y14e (r : Int) : Out := (.r [] (.int .i64 r), [])
def y14f (o : Out) : Option (Int) := match o with
  | (.r [] (.int .i64 z1), []) => some z1
  | _ => none
def y14g (k : Nat) : PG := fun _ l K => (y14d l).bind fun a => (I_DotOf k a.1 a.2).bind fun r => K (y14e r)
theorem y14h (k : Nat) (a : List Int × List Int) : ev (y13x k) (y149 (Int) k) 0 y13z (st0 Tryz.f112 (y14c a)) (fin Tryz.prog Tryz.f112 (.sc) y14f) = I_DotOf k a.1 a.2 := by kernel_rfl
theorem y14i (k : Nat) : PureOk Tryz.prog 112 (y14g k) :=
  pureOk_of_ev (y13y k) Tryz.func112 (by kernel_rfl) (by kernel_rfl) y14c y14d
    (fun l a h => by unfold y14d at h; split at h <;> first | (cases h; rfl) | cases h) (fun a => rfl) (lpgood_of (l := [(0, y140)]) (by kernel_rfl) ⟨y14b k, trivial⟩)
    (fun o r h => by unfold y14f at h; split at h <;> first | (cases h; rfl) | cases h) (y14h k)
def y14j (k : Nat) : Orc := pureOrc [.one (.sl (.int .i64)), .one (.sl (.int .i64))] (y14g k)
theorem y14k (k : Nat) : OrcOk Tryz.prog 112 (y14j k) := pureOrc_ok (y14i k)
noncomputable def y14l (k : Nat) : Env := { P := Tryz.prog, tt := tt, orc := fun g => cond (Nat.beq g 120) (y13i k) (noOrc) }
theorem y14m (k : Nat) : EnvOk (y14l k) := fun g => (orc_cond (y13j k) (noOrc_ok _ _))
noncomputable def y14n : Code := (Tryz.f119.body).getD .skip
def y14o (ρ : Type) (k : Nat) : Nat → Ev ρ → Ev ρ := fun _ _ _ _ => none
def y14p (a : Int × Int) : List Arg := [.one (.int .i64 a.1), .one (.int .i64 a.2)]
def y14q (l : List Arg) : Option (Int × Int) := match l with
  | [.one (.int .i64 b0), .one (.int .i64 b1)] => some (b0, b1)
  | _ => none
def y14r (r : Int) : Out := (.r [] (.int .i64 r), [])
def y14s (o : Out) : Option (Int) := match o with
  | (.r [] (.int .i64 z1), []) => some z1
  | _ => none
def y14t (k : Nat) : PG := fun _ l K => (y14q l).bind fun a => (I_MulHigh k a.1 a.2).bind fun r => K (y14r r)
theorem y14u (k : Nat) (a : Int × Int) : ev (y14l k) (y14o (Int) k) 0 y14n (st0 Tryz.f119 (y14p a)) (fin Tryz.prog Tryz.f119 (.sc) y14s) = I_MulHigh k a.1 a.2 := by kernel_rfl
theorem y14v (k : Nat) : PureOk Tryz.prog 119 (y14t k) :=
  pureOk_of_ev (y14m k) Tryz.func119 (by kernel_rfl) (by kernel_rfl) y14p y14q
    (fun l a h => by unfold y14q at h; split at h <;> first | (cases h; rfl) | cases h) (fun a => rfl) (lpgood_none (by kernel_rfl))
    (fun o r h => by unfold y14s at h; split at h <;> first | (cases h; rfl) | cases h) (y14u k)
def y14w (k : Nat) : Orc := pureOrc [.one (.int .i64), .one (.int .i64)] (y14t k)
theorem y14x (k : Nat) : OrcOk Tryz.prog 119 (y14w k) := pureOrc_ok (y14v k)
noncomputable def y14y (k : Nat) : Env := { P := Tryz.prog, tt := tt, orc := fun g => noOrc }
theorem y14z (k : Nat) : EnvOk (y14y k) := fun g => (noOrc_ok _ _)
noncomputable def y150 : Code := (Tryz.f103.body).getD .skip
def y151 (ρ : Type) (k : Nat) : Nat → Ev ρ → Ev ρ := fun _ _ _ _ => none
def y152 (a : Int × Int) : List Arg := [.one (.int .i64 a.1), .one (.int .i64 a.2)]
def y153 (l : List Arg) : Option (Int × Int) := match l with
  | [.one (.int .i64 b0), .one (.int .i64 b1)] => some (b0, b1)
  | _ => none
def y154 (r : Int) : Out := (.r [] (.int .i64 r), [])
def y155 (o : Out) : Option (Int) := match o with
  | (.r [] (.int .i64 z1), []) => some z1
  | _ => none
def y156 (k : Nat) : PG := fun _ l K => (y153 l).bind fun a => (I_rounded__r0 k a.1 a.2).bind fun r => K (y154 r)
theorem y157 (k : Nat) (a : Int × Int) : ev (y14y k) (y151 (Int) k) 0 y150 (st0 Tryz.f103 (y152 a)) (fin Tryz.prog Tryz.f103 (.sc) y155) = I_rounded__r0 k a.1 a.2 := by kernel_rfl
theorem y158 (k : Nat) : PureOk Tryz.prog 103 (y156 k) :=
  pureOk_of_ev (y14z k) Tryz.func103 (by kernel_rfl) (by kernel_rfl) y152 y153
    (fun l a h => by unfold y153 at h; split at h <;> first | (cases h; rfl) | cases h) (fun a => rfl) (lpgood_none (by kernel_rfl))
    (fun o r h => by unfold y155 at h; split at h <;> first | (cases h; rfl) | cases h) (y157 k)
def y159 (k : Nat) : Orc := pureOrc [.one (.int .i64), .one (.int .i64)] (y156 k)
theorem y15a (k : Nat) : OrcOk Tryz.prog 103 (y159 k) := pureOrc_ok (y158 k)
noncomputable def y15b (k : Nat) : Env := { P := Tryz.prog, tt := tt, orc := fun g => cond (Nat.beq g 103) (y159 k) (noOrc) }
theorem y15c (k : Nat) : EnvOk (y15b k) := fun g => (orc_cond (y15a k) (noOrc_ok _ _))
noncomputable def y15d : Code := (Tryz.f103.body).getD .skip
def y15e (ρ : Type) (k : Nat) : Nat → Ev ρ → Ev ρ := fun _ _ _ _ => none
def y15f (a : Int × Int) : List Arg := [.one (.int .i64 a.1), .one (.int .i64 a.2)]
def y15g (l : List Arg) : Option (Int × Int) := match l with
  | [.one (.int .i64 b0), .one (.int .i64 b1)] => some (b0, b1)
  | _ => none
def y15h (r : Int) : Out := (.r [] (.int .i64 r), [])
def y15i (o : Out) : Option (Int) := match o with
  | (.r [] (.int .i64 z1), []) => some z1
  | _ => none
def y15j (k : Nat) : PG := fun _ l K => (y15g l).bind fun a => (I_rounded k a.1 a.2).bind fun r => K (y15h r)
theorem y15k (k : Nat) (a : Int × Int) : ev (y15b k) (y15e (Int) k) 0 y15d (st0 Tryz.f103 (y15f a)) (fin Tryz.prog Tryz.f103 (.sc) y15i) = I_rounded k a.1 a.2 := by kernel_rfl
theorem y15l (k : Nat) : PureOk Tryz.prog 103 (y15j k) :=
  pureOk_of_ev (y15c k) Tryz.func103 (by kernel_rfl) (by kernel_rfl) y15f y15g
    (fun l a h => by unfold y15g at h; split at h <;> first | (cases h; rfl) | cases h) (fun a => rfl) (lpgood_none (by kernel_rfl))
    (fun o r h => by unfold y15i at h; split at h <;> first | (cases h; rfl) | cases h) (y15k k)
def y15m (k : Nat) : Orc := pureOrc [.one (.int .i64), .one (.int .i64)] (y15j k)
theorem y15n (k : Nat) : OrcOk Tryz.prog 103 (y15m k) := pureOrc_ok (y15l k)
noncomputable def y15o (k : Nat) : Env := { P := Tryz.prog, tt := tt, orc := fun g => cond (Nat.beq g 103) (y15m k) (cond (Nat.beq g 120) (y13i k) (cond (Nat.beq g 121) (y12s k) (noOrc))) }
theorem y15p (k : Nat) : EnvOk (y15o k) := fun g => (orc_cond (y15n k) (orc_cond (y13j k) (orc_cond (y12t k) (noOrc_ok _ _))))
noncomputable def y15q : Code := (Tryz.f118.body).getD .skip
def y15r (ρ : Type) (k : Nat) : Nat → Ev ρ → Ev ρ := fun _ _ _ _ => none
def y15s (a : Int × Int) : List Arg := [.one (.int .i64 a.1), .one (.int .i64 a.2)]
def y15t (l : List Arg) : Option (Int × Int) := match l with
  | [.one (.int .i64 b0), .one (.int .i64 b1)] => some (b0, b1)
  | _ => none
def y15u (r : Int) : Out := (.r [] (.int .i64 r), [])
def y15v (o : Out) : Option (Int) := match o with
  | (.r [] (.int .i64 z1), []) => some z1
  | _ => none
def y15w (k : Nat) : PG := fun _ l K => (y15t l).bind fun a => (I_RoundShift k a.1 a.2).bind fun r => K (y15u r)
theorem y15x (k : Nat) (a : Int × Int) : ev (y15o k) (y15r (Int) k) 0 y15q (st0 Tryz.f118 (y15s a)) (fin Tryz.prog Tryz.f118 (.sc) y15v) = I_RoundShift k a.1 a.2 := by kernel_rfl
theorem y15y (k : Nat) : PureOk Tryz.prog 118 (y15w k) :=
  pureOk_of_ev (y15p k) Tryz.func118 (by kernel_rfl) (by kernel_rfl) y15s y15t
    (fun l a h => by unfold y15t at h; split at h <;> first | (cases h; rfl) | cases h) (fun a => rfl) (lpgood_none (by kernel_rfl))
    (fun o r h => by unfold y15v at h; split at h <;> first | (cases h; rfl) | cases h) (y15x k)
def y15z (k : Nat) : Orc := pureOrc [.one (.int .i64), .one (.int .i64)] (y15w k)
theorem y160 (k : Nat) : OrcOk Tryz.prog 118 (y15z k) := pureOrc_ok (y15y k)
noncomputable def y161 (k : Nat) : Env := { P := Tryz.prog, tt := tt, orc := fun g => cond (Nat.beq g 117) (y135 k) (cond (Nat.beq g 118) (y15z k) (cond (Nat.beq g 119) (y14w k) (noOrc))) }
theorem y162 (k : Nat) : EnvOk (y161 k) := fun g => (orc_cond (y136 k) (orc_cond (y160 k) (orc_cond (y14x k) (noOrc_ok _ _))))
noncomputable def y163 : Code := (Tryz.f113.body).getD .skip
def y164 (ρ : Type) (k : Nat) : Nat → Ev ρ → Ev ρ := fun _ _ _ _ => none
def y165 (a : Int × Int × Int × Int) : List Arg := [.one (.int .i64 a.1), .one (.int .i64 a.2.1), .one (.int .i64 a.2.2.1), .one (.int .i64 a.2.2.2)]
def y166 (l : List Arg) : Option (Int × Int × Int × Int) := match l with
  | [.one (.int .i64 b0), .one (.int .i64 b1), .one (.int .i64 b2), .one (.int .i64 b3)] => some (b0, b1, b2, b3)
  | _ => none
def y167 (r : Int) : Out := (.r [] (.int .i64 r), [])
def y168 (o : Out) : Option (Int) := match o with
  | (.r [] (.int .i64 z1), []) => some z1
  | _ => none
def y169 (k : Nat) : PG := fun _ l K => (y166 l).bind fun a => (I_Requant k a.1 a.2.1 a.2.2.1 a.2.2.2).bind fun r => K (y167 r)
theorem y16a (k : Nat) (a : Int × Int × Int × Int) : ev (y161 k) (y164 (Int) k) 0 y163 (st0 Tryz.f113 (y165 a)) (fin Tryz.prog Tryz.f113 (.sc) y168) = I_Requant k a.1 a.2.1 a.2.2.1 a.2.2.2 := by kernel_rfl
theorem y16b (k : Nat) : PureOk Tryz.prog 113 (y169 k) :=
  pureOk_of_ev (y162 k) Tryz.func113 (by kernel_rfl) (by kernel_rfl) y165 y166
    (fun l a h => by unfold y166 at h; split at h <;> first | (cases h; rfl) | cases h) (fun a => rfl) (lpgood_none (by kernel_rfl))
    (fun o r h => by unfold y168 at h; split at h <;> first | (cases h; rfl) | cases h) (y16a k)
def y16c (k : Nat) : Orc := pureOrc [.one (.int .i64), .one (.int .i64), .one (.int .i64), .one (.int .i64)] (y169 k)
theorem y16d (k : Nat) : OrcOk Tryz.prog 113 (y16c k) := pureOrc_ok (y16b k)
noncomputable def y16e (k : Nat) : Env := { P := Tryz.prog, tt := tt, orc := fun g => cond (Nat.beq g 112) (y14j k) (cond (Nat.beq g 113) (y16c k) (cond (Nat.beq g 114) (y13v k) (noOrc))) }
theorem y16f (k : Nat) : EnvOk (y16e k) := fun g => (orc_cond (y14k k) (orc_cond (y16d k) (orc_cond (y13w k) (noOrc_ok _ _))))
noncomputable def y16g : Code := (Tryz.f100.body).getD .skip
def y16h (ρ : Type) (k : Nat) : Nat → Ev ρ → Ev ρ := fun _ _ _ _ => none
def y16i (a : Layer × List Int × Int) : List Arg := [.agg [.int .i64 a.1.kind, .int .i64 a.1.out, .int .i64 a.1.size, .int .i64 a.1.step, .int .i64 a.1.mult, .int .i64 a.1.shift, .int .i64 a.1.zero, .sl (.int .i64) a.1.weights, .sl (.int .i64) a.1.bias], .one (.sl (.int .i64) a.2.1), .one (.int .i64 a.2.2)]
def y16j (l : List Arg) : Option (Layer × List Int × Int) := match l with
  | [.agg [.int .i64 b0_0, .int .i64 b0_1, .int .i64 b0_2, .int .i64 b0_3, .int .i64 b0_4, .int .i64 b0_5, .int .i64 b0_6, .sl (.int .i64) b0_7, .sl (.int .i64) b0_8], .one (.sl (.int .i64) b1), .one (.int .i64 b2)] => some ((⟨b0_0, b0_1, b0_2, b0_3, b0_4, b0_5, b0_6, b0_7, b0_8⟩ : Layer), b1, b2)
  | _ => none
def y16k (r : Int) : Out := (.r [] (.int .i64 r), [])
def y16l (o : Out) : Option (Int) := match o with
  | (.r [] (.int .i64 z1), []) => some z1
  | _ => none
def y16m (k : Nat) : PG := fun _ l K => (y16j l).bind fun a => (I_Layer_scaled k a.1 a.2.1 a.2.2).bind fun r => K (y16k r)
theorem y16n (k : Nat) (a : Layer × List Int × Int) : ev (y16e k) (y16h (Int) k) 0 y16g (st0 Tryz.f100 (y16i a)) (fin Tryz.prog Tryz.f100 (.sc) y16l) = I_Layer_scaled k a.1 a.2.1 a.2.2 := by kernel_rfl
theorem y16o (k : Nat) : PureOk Tryz.prog 100 (y16m k) :=
  pureOk_of_ev (y16f k) Tryz.func100 (by kernel_rfl) (by kernel_rfl) y16i y16j
    (fun l a h => by unfold y16j at h; split at h <;> first | (cases h; rfl) | cases h) (fun a => rfl) (lpgood_none (by kernel_rfl))
    (fun o r h => by unfold y16l at h; split at h <;> first | (cases h; rfl) | cases h) (y16n k)
def y16p (k : Nat) : Orc := pureOrc [.agg [(.int .i64), (.int .i64), (.int .i64), (.int .i64), (.int .i64), (.int .i64), (.int .i64), (.sl (.int .i64)), (.sl (.int .i64))], .one (.sl (.int .i64)), .one (.int .i64)] (y16m k)
theorem y16q (k : Nat) : OrcOk Tryz.prog 100 (y16p k) := pureOrc_ok (y16o k)
noncomputable def y16r (k : Nat) : Env := { P := Tryz.prog, tt := tt, orc := fun g => noOrc }
theorem y16s (k : Nat) : EnvOk (y16r k) := fun g => (noOrc_ok _ _)
noncomputable def y16t : Code := (Tryz.f104.body).getD .skip
def y16u (ρ : Type) (k : Nat) : Nat → Ev ρ → Ev ρ := fun _ _ _ _ => none
def y16v (a : Shape × Int × Int × Int) : List Arg := [.agg [.int .i64 a.1.h, .int .i64 a.1.w, .int .i64 a.1.c], .one (.int .i64 a.2.1), .one (.int .i64 a.2.2.1), .one (.int .i64 a.2.2.2)]
def y16w (l : List Arg) : Option (Shape × Int × Int × Int) := match l with
  | [.agg [.int .i64 b0_0, .int .i64 b0_1, .int .i64 b0_2], .one (.int .i64 b1), .one (.int .i64 b2), .one (.int .i64 b3)] => some ((⟨b0_0, b0_1, b0_2⟩ : Shape), b1, b2, b3)
  | _ => none
def y16x (r : Int) : Out := (.r [] (.int .i64 r), [])
def y16y (o : Out) : Option (Int) := match o with
  | (.r [] (.int .i64 z1), []) => some z1
  | _ => none
def y16z (k : Nat) : PG := fun _ l K => (y16w l).bind fun a => (I_Shape_place k a.1 a.2.1 a.2.2.1 a.2.2.2).bind fun r => K (y16x r)
theorem y170 (k : Nat) (a : Shape × Int × Int × Int) : ev (y16r k) (y16u (Int) k) 0 y16t (st0 Tryz.f104 (y16v a)) (fin Tryz.prog Tryz.f104 (.sc) y16y) = I_Shape_place k a.1 a.2.1 a.2.2.1 a.2.2.2 := by kernel_rfl
theorem y171 (k : Nat) : PureOk Tryz.prog 104 (y16z k) :=
  pureOk_of_ev (y16s k) Tryz.func104 (by kernel_rfl) (by kernel_rfl) y16v y16w
    (fun l a h => by unfold y16w at h; split at h <;> first | (cases h; rfl) | cases h) (fun a => rfl) (lpgood_none (by kernel_rfl))
    (fun o r h => by unfold y16y at h; split at h <;> first | (cases h; rfl) | cases h) (y170 k)
def y172 (k : Nat) : Orc := pureOrc [.agg [(.int .i64), (.int .i64), (.int .i64)], .one (.int .i64), .one (.int .i64), .one (.int .i64)] (y16z k)
theorem y173 (k : Nat) : OrcOk Tryz.prog 104 (y172 k) := pureOrc_ok (y171 k)
noncomputable def y174 (k : Nat) : Env := { P := Tryz.prog, tt := tt, orc := fun g => cond (Nat.beq g 104) (y172 k) (noOrc) }
theorem y175 (k : Nat) : EnvOk (y174 k) := fun g => (orc_cond (y173 k) (noOrc_ok _ _))
noncomputable def y176 : Code := (Tryz.f101.body).getD .skip
noncomputable def y177 : Code := ((loopsIn 0 y176).getD 0 (0, .skip)).2
noncomputable def y178 : Code := ((loopsIn 0 y177).getD 0 (0, .skip)).2
def y179 : List Nat := [2, 3, 4, 5, 6, 11, 12, 17, 18, 22, 23]
def y17a : List (Where × Co) := []
def y17b : Ex → List Nat
  | .exit j => cond (Nat.beq j 2) [2, 3, 4, 5, 6, 11, 17, 18] []
  | .ret => []
  | .normal => []
def y17c : Ex → List (Where × Co)
  | .exit j => cond (Nat.beq j 2) [] []
  | .ret => []
  | .normal => []
def y17d (pv : (Int × Int × Int × Int × Int × Int × Int × Int × Int × Int × Int × Int × Int × Int × List Int × List Int × Int × Int × Int × List Int) × (Int × List Int)) : St := { slots := [(2, .r [] (.int .i64 pv.1.1)), (3, .r [] (.int .i64 pv.1.2.1)), (4, .r [] (.int .i64 pv.1.2.2.1)), (5, .ptr 0 0 0), (6, .ptr 1 0 0), (11, .own 2), (12, .r [] (.int .i64 pv.1.2.2.2.1)), (17, .r [] (.int .i64 pv.1.2.2.2.2.1)), (18, .r [] (.int .i64 pv.1.2.2.2.2.2.1)), (22, .r [] (.int .i64 pv.1.2.2.2.2.2.2.1)), (23, .r [] (.int .i64 pv.2.1))], heap := [(0, .box [.r [] (.int .i64 pv.1.2.2.2.2.2.2.2.1), .r [] (.int .i64 pv.1.2.2.2.2.2.2.2.2.1), .r [] (.int .i64 pv.1.2.2.2.2.2.2.2.2.2.1), .r [] (.int .i64 pv.1.2.2.2.2.2.2.2.2.2.2.1), .r [] (.int .i64 pv.1.2.2.2.2.2.2.2.2.2.2.2.1), .r [] (.int .i64 pv.1.2.2.2.2.2.2.2.2.2.2.2.2.1), .r [] (.int .i64 pv.1.2.2.2.2.2.2.2.2.2.2.2.2.2.1), .r [] (.sl (.int .i64) pv.1.2.2.2.2.2.2.2.2.2.2.2.2.2.2.1), .r [] (.sl (.int .i64) pv.1.2.2.2.2.2.2.2.2.2.2.2.2.2.2.2.1)]), (1, .box [.r [] (.int .i64 pv.1.2.2.2.2.2.2.2.2.2.2.2.2.2.2.2.2.1), .r [] (.int .i64 pv.1.2.2.2.2.2.2.2.2.2.2.2.2.2.2.2.2.2.1), .r [] (.int .i64 pv.1.2.2.2.2.2.2.2.2.2.2.2.2.2.2.2.2.2.2.1), .r [] (.sl (.int .i64) pv.1.2.2.2.2.2.2.2.2.2.2.2.2.2.2.2.2.2.2.2)]), (2, .arr none (.int .i64) pv.2.2)], nid := 3, n := 67, gh := [] }
def y17e (nf : NF) : Option ((Int × Int × Int × Int × Int × Int × Int × Int × Int × Int × Int × Int × Int × Int × List Int × List Int × Int × Int × Int × List Int) × (Int × List Int)) := match nf with
  | ([.r [] (.int .i64 w0), .r [] (.int .i64 w1), .r [] (.int .i64 w2), .ptr 0 0 0, .ptr 1 0 0, .own 2, .r [] (.int .i64 w3), .r [] (.int .i64 w4), .r [] (.int .i64 w5), .r [] (.int .i64 w6), .r [] (.int .i64 w7)], [.box [.r [] (.int .i64 w8), .r [] (.int .i64 w9), .r [] (.int .i64 w10), .r [] (.int .i64 w11), .r [] (.int .i64 w12), .r [] (.int .i64 w13), .r [] (.int .i64 w14), .r [] (.sl (.int .i64) w15), .r [] (.sl (.int .i64) w16)], .box [.r [] (.int .i64 w17), .r [] (.int .i64 w18), .r [] (.int .i64 w19), .r [] (.sl (.int .i64) w20)], .arr none (.int .i64) w21], []) => some ((w0, w1, w2, w3, w4, w5, w6, w8, w9, w10, w11, w12, w13, w14, w15, w16, w17, w18, w19, w20), (w7, w21))
  | _ => none
theorem y17f (nf : NF) (v : (Int × Int × Int × Int × Int × Int × Int × Int × Int × Int × Int × Int × Int × Int × List Int × List Int × Int × Int × Int × List Int) × (Int × List Int)) (h : y17e nf = some v) : denorm y179 67 nf = y17d v := by
  unfold y17e at h
  split at h
  · cases h; rfl
  · cases h
def y17g (p : Int × Int × Int × Int × Int × Int × Int × Int × Int × Int × Int × Int × Int × Int × List Int × List Int × Int × Int × Int × List Int) (x : List Int) : St := { slots := [(2, .r [] (.int .i64 p.1)), (3, .r [] (.int .i64 p.2.1)), (4, .r [] (.int .i64 p.2.2.1)), (5, .ptr 0 0 0), (6, .ptr 1 0 0), (11, .own 2), (17, .r [] (.int .i64 p.2.2.2.2.1)), (18, .r [] (.int .i64 p.2.2.2.2.2.1))], heap := [(0, .box [.r [] (.int .i64 p.2.2.2.2.2.2.2.1), .r [] (.int .i64 p.2.2.2.2.2.2.2.2.1), .r [] (.int .i64 p.2.2.2.2.2.2.2.2.2.1), .r [] (.int .i64 p.2.2.2.2.2.2.2.2.2.2.1), .r [] (.int .i64 p.2.2.2.2.2.2.2.2.2.2.2.1), .r [] (.int .i64 p.2.2.2.2.2.2.2.2.2.2.2.2.1), .r [] (.int .i64 p.2.2.2.2.2.2.2.2.2.2.2.2.2.1), .r [] (.sl (.int .i64) p.2.2.2.2.2.2.2.2.2.2.2.2.2.2.1), .r [] (.sl (.int .i64) p.2.2.2.2.2.2.2.2.2.2.2.2.2.2.2.1)]), (1, .box [.r [] (.int .i64 p.2.2.2.2.2.2.2.2.2.2.2.2.2.2.2.2.1), .r [] (.int .i64 p.2.2.2.2.2.2.2.2.2.2.2.2.2.2.2.2.2.1), .r [] (.int .i64 p.2.2.2.2.2.2.2.2.2.2.2.2.2.2.2.2.2.2.1), .r [] (.sl (.int .i64) p.2.2.2.2.2.2.2.2.2.2.2.2.2.2.2.2.2.2.2)]), (2, .arr none (.int .i64) x)], nid := 3, n := 67, gh := [] }
def y17h : List Nat := [2, 3, 4, 5, 6, 11, 17, 18]
def y17i : List (Where × Co) := []
def y17j : Ex → List Nat
  | .exit j => cond (Nat.beq j 0) [11] []
  | .ret => []
  | .normal => []
def y17k : Ex → List (Where × Co)
  | .exit j => cond (Nat.beq j 0) [] []
  | .ret => []
  | .normal => []
def y17l (pv : (Int × Int × Int × Int × Int × Int × Int × Int × Int × Int × Int × List Int × List Int × Int × Int × Int × List Int) × (Int × List Int)) : St := { slots := [(2, .r [] (.int .i64 pv.1.1)), (3, .r [] (.int .i64 pv.1.2.1)), (4, .r [] (.int .i64 pv.1.2.2.1)), (5, .ptr 0 0 0), (6, .ptr 1 0 0), (11, .own 2), (17, .r [] (.int .i64 pv.1.2.2.2.1)), (18, .r [] (.int .i64 pv.2.1))], heap := [(0, .box [.r [] (.int .i64 pv.1.2.2.2.2.1), .r [] (.int .i64 pv.1.2.2.2.2.2.1), .r [] (.int .i64 pv.1.2.2.2.2.2.2.1), .r [] (.int .i64 pv.1.2.2.2.2.2.2.2.1), .r [] (.int .i64 pv.1.2.2.2.2.2.2.2.2.1), .r [] (.int .i64 pv.1.2.2.2.2.2.2.2.2.2.1), .r [] (.int .i64 pv.1.2.2.2.2.2.2.2.2.2.2.1), .r [] (.sl (.int .i64) pv.1.2.2.2.2.2.2.2.2.2.2.2.1), .r [] (.sl (.int .i64) pv.1.2.2.2.2.2.2.2.2.2.2.2.2.1)]), (1, .box [.r [] (.int .i64 pv.1.2.2.2.2.2.2.2.2.2.2.2.2.2.1), .r [] (.int .i64 pv.1.2.2.2.2.2.2.2.2.2.2.2.2.2.2.1), .r [] (.int .i64 pv.1.2.2.2.2.2.2.2.2.2.2.2.2.2.2.2.1), .r [] (.sl (.int .i64) pv.1.2.2.2.2.2.2.2.2.2.2.2.2.2.2.2.2)]), (2, .arr none (.int .i64) pv.2.2)], nid := 3, n := 67, gh := [] }
def y17m (nf : NF) : Option ((Int × Int × Int × Int × Int × Int × Int × Int × Int × Int × Int × List Int × List Int × Int × Int × Int × List Int) × (Int × List Int)) := match nf with
  | ([.r [] (.int .i64 w0), .r [] (.int .i64 w1), .r [] (.int .i64 w2), .ptr 0 0 0, .ptr 1 0 0, .own 2, .r [] (.int .i64 w3), .r [] (.int .i64 w4)], [.box [.r [] (.int .i64 w5), .r [] (.int .i64 w6), .r [] (.int .i64 w7), .r [] (.int .i64 w8), .r [] (.int .i64 w9), .r [] (.int .i64 w10), .r [] (.int .i64 w11), .r [] (.sl (.int .i64) w12), .r [] (.sl (.int .i64) w13)], .box [.r [] (.int .i64 w14), .r [] (.int .i64 w15), .r [] (.int .i64 w16), .r [] (.sl (.int .i64) w17)], .arr none (.int .i64) w18], []) => some ((w0, w1, w2, w3, w5, w6, w7, w8, w9, w10, w11, w12, w13, w14, w15, w16, w17), (w4, w18))
  | _ => none
theorem y17n (nf : NF) (v : (Int × Int × Int × Int × Int × Int × Int × Int × Int × Int × Int × List Int × List Int × Int × Int × Int × List Int) × (Int × List Int)) (h : y17m nf = some v) : denorm y17h 67 nf = y17l v := by
  unfold y17m at h
  split at h
  · cases h; rfl
  · cases h
def y17o (p : Int × Int × Int × Int × Int × Int × Int × Int × Int × Int × Int × List Int × List Int × Int × Int × Int × List Int) (x : List Int) : St := { slots := [(11, .own 0)], heap := [(0, .arr none (.int .i64) x)], nid := 1, n := 67, gh := [] }
def y17p (ρ : Type) (k : Nat) : Nat → Ev ρ → Ev ρ := fun id f => cond (Nat.beq id 0) (loopOrc y17h y17i (fun n nf => cond (Nat.beq n 67) (y17m nf) none) fun pv K => iter (fun v next => I_Layer_window_g0 k pv.1 v next (fun x => K (.exit 0) (y17o pv.1 x))) k pv.2) ((fun id f => cond (Nat.beq id 2) (loopOrc y179 y17a (fun n nf => cond (Nat.beq n 67) (y17e nf) none) fun pv K => iter (fun v next => I_Layer_window_g1 k pv.1 v next (fun x => K (.exit 2) (y17g pv.1 x))) k pv.2) ((fun _ _ _ _ => none) id f)) id f)
theorem y17q {ρ : Type} (k : Nat) (p : Int × Int × Int × Int × Int × Int × Int × Int × Int × Int × Int × Int × Int × Int × List Int × List Int × Int × Int × Int × List Int) (v : Int × List Int) (K K1 : Ex → St → Option ρ) : ev (y174 k) (y17p ρ k) 2 y178 (y17d (p, v)) (fun e st' => match e with
    | .normal => (normC y179 y17a st').bind fun nf => K1 .normal (denorm y179 st'.n nf)
    | e => (normC (y17b e) (y17c e) st').bind fun nf => K e (denorm (y17b e) st'.n nf)) = I_Layer_window_g1 k p v (fun v' => K1 .normal (y17d (p, v'))) (fun x => K (.exit 2) (y17g p x)) := by kernel_rfl
theorem y17r {ρ : Type} (k : Nat) : Sound Tryz.prog (.loop y178) (y17p ρ k 2 fun st K => ev (y174 k) (y17p ρ k) 2 y178 st K) :=
  loop_ok (ev_sound (y175 k) y178 2 (lpgood_none (by kernel_rfl))) y17b y17c k (g := fun p v next K => I_Layer_window_g1 k p v next (fun x => K (.exit 2) (y17g p x))) (dec_at y17f) (fun p v K K1 => y17q k p v K K1)
theorem y17s {ρ : Type} (k : Nat) (p : Int × Int × Int × Int × Int × Int × Int × Int × Int × Int × Int × List Int × List Int × Int × Int × Int × List Int) (v : Int × List Int) (K K1 : Ex → St → Option ρ) : ev (y174 k) (y17p ρ k) 0 y177 (y17l (p, v)) (fun e st' => match e with
    | .normal => (normC y17h y17i st').bind fun nf => K1 .normal (denorm y17h st'.n nf)
    | e => (normC (y17j e) (y17k e) st').bind fun nf => K e (denorm (y17j e) st'.n nf)) = I_Layer_window_g0 k p v (fun v' => K1 .normal (y17l (p, v'))) (fun x => K (.exit 0) (y17o p x)) := by kernel_rfl
theorem y17t {ρ : Type} (k : Nat) : Sound Tryz.prog (.loop y177) (y17p ρ k 0 fun st K => ev (y174 k) (y17p ρ k) 0 y177 st K) :=
  loop_ok (ev_sound (y175 k) y177 0 (lpgood_of (l := [(2, y178)]) (by kernel_rfl) ⟨y17r k, trivial⟩)) y17j y17k k (g := fun p v next K => I_Layer_window_g0 k p v next (fun x => K (.exit 0) (y17o p x))) (dec_at y17n) (fun p v K K1 => y17s k p v K K1)
def y17u (a : Layer × Tensor × Int × Int × Int) : List Arg := [.agg [.int .i64 a.1.kind, .int .i64 a.1.out, .int .i64 a.1.size, .int .i64 a.1.step, .int .i64 a.1.mult, .int .i64 a.1.shift, .int .i64 a.1.zero, .sl (.int .i64) a.1.weights, .sl (.int .i64) a.1.bias], .agg [.int .i64 a.2.1.sh.h, .int .i64 a.2.1.sh.w, .int .i64 a.2.1.sh.c, .sl (.int .i64) a.2.1.data], .one (.int .i64 a.2.2.1), .one (.int .i64 a.2.2.2.1), .one (.int .i64 a.2.2.2.2)]
def y17v (l : List Arg) : Option (Layer × Tensor × Int × Int × Int) := match l with
  | [.agg [.int .i64 b0_0, .int .i64 b0_1, .int .i64 b0_2, .int .i64 b0_3, .int .i64 b0_4, .int .i64 b0_5, .int .i64 b0_6, .sl (.int .i64) b0_7, .sl (.int .i64) b0_8], .agg [.int .i64 b1_0, .int .i64 b1_1, .int .i64 b1_2, .sl (.int .i64) b1_3], .one (.int .i64 b2), .one (.int .i64 b3), .one (.int .i64 b4)] => some ((⟨b0_0, b0_1, b0_2, b0_3, b0_4, b0_5, b0_6, b0_7, b0_8⟩ : Layer), (⟨(⟨b1_0, b1_1, b1_2⟩ : Shape), b1_3⟩ : Tensor), b2, b3, b4)
  | _ => none
def y17w (r : List Int) : Out := (.own 0, [.arr none (.int .i64) r])
def y17x (o : Out) : Option (List Int) := match o with
  | (.own 0, [.arr none (.int .i64) z1]) => some z1
  | _ => none
def y17y (k : Nat) : PG := fun _ l K => (y17v l).bind fun a => (I_Layer_window k a.1 a.2.1 a.2.2.1 a.2.2.2.1 a.2.2.2.2).bind fun r => K (y17w r)
theorem y17z (k : Nat) (a : Layer × Tensor × Int × Int × Int) : ev (y174 k) (y17p (List Int) k) 0 y176 (st0 Tryz.f101 (y17u a)) (fin Tryz.prog Tryz.f101 (.own (.int .i64)) y17x) = I_Layer_window k a.1 a.2.1 a.2.2.1 a.2.2.2.1 a.2.2.2.2 := by kernel_rfl
theorem y180 (k : Nat) : PureOk Tryz.prog 101 (y17y k) :=
  pureOk_of_ev (y175 k) Tryz.func101 (by kernel_rfl) (by kernel_rfl) y17u y17v
    (fun l a h => by unfold y17v at h; split at h <;> first | (cases h; rfl) | cases h) (fun a => rfl) (lpgood_of (l := [(0, y177)]) (by kernel_rfl) ⟨y17t k, trivial⟩)
    (fun o r h => by unfold y17x at h; split at h <;> first | (cases h; rfl) | cases h) (y17z k)
def y181 (k : Nat) : Orc := pureOrc [.agg [(.int .i64), (.int .i64), (.int .i64), (.int .i64), (.int .i64), (.int .i64), (.int .i64), (.sl (.int .i64)), (.sl (.int .i64))], .agg [(.int .i64), (.int .i64), (.int .i64), (.sl (.int .i64))], .one (.int .i64), .one (.int .i64), .one (.int .i64)] (y17y k)
theorem y182 (k : Nat) : OrcOk Tryz.prog 101 (y181 k) := pureOrc_ok (y180 k)
noncomputable def y183 (k : Nat) : Env := { P := Tryz.prog, tt := tt, orc := fun g => noOrc }
theorem y184 (k : Nat) : EnvOk (y183 k) := fun g => (noOrc_ok _ _)
noncomputable def y185 : Code := (Tryz.f102.body).getD .skip
noncomputable def y186 : Code := ((loopsIn 0 y185).getD 0 (0, .skip)).2
def y187 : List Nat := [0, 3, 4]
def y188 : List (Where × Co) := []
def y189 : Ex → List Nat
  | .exit j => cond (Nat.beq j 0) [3] []
  | .ret => []
  | .normal => []
def y18a : Ex → List (Where × Co)
  | .exit j => cond (Nat.beq j 0) [] []
  | .ret => []
  | .normal => []
def y18b (pv : (List Int) × (Int × Int)) : St := { slots := [(0, .r [] (.sl (.int .i64) pv.1)), (3, .r [] (.int .i64 pv.2.1)), (4, .r [] (.int .i64 pv.2.2))], heap := [], nid := 0, n := 25, gh := [] }
def y18c (nf : NF) : Option ((List Int) × (Int × Int)) := match nf with
  | ([.r [] (.sl (.int .i64) w0), .r [] (.int .i64 w1), .r [] (.int .i64 w2)], [], []) => some (w0, (w1, w2))
  | _ => none
theorem y18d (nf : NF) (v : (List Int) × (Int × Int)) (h : y18c nf = some v) : denorm y187 25 nf = y18b v := by
  unfold y18c at h
  split at h
  · cases h; rfl
  · cases h
def y18e (p : List Int) (x : Int) : St := { slots := [(3, .r [] (.int .i64 x))], heap := [], nid := 0, n := 25, gh := [] }
def y18f (ρ : Type) (k : Nat) : Nat → Ev ρ → Ev ρ := fun id f => cond (Nat.beq id 0) (loopOrc y187 y188 (fun n nf => cond (Nat.beq n 25) (y18c nf) none) fun pv K => iter (fun v next => slices_Max_lint_int_g0 k pv.1 v next (fun x => K (.exit 0) (y18e pv.1 x))) k pv.2) ((fun _ _ _ _ => none) id f)
theorem y18g {ρ : Type} (k : Nat) (p : List Int) (v : Int × Int) (K K1 : Ex → St → Option ρ) : ev (y183 k) (y18f ρ k) 0 y186 (y18b (p, v)) (fun e st' => match e with
    | .normal => (normC y187 y188 st').bind fun nf => K1 .normal (denorm y187 st'.n nf)
    | e => (normC (y189 e) (y18a e) st').bind fun nf => K e (denorm (y189 e) st'.n nf)) = slices_Max_lint_int_g0 k p v (fun v' => K1 .normal (y18b (p, v'))) (fun x => K (.exit 0) (y18e p x)) := by kernel_rfl
theorem y18h {ρ : Type} (k : Nat) : Sound Tryz.prog (.loop y186) (y18f ρ k 0 fun st K => ev (y183 k) (y18f ρ k) 0 y186 st K) :=
  loop_ok (ev_sound (y184 k) y186 0 (lpgood_none (by kernel_rfl))) y189 y18a k (g := fun p v next K => slices_Max_lint_int_g0 k p v next (fun x => K (.exit 0) (y18e p x))) (dec_at y18d) (fun p v K K1 => y18g k p v K K1)
def y18i (a : List Int) : List Arg := [.one (.sl (.int .i64) a)]
def y18j (l : List Arg) : Option (List Int) := match l with
  | [.one (.sl (.int .i64) b0)] => some b0
  | _ => none
def y18k (r : Int) : Out := (.r [] (.int .i64 r), [])
def y18l (o : Out) : Option (Int) := match o with
  | (.r [] (.int .i64 z1), []) => some z1
  | _ => none
def y18m (k : Nat) : PG := fun _ l K => (y18j l).bind fun a => (slices_Max_lint_int k a).bind fun r => K (y18k r)
theorem y18n (k : Nat) (a : List Int) : ev (y183 k) (y18f (Int) k) 0 y185 (st0 Tryz.f102 (y18i a)) (fin Tryz.prog Tryz.f102 (.sc) y18l) = slices_Max_lint_int k a := by kernel_rfl
theorem y18o (k : Nat) : PureOk Tryz.prog 102 (y18m k) :=
  pureOk_of_ev (y184 k) Tryz.func102 (by kernel_rfl) (by kernel_rfl) y18i y18j
    (fun l a h => by unfold y18j at h; split at h <;> first | (cases h; rfl) | cases h) (fun a => rfl) (lpgood_of (l := [(0, y186)]) (by kernel_rfl) ⟨y18h k, trivial⟩)
    (fun o r h => by unfold y18l at h; split at h <;> first | (cases h; rfl) | cases h) (y18n k)
def y18p (k : Nat) : Orc := pureOrc [.one (.sl (.int .i64))] (y18m k)
theorem y18q (k : Nat) : OrcOk Tryz.prog 102 (y18p k) := pureOrc_ok (y18o k)
noncomputable def y18r (k : Nat) : Env := { P := Tryz.prog, tt := tt, orc := fun g => cond (Nat.beq g 100) (y16p k) (cond (Nat.beq g 101) (y181 k) (cond (Nat.beq g 102) (y18p k) (cond (Nat.beq g 103) (y15m k) (cond (Nat.beq g 104) (y172 k) (noOrc))))) }
theorem y18s (k : Nat) : EnvOk (y18r k) := fun g => (orc_cond (y16q k) (orc_cond (y182 k) (orc_cond (y18q k) (orc_cond (y15n k) (orc_cond (y173 k) (noOrc_ok _ _))))))
noncomputable def y18t : Code := (Tryz.f84.body).getD .skip
noncomputable def y18u : Code := ((loopsIn 0 y18t).getD 0 (0, .skip)).2
def y18v : List Nat := [5, 11, 49, 50, 51]
def y18w : List (Where × Co) := []
def y18x : Ex → List Nat
  | .exit j => cond (Nat.beq j 1) [5, 11] []
  | .ret => []
  | .normal => []
def y18y : Ex → List (Where × Co)
  | .exit j => cond (Nat.beq j 1) [] []
  | .ret => []
  | .normal => []
def y18z (pv : (Int × Int × Int × Int × Int × Int × Int × Int × List Int × List Int × List Int) × (Int × Int)) : St := { slots := [(5, .ptr 0 0 0), (11, .r [] (.int .i64 pv.2.1)), (49, .own 1), (50, .r [] (.int .i64 pv.1.1)), (51, .r [] (.int .i64 pv.2.2))], heap := [(0, .box [.r [] (.int .i64 pv.1.2.1), .r [] (.int .i64 pv.1.2.2.1), .r [] (.int .i64 pv.1.2.2.2.1), .r [] (.int .i64 pv.1.2.2.2.2.1), .r [] (.int .i64 pv.1.2.2.2.2.2.1), .r [] (.int .i64 pv.1.2.2.2.2.2.2.1), .r [] (.int .i64 pv.1.2.2.2.2.2.2.2.1), .r [] (.sl (.int .i64) pv.1.2.2.2.2.2.2.2.2.1), .r [] (.sl (.int .i64) pv.1.2.2.2.2.2.2.2.2.2.1)]), (1, .arr none (.int .i64) pv.1.2.2.2.2.2.2.2.2.2.2)], nid := 2, n := 86, gh := [] }
def y190 (nf : NF) : Option ((Int × Int × Int × Int × Int × Int × Int × Int × List Int × List Int × List Int) × (Int × Int)) := match nf with
  | ([.ptr 0 0 0, .r [] (.int .i64 w0), .own 1, .r [] (.int .i64 w1), .r [] (.int .i64 w2)], [.box [.r [] (.int .i64 w3), .r [] (.int .i64 w4), .r [] (.int .i64 w5), .r [] (.int .i64 w6), .r [] (.int .i64 w7), .r [] (.int .i64 w8), .r [] (.int .i64 w9), .r [] (.sl (.int .i64) w10), .r [] (.sl (.int .i64) w11)], .arr none (.int .i64) w12], []) => some ((w1, w3, w4, w5, w6, w7, w8, w9, w10, w11, w12), (w0, w2))
  | _ => none
theorem y191 (nf : NF) (v : (Int × Int × Int × Int × Int × Int × Int × Int × List Int × List Int × List Int) × (Int × Int)) (h : y190 nf = some v) : denorm y18v 86 nf = y18z v := by
  unfold y190 at h
  split at h
  · cases h; rfl
  · cases h
def y192 (p : Int × Int × Int × Int × Int × Int × Int × Int × List Int × List Int × List Int) (x : Int) : St := { slots := [(5, .ptr 0 0 0), (11, .r [] (.int .i64 x))], heap := [(0, .box [.r [] (.int .i64 p.2.1), .r [] (.int .i64 p.2.2.1), .r [] (.int .i64 p.2.2.2.1), .r [] (.int .i64 p.2.2.2.2.1), .r [] (.int .i64 p.2.2.2.2.2.1), .r [] (.int .i64 p.2.2.2.2.2.2.1), .r [] (.int .i64 p.2.2.2.2.2.2.2.1), .r [] (.sl (.int .i64) p.2.2.2.2.2.2.2.2.1), .r [] (.sl (.int .i64) p.2.2.2.2.2.2.2.2.2.1)])], nid := 1, n := 86, gh := [] }
def y193 (ρ : Type) (k : Nat) : Nat → Ev ρ → Ev ρ := fun id f => cond (Nat.beq id 1) (loopOrc y18v y18w (fun n nf => cond (Nat.beq n 86) (y190 nf) none) fun pv K => iter (fun v next => I_Layer_item_g0 k pv.1 v next (fun x => K (.exit 1) (y192 pv.1 x))) k pv.2) ((fun _ _ _ _ => none) id f)
theorem y194 {ρ : Type} (k : Nat) (p : Int × Int × Int × Int × Int × Int × Int × Int × List Int × List Int × List Int) (v : Int × Int) (K K1 : Ex → St → Option ρ) : ev (y18r k) (y193 ρ k) 1 y18u (y18z (p, v)) (fun e st' => match e with
    | .normal => (normC y18v y18w st').bind fun nf => K1 .normal (denorm y18v st'.n nf)
    | e => (normC (y18x e) (y18y e) st').bind fun nf => K e (denorm (y18x e) st'.n nf)) = I_Layer_item_g0 k p v (fun v' => K1 .normal (y18z (p, v'))) (fun x => K (.exit 1) (y192 p x)) := by kernel_rfl
theorem y195 {ρ : Type} (k : Nat) : Sound Tryz.prog (.loop y18u) (y193 ρ k 1 fun st K => ev (y18r k) (y193 ρ k) 1 y18u st K) :=
  loop_ok (ev_sound (y18s k) y18u 1 (lpgood_none (by kernel_rfl))) y18x y18y k (g := fun p v next K => I_Layer_item_g0 k p v next (fun x => K (.exit 1) (y192 p x))) (dec_at y191) (fun p v K K1 => y194 k p v K K1)
def y196 (a : Layer × Tensor × Int × Int × Int) : List Arg := [.agg [.int .i64 a.1.kind, .int .i64 a.1.out, .int .i64 a.1.size, .int .i64 a.1.step, .int .i64 a.1.mult, .int .i64 a.1.shift, .int .i64 a.1.zero, .sl (.int .i64) a.1.weights, .sl (.int .i64) a.1.bias], .agg [.int .i64 a.2.1.sh.h, .int .i64 a.2.1.sh.w, .int .i64 a.2.1.sh.c, .sl (.int .i64) a.2.1.data], .one (.int .i64 a.2.2.1), .one (.int .i64 a.2.2.2.1), .one (.int .i64 a.2.2.2.2)]
def y197 (l : List Arg) : Option (Layer × Tensor × Int × Int × Int) := match l with
  | [.agg [.int .i64 b0_0, .int .i64 b0_1, .int .i64 b0_2, .int .i64 b0_3, .int .i64 b0_4, .int .i64 b0_5, .int .i64 b0_6, .sl (.int .i64) b0_7, .sl (.int .i64) b0_8], .agg [.int .i64 b1_0, .int .i64 b1_1, .int .i64 b1_2, .sl (.int .i64) b1_3], .one (.int .i64 b2), .one (.int .i64 b3), .one (.int .i64 b4)] => some ((⟨b0_0, b0_1, b0_2, b0_3, b0_4, b0_5, b0_6, b0_7, b0_8⟩ : Layer), (⟨(⟨b1_0, b1_1, b1_2⟩ : Shape), b1_3⟩ : Tensor), b2, b3, b4)
  | _ => none
def y198 (r : Int) : Out := (.r [] (.int .i64 r), [])
def y199 (o : Out) : Option (Int) := match o with
  | (.r [] (.int .i64 z1), []) => some z1
  | _ => none
def y19a (k : Nat) : PG := fun _ l K => (y197 l).bind fun a => (I_Layer_item k a.1 a.2.1 a.2.2.1 a.2.2.2.1 a.2.2.2.2).bind fun r => K (y198 r)
theorem y19b (k : Nat) (a : Layer × Tensor × Int × Int × Int) : ev (y18r k) (y193 (Int) k) 0 y18t (st0 Tryz.f84 (y196 a)) (fin Tryz.prog Tryz.f84 (.sc) y199) = I_Layer_item k a.1 a.2.1 a.2.2.1 a.2.2.2.1 a.2.2.2.2 := by kernel_rfl
theorem y19c (k : Nat) : PureOk Tryz.prog 84 (y19a k) :=
  pureOk_of_ev (y18s k) Tryz.func84 (by kernel_rfl) (by kernel_rfl) y196 y197
    (fun l a h => by unfold y197 at h; split at h <;> first | (cases h; rfl) | cases h) (fun a => rfl) (lpgood_of (l := [(1, y18u)]) (by kernel_rfl) ⟨y195 k, trivial⟩)
    (fun o r h => by unfold y199 at h; split at h <;> first | (cases h; rfl) | cases h) (y19b k)
def y19d (k : Nat) : Orc := pureOrc [.agg [(.int .i64), (.int .i64), (.int .i64), (.int .i64), (.int .i64), (.int .i64), (.int .i64), (.sl (.int .i64)), (.sl (.int .i64))], .agg [(.int .i64), (.int .i64), (.int .i64), (.sl (.int .i64))], .one (.int .i64), .one (.int .i64), .one (.int .i64)] (y19a k)
theorem y19e (k : Nat) : OrcOk Tryz.prog 84 (y19d k) := pureOrc_ok (y19c k)
noncomputable def y19f (k : Nat) : Env := { P := Tryz.prog, tt := tt, orc := fun g => cond (Nat.beq g 54) (yyx k) (cond (Nat.beq g 83) (yxi k) (cond (Nat.beq g 84) (y19d k) (noOrc))) }
theorem y19g (k : Nat) : EnvOk (y19f k) := fun g => (orc_cond (yyy k) (orc_cond (yxj k) (orc_cond (y19e k) (noOrc_ok _ _))))
noncomputable def y19h : Code := (Tryz.f60.body).getD .skip
noncomputable def y19i : Code := ((loopsIn 0 y19h).getD 0 (0, .skip)).2
noncomputable def y19j : Code := ((loopsIn 0 y19i).getD 0 (0, .skip)).2
noncomputable def y19k : Code := ((loopsIn 2 y19j).getD 0 (0, .skip)).2
def y19l : List Nat := [2, 3, 4, 6, 8, 9, 10, 30, 31, 35, 36, 40, 41]
def y19m : List (Where × Co) := []
def y19n : Ex → List Nat
  | .exit j => cond (Nat.beq j 4) [2, 3, 4, 6, 8, 9, 30, 31, 35, 36] []
  | .ret => []
  | .normal => []
def y19o : Ex → List (Where × Co)
  | .exit j => cond (Nat.beq j 4) [] []
  | .ret => []
  | .normal => []
def y19p (pv : (Int × Int × Int × Int × Int × Int × Int × Int × Int × Int × List Int × Int × Int × Int × Int × Int × Int × Int × List Int × List Int × Int × Int × Int × Int × Int × Int × Int × Int × Int) × (Int × List Int)) : St := { slots := [(2, .ptr 0 0 0), (3, .ptr 1 0 0), (4, .ptr 2 0 0), (6, .ptr 3 0 0), (8, .ptr 4 0 0), (9, .r [] (.int .i64 pv.1.1)), (10, .r [] (.int .i64 pv.1.2.1)), (30, .r [] (.int .i64 pv.1.2.2.1)), (31, .r [] (.int .i64 pv.1.2.2.2.1)), (35, .r [] (.int .i64 pv.1.2.2.2.2.1)), (36, .r [] (.int .i64 pv.1.2.2.2.2.2.1)), (40, .r [] (.int .i64 pv.1.2.2.2.2.2.2.1)), (41, .r [] (.int .i64 pv.2.1))], heap := [(0, .box [.r [] (.int .i64 pv.1.2.2.2.2.2.2.2.1), .r [] (.int .i64 pv.1.2.2.2.2.2.2.2.2.1), .r [] (.int .i64 pv.1.2.2.2.2.2.2.2.2.2.1), .r [] (.sl (.int .i64) pv.1.2.2.2.2.2.2.2.2.2.2.1)]), (1, .box [.r [] (.int .i64 pv.1.2.2.2.2.2.2.2.2.2.2.2.1), .r [] (.int .i64 pv.1.2.2.2.2.2.2.2.2.2.2.2.2.1), .r [] (.int .i64 pv.1.2.2.2.2.2.2.2.2.2.2.2.2.2.1), .r [] (.int .i64 pv.1.2.2.2.2.2.2.2.2.2.2.2.2.2.2.1), .r [] (.int .i64 pv.1.2.2.2.2.2.2.2.2.2.2.2.2.2.2.2.1), .r [] (.int .i64 pv.1.2.2.2.2.2.2.2.2.2.2.2.2.2.2.2.2.1), .r [] (.int .i64 pv.1.2.2.2.2.2.2.2.2.2.2.2.2.2.2.2.2.2.1), .r [] (.sl (.int .i64) pv.1.2.2.2.2.2.2.2.2.2.2.2.2.2.2.2.2.2.2.1), .r [] (.sl (.int .i64) pv.1.2.2.2.2.2.2.2.2.2.2.2.2.2.2.2.2.2.2.2.1)]), (2, .box [.r [] (.int .i64 pv.1.2.2.2.2.2.2.2.2.2.2.2.2.2.2.2.2.2.2.2.2.1), .r [] (.int .i64 pv.1.2.2.2.2.2.2.2.2.2.2.2.2.2.2.2.2.2.2.2.2.2.1), .r [] (.int .i64 pv.1.2.2.2.2.2.2.2.2.2.2.2.2.2.2.2.2.2.2.2.2.2.2.1), .nilS]), (3, .box [.r [] (.int .i64 pv.1.2.2.2.2.2.2.2.2.2.2.2.2.2.2.2.2.2.2.2.2.2.2.2.1), .r [] (.int .i64 pv.1.2.2.2.2.2.2.2.2.2.2.2.2.2.2.2.2.2.2.2.2.2.2.2.2.1), .r [] (.int .i64 pv.1.2.2.2.2.2.2.2.2.2.2.2.2.2.2.2.2.2.2.2.2.2.2.2.2.2.1)]), (4, .box [.r [] (.int .i64 pv.1.2.2.2.2.2.2.2.2.2.2.2.2.2.2.2.2.2.2.2.2.2.2.2.2.2.2.1), .r [] (.int .i64 pv.1.2.2.2.2.2.2.2.2.2.2.2.2.2.2.2.2.2.2.2.2.2.2.2.2.2.2.2.1), .r [] (.int .i64 pv.1.2.2.2.2.2.2.2.2.2.2.2.2.2.2.2.2.2.2.2.2.2.2.2.2.2.2.2.2), .own 5]), (5, .arr none (.int .i64) pv.2.2)], nid := 6, n := 59, gh := [] }
def y19q (nf : NF) : Option ((Int × Int × Int × Int × Int × Int × Int × Int × Int × Int × List Int × Int × Int × Int × Int × Int × Int × Int × List Int × List Int × Int × Int × Int × Int × Int × Int × Int × Int × Int) × (Int × List Int)) := match nf with
  | ([.ptr 0 0 0, .ptr 1 0 0, .ptr 2 0 0, .ptr 3 0 0, .ptr 4 0 0, .r [] (.int .i64 w0), .r [] (.int .i64 w1), .r [] (.int .i64 w2), .r [] (.int .i64 w3), .r [] (.int .i64 w4), .r [] (.int .i64 w5), .r [] (.int .i64 w6), .r [] (.int .i64 w7)], [.box [.r [] (.int .i64 w8), .r [] (.int .i64 w9), .r [] (.int .i64 w10), .r [] (.sl (.int .i64) w11)], .box [.r [] (.int .i64 w12), .r [] (.int .i64 w13), .r [] (.int .i64 w14), .r [] (.int .i64 w15), .r [] (.int .i64 w16), .r [] (.int .i64 w17), .r [] (.int .i64 w18), .r [] (.sl (.int .i64) w19), .r [] (.sl (.int .i64) w20)], .box [.r [] (.int .i64 w21), .r [] (.int .i64 w22), .r [] (.int .i64 w23), .nilS], .box [.r [] (.int .i64 w24), .r [] (.int .i64 w25), .r [] (.int .i64 w26)], .box [.r [] (.int .i64 w27), .r [] (.int .i64 w28), .r [] (.int .i64 w29), .own 5], .arr none (.int .i64) w30], []) => some ((w0, w1, w2, w3, w4, w5, w6, w8, w9, w10, w11, w12, w13, w14, w15, w16, w17, w18, w19, w20, w21, w22, w23, w24, w25, w26, w27, w28, w29), (w7, w30))
  | _ => none
theorem y19r (nf : NF) (v : (Int × Int × Int × Int × Int × Int × Int × Int × Int × Int × List Int × Int × Int × Int × Int × Int × Int × Int × List Int × List Int × Int × Int × Int × Int × Int × Int × Int × Int × Int) × (Int × List Int)) (h : y19q nf = some v) : denorm y19l 59 nf = y19p v := by
  unfold y19q at h
  split at h
  · cases h; rfl
  · cases h
def y19s (p : Int × Int × Int × Int × Int × Int × Int × Int × Int × Int × List Int × Int × Int × Int × Int × Int × Int × Int × List Int × List Int × Int × Int × Int × Int × Int × Int × Int × Int × Int) (x : List Int) : St := { slots := [(2, .ptr 0 0 0), (3, .ptr 1 0 0), (4, .ptr 2 0 0), (6, .ptr 3 0 0), (8, .ptr 4 0 0), (9, .r [] (.int .i64 p.1)), (30, .r [] (.int .i64 p.2.2.1)), (31, .r [] (.int .i64 p.2.2.2.1)), (35, .r [] (.int .i64 p.2.2.2.2.1)), (36, .r [] (.int .i64 p.2.2.2.2.2.1))], heap := [(0, .box [.r [] (.int .i64 p.2.2.2.2.2.2.2.1), .r [] (.int .i64 p.2.2.2.2.2.2.2.2.1), .r [] (.int .i64 p.2.2.2.2.2.2.2.2.2.1), .r [] (.sl (.int .i64) p.2.2.2.2.2.2.2.2.2.2.1)]), (1, .box [.r [] (.int .i64 p.2.2.2.2.2.2.2.2.2.2.2.1), .r [] (.int .i64 p.2.2.2.2.2.2.2.2.2.2.2.2.1), .r [] (.int .i64 p.2.2.2.2.2.2.2.2.2.2.2.2.2.1), .r [] (.int .i64 p.2.2.2.2.2.2.2.2.2.2.2.2.2.2.1), .r [] (.int .i64 p.2.2.2.2.2.2.2.2.2.2.2.2.2.2.2.1), .r [] (.int .i64 p.2.2.2.2.2.2.2.2.2.2.2.2.2.2.2.2.1), .r [] (.int .i64 p.2.2.2.2.2.2.2.2.2.2.2.2.2.2.2.2.2.1), .r [] (.sl (.int .i64) p.2.2.2.2.2.2.2.2.2.2.2.2.2.2.2.2.2.2.1), .r [] (.sl (.int .i64) p.2.2.2.2.2.2.2.2.2.2.2.2.2.2.2.2.2.2.2.1)]), (2, .box [.r [] (.int .i64 p.2.2.2.2.2.2.2.2.2.2.2.2.2.2.2.2.2.2.2.2.1), .r [] (.int .i64 p.2.2.2.2.2.2.2.2.2.2.2.2.2.2.2.2.2.2.2.2.2.1), .r [] (.int .i64 p.2.2.2.2.2.2.2.2.2.2.2.2.2.2.2.2.2.2.2.2.2.2.1), .nilS]), (3, .box [.r [] (.int .i64 p.2.2.2.2.2.2.2.2.2.2.2.2.2.2.2.2.2.2.2.2.2.2.2.1), .r [] (.int .i64 p.2.2.2.2.2.2.2.2.2.2.2.2.2.2.2.2.2.2.2.2.2.2.2.2.1), .r [] (.int .i64 p.2.2.2.2.2.2.2.2.2.2.2.2.2.2.2.2.2.2.2.2.2.2.2.2.2.1)]), (4, .box [.r [] (.int .i64 p.2.2.2.2.2.2.2.2.2.2.2.2.2.2.2.2.2.2.2.2.2.2.2.2.2.2.1), .r [] (.int .i64 p.2.2.2.2.2.2.2.2.2.2.2.2.2.2.2.2.2.2.2.2.2.2.2.2.2.2.2.1), .r [] (.int .i64 p.2.2.2.2.2.2.2.2.2.2.2.2.2.2.2.2.2.2.2.2.2.2.2.2.2.2.2.2), .own 5]), (5, .arr none (.int .i64) x)], nid := 6, n := 59, gh := [] }
def y19t : List Nat := [2, 3, 4, 6, 8, 9, 30, 31, 35, 36]
def y19u : List (Where × Co) := []
def y19v : Ex → List Nat
  | .exit j => cond (Nat.beq j 2) [2, 3, 4, 6, 8, 30, 31] []
  | .ret => []
  | .normal => []
def y19w : Ex → List (Where × Co)
  | .exit j => cond (Nat.beq j 2) [] []
  | .ret => []
  | .normal => []
def y19x (pv : (Int × Int × Int × Int × Int × Int × Int × List Int × Int × Int × Int × Int × Int × Int × Int × List Int × List Int × Int × Int × Int × Int × Int × Int × Int × Int × Int) × (Int × List Int)) : St := { slots := [(2, .ptr 0 0 0), (3, .ptr 1 0 0), (4, .ptr 2 0 0), (6, .ptr 3 0 0), (8, .ptr 4 0 0), (9, .r [] (.int .i64 pv.1.1)), (30, .r [] (.int .i64 pv.1.2.1)), (31, .r [] (.int .i64 pv.1.2.2.1)), (35, .r [] (.int .i64 pv.1.2.2.2.1)), (36, .r [] (.int .i64 pv.2.1))], heap := [(0, .box [.r [] (.int .i64 pv.1.2.2.2.2.1), .r [] (.int .i64 pv.1.2.2.2.2.2.1), .r [] (.int .i64 pv.1.2.2.2.2.2.2.1), .r [] (.sl (.int .i64) pv.1.2.2.2.2.2.2.2.1)]), (1, .box [.r [] (.int .i64 pv.1.2.2.2.2.2.2.2.2.1), .r [] (.int .i64 pv.1.2.2.2.2.2.2.2.2.2.1), .r [] (.int .i64 pv.1.2.2.2.2.2.2.2.2.2.2.1), .r [] (.int .i64 pv.1.2.2.2.2.2.2.2.2.2.2.2.1), .r [] (.int .i64 pv.1.2.2.2.2.2.2.2.2.2.2.2.2.1), .r [] (.int .i64 pv.1.2.2.2.2.2.2.2.2.2.2.2.2.2.1), .r [] (.int .i64 pv.1.2.2.2.2.2.2.2.2.2.2.2.2.2.2.1), .r [] (.sl (.int .i64) pv.1.2.2.2.2.2.2.2.2.2.2.2.2.2.2.2.1), .r [] (.sl (.int .i64) pv.1.2.2.2.2.2.2.2.2.2.2.2.2.2.2.2.2.1)]), (2, .box [.r [] (.int .i64 pv.1.2.2.2.2.2.2.2.2.2.2.2.2.2.2.2.2.2.1), .r [] (.int .i64 pv.1.2.2.2.2.2.2.2.2.2.2.2.2.2.2.2.2.2.2.1), .r [] (.int .i64 pv.1.2.2.2.2.2.2.2.2.2.2.2.2.2.2.2.2.2.2.2.1), .nilS]), (3, .box [.r [] (.int .i64 pv.1.2.2.2.2.2.2.2.2.2.2.2.2.2.2.2.2.2.2.2.2.1), .r [] (.int .i64 pv.1.2.2.2.2.2.2.2.2.2.2.2.2.2.2.2.2.2.2.2.2.2.1), .r [] (.int .i64 pv.1.2.2.2.2.2.2.2.2.2.2.2.2.2.2.2.2.2.2.2.2.2.2.1)]), (4, .box [.r [] (.int .i64 pv.1.2.2.2.2.2.2.2.2.2.2.2.2.2.2.2.2.2.2.2.2.2.2.2.1), .r [] (.int .i64 pv.1.2.2.2.2.2.2.2.2.2.2.2.2.2.2.2.2.2.2.2.2.2.2.2.2.1), .r [] (.int .i64 pv.1.2.2.2.2.2.2.2.2.2.2.2.2.2.2.2.2.2.2.2.2.2.2.2.2.2), .own 5]), (5, .arr none (.int .i64) pv.2.2)], nid := 6, n := 59, gh := [] }
def y19y (nf : NF) : Option ((Int × Int × Int × Int × Int × Int × Int × List Int × Int × Int × Int × Int × Int × Int × Int × List Int × List Int × Int × Int × Int × Int × Int × Int × Int × Int × Int) × (Int × List Int)) := match nf with
  | ([.ptr 0 0 0, .ptr 1 0 0, .ptr 2 0 0, .ptr 3 0 0, .ptr 4 0 0, .r [] (.int .i64 w0), .r [] (.int .i64 w1), .r [] (.int .i64 w2), .r [] (.int .i64 w3), .r [] (.int .i64 w4)], [.box [.r [] (.int .i64 w5), .r [] (.int .i64 w6), .r [] (.int .i64 w7), .r [] (.sl (.int .i64) w8)], .box [.r [] (.int .i64 w9), .r [] (.int .i64 w10), .r [] (.int .i64 w11), .r [] (.int .i64 w12), .r [] (.int .i64 w13), .r [] (.int .i64 w14), .r [] (.int .i64 w15), .r [] (.sl (.int .i64) w16), .r [] (.sl (.int .i64) w17)], .box [.r [] (.int .i64 w18), .r [] (.int .i64 w19), .r [] (.int .i64 w20), .nilS], .box [.r [] (.int .i64 w21), .r [] (.int .i64 w22), .r [] (.int .i64 w23)], .box [.r [] (.int .i64 w24), .r [] (.int .i64 w25), .r [] (.int .i64 w26), .own 5], .arr none (.int .i64) w27], []) => some ((w0, w1, w2, w3, w5, w6, w7, w8, w9, w10, w11, w12, w13, w14, w15, w16, w17, w18, w19, w20, w21, w22, w23, w24, w25, w26), (w4, w27))
  | _ => none
theorem y19z (nf : NF) (v : (Int × Int × Int × Int × Int × Int × Int × List Int × Int × Int × Int × Int × Int × Int × Int × List Int × List Int × Int × Int × Int × Int × Int × Int × Int × Int × Int) × (Int × List Int)) (h : y19y nf = some v) : denorm y19t 59 nf = y19x v := by
  unfold y19y at h
  split at h
  · cases h; rfl
  · cases h
def y1a0 (p : Int × Int × Int × Int × Int × Int × Int × List Int × Int × Int × Int × Int × Int × Int × Int × List Int × List Int × Int × Int × Int × Int × Int × Int × Int × Int × Int) (x : List Int) : St := { slots := [(2, .ptr 0 0 0), (3, .ptr 1 0 0), (4, .ptr 2 0 0), (6, .ptr 3 0 0), (8, .ptr 4 0 0), (30, .r [] (.int .i64 p.2.1)), (31, .r [] (.int .i64 p.2.2.1))], heap := [(0, .box [.r [] (.int .i64 p.2.2.2.2.1), .r [] (.int .i64 p.2.2.2.2.2.1), .r [] (.int .i64 p.2.2.2.2.2.2.1), .r [] (.sl (.int .i64) p.2.2.2.2.2.2.2.1)]), (1, .box [.r [] (.int .i64 p.2.2.2.2.2.2.2.2.1), .r [] (.int .i64 p.2.2.2.2.2.2.2.2.2.1), .r [] (.int .i64 p.2.2.2.2.2.2.2.2.2.2.1), .r [] (.int .i64 p.2.2.2.2.2.2.2.2.2.2.2.1), .r [] (.int .i64 p.2.2.2.2.2.2.2.2.2.2.2.2.1), .r [] (.int .i64 p.2.2.2.2.2.2.2.2.2.2.2.2.2.1), .r [] (.int .i64 p.2.2.2.2.2.2.2.2.2.2.2.2.2.2.1), .r [] (.sl (.int .i64) p.2.2.2.2.2.2.2.2.2.2.2.2.2.2.2.1), .r [] (.sl (.int .i64) p.2.2.2.2.2.2.2.2.2.2.2.2.2.2.2.2.1)]), (2, .box [.r [] (.int .i64 p.2.2.2.2.2.2.2.2.2.2.2.2.2.2.2.2.2.1), .r [] (.int .i64 p.2.2.2.2.2.2.2.2.2.2.2.2.2.2.2.2.2.2.1), .r [] (.int .i64 p.2.2.2.2.2.2.2.2.2.2.2.2.2.2.2.2.2.2.2.1), .nilS]), (3, .box [.r [] (.int .i64 p.2.2.2.2.2.2.2.2.2.2.2.2.2.2.2.2.2.2.2.2.1), .r [] (.int .i64 p.2.2.2.2.2.2.2.2.2.2.2.2.2.2.2.2.2.2.2.2.2.1), .r [] (.int .i64 p.2.2.2.2.2.2.2.2.2.2.2.2.2.2.2.2.2.2.2.2.2.2.1)]), (4, .box [.r [] (.int .i64 p.2.2.2.2.2.2.2.2.2.2.2.2.2.2.2.2.2.2.2.2.2.2.2.1), .r [] (.int .i64 p.2.2.2.2.2.2.2.2.2.2.2.2.2.2.2.2.2.2.2.2.2.2.2.2.1), .r [] (.int .i64 p.2.2.2.2.2.2.2.2.2.2.2.2.2.2.2.2.2.2.2.2.2.2.2.2.2), .own 5]), (5, .arr none (.int .i64) x)], nid := 6, n := 59, gh := [] }
def y1a1 : List Nat := [2, 3, 4, 6, 8, 30, 31]
def y1a2 : List (Where × Co) := [((.pbox 8 3), (.nilOwn false (.int .i64)))]
def y1a3 : Ex → List Nat
  | .exit j => cond (Nat.beq j 0) [4, 8] []
  | .ret => []
  | .normal => []
def y1a4 : Ex → List (Where × Co)
  | .exit j => cond (Nat.beq j 0) [] []
  | .ret => []
  | .normal => []
def y1a5 (pv : (Int × Int × Int × Int × List Int × Int × Int × Int × Int × Int × Int × Int × List Int × List Int × Int × Int × Int × Int × Int × Int × Int × Int × Int) × (Int × List Int)) : St := { slots := [(2, .ptr 0 0 0), (3, .ptr 1 0 0), (4, .ptr 2 0 0), (6, .ptr 3 0 0), (8, .ptr 4 0 0), (30, .r [] (.int .i64 pv.1.1)), (31, .r [] (.int .i64 pv.2.1))], heap := [(0, .box [.r [] (.int .i64 pv.1.2.1), .r [] (.int .i64 pv.1.2.2.1), .r [] (.int .i64 pv.1.2.2.2.1), .r [] (.sl (.int .i64) pv.1.2.2.2.2.1)]), (1, .box [.r [] (.int .i64 pv.1.2.2.2.2.2.1), .r [] (.int .i64 pv.1.2.2.2.2.2.2.1), .r [] (.int .i64 pv.1.2.2.2.2.2.2.2.1), .r [] (.int .i64 pv.1.2.2.2.2.2.2.2.2.1), .r [] (.int .i64 pv.1.2.2.2.2.2.2.2.2.2.1), .r [] (.int .i64 pv.1.2.2.2.2.2.2.2.2.2.2.1), .r [] (.int .i64 pv.1.2.2.2.2.2.2.2.2.2.2.2.1), .r [] (.sl (.int .i64) pv.1.2.2.2.2.2.2.2.2.2.2.2.2.1), .r [] (.sl (.int .i64) pv.1.2.2.2.2.2.2.2.2.2.2.2.2.2.1)]), (2, .box [.r [] (.int .i64 pv.1.2.2.2.2.2.2.2.2.2.2.2.2.2.2.1), .r [] (.int .i64 pv.1.2.2.2.2.2.2.2.2.2.2.2.2.2.2.2.1), .r [] (.int .i64 pv.1.2.2.2.2.2.2.2.2.2.2.2.2.2.2.2.2.1), .nilS]), (3, .box [.r [] (.int .i64 pv.1.2.2.2.2.2.2.2.2.2.2.2.2.2.2.2.2.2.1), .r [] (.int .i64 pv.1.2.2.2.2.2.2.2.2.2.2.2.2.2.2.2.2.2.2.1), .r [] (.int .i64 pv.1.2.2.2.2.2.2.2.2.2.2.2.2.2.2.2.2.2.2.2.1)]), (4, .box [.r [] (.int .i64 pv.1.2.2.2.2.2.2.2.2.2.2.2.2.2.2.2.2.2.2.2.2.1), .r [] (.int .i64 pv.1.2.2.2.2.2.2.2.2.2.2.2.2.2.2.2.2.2.2.2.2.2.1), .r [] (.int .i64 pv.1.2.2.2.2.2.2.2.2.2.2.2.2.2.2.2.2.2.2.2.2.2.2), .own 5]), (5, .arr none (.int .i64) pv.2.2)], nid := 6, n := 59, gh := [] }
def y1a6 (nf : NF) : Option ((Int × Int × Int × Int × List Int × Int × Int × Int × Int × Int × Int × Int × List Int × List Int × Int × Int × Int × Int × Int × Int × Int × Int × Int) × (Int × List Int)) := match nf with
  | ([.ptr 0 0 0, .ptr 1 0 0, .ptr 2 0 0, .ptr 3 0 0, .ptr 4 0 0, .r [] (.int .i64 w0), .r [] (.int .i64 w1)], [.box [.r [] (.int .i64 w2), .r [] (.int .i64 w3), .r [] (.int .i64 w4), .r [] (.sl (.int .i64) w5)], .box [.r [] (.int .i64 w6), .r [] (.int .i64 w7), .r [] (.int .i64 w8), .r [] (.int .i64 w9), .r [] (.int .i64 w10), .r [] (.int .i64 w11), .r [] (.int .i64 w12), .r [] (.sl (.int .i64) w13), .r [] (.sl (.int .i64) w14)], .box [.r [] (.int .i64 w15), .r [] (.int .i64 w16), .r [] (.int .i64 w17), .nilS], .box [.r [] (.int .i64 w18), .r [] (.int .i64 w19), .r [] (.int .i64 w20)], .box [.r [] (.int .i64 w21), .r [] (.int .i64 w22), .r [] (.int .i64 w23), .own 5], .arr none (.int .i64) w24], []) => some ((w0, w2, w3, w4, w5, w6, w7, w8, w9, w10, w11, w12, w13, w14, w15, w16, w17, w18, w19, w20, w21, w22, w23), (w1, w24))
  | _ => none
theorem y1a7 (nf : NF) (v : (Int × Int × Int × Int × List Int × Int × Int × Int × Int × Int × Int × Int × List Int × List Int × Int × Int × Int × Int × Int × Int × Int × Int × Int) × (Int × List Int)) (h : y1a6 nf = some v) : denorm y1a1 59 nf = y1a5 v := by
  unfold y1a6 at h
  split at h
  · cases h; rfl
  · cases h
def y1a8 (p : Int × Int × Int × Int × List Int × Int × Int × Int × Int × Int × Int × Int × List Int × List Int × Int × Int × Int × Int × Int × Int × Int × Int × Int) (x : List Int) : St := { slots := [(4, .ptr 0 0 0), (8, .ptr 1 0 0)], heap := [(0, .box [.r [] (.int .i64 p.2.2.2.2.2.2.2.2.2.2.2.2.2.2.1), .r [] (.int .i64 p.2.2.2.2.2.2.2.2.2.2.2.2.2.2.2.1), .r [] (.int .i64 p.2.2.2.2.2.2.2.2.2.2.2.2.2.2.2.2.1), .nilS]), (1, .box [.r [] (.int .i64 p.2.2.2.2.2.2.2.2.2.2.2.2.2.2.2.2.2.2.2.2.1), .r [] (.int .i64 p.2.2.2.2.2.2.2.2.2.2.2.2.2.2.2.2.2.2.2.2.2.1), .r [] (.int .i64 p.2.2.2.2.2.2.2.2.2.2.2.2.2.2.2.2.2.2.2.2.2.2), .own 2]), (2, .arr none (.int .i64) x)], nid := 3, n := 59, gh := [] }
def y1a9 (ρ : Type) (k : Nat) : Nat → Ev ρ → Ev ρ := fun id f => cond (Nat.beq id 0) (loopOrc y1a1 y1a2 (fun n nf => cond (Nat.beq n 59) (y1a6 nf) none) fun pv K => iter (fun v next => I_RunLayer_g0 k pv.1 v next (fun x => K (.exit 0) (y1a8 pv.1 x))) k pv.2) ((fun id f => cond (Nat.beq id 2) (loopOrc y19t y19u (fun n nf => cond (Nat.beq n 59) (y19y nf) none) fun pv K => iter (fun v next => I_RunLayer_g1 k pv.1 v next (fun x => K (.exit 2) (y1a0 pv.1 x))) k pv.2) ((fun id f => cond (Nat.beq id 4) (loopOrc y19l y19m (fun n nf => cond (Nat.beq n 59) (y19q nf) none) fun pv K => iter (fun v next => I_RunLayer_g2 k pv.1 v next (fun x => K (.exit 4) (y19s pv.1 x))) k pv.2) ((fun _ _ _ _ => none) id f)) id f)) id f)
theorem y1aa {ρ : Type} (k : Nat) (p : Int × Int × Int × Int × Int × Int × Int × Int × Int × Int × List Int × Int × Int × Int × Int × Int × Int × Int × List Int × List Int × Int × Int × Int × Int × Int × Int × Int × Int × Int) (v : Int × List Int) (K K1 : Ex → St → Option ρ) : ev (y19f k) (y1a9 ρ k) 4 y19k (y19p (p, v)) (fun e st' => match e with
    | .normal => (normC y19l y19m st').bind fun nf => K1 .normal (denorm y19l st'.n nf)
    | e => (normC (y19n e) (y19o e) st').bind fun nf => K e (denorm (y19n e) st'.n nf)) = I_RunLayer_g2 k p v (fun v' => K1 .normal (y19p (p, v'))) (fun x => K (.exit 4) (y19s p x)) := by kernel_rfl
theorem y1ab {ρ : Type} (k : Nat) : Sound Tryz.prog (.loop y19k) (y1a9 ρ k 4 fun st K => ev (y19f k) (y1a9 ρ k) 4 y19k st K) :=
  loop_ok (ev_sound (y19g k) y19k 4 (lpgood_none (by kernel_rfl))) y19n y19o k (g := fun p v next K => I_RunLayer_g2 k p v next (fun x => K (.exit 4) (y19s p x))) (dec_at y19r) (fun p v K K1 => y1aa k p v K K1)
theorem y1ac {ρ : Type} (k : Nat) (p : Int × Int × Int × Int × Int × Int × Int × List Int × Int × Int × Int × Int × Int × Int × Int × List Int × List Int × Int × Int × Int × Int × Int × Int × Int × Int × Int) (v : Int × List Int) (K K1 : Ex → St → Option ρ) : ev (y19f k) (y1a9 ρ k) 2 y19j (y19x (p, v)) (fun e st' => match e with
    | .normal => (normC y19t y19u st').bind fun nf => K1 .normal (denorm y19t st'.n nf)
    | e => (normC (y19v e) (y19w e) st').bind fun nf => K e (denorm (y19v e) st'.n nf)) = I_RunLayer_g1 k p v (fun v' => K1 .normal (y19x (p, v'))) (fun x => K (.exit 2) (y1a0 p x)) := by kernel_rfl
theorem y1ad {ρ : Type} (k : Nat) : Sound Tryz.prog (.loop y19j) (y1a9 ρ k 2 fun st K => ev (y19f k) (y1a9 ρ k) 2 y19j st K) :=
  loop_ok (ev_sound (y19g k) y19j 2 (lpgood_of (l := [(4, y19k)]) (by kernel_rfl) ⟨y1ab k, trivial⟩)) y19v y19w k (g := fun p v next K => I_RunLayer_g1 k p v next (fun x => K (.exit 2) (y1a0 p x))) (dec_at y19z) (fun p v K K1 => y1ac k p v K K1)
theorem y1ae {ρ : Type} (k : Nat) (p : Int × Int × Int × Int × List Int × Int × Int × Int × Int × Int × Int × Int × List Int × List Int × Int × Int × Int × Int × Int × Int × Int × Int × Int) (v : Int × List Int) (K K1 : Ex → St → Option ρ) : ev (y19f k) (y1a9 ρ k) 0 y19i (y1a5 (p, v)) (fun e st' => match e with
    | .normal => (normC y1a1 y1a2 st').bind fun nf => K1 .normal (denorm y1a1 st'.n nf)
    | e => (normC (y1a3 e) (y1a4 e) st').bind fun nf => K e (denorm (y1a3 e) st'.n nf)) = I_RunLayer_g0 k p v (fun v' => K1 .normal (y1a5 (p, v'))) (fun x => K (.exit 0) (y1a8 p x)) := by kernel_rfl
theorem y1af {ρ : Type} (k : Nat) : Sound Tryz.prog (.loop y19i) (y1a9 ρ k 0 fun st K => ev (y19f k) (y1a9 ρ k) 0 y19i st K) :=
  loop_ok (ev_sound (y19g k) y19i 0 (lpgood_of (l := [(2, y19j)]) (by kernel_rfl) ⟨y1ad k, trivial⟩)) y1a3 y1a4 k (g := fun p v next K => I_RunLayer_g0 k p v next (fun x => K (.exit 0) (y1a8 p x))) (dec_at y1a7) (fun p v K K1 => y1ae k p v K K1)
def y1ag (a : Tensor × Layer) : List Arg := [.agg [.int .i64 a.1.sh.h, .int .i64 a.1.sh.w, .int .i64 a.1.sh.c, .sl (.int .i64) a.1.data], .agg [.int .i64 a.2.kind, .int .i64 a.2.out, .int .i64 a.2.size, .int .i64 a.2.step, .int .i64 a.2.mult, .int .i64 a.2.shift, .int .i64 a.2.zero, .sl (.int .i64) a.2.weights, .sl (.int .i64) a.2.bias]]
def y1ah (l : List Arg) : Option (Tensor × Layer) := match l with
  | [.agg [.int .i64 b0_0, .int .i64 b0_1, .int .i64 b0_2, .sl (.int .i64) b0_3], .agg [.int .i64 b1_0, .int .i64 b1_1, .int .i64 b1_2, .int .i64 b1_3, .int .i64 b1_4, .int .i64 b1_5, .int .i64 b1_6, .sl (.int .i64) b1_7, .sl (.int .i64) b1_8]] => some ((⟨(⟨b0_0, b0_1, b0_2⟩ : Shape), b0_3⟩ : Tensor), (⟨b1_0, b1_1, b1_2, b1_3, b1_4, b1_5, b1_6, b1_7, b1_8⟩ : Layer))
  | _ => none
def y1ai (r : Tensor × Bool) : Out := (.tup [.agg [.r [] (.int .i64 r.1.sh.h), .r [] (.int .i64 r.1.sh.w), .r [] (.int .i64 r.1.sh.c), .own 0], .r [] (.bool r.2)], [.arr none (.int .i64) r.1.data])
def y1aj (o : Out) : Option (Tensor × Bool) := match o with
  | (.tup [.agg [.r [] (.int .i64 z1), .r [] (.int .i64 z2), .r [] (.int .i64 z3), .own 0], .r [] (.bool z5)], [.arr none (.int .i64) z4]) => some ((⟨(⟨z1, z2, z3⟩ : Shape), z4⟩ : Tensor), z5)
  | _ => none
def y1ak (k : Nat) : PG := fun _ l K => (y1ah l).bind fun a => (I_RunLayer k a.1 a.2).bind fun r => K (y1ai r)
theorem y1al (k : Nat) (a : Tensor × Layer) : ev (y19f k) (y1a9 (Tensor × Bool) k) 0 y19h (st0 Tryz.f60 (y1ag a)) (fin Tryz.prog Tryz.f60 (.tup [.agg [.sc, .sc, .sc, .own (.int .i64)], .sc]) y1aj) = I_RunLayer k a.1 a.2 := by kernel_rfl
theorem y1am (k : Nat) : PureOk Tryz.prog 60 (y1ak k) :=
  pureOk_of_ev (y19g k) Tryz.func60 (by kernel_rfl) (by kernel_rfl) y1ag y1ah
    (fun l a h => by unfold y1ah at h; split at h <;> first | (cases h; rfl) | cases h) (fun a => rfl) (lpgood_of (l := [(0, y19i)]) (by kernel_rfl) ⟨y1af k, trivial⟩)
    (fun o r h => by unfold y1aj at h; split at h <;> first | (cases h; rfl) | cases h) (y1al k)
def y1an (k : Nat) : Orc := pureOrc [.agg [(.int .i64), (.int .i64), (.int .i64), (.sl (.int .i64))], .agg [(.int .i64), (.int .i64), (.int .i64), (.int .i64), (.int .i64), (.int .i64), (.int .i64), (.sl (.int .i64)), (.sl (.int .i64))]] (y1ak k)
theorem y1ao (k : Nat) : OrcOk Tryz.prog 60 (y1an k) := pureOrc_ok (y1am k)
noncomputable def y1ap (k : Nat) : Env := { P := Tryz.prog, tt := tt, orc := fun g => cond (Nat.beq g 40) (y12f k) (cond (Nat.beq g 60) (y1an k) (noOrc)) }
theorem y1aq (k : Nat) : EnvOk (y1ap k) := fun g => (orc_cond (y12g k) (orc_cond (y1ao k) (noOrc_ok _ _)))
noncomputable def y1ar : Code := (Tryz.f30.body).getD .skip
def y1as (ρ : Type) (k : Nat) : Nat → Ev ρ → Ev ρ := fun _ _ _ _ => none
def y1at (a : Job) : List SV := [.ptr 0 0 0]
def y1au (a : Job) : List Blk := [.box [.r [] (.int .i64 a.model.inp.h), .r [] (.int .i64 a.model.inp.w), .r [] (.int .i64 a.model.inp.c), .own 1, .r [] (.int .i64 a.at_), .r [] (.int .i64 a.act.sh.h), .r [] (.int .i64 a.act.sh.w), .r [] (.int .i64 a.act.sh.c), .own 2, .r [] (.int .i64 a.spent)], .arr none (.st .layer) a.model.layers, .arr none (.int .i64) a.act.data]
def y1av (l : List SV) (b : List Blk) : Option (Job) := match l, b with
  | [.ptr 0 0 0], [.box [.r [] (.int .i64 w0), .r [] (.int .i64 w1), .r [] (.int .i64 w2), .own 1, .r [] (.int .i64 w3), .r [] (.int .i64 w4), .r [] (.int .i64 w5), .r [] (.int .i64 w6), .own 2, .r [] (.int .i64 w7)], .arr none (.st .layer) w8, .arr none (.int .i64) w9] => some (⟨(⟨(⟨w0, w1, w2⟩ : Shape), w8⟩ : Model), w3, (⟨(⟨w4, w5, w6⟩ : Shape), w9⟩ : Tensor), w7⟩ : Job)
  | _, _ => none
def y1aw (a : Job) (r : Int × Int × Int × Int × List Int × Int) : MOut := ⟨.tup [], [some (.box [.r [] (.int .i64 a.model.inp.h), .r [] (.int .i64 a.model.inp.w), .r [] (.int .i64 a.model.inp.c), .own 3, .r [] (.int .i64 r.1), .r [] (.int .i64 r.2.1), .r [] (.int .i64 r.2.2.1), .r [] (.int .i64 r.2.2.2.1), .own 4, .r [] (.int .i64 r.2.2.2.2.2)]), none, some (.arr none (.int .i64) a.act.data)], [.arr none (.st .layer) a.model.layers, .arr none (.int .i64) r.2.2.2.2.1]⟩
def y1ax (a : Job) (o : MOut) : Option (Int × Int × Int × Int × List Int × Int) := match o with
  | ⟨.tup [], [some (.box [.r [] (.int .i64 z1), .r [] (.int .i64 z2), .r [] (.int .i64 z3), .own 3, .r [] (.int .i64 z4), .r [] (.int .i64 z5), .r [] (.int .i64 z6), .r [] (.int .i64 z7), .own 4, .r [] (.int .i64 z8)]), none, some (.arr none (.int .i64) z9)], [.arr none (.st .layer) z10, .arr none (.int .i64) z11]⟩ => cond (@sameL Int _ z1 a.model.inp.h) (cond (@sameL Int _ z2 a.model.inp.w) (cond (@sameL Int _ z3 a.model.inp.c) (cond (@sameL (List Layer) _ z10 a.model.layers) (cond (@sameL (List Int) _ z9 a.act.data) (some (z4, z5, z6, z7, z11, z8)) none) none) none) none) none
  | _ => none
def y1ay (k : Nat) : MG := fun _ l b K => (y1av l b).bind fun a => (pI_Job_step_m k a).bind fun r => K (y1aw a r)
theorem y1az (k : Nat) (a : Job) : ev (y1ap k) (y1as (Int × Int × Int × Int × List Int × Int) k) 0 y1ar (st0M Tryz.f30 (y1at a) (y1au a)) (finM Tryz.prog Tryz.f30 (.tup []) [.box [.sc, .sc, .sc, .own (.st .layer), .sc, .sc, .sc, .sc, .own (.int .i64), .sc], .gone, .arr] (y1ax a)) = pI_Job_step_m k a := by kernel_rfl
theorem y1b0 (k : Nat) : MutOk Tryz.prog 30 (y1ay k) :=
  mutOk_of_ev (y1aq k) Tryz.func30 (by kernel_rfl) (by kernel_rfl) y1at y1au y1av
    (fun l b a h => by unfold y1av at h; split at h <;> first | (cases h; exact ⟨rfl, rfl⟩) | cases h) (fun a => rfl) (lpgood_none (by kernel_rfl)) (fun a r => rfl)
    (fun a o r h => by unfold y1ax at h; split at h <;> first | (obtain ⟨e0, e1, e2, e3, e4, hq⟩ := dec_chk5 h; clear h; subst e0; subst e1; subst e2; subst e3; subst e4; have h := hq; clear hq; cases h; rfl) | cases h) (y1az k)
def y1b1 (k : Nat) : Orc := mutOrc [.keep] (y1ay k)
theorem y1b2 (k : Nat) : OrcOk Tryz.prog 30 (y1b1 k) := mutOrc_ok (y1b0 k)
noncomputable def y1b3 (k : Nat) : Env := { P := Tryz.prog, tt := tt, orc := fun g => cond (Nat.beq g 27) (y11c k) (cond (Nat.beq g 28) (yr6 k) (cond (Nat.beq g 29) (y11p k) (cond (Nat.beq g 30) (y1b1 k) (noOrc)))), wr := fun g => mem g [30], wt := true }
theorem y1b4 (k : Nat) : EnvOk (y1b3 k) := fun g => (orc_cond (y11d k) (orc_cond (yr7 k) (orc_cond (y11q k) (orc_cond (y1b2 k) (noOrc_ok _ _)))))
noncomputable def y1b5 : Code := (Tryz.f16.body).getD .skip
def y1b6 (ρ : Type) (k : Nat) : Nat → Ev ρ → Ev ρ := fun _ _ _ _ => none
def y1b7 (a : Job) : List Arg := [.agg [.int .i64 a.model.inp.h, .int .i64 a.model.inp.w, .int .i64 a.model.inp.c, .sl (.st .layer) a.model.layers, .int .i64 a.at_, .int .i64 a.act.sh.h, .int .i64 a.act.sh.w, .int .i64 a.act.sh.c, .sl (.int .i64) a.act.data, .int .i64 a.spent]]
def y1b8 (l : List Arg) : Option (Job) := match l with
  | [.agg [.int .i64 b0_0, .int .i64 b0_1, .int .i64 b0_2, .sl (.st .layer) b0_3, .int .i64 b0_4, .int .i64 b0_5, .int .i64 b0_6, .int .i64 b0_7, .sl (.int .i64) b0_8, .int .i64 b0_9]] => some (⟨(⟨(⟨b0_0, b0_1, b0_2⟩ : Shape), b0_3⟩ : Model), b0_4, (⟨(⟨b0_5, b0_6, b0_7⟩ : Shape), b0_8⟩ : Tensor), b0_9⟩ : Job)
  | _ => none
def y1b9 (r : Job × Bool) : Out := (.tup [.agg [.r [] (.int .i64 r.1.model.inp.h), .r [] (.int .i64 r.1.model.inp.w), .r [] (.int .i64 r.1.model.inp.c), .own 0, .r [] (.int .i64 r.1.at_), .r [] (.int .i64 r.1.act.sh.h), .r [] (.int .i64 r.1.act.sh.w), .r [] (.int .i64 r.1.act.sh.c), .own 1, .r [] (.int .i64 r.1.spent)], .r [] (.bool r.2)], [.arr none (.st .layer) r.1.model.layers, .arr none (.int .i64) r.1.act.data])
def y1ba (o : Out) : Option (Job × Bool) := match o with
  | (.tup [.agg [.r [] (.int .i64 z1), .r [] (.int .i64 z2), .r [] (.int .i64 z3), .own 0, .r [] (.int .i64 z5), .r [] (.int .i64 z6), .r [] (.int .i64 z7), .r [] (.int .i64 z8), .own 1, .r [] (.int .i64 z10)], .r [] (.bool z11)], [.arr none (.st .layer) z4, .arr none (.int .i64) z9]) => some ((⟨(⟨(⟨z1, z2, z3⟩ : Shape), z4⟩ : Model), z5, (⟨(⟨z6, z7, z8⟩ : Shape), z9⟩ : Tensor), z10⟩ : Job), z11)
  | _ => none
def y1bb (k : Nat) : PG := fun _ l K => (y1b8 l).bind fun a => (I_StepJob k a).bind fun r => K (y1b9 r)
theorem y1bc (k : Nat) (a : Job) : ev (y1b3 k) (y1b6 (Job × Bool) k) 0 y1b5 (st0 Tryz.f16 (y1b7 a)) (fin Tryz.prog Tryz.f16 (.tup [.agg [.sc, .sc, .sc, .own (.st .layer), .sc, .sc, .sc, .sc, .own (.int .i64), .sc], .sc]) y1ba) = I_StepJob k a := by kernel_rfl
theorem y1bd (k : Nat) : PureOk Tryz.prog 16 (y1bb k) :=
  pureOk_of_ev (y1b4 k) Tryz.func16 (by kernel_rfl) (by kernel_rfl) y1b7 y1b8
    (fun l a h => by unfold y1b8 at h; split at h <;> first | (cases h; rfl) | cases h) (fun a => rfl) (lpgood_none (by kernel_rfl))
    (fun o r h => by unfold y1ba at h; split at h <;> first | (cases h; rfl) | cases h) (y1bc k)
def y1be (k : Nat) : Orc := pureOrc [.agg [(.int .i64), (.int .i64), (.int .i64), (.sl (.st .layer)), (.int .i64), (.int .i64), (.int .i64), (.int .i64), (.sl (.int .i64)), (.int .i64)]] (y1bb k)
theorem y1bf (k : Nat) : OrcOk Tryz.prog 16 (y1be k) := pureOrc_ok (y1bd k)
noncomputable def y1bg (k : Nat) : Env := { P := Tryz.prog, tt := tt, orc := fun g => noOrc }
theorem y1bh (k : Nat) : EnvOk (y1bg k) := fun g => (noOrc_ok _ _)
noncomputable def y1bi : Code := (Tryz.f31.body).getD .skip
def y1bj (ρ : Type) (k : Nat) : Nat → Ev ρ → Ev ρ := fun _ _ _ _ => none
def y1bk (a : Shape × Shape) : List Arg := [.agg [.int .i64 a.1.h, .int .i64 a.1.w, .int .i64 a.1.c], .agg [.int .i64 a.2.h, .int .i64 a.2.w, .int .i64 a.2.c]]
def y1bl (l : List Arg) : Option (Shape × Shape) := match l with
  | [.agg [.int .i64 b0_0, .int .i64 b0_1, .int .i64 b0_2], .agg [.int .i64 b1_0, .int .i64 b1_1, .int .i64 b1_2]] => some ((⟨b0_0, b0_1, b0_2⟩ : Shape), (⟨b1_0, b1_1, b1_2⟩ : Shape))
  | _ => none
def y1bm (r : Bool) : Out := (.r [] (.bool r), [])
def y1bn (o : Out) : Option (Bool) := match o with
  | (.r [] (.bool z1), []) => some z1
  | _ => none
def y1bo (k : Nat) : PG := fun _ l K => (y1bl l).bind fun a => (L_eqShape k a.1 a.2).bind fun r => K (y1bm r)
theorem y1bp (k : Nat) (a : Shape × Shape) : ev (y1bg k) (y1bj (Bool) k) 0 y1bi (st0 Tryz.f31 (y1bk a)) (fin Tryz.prog Tryz.f31 (.sc) y1bn) = L_eqShape k a.1 a.2 := by kernel_rfl
theorem y1bq (k : Nat) : PureOk Tryz.prog 31 (y1bo k) :=
  pureOk_of_ev (y1bh k) Tryz.func31 (by kernel_rfl) (by kernel_rfl) y1bk y1bl
    (fun l a h => by unfold y1bl at h; split at h <;> first | (cases h; rfl) | cases h) (fun a => rfl) (lpgood_none (by kernel_rfl))
    (fun o r h => by unfold y1bn at h; split at h <;> first | (cases h; rfl) | cases h) (y1bp k)
def y1br (k : Nat) : Orc := pureOrc [.agg [(.int .i64), (.int .i64), (.int .i64)], .agg [(.int .i64), (.int .i64), (.int .i64)]] (y1bo k)
theorem y1bs (k : Nat) : OrcOk Tryz.prog 31 (y1br k) := pureOrc_ok (y1bq k)
noncomputable def y1bt (k : Nat) : Env := { P := Tryz.prog, tt := tt, orc := fun g => noOrc }
theorem y1bu (k : Nat) : EnvOk (y1bt k) := fun g => (noOrc_ok _ _)
noncomputable def y1bv : Code := (Tryz.f32.body).getD .skip
noncomputable def y1bw : Code := ((loopsIn 0 y1bv).getD 0 (0, .skip)).2
def y1bx : List Nat := [0, 1, 5]
def y1by : List (Where × Co) := []
def y1bz : Ex → List Nat
  | .exit j => cond (Nat.beq j 0) [] []
  | .ret => [4]
  | .normal => []
def y1c0 : Ex → List (Where × Co)
  | .exit j => cond (Nat.beq j 0) [] []
  | .ret => []
  | .normal => []
def y1c1 (pv : (List Int × List Int) × (Int)) : St := { slots := [(0, .r [] (.sl (.int .i64) pv.1.1)), (1, .r [] (.sl (.int .i64) pv.1.2)), (5, .r [] (.int .i64 pv.2))], heap := [], nid := 0, n := 26, gh := [] }
def y1c2 (nf : NF) : Option ((List Int × List Int) × (Int)) := match nf with
  | ([.r [] (.sl (.int .i64) w0), .r [] (.sl (.int .i64) w1), .r [] (.int .i64 w2)], [], []) => some ((w0, w1), w2)
  | _ => none
theorem y1c3 (nf : NF) (v : (List Int × List Int) × (Int)) (h : y1c2 nf = some v) : denorm y1bx 26 nf = y1c1 v := by
  unfold y1c2 at h
  split at h
  · cases h; rfl
  · cases h
def y1c4 (p : List Int × List Int) (x : Unit) : St := { slots := [], heap := [], nid := 0, n := 26, gh := [] }
def y1c5 (p : List Int × List Int) (x : Bool) : St := { slots := [(4, .r [] (.bool x))], heap := [], nid := 0, n := 26, gh := [] }
def y1c6 (ρ : Type) (k : Nat) : Nat → Ev ρ → Ev ρ := fun id f => cond (Nat.beq id 0) (loopOrc y1bx y1by (fun n nf => cond (Nat.beq n 26) (y1c2 nf) none) fun pv K => iter (fun v next => L_eqIntS_g0 k pv.1 v next (fun x => K (.exit 0) (y1c4 pv.1 x)) (fun x => K .ret (y1c5 pv.1 x))) k pv.2) ((fun _ _ _ _ => none) id f)
theorem y1c7 {ρ : Type} (k : Nat) (p : List Int × List Int) (v : Int) (K K1 : Ex → St → Option ρ) : ev (y1bt k) (y1c6 ρ k) 0 y1bw (y1c1 (p, v)) (fun e st' => match e with
    | .normal => (normC y1bx y1by st').bind fun nf => K1 .normal (denorm y1bx st'.n nf)
    | e => (normC (y1bz e) (y1c0 e) st').bind fun nf => K e (denorm (y1bz e) st'.n nf)) = L_eqIntS_g0 k p v (fun v' => K1 .normal (y1c1 (p, v'))) (fun x => K (.exit 0) (y1c4 p x)) (fun x => K .ret (y1c5 p x)) := by kernel_rfl
theorem y1c8 {ρ : Type} (k : Nat) : Sound Tryz.prog (.loop y1bw) (y1c6 ρ k 0 fun st K => ev (y1bt k) (y1c6 ρ k) 0 y1bw st K) :=
  loop_ok (ev_sound (y1bu k) y1bw 0 (lpgood_none (by kernel_rfl))) y1bz y1c0 k (g := fun p v next K => L_eqIntS_g0 k p v next (fun x => K (.exit 0) (y1c4 p x)) (fun x => K .ret (y1c5 p x))) (dec_at y1c3) (fun p v K K1 => y1c7 k p v K K1)
def y1c9 (a : List Int × List Int) : List Arg := [.one (.sl (.int .i64) a.1), .one (.sl (.int .i64) a.2)]
def y1ca (l : List Arg) : Option (List Int × List Int) := match l with
  | [.one (.sl (.int .i64) b0), .one (.sl (.int .i64) b1)] => some (b0, b1)
  | _ => none
def y1cb (r : Bool) : Out := (.r [] (.bool r), [])
def y1cc (o : Out) : Option (Bool) := match o with
  | (.r [] (.bool z1), []) => some z1
  | _ => none
def y1cd (k : Nat) : PG := fun _ l K => (y1ca l).bind fun a => (L_eqIntS k a.1 a.2).bind fun r => K (y1cb r)
theorem y1ce (k : Nat) (a : List Int × List Int) : ev (y1bt k) (y1c6 (Bool) k) 0 y1bv (st0 Tryz.f32 (y1c9 a)) (fin Tryz.prog Tryz.f32 (.sc) y1cc) = L_eqIntS k a.1 a.2 := by kernel_rfl
theorem y1cf (k : Nat) : PureOk Tryz.prog 32 (y1cd k) :=
  pureOk_of_ev (y1bu k) Tryz.func32 (by kernel_rfl) (by kernel_rfl) y1c9 y1ca
    (fun l a h => by unfold y1ca at h; split at h <;> first | (cases h; rfl) | cases h) (fun a => rfl) (lpgood_of (l := [(0, y1bw)]) (by kernel_rfl) ⟨y1c8 k, trivial⟩)
    (fun o r h => by unfold y1cc at h; split at h <;> first | (cases h; rfl) | cases h) (y1ce k)
def y1cg (k : Nat) : Orc := pureOrc [.one (.sl (.int .i64)), .one (.sl (.int .i64))] (y1cd k)
theorem y1ch (k : Nat) : OrcOk Tryz.prog 32 (y1cg k) := pureOrc_ok (y1cf k)
noncomputable def y1ci (k : Nat) : Env := { P := Tryz.prog, tt := tt, orc := fun g => cond (Nat.beq g 32) (y1cg k) (noOrc) }
theorem y1cj (k : Nat) : EnvOk (y1ci k) := fun g => (orc_cond (y1ch k) (noOrc_ok _ _))
noncomputable def y1ck : Code := (Tryz.f85.body).getD .skip
def y1cl (ρ : Type) (k : Nat) : Nat → Ev ρ → Ev ρ := fun _ _ _ _ => none
def y1cm (a : Layer × Layer) : List Arg := [.agg [.int .i64 a.1.kind, .int .i64 a.1.out, .int .i64 a.1.size, .int .i64 a.1.step, .int .i64 a.1.mult, .int .i64 a.1.shift, .int .i64 a.1.zero, .sl (.int .i64) a.1.weights, .sl (.int .i64) a.1.bias], .agg [.int .i64 a.2.kind, .int .i64 a.2.out, .int .i64 a.2.size, .int .i64 a.2.step, .int .i64 a.2.mult, .int .i64 a.2.shift, .int .i64 a.2.zero, .sl (.int .i64) a.2.weights, .sl (.int .i64) a.2.bias]]
def y1cn (l : List Arg) : Option (Layer × Layer) := match l with
  | [.agg [.int .i64 b0_0, .int .i64 b0_1, .int .i64 b0_2, .int .i64 b0_3, .int .i64 b0_4, .int .i64 b0_5, .int .i64 b0_6, .sl (.int .i64) b0_7, .sl (.int .i64) b0_8], .agg [.int .i64 b1_0, .int .i64 b1_1, .int .i64 b1_2, .int .i64 b1_3, .int .i64 b1_4, .int .i64 b1_5, .int .i64 b1_6, .sl (.int .i64) b1_7, .sl (.int .i64) b1_8]] => some ((⟨b0_0, b0_1, b0_2, b0_3, b0_4, b0_5, b0_6, b0_7, b0_8⟩ : Layer), (⟨b1_0, b1_1, b1_2, b1_3, b1_4, b1_5, b1_6, b1_7, b1_8⟩ : Layer))
  | _ => none
def y1co (r : Bool) : Out := (.r [] (.bool r), [])
def y1cp (o : Out) : Option (Bool) := match o with
  | (.r [] (.bool z1), []) => some z1
  | _ => none
def y1cq (k : Nat) : PG := fun _ l K => (y1cn l).bind fun a => (L_eqLayer k a.1 a.2).bind fun r => K (y1co r)
theorem y1cr (k : Nat) (a : Layer × Layer) : ev (y1ci k) (y1cl (Bool) k) 0 y1ck (st0 Tryz.f85 (y1cm a)) (fin Tryz.prog Tryz.f85 (.sc) y1cp) = L_eqLayer k a.1 a.2 := by kernel_rfl
theorem y1cs (k : Nat) : PureOk Tryz.prog 85 (y1cq k) :=
  pureOk_of_ev (y1cj k) Tryz.func85 (by kernel_rfl) (by kernel_rfl) y1cm y1cn
    (fun l a h => by unfold y1cn at h; split at h <;> first | (cases h; rfl) | cases h) (fun a => rfl) (lpgood_none (by kernel_rfl))
    (fun o r h => by unfold y1cp at h; split at h <;> first | (cases h; rfl) | cases h) (y1cr k)
def y1ct (k : Nat) : Orc := pureOrc [.agg [(.int .i64), (.int .i64), (.int .i64), (.int .i64), (.int .i64), (.int .i64), (.int .i64), (.sl (.int .i64)), (.sl (.int .i64))], .agg [(.int .i64), (.int .i64), (.int .i64), (.int .i64), (.int .i64), (.int .i64), (.int .i64), (.sl (.int .i64)), (.sl (.int .i64))]] (y1cq k)
theorem y1cu (k : Nat) : OrcOk Tryz.prog 85 (y1ct k) := pureOrc_ok (y1cs k)
noncomputable def y1cv (k : Nat) : Env := { P := Tryz.prog, tt := tt, orc := fun g => cond (Nat.beq g 85) (y1ct k) (noOrc) }
theorem y1cw (k : Nat) : EnvOk (y1cv k) := fun g => (orc_cond (y1cu k) (noOrc_ok _ _))
noncomputable def y1cx : Code := (Tryz.f61.body).getD .skip
noncomputable def y1cy : Code := ((loopsIn 0 y1cx).getD 0 (0, .skip)).2
def y1cz : List Nat := [0, 1, 5]
def y1d0 : List (Where × Co) := []
def y1d1 : Ex → List Nat
  | .exit j => cond (Nat.beq j 0) [] []
  | .ret => [4]
  | .normal => []
def y1d2 : Ex → List (Where × Co)
  | .exit j => cond (Nat.beq j 0) [] []
  | .ret => []
  | .normal => []
def y1d3 (pv : (List Layer × List Layer) × (Int)) : St := { slots := [(0, .r [] (.sl (.st .layer) pv.1.1)), (1, .r [] (.sl (.st .layer) pv.1.2)), (5, .r [] (.int .i64 pv.2))], heap := [], nid := 0, n := 27, gh := [] }
def y1d4 (nf : NF) : Option ((List Layer × List Layer) × (Int)) := match nf with
  | ([.r [] (.sl (.st .layer) w0), .r [] (.sl (.st .layer) w1), .r [] (.int .i64 w2)], [], []) => some ((w0, w1), w2)
  | _ => none
theorem y1d5 (nf : NF) (v : (List Layer × List Layer) × (Int)) (h : y1d4 nf = some v) : denorm y1cz 27 nf = y1d3 v := by
  unfold y1d4 at h
  split at h
  · cases h; rfl
  · cases h
def y1d6 (p : List Layer × List Layer) (x : Unit) : St := { slots := [], heap := [], nid := 0, n := 27, gh := [] }
def y1d7 (p : List Layer × List Layer) (x : Bool) : St := { slots := [(4, .r [] (.bool x))], heap := [], nid := 0, n := 27, gh := [] }
def y1d8 (ρ : Type) (k : Nat) : Nat → Ev ρ → Ev ρ := fun id f => cond (Nat.beq id 0) (loopOrc y1cz y1d0 (fun n nf => cond (Nat.beq n 27) (y1d4 nf) none) fun pv K => iter (fun v next => L_eqLayerS_g0 k pv.1 v next (fun x => K (.exit 0) (y1d6 pv.1 x)) (fun x => K .ret (y1d7 pv.1 x))) k pv.2) ((fun _ _ _ _ => none) id f)
theorem y1d9 {ρ : Type} (k : Nat) (p : List Layer × List Layer) (v : Int) (K K1 : Ex → St → Option ρ) : ev (y1cv k) (y1d8 ρ k) 0 y1cy (y1d3 (p, v)) (fun e st' => match e with
    | .normal => (normC y1cz y1d0 st').bind fun nf => K1 .normal (denorm y1cz st'.n nf)
    | e => (normC (y1d1 e) (y1d2 e) st').bind fun nf => K e (denorm (y1d1 e) st'.n nf)) = L_eqLayerS_g0 k p v (fun v' => K1 .normal (y1d3 (p, v'))) (fun x => K (.exit 0) (y1d6 p x)) (fun x => K .ret (y1d7 p x)) := by kernel_rfl
theorem y1da {ρ : Type} (k : Nat) : Sound Tryz.prog (.loop y1cy) (y1d8 ρ k 0 fun st K => ev (y1cv k) (y1d8 ρ k) 0 y1cy st K) :=
  loop_ok (ev_sound (y1cw k) y1cy 0 (lpgood_none (by kernel_rfl))) y1d1 y1d2 k (g := fun p v next K => L_eqLayerS_g0 k p v next (fun x => K (.exit 0) (y1d6 p x)) (fun x => K .ret (y1d7 p x))) (dec_at y1d5) (fun p v K K1 => y1d9 k p v K K1)
def y1db (a : List Layer × List Layer) : List Arg := [.one (.sl (.st .layer) a.1), .one (.sl (.st .layer) a.2)]
def y1dc (l : List Arg) : Option (List Layer × List Layer) := match l with
  | [.one (.sl (.st .layer) b0), .one (.sl (.st .layer) b1)] => some (b0, b1)
  | _ => none
def y1dd (r : Bool) : Out := (.r [] (.bool r), [])
def y1de (o : Out) : Option (Bool) := match o with
  | (.r [] (.bool z1), []) => some z1
  | _ => none
def y1df (k : Nat) : PG := fun _ l K => (y1dc l).bind fun a => (L_eqLayerS k a.1 a.2).bind fun r => K (y1dd r)
theorem y1dg (k : Nat) (a : List Layer × List Layer) : ev (y1cv k) (y1d8 (Bool) k) 0 y1cx (st0 Tryz.f61 (y1db a)) (fin Tryz.prog Tryz.f61 (.sc) y1de) = L_eqLayerS k a.1 a.2 := by kernel_rfl
theorem y1dh (k : Nat) : PureOk Tryz.prog 61 (y1df k) :=
  pureOk_of_ev (y1cw k) Tryz.func61 (by kernel_rfl) (by kernel_rfl) y1db y1dc
    (fun l a h => by unfold y1dc at h; split at h <;> first | (cases h; rfl) | cases h) (fun a => rfl) (lpgood_of (l := [(0, y1cy)]) (by kernel_rfl) ⟨y1da k, trivial⟩)
    (fun o r h => by unfold y1de at h; split at h <;> first | (cases h; rfl) | cases h) (y1dg k)
def y1di (k : Nat) : Orc := pureOrc [.one (.sl (.st .layer)), .one (.sl (.st .layer))] (y1df k)
theorem y1dj (k : Nat) : OrcOk Tryz.prog 61 (y1di k) := pureOrc_ok (y1dh k)
noncomputable def y1dk (k : Nat) : Env := { P := Tryz.prog, tt := tt, orc := fun g => cond (Nat.beq g 31) (y1br k) (cond (Nat.beq g 61) (y1di k) (noOrc)) }
theorem y1dl (k : Nat) : EnvOk (y1dk k) := fun g => (orc_cond (y1bs k) (orc_cond (y1dj k) (noOrc_ok _ _)))
noncomputable def y1dm : Code := (Tryz.f33.body).getD .skip
def y1dn (ρ : Type) (k : Nat) : Nat → Ev ρ → Ev ρ := fun _ _ _ _ => none
def y1do (a : Model × Model) : List Arg := [.agg [.int .i64 a.1.inp.h, .int .i64 a.1.inp.w, .int .i64 a.1.inp.c, .sl (.st .layer) a.1.layers], .agg [.int .i64 a.2.inp.h, .int .i64 a.2.inp.w, .int .i64 a.2.inp.c, .sl (.st .layer) a.2.layers]]
def y1dp (l : List Arg) : Option (Model × Model) := match l with
  | [.agg [.int .i64 b0_0, .int .i64 b0_1, .int .i64 b0_2, .sl (.st .layer) b0_3], .agg [.int .i64 b1_0, .int .i64 b1_1, .int .i64 b1_2, .sl (.st .layer) b1_3]] => some ((⟨(⟨b0_0, b0_1, b0_2⟩ : Shape), b0_3⟩ : Model), (⟨(⟨b1_0, b1_1, b1_2⟩ : Shape), b1_3⟩ : Model))
  | _ => none
def y1dq (r : Bool) : Out := (.r [] (.bool r), [])
def y1dr (o : Out) : Option (Bool) := match o with
  | (.r [] (.bool z1), []) => some z1
  | _ => none
def y1ds (k : Nat) : PG := fun _ l K => (y1dp l).bind fun a => (L_eqModel k a.1 a.2).bind fun r => K (y1dq r)
theorem y1dt (k : Nat) (a : Model × Model) : ev (y1dk k) (y1dn (Bool) k) 0 y1dm (st0 Tryz.f33 (y1do a)) (fin Tryz.prog Tryz.f33 (.sc) y1dr) = L_eqModel k a.1 a.2 := by kernel_rfl
theorem y1du (k : Nat) : PureOk Tryz.prog 33 (y1ds k) :=
  pureOk_of_ev (y1dl k) Tryz.func33 (by kernel_rfl) (by kernel_rfl) y1do y1dp
    (fun l a h => by unfold y1dp at h; split at h <;> first | (cases h; rfl) | cases h) (fun a => rfl) (lpgood_none (by kernel_rfl))
    (fun o r h => by unfold y1dr at h; split at h <;> first | (cases h; rfl) | cases h) (y1dt k)
def y1dv (k : Nat) : Orc := pureOrc [.agg [(.int .i64), (.int .i64), (.int .i64), (.sl (.st .layer))], .agg [(.int .i64), (.int .i64), (.int .i64), (.sl (.st .layer))]] (y1ds k)
theorem y1dw (k : Nat) : OrcOk Tryz.prog 33 (y1dv k) := pureOrc_ok (y1du k)
noncomputable def y1dx (k : Nat) : Env := { P := Tryz.prog, tt := tt, orc := fun g => cond (Nat.beq g 31) (y1br k) (cond (Nat.beq g 32) (y1cg k) (noOrc)) }
theorem y1dy (k : Nat) : EnvOk (y1dx k) := fun g => (orc_cond (y1bs k) (orc_cond (y1ch k) (noOrc_ok _ _)))
noncomputable def y1dz : Code := (Tryz.f10.body).getD .skip
def y1e0 (ρ : Type) (k : Nat) : Nat → Ev ρ → Ev ρ := fun _ _ _ _ => none
def y1e1 (a : Tensor × Tensor) : List Arg := [.agg [.int .i64 a.1.sh.h, .int .i64 a.1.sh.w, .int .i64 a.1.sh.c, .sl (.int .i64) a.1.data], .agg [.int .i64 a.2.sh.h, .int .i64 a.2.sh.w, .int .i64 a.2.sh.c, .sl (.int .i64) a.2.data]]
def y1e2 (l : List Arg) : Option (Tensor × Tensor) := match l with
  | [.agg [.int .i64 b0_0, .int .i64 b0_1, .int .i64 b0_2, .sl (.int .i64) b0_3], .agg [.int .i64 b1_0, .int .i64 b1_1, .int .i64 b1_2, .sl (.int .i64) b1_3]] => some ((⟨(⟨b0_0, b0_1, b0_2⟩ : Shape), b0_3⟩ : Tensor), (⟨(⟨b1_0, b1_1, b1_2⟩ : Shape), b1_3⟩ : Tensor))
  | _ => none
def y1e3 (r : Bool) : Out := (.r [] (.bool r), [])
def y1e4 (o : Out) : Option (Bool) := match o with
  | (.r [] (.bool z1), []) => some z1
  | _ => none
def y1e5 (k : Nat) : PG := fun _ l K => (y1e2 l).bind fun a => (L_eqTensor k a.1 a.2).bind fun r => K (y1e3 r)
theorem y1e6 (k : Nat) (a : Tensor × Tensor) : ev (y1dx k) (y1e0 (Bool) k) 0 y1dz (st0 Tryz.f10 (y1e1 a)) (fin Tryz.prog Tryz.f10 (.sc) y1e4) = L_eqTensor k a.1 a.2 := by kernel_rfl
theorem y1e7 (k : Nat) : PureOk Tryz.prog 10 (y1e5 k) :=
  pureOk_of_ev (y1dy k) Tryz.func10 (by kernel_rfl) (by kernel_rfl) y1e1 y1e2
    (fun l a h => by unfold y1e2 at h; split at h <;> first | (cases h; rfl) | cases h) (fun a => rfl) (lpgood_none (by kernel_rfl))
    (fun o r h => by unfold y1e4 at h; split at h <;> first | (cases h; rfl) | cases h) (y1e6 k)
def y1e8 (k : Nat) : Orc := pureOrc [.agg [(.int .i64), (.int .i64), (.int .i64), (.sl (.int .i64))], .agg [(.int .i64), (.int .i64), (.int .i64), (.sl (.int .i64))]] (y1e5 k)
theorem y1e9 (k : Nat) : OrcOk Tryz.prog 10 (y1e8 k) := pureOrc_ok (y1e7 k)
noncomputable def y1ea (k : Nat) : Env := { P := Tryz.prog, tt := tt, orc := fun g => cond (Nat.beq g 10) (y1e8 k) (cond (Nat.beq g 33) (y1dv k) (noOrc)) }
theorem y1eb (k : Nat) : EnvOk (y1ea k) := fun g => (orc_cond (y1e9 k) (orc_cond (y1dw k) (noOrc_ok _ _)))
noncomputable def y1ec : Code := (Tryz.f11.body).getD .skip
def y1ed (ρ : Type) (k : Nat) : Nat → Ev ρ → Ev ρ := fun _ _ _ _ => none
def y1ee (a : Job × Job) : List Arg := [.agg [.int .i64 a.1.model.inp.h, .int .i64 a.1.model.inp.w, .int .i64 a.1.model.inp.c, .sl (.st .layer) a.1.model.layers, .int .i64 a.1.at_, .int .i64 a.1.act.sh.h, .int .i64 a.1.act.sh.w, .int .i64 a.1.act.sh.c, .sl (.int .i64) a.1.act.data, .int .i64 a.1.spent], .agg [.int .i64 a.2.model.inp.h, .int .i64 a.2.model.inp.w, .int .i64 a.2.model.inp.c, .sl (.st .layer) a.2.model.layers, .int .i64 a.2.at_, .int .i64 a.2.act.sh.h, .int .i64 a.2.act.sh.w, .int .i64 a.2.act.sh.c, .sl (.int .i64) a.2.act.data, .int .i64 a.2.spent]]
def y1ef (l : List Arg) : Option (Job × Job) := match l with
  | [.agg [.int .i64 b0_0, .int .i64 b0_1, .int .i64 b0_2, .sl (.st .layer) b0_3, .int .i64 b0_4, .int .i64 b0_5, .int .i64 b0_6, .int .i64 b0_7, .sl (.int .i64) b0_8, .int .i64 b0_9], .agg [.int .i64 b1_0, .int .i64 b1_1, .int .i64 b1_2, .sl (.st .layer) b1_3, .int .i64 b1_4, .int .i64 b1_5, .int .i64 b1_6, .int .i64 b1_7, .sl (.int .i64) b1_8, .int .i64 b1_9]] => some ((⟨(⟨(⟨b0_0, b0_1, b0_2⟩ : Shape), b0_3⟩ : Model), b0_4, (⟨(⟨b0_5, b0_6, b0_7⟩ : Shape), b0_8⟩ : Tensor), b0_9⟩ : Job), (⟨(⟨(⟨b1_0, b1_1, b1_2⟩ : Shape), b1_3⟩ : Model), b1_4, (⟨(⟨b1_5, b1_6, b1_7⟩ : Shape), b1_8⟩ : Tensor), b1_9⟩ : Job))
  | _ => none
def y1eg (r : Bool) : Out := (.r [] (.bool r), [])
def y1eh (o : Out) : Option (Bool) := match o with
  | (.r [] (.bool z1), []) => some z1
  | _ => none
def y1ei (k : Nat) : PG := fun _ l K => (y1ef l).bind fun a => (L_eqJob k a.1 a.2).bind fun r => K (y1eg r)
theorem y1ej (k : Nat) (a : Job × Job) : ev (y1ea k) (y1ed (Bool) k) 0 y1ec (st0 Tryz.f11 (y1ee a)) (fin Tryz.prog Tryz.f11 (.sc) y1eh) = L_eqJob k a.1 a.2 := by kernel_rfl
theorem y1ek (k : Nat) : PureOk Tryz.prog 11 (y1ei k) :=
  pureOk_of_ev (y1eb k) Tryz.func11 (by kernel_rfl) (by kernel_rfl) y1ee y1ef
    (fun l a h => by unfold y1ef at h; split at h <;> first | (cases h; rfl) | cases h) (fun a => rfl) (lpgood_none (by kernel_rfl))
    (fun o r h => by unfold y1eh at h; split at h <;> first | (cases h; rfl) | cases h) (y1ej k)
def y1el (k : Nat) : Orc := pureOrc [.agg [(.int .i64), (.int .i64), (.int .i64), (.sl (.st .layer)), (.int .i64), (.int .i64), (.int .i64), (.int .i64), (.sl (.int .i64)), (.int .i64)], .agg [(.int .i64), (.int .i64), (.int .i64), (.sl (.st .layer)), (.int .i64), (.int .i64), (.int .i64), (.int .i64), (.sl (.int .i64)), (.int .i64)]] (y1ei k)
theorem y1em (k : Nat) : OrcOk Tryz.prog 11 (y1el k) := pureOrc_ok (y1ek k)
noncomputable def y1en (k : Nat) : Env := { P := Tryz.prog, tt := tt, orc := fun g => noOrc }
theorem y1eo (k : Nat) : EnvOk (y1en k) := fun g => (noOrc_ok _ _)
noncomputable def y1ep : Code := (Tryz.f35.body).getD .skip
noncomputable def y1eq : Code := ((loopsIn 0 y1ep).getD 0 (0, .skip)).2
def y1er : List Nat := [0, 1, 5]
def y1es : List (Where × Co) := []
def y1et : Ex → List Nat
  | .exit j => cond (Nat.beq j 0) [1] []
  | .ret => []
  | .normal => []
def y1eu : Ex → List (Where × Co)
  | .exit j => cond (Nat.beq j 0) [] []
  | .ret => []
  | .normal => []
def y1ev (pv : (Unit) × (Int × Int × List Int)) : St := { slots := [(0, .own 0), (1, .r [] (.int .i64 pv.2.1)), (5, .r [] (.int .i64 pv.2.2.1))], heap := [(0, .arr none (.int .i64) pv.2.2.2)], nid := 1, n := 19, gh := [some 0] }
def y1ew (nf : NF) : Option ((Unit) × (Int × Int × List Int)) := match nf with
  | ([.own 0, .r [] (.int .i64 w0), .r [] (.int .i64 w1)], [.arr none (.int .i64) w2], [some 0]) => some ((), (w0, w1, w2))
  | _ => none
theorem y1ex (nf : NF) (v : (Unit) × (Int × Int × List Int)) (h : y1ew nf = some v) : denorm y1er 19 nf = y1ev v := by
  unfold y1ew at h
  split at h
  · cases h; rfl
  · cases h
def y1ey (p : Unit) (x : Int × List Int) : St := { slots := [(1, .r [] (.int .i64 x.1))], heap := [(0, .arr none (.int .i64) x.2)], nid := 1, n := 19, gh := [some 0] }
def y1ez (ρ : Type) (k : Nat) : Nat → Ev ρ → Ev ρ := fun id f => cond (Nat.beq id 0) (loopOrc y1er y1es (fun n nf => cond (Nat.beq n 19) (y1ew nf) none) fun pv K => iter (fun v next => L_markIntS_m3_g0 k pv.1 v next (fun x => K (.exit 0) (y1ey pv.1 x))) k pv.2) ((fun _ _ _ _ => none) id f)
theorem y1f0 {ρ : Type} (k : Nat) (p : Unit) (v : Int × Int × List Int) (K K1 : Ex → St → Option ρ) : ev (y1en k) (y1ez ρ k) 0 y1eq (y1ev (p, v)) (fun e st' => match e with
    | .normal => (normC y1er y1es st').bind fun nf => K1 .normal (denorm y1er st'.n nf)
    | e => (normC (y1et e) (y1eu e) st').bind fun nf => K e (denorm (y1et e) st'.n nf)) = L_markIntS_m3_g0 k p v (fun v' => K1 .normal (y1ev (p, v'))) (fun x => K (.exit 0) (y1ey p x)) := by kernel_rfl
theorem y1f1 {ρ : Type} (k : Nat) : Sound Tryz.prog (.loop y1eq) (y1ez ρ k 0 fun st K => ev (y1en k) (y1ez ρ k) 0 y1eq st K) :=
  loop_ok (ev_sound (y1eo k) y1eq 0 (lpgood_none (by kernel_rfl))) y1et y1eu k (g := fun p v next K => L_markIntS_m3_g0 k p v next (fun x => K (.exit 0) (y1ey p x))) (dec_at y1ex) (fun p v K K1 => y1f0 k p v K K1)
def y1f2 (a : List Int × Int) : List SV := [.own 0, .r [] (.int .i64 a.2)]
def y1f3 (a : List Int × Int) : List Blk := [.arr none (.int .i64) a.1]
def y1f4 (l : List SV) (b : List Blk) : Option (List Int × Int) := match l, b with
  | [.own 0, .r [] (.int .i64 w0)], [.arr none (.int .i64) w1] => some (w1, w0)
  | _, _ => none
def y1f5 (a : List Int × Int) (r : Int × List Int) : MOut := ⟨.r [] (.int .i64 r.1), [some (.arr none (.int .i64) r.2)], []⟩
def y1f6 (a : List Int × Int) (o : MOut) : Option (Int × List Int) := match o with
  | ⟨.r [] (.int .i64 z1), [some (.arr none (.int .i64) z2)], []⟩ => some (z1, z2)
  | _ => none
def y1f7 (k : Nat) : MG := fun _ l b K => (y1f4 l b).bind fun a => (L_markIntS_m3 k a.1 a.2).bind fun r => K (y1f5 a r)
theorem y1f8 (k : Nat) (a : List Int × Int) : ev (y1en k) (y1ez (Int × List Int) k) 0 y1ep (st0M Tryz.f35 (y1f2 a) (y1f3 a)) (finM Tryz.prog Tryz.f35 (.sc) [.arr] (y1f6 a)) = L_markIntS_m3 k a.1 a.2 := by kernel_rfl
theorem y1f9 (k : Nat) : MutOk Tryz.prog 35 (y1f7 k) :=
  mutOk_of_ev (y1eo k) Tryz.func35 (by kernel_rfl) (by kernel_rfl) y1f2 y1f3 y1f4
    (fun l b a h => by unfold y1f4 at h; split at h <;> first | (cases h; exact ⟨rfl, rfl⟩) | cases h) (fun a => rfl) (lpgood_of (l := [(0, y1eq)]) (by kernel_rfl) ⟨y1f1 k, trivial⟩) (fun a r => rfl)
    (fun a o r h => by unfold y1f6 at h; split at h <;> first | (skip; cases h; rfl) | cases h) (y1f8 k)
def y1fa (k : Nat) : Orc := mutOrc [.keep, .keep] (y1f7 k)
theorem y1fb (k : Nat) : OrcOk Tryz.prog 35 (y1fa k) := mutOrc_ok (y1f9 k)
noncomputable def y1fc (k : Nat) : Env := { P := Tryz.prog, tt := tt, orc := fun g => cond (Nat.beq g 35) (innOrc (y1fa k)) (noOrc), wr := fun g => mem g [35], wt := true, inn := true }
theorem y1fd (k : Nat) : EnvOk (y1fc k) := fun g => (orc_cond (innOrc_ok (y1fb k)) (noOrc_ok _ _))
noncomputable def y1fe : Code := (Tryz.f62.body).getD .skip
noncomputable def y1ff : Code := ((loopsIn 0 y1fe).getD 0 (0, .skip)).2
def y1fg : List Nat := [0, 1, 5]
def y1fh : List (Where × Co) := []
def y1fi : Ex → List Nat
  | .exit j => cond (Nat.beq j 0) [1] []
  | .ret => []
  | .normal => []
def y1fj : Ex → List (Where × Co)
  | .exit j => cond (Nat.beq j 0) [] []
  | .ret => []
  | .normal => []
def y1fk (pv : (Unit) × (Int × Int × List Layer)) : St := { slots := [(0, .own 0), (1, .r [] (.int .i64 pv.2.1)), (5, .r [] (.int .i64 pv.2.2.1))], heap := [(0, .arr none (.st .layer) pv.2.2.2)], nid := 1, n := 76, gh := [some 0] }
def y1fl (nf : NF) : Option ((Unit) × (Int × Int × List Layer)) := match nf with
  | ([.own 0, .r [] (.int .i64 w0), .r [] (.int .i64 w1)], [.arr none (.st .layer) w2], [some 0]) => some ((), (w0, w1, w2))
  | _ => none
theorem y1fm (nf : NF) (v : (Unit) × (Int × Int × List Layer)) (h : y1fl nf = some v) : denorm y1fg 76 nf = y1fk v := by
  unfold y1fl at h
  split at h
  · cases h; rfl
  · cases h
def y1fn (p : Unit) (x : Int × List Layer) : St := { slots := [(1, .r [] (.int .i64 x.1))], heap := [(0, .arr none (.st .layer) x.2)], nid := 1, n := 76, gh := [some 0] }
def y1fo (ρ : Type) (k : Nat) : Nat → Ev ρ → Ev ρ := fun id f => cond (Nat.beq id 0) (loopOrc y1fg y1fh (fun n nf => cond (Nat.beq n 76) (y1fl nf) none) fun pv K => iter (fun v next => L_markLayerS_m3_g0 k pv.1 v next (fun x => K (.exit 0) (y1fn pv.1 x))) k pv.2) ((fun _ _ _ _ => none) id f)
theorem y1fp {ρ : Type} (k : Nat) (p : Unit) (v : Int × Int × List Layer) (K K1 : Ex → St → Option ρ) : ev (y1fc k) (y1fo ρ k) 0 y1ff (y1fk (p, v)) (fun e st' => match e with
    | .normal => (normC y1fg y1fh st').bind fun nf => K1 .normal (denorm y1fg st'.n nf)
    | e => (normC (y1fi e) (y1fj e) st').bind fun nf => K e (denorm (y1fi e) st'.n nf)) = L_markLayerS_m3_g0 k p v (fun v' => K1 .normal (y1fk (p, v'))) (fun x => K (.exit 0) (y1fn p x)) := by kernel_rfl
theorem y1fq {ρ : Type} (k : Nat) : Sound Tryz.prog (.loop y1ff) (y1fo ρ k 0 fun st K => ev (y1fc k) (y1fo ρ k) 0 y1ff st K) :=
  loop_ok (ev_sound (y1fd k) y1ff 0 (lpgood_none (by kernel_rfl))) y1fi y1fj k (g := fun p v next K => L_markLayerS_m3_g0 k p v next (fun x => K (.exit 0) (y1fn p x))) (dec_at y1fm) (fun p v K K1 => y1fp k p v K K1)
def y1fr (a : List Layer × Int) : List SV := [.own 0, .r [] (.int .i64 a.2)]
def y1fs (a : List Layer × Int) : List Blk := [.arr none (.st .layer) a.1]
def y1ft (l : List SV) (b : List Blk) : Option (List Layer × Int) := match l, b with
  | [.own 0, .r [] (.int .i64 w0)], [.arr none (.st .layer) w1] => some (w1, w0)
  | _, _ => none
def y1fu (a : List Layer × Int) (r : Int × List Layer) : MOut := ⟨.r [] (.int .i64 r.1), [some (.arr none (.st .layer) r.2)], []⟩
def y1fv (a : List Layer × Int) (o : MOut) : Option (Int × List Layer) := match o with
  | ⟨.r [] (.int .i64 z1), [some (.arr none (.st .layer) z2)], []⟩ => some (z1, z2)
  | _ => none
def y1fw (k : Nat) : MG := fun _ l b K => (y1ft l b).bind fun a => (L_markLayerS_m3 k a.1 a.2).bind fun r => K (y1fu a r)
theorem y1fx (k : Nat) (a : List Layer × Int) : ev (y1fc k) (y1fo (Int × List Layer) k) 0 y1fe (st0M Tryz.f62 (y1fr a) (y1fs a)) (finM Tryz.prog Tryz.f62 (.sc) [.arr] (y1fv a)) = L_markLayerS_m3 k a.1 a.2 := by kernel_rfl
theorem y1fy (k : Nat) : MutOk Tryz.prog 62 (y1fw k) :=
  mutOk_of_ev (y1fd k) Tryz.func62 (by kernel_rfl) (by kernel_rfl) y1fr y1fs y1ft
    (fun l b a h => by unfold y1ft at h; split at h <;> first | (cases h; exact ⟨rfl, rfl⟩) | cases h) (fun a => rfl) (lpgood_of (l := [(0, y1ff)]) (by kernel_rfl) ⟨y1fq k, trivial⟩) (fun a r => rfl)
    (fun a o r h => by unfold y1fv at h; split at h <;> first | (skip; cases h; rfl) | cases h) (y1fx k)
def y1fz (k : Nat) : Orc := mutOrc [.keep, .keep] (y1fw k)
theorem y1g0 (k : Nat) : OrcOk Tryz.prog 62 (y1fz k) := mutOrc_ok (y1fy k)
noncomputable def y1g1 (k : Nat) : Env := { P := Tryz.prog, tt := tt, orc := fun g => cond (Nat.beq g 62) (y1fz k) (noOrc), wr := fun g => mem g [62], wt := true }
theorem y1g2 (k : Nat) : EnvOk (y1g1 k) := fun g => (orc_cond (y1g0 k) (noOrc_ok _ _))
noncomputable def y1g3 : Code := (Tryz.f34.body).getD .skip
def y1g4 (ρ : Type) (k : Nat) : Nat → Ev ρ → Ev ρ := fun _ _ _ _ => none
def y1g5 (a : Model × Int) : List SV := [.agg [.r [] (.int .i64 a.1.inp.h), .r [] (.int .i64 a.1.inp.w), .r [] (.int .i64 a.1.inp.c), .own 0], .r [] (.int .i64 a.2)]
def y1g6 (a : Model × Int) : List Blk := [.arr none (.st .layer) a.1.layers]
def y1g7 (l : List SV) (b : List Blk) : Option (Model × Int) := match l, b with
  | [.agg [.r [] (.int .i64 w0), .r [] (.int .i64 w1), .r [] (.int .i64 w2), .own 0], .r [] (.int .i64 w3)], [.arr none (.st .layer) w4] => some ((⟨(⟨w0, w1, w2⟩ : Shape), w4⟩ : Model), w3)
  | _, _ => none
def y1g8 (a : Model × Int) (r : Int × List Layer) : MOut := ⟨.r [] (.int .i64 r.1), [some (.arr none (.st .layer) r.2)], []⟩
def y1g9 (a : Model × Int) (o : MOut) : Option (Int × List Layer) := match o with
  | ⟨.r [] (.int .i64 z1), [some (.arr none (.st .layer) z2)], []⟩ => some (z1, z2)
  | _ => none
def y1ga (k : Nat) : MG := fun _ l b K => (y1g7 l b).bind fun a => (L_markModel_m2 k a.1 a.2).bind fun r => K (y1g8 a r)
theorem y1gb (k : Nat) (a : Model × Int) : ev (y1g1 k) (y1g4 (Int × List Layer) k) 0 y1g3 (st0M Tryz.f34 (y1g5 a) (y1g6 a)) (finM Tryz.prog Tryz.f34 (.sc) [.arr] (y1g9 a)) = L_markModel_m2 k a.1 a.2 := by kernel_rfl
theorem y1gc (k : Nat) : MutOk Tryz.prog 34 (y1ga k) :=
  mutOk_of_ev (y1g2 k) Tryz.func34 (by kernel_rfl) (by kernel_rfl) y1g5 y1g6 y1g7
    (fun l b a h => by unfold y1g7 at h; split at h <;> first | (cases h; exact ⟨rfl, rfl⟩) | cases h) (fun a => rfl) (lpgood_none (by kernel_rfl)) (fun a r => rfl)
    (fun a o r h => by unfold y1g9 at h; split at h <;> first | (skip; cases h; rfl) | cases h) (y1gb k)
def y1gd (k : Nat) : Orc := mutOrc [.keep, .keep] (y1ga k)
theorem y1ge (k : Nat) : OrcOk Tryz.prog 34 (y1gd k) := mutOrc_ok (y1gc k)
noncomputable def y1gf (k : Nat) : Env := { P := Tryz.prog, tt := tt, orc := fun g => cond (Nat.beq g 35) (y1fa k) (noOrc), wr := fun g => mem g [35], wt := true }
theorem y1gg (k : Nat) : EnvOk (y1gf k) := fun g => (orc_cond (y1fb k) (noOrc_ok _ _))
noncomputable def y1gh : Code := (Tryz.f13.body).getD .skip
def y1gi (ρ : Type) (k : Nat) : Nat → Ev ρ → Ev ρ := fun _ _ _ _ => none
def y1gj (a : Tensor × Int) : List SV := [.agg [.r [] (.int .i64 a.1.sh.h), .r [] (.int .i64 a.1.sh.w), .r [] (.int .i64 a.1.sh.c), .own 0], .r [] (.int .i64 a.2)]
def y1gk (a : Tensor × Int) : List Blk := [.arr none (.int .i64) a.1.data]
def y1gl (l : List SV) (b : List Blk) : Option (Tensor × Int) := match l, b with
  | [.agg [.r [] (.int .i64 w0), .r [] (.int .i64 w1), .r [] (.int .i64 w2), .own 0], .r [] (.int .i64 w3)], [.arr none (.int .i64) w4] => some ((⟨(⟨w0, w1, w2⟩ : Shape), w4⟩ : Tensor), w3)
  | _, _ => none
def y1gm (a : Tensor × Int) (r : Int × List Int) : MOut := ⟨.r [] (.int .i64 r.1), [some (.arr none (.int .i64) r.2)], []⟩
def y1gn (a : Tensor × Int) (o : MOut) : Option (Int × List Int) := match o with
  | ⟨.r [] (.int .i64 z1), [some (.arr none (.int .i64) z2)], []⟩ => some (z1, z2)
  | _ => none
def y1go (k : Nat) : MG := fun _ l b K => (y1gl l b).bind fun a => (L_markTensor_m2 k a.1 a.2).bind fun r => K (y1gm a r)
theorem y1gp (k : Nat) (a : Tensor × Int) : ev (y1gf k) (y1gi (Int × List Int) k) 0 y1gh (st0M Tryz.f13 (y1gj a) (y1gk a)) (finM Tryz.prog Tryz.f13 (.sc) [.arr] (y1gn a)) = L_markTensor_m2 k a.1 a.2 := by kernel_rfl
theorem y1gq (k : Nat) : MutOk Tryz.prog 13 (y1go k) :=
  mutOk_of_ev (y1gg k) Tryz.func13 (by kernel_rfl) (by kernel_rfl) y1gj y1gk y1gl
    (fun l b a h => by unfold y1gl at h; split at h <;> first | (cases h; exact ⟨rfl, rfl⟩) | cases h) (fun a => rfl) (lpgood_none (by kernel_rfl)) (fun a r => rfl)
    (fun a o r h => by unfold y1gn at h; split at h <;> first | (skip; cases h; rfl) | cases h) (y1gp k)
def y1gr (k : Nat) : Orc := mutOrc [.keep, .keep] (y1go k)
theorem y1gs (k : Nat) : OrcOk Tryz.prog 13 (y1gr k) := mutOrc_ok (y1gq k)
noncomputable def y1gt (k : Nat) : Env := { P := Tryz.prog, tt := tt, orc := fun g => cond (Nat.beq g 13) (y1gr k) (cond (Nat.beq g 34) (y1gd k) (noOrc)), wr := fun g => mem g [13, 34], wt := true }
theorem y1gu (k : Nat) : EnvOk (y1gt k) := fun g => (orc_cond (y1gs k) (orc_cond (y1ge k) (noOrc_ok _ _)))
noncomputable def y1gv : Code := (Tryz.f12.body).getD .skip
def y1gw (ρ : Type) (k : Nat) : Nat → Ev ρ → Ev ρ := fun _ _ _ _ => none
def y1gx (a : Job × Int) : List SV := [.agg [.r [] (.int .i64 a.1.model.inp.h), .r [] (.int .i64 a.1.model.inp.w), .r [] (.int .i64 a.1.model.inp.c), .own 0, .r [] (.int .i64 a.1.at_), .r [] (.int .i64 a.1.act.sh.h), .r [] (.int .i64 a.1.act.sh.w), .r [] (.int .i64 a.1.act.sh.c), .own 1, .r [] (.int .i64 a.1.spent)], .r [] (.int .i64 a.2)]
def y1gy (a : Job × Int) : List Blk := [.arr none (.st .layer) a.1.model.layers, .arr none (.int .i64) a.1.act.data]
def y1gz (l : List SV) (b : List Blk) : Option (Job × Int) := match l, b with
  | [.agg [.r [] (.int .i64 w0), .r [] (.int .i64 w1), .r [] (.int .i64 w2), .own 0, .r [] (.int .i64 w3), .r [] (.int .i64 w4), .r [] (.int .i64 w5), .r [] (.int .i64 w6), .own 1, .r [] (.int .i64 w7)], .r [] (.int .i64 w8)], [.arr none (.st .layer) w9, .arr none (.int .i64) w10] => some ((⟨(⟨(⟨w0, w1, w2⟩ : Shape), w9⟩ : Model), w3, (⟨(⟨w4, w5, w6⟩ : Shape), w10⟩ : Tensor), w7⟩ : Job), w8)
  | _, _ => none
def y1h0 (a : Job × Int) (r : Int × List Layer × List Int) : MOut := ⟨.r [] (.int .i64 r.1), [some (.arr none (.st .layer) r.2.1), some (.arr none (.int .i64) r.2.2)], []⟩
def y1h1 (a : Job × Int) (o : MOut) : Option (Int × List Layer × List Int) := match o with
  | ⟨.r [] (.int .i64 z1), [some (.arr none (.st .layer) z2), some (.arr none (.int .i64) z3)], []⟩ => some (z1, z2, z3)
  | _ => none
def y1h2 (k : Nat) : MG := fun _ l b K => (y1gz l b).bind fun a => (L_markJob_m2 k a.1 a.2).bind fun r => K (y1h0 a r)
theorem y1h3 (k : Nat) (a : Job × Int) : ev (y1gt k) (y1gw (Int × List Layer × List Int) k) 0 y1gv (st0M Tryz.f12 (y1gx a) (y1gy a)) (finM Tryz.prog Tryz.f12 (.sc) [.arr, .arr] (y1h1 a)) = L_markJob_m2 k a.1 a.2 := by kernel_rfl
theorem y1h4 (k : Nat) : MutOk Tryz.prog 12 (y1h2 k) :=
  mutOk_of_ev (y1gu k) Tryz.func12 (by kernel_rfl) (by kernel_rfl) y1gx y1gy y1gz
    (fun l b a h => by unfold y1gz at h; split at h <;> first | (cases h; exact ⟨rfl, rfl⟩) | cases h) (fun a => rfl) (lpgood_none (by kernel_rfl)) (fun a r => rfl)
    (fun a o r h => by unfold y1h1 at h; split at h <;> first | (skip; cases h; rfl) | cases h) (y1h3 k)
def y1h5 (k : Nat) : Orc := mutOrc [.keep, .keep] (y1h2 k)
theorem y1h6 (k : Nat) : OrcOk Tryz.prog 12 (y1h5 k) := mutOrc_ok (y1h4 k)
noncomputable def y1h7 (k : Nat) : Env := { P := Tryz.prog, tt := tt, orc := fun g => noOrc }
theorem y1h8 (k : Nat) : EnvOk (y1h7 k) := fun g => (noOrc_ok _ _)
noncomputable def y1h9 : Code := (Tryz.f36.body).getD .skip
noncomputable def y1ha : Code := ((loopsIn 0 y1h9).getD 0 (0, .skip)).2
def y1hb : List Nat := [0, 1, 5]
def y1hc : List (Where × Co) := []
def y1hd : Ex → List Nat
  | .exit j => cond (Nat.beq j 0) [1] []
  | .ret => [4]
  | .normal => []
def y1he : Ex → List (Where × Co)
  | .exit j => cond (Nat.beq j 0) [] []
  | .ret => []
  | .normal => []
def y1hf (pv : (List Int) × (Int × Int)) : St := { slots := [(0, .r [] (.sl (.int .i64) pv.1)), (1, .r [] (.int .i64 pv.2.1)), (5, .r [] (.int .i64 pv.2.2))], heap := [], nid := 0, n := 21, gh := [] }
def y1hg (nf : NF) : Option ((List Int) × (Int × Int)) := match nf with
  | ([.r [] (.sl (.int .i64) w0), .r [] (.int .i64 w1), .r [] (.int .i64 w2)], [], []) => some (w0, (w1, w2))
  | _ => none
theorem y1hh (nf : NF) (v : (List Int) × (Int × Int)) (h : y1hg nf = some v) : denorm y1hb 21 nf = y1hf v := by
  unfold y1hg at h
  split at h
  · cases h; rfl
  · cases h
def y1hi (p : List Int) (x : Int) : St := { slots := [(1, .r [] (.int .i64 x))], heap := [], nid := 0, n := 21, gh := [] }
def y1hj (p : List Int) (x : Int) : St := { slots := [(4, .r [] (.int .i64 x))], heap := [], nid := 0, n := 21, gh := [] }
def y1hk (ρ : Type) (k : Nat) : Nat → Ev ρ → Ev ρ := fun id f => cond (Nat.beq id 0) (loopOrc y1hb y1hc (fun n nf => cond (Nat.beq n 21) (y1hg nf) none) fun pv K => iter (fun v next => L_heldIntS_g0 k pv.1 v next (fun x => K (.exit 0) (y1hi pv.1 x)) (fun x => K .ret (y1hj pv.1 x))) k pv.2) ((fun _ _ _ _ => none) id f)
theorem y1hl {ρ : Type} (k : Nat) (p : List Int) (v : Int × Int) (K K1 : Ex → St → Option ρ) : ev (y1h7 k) (y1hk ρ k) 0 y1ha (y1hf (p, v)) (fun e st' => match e with
    | .normal => (normC y1hb y1hc st').bind fun nf => K1 .normal (denorm y1hb st'.n nf)
    | e => (normC (y1hd e) (y1he e) st').bind fun nf => K e (denorm (y1hd e) st'.n nf)) = L_heldIntS_g0 k p v (fun v' => K1 .normal (y1hf (p, v'))) (fun x => K (.exit 0) (y1hi p x)) (fun x => K .ret (y1hj p x)) := by kernel_rfl
theorem y1hm {ρ : Type} (k : Nat) : Sound Tryz.prog (.loop y1ha) (y1hk ρ k 0 fun st K => ev (y1h7 k) (y1hk ρ k) 0 y1ha st K) :=
  loop_ok (ev_sound (y1h8 k) y1ha 0 (lpgood_none (by kernel_rfl))) y1hd y1he k (g := fun p v next K => L_heldIntS_g0 k p v next (fun x => K (.exit 0) (y1hi p x)) (fun x => K .ret (y1hj p x))) (dec_at y1hh) (fun p v K K1 => y1hl k p v K K1)
def y1hn (a : List Int × Int) : List Arg := [.one (.sl (.int .i64) a.1), .one (.int .i64 a.2)]
def y1ho (l : List Arg) : Option (List Int × Int) := match l with
  | [.one (.sl (.int .i64) b0), .one (.int .i64 b1)] => some (b0, b1)
  | _ => none
def y1hp (r : Int) : Out := (.r [] (.int .i64 r), [])
def y1hq (o : Out) : Option (Int) := match o with
  | (.r [] (.int .i64 z1), []) => some z1
  | _ => none
def y1hr (k : Nat) : PG := fun _ l K => (y1ho l).bind fun a => (L_heldIntS k a.1 a.2).bind fun r => K (y1hp r)
theorem y1hs (k : Nat) (a : List Int × Int) : ev (y1h7 k) (y1hk (Int) k) 0 y1h9 (st0 Tryz.f36 (y1hn a)) (fin Tryz.prog Tryz.f36 (.sc) y1hq) = L_heldIntS k a.1 a.2 := by kernel_rfl
theorem y1ht (k : Nat) : PureOk Tryz.prog 36 (y1hr k) :=
  pureOk_of_ev (y1h8 k) Tryz.func36 (by kernel_rfl) (by kernel_rfl) y1hn y1ho
    (fun l a h => by unfold y1ho at h; split at h <;> first | (cases h; rfl) | cases h) (fun a => rfl) (lpgood_of (l := [(0, y1ha)]) (by kernel_rfl) ⟨y1hm k, trivial⟩)
    (fun o r h => by unfold y1hq at h; split at h <;> first | (cases h; rfl) | cases h) (y1hs k)
def y1hu (k : Nat) : Orc := pureOrc [.one (.sl (.int .i64)), .one (.int .i64)] (y1hr k)
theorem y1hv (k : Nat) : OrcOk Tryz.prog 36 (y1hu k) := pureOrc_ok (y1ht k)
noncomputable def y1hw (k : Nat) : Env := { P := Tryz.prog, tt := tt, orc := fun g => cond (Nat.beq g 36) (y1hu k) (noOrc) }
theorem y1hx (k : Nat) : EnvOk (y1hw k) := fun g => (orc_cond (y1hv k) (noOrc_ok _ _))
noncomputable def y1hy : Code := (Tryz.f66.body).getD .skip
noncomputable def y1hz : Code := ((loopsIn 0 y1hy).getD 0 (0, .skip)).2
def y1i0 : List Nat := [0, 1, 5]
def y1i1 : List (Where × Co) := []
def y1i2 : Ex → List Nat
  | .exit j => cond (Nat.beq j 0) [1] []
  | .ret => [4]
  | .normal => []
def y1i3 : Ex → List (Where × Co)
  | .exit j => cond (Nat.beq j 0) [] []
  | .ret => []
  | .normal => []
def y1i4 (pv : (List Layer) × (Int × Int)) : St := { slots := [(0, .r [] (.sl (.st .layer) pv.1)), (1, .r [] (.int .i64 pv.2.1)), (5, .r [] (.int .i64 pv.2.2))], heap := [], nid := 0, n := 94, gh := [] }
def y1i5 (nf : NF) : Option ((List Layer) × (Int × Int)) := match nf with
  | ([.r [] (.sl (.st .layer) w0), .r [] (.int .i64 w1), .r [] (.int .i64 w2)], [], []) => some (w0, (w1, w2))
  | _ => none
theorem y1i6 (nf : NF) (v : (List Layer) × (Int × Int)) (h : y1i5 nf = some v) : denorm y1i0 94 nf = y1i4 v := by
  unfold y1i5 at h
  split at h
  · cases h; rfl
  · cases h
def y1i7 (p : List Layer) (x : Int) : St := { slots := [(1, .r [] (.int .i64 x))], heap := [], nid := 0, n := 94, gh := [] }
def y1i8 (p : List Layer) (x : Int) : St := { slots := [(4, .r [] (.int .i64 x))], heap := [], nid := 0, n := 94, gh := [] }
def y1i9 (ρ : Type) (k : Nat) : Nat → Ev ρ → Ev ρ := fun id f => cond (Nat.beq id 0) (loopOrc y1i0 y1i1 (fun n nf => cond (Nat.beq n 94) (y1i5 nf) none) fun pv K => iter (fun v next => L_heldLayerS_g0 k pv.1 v next (fun x => K (.exit 0) (y1i7 pv.1 x)) (fun x => K .ret (y1i8 pv.1 x))) k pv.2) ((fun _ _ _ _ => none) id f)
theorem y1ia {ρ : Type} (k : Nat) (p : List Layer) (v : Int × Int) (K K1 : Ex → St → Option ρ) : ev (y1hw k) (y1i9 ρ k) 0 y1hz (y1i4 (p, v)) (fun e st' => match e with
    | .normal => (normC y1i0 y1i1 st').bind fun nf => K1 .normal (denorm y1i0 st'.n nf)
    | e => (normC (y1i2 e) (y1i3 e) st').bind fun nf => K e (denorm (y1i2 e) st'.n nf)) = L_heldLayerS_g0 k p v (fun v' => K1 .normal (y1i4 (p, v'))) (fun x => K (.exit 0) (y1i7 p x)) (fun x => K .ret (y1i8 p x)) := by kernel_rfl
theorem y1ib {ρ : Type} (k : Nat) : Sound Tryz.prog (.loop y1hz) (y1i9 ρ k 0 fun st K => ev (y1hw k) (y1i9 ρ k) 0 y1hz st K) :=
  loop_ok (ev_sound (y1hx k) y1hz 0 (lpgood_none (by kernel_rfl))) y1i2 y1i3 k (g := fun p v next K => L_heldLayerS_g0 k p v next (fun x => K (.exit 0) (y1i7 p x)) (fun x => K .ret (y1i8 p x))) (dec_at y1i6) (fun p v K K1 => y1ia k p v K K1)
def y1ic (a : List Layer × Int) : List Arg := [.one (.sl (.st .layer) a.1), .one (.int .i64 a.2)]
def y1id (l : List Arg) : Option (List Layer × Int) := match l with
  | [.one (.sl (.st .layer) b0), .one (.int .i64 b1)] => some (b0, b1)
  | _ => none
def y1ie (r : Int) : Out := (.r [] (.int .i64 r), [])
def y1if (o : Out) : Option (Int) := match o with
  | (.r [] (.int .i64 z1), []) => some z1
  | _ => none
def y1ig (k : Nat) : PG := fun _ l K => (y1id l).bind fun a => (L_heldLayerS k a.1 a.2).bind fun r => K (y1ie r)
theorem y1ih (k : Nat) (a : List Layer × Int) : ev (y1hw k) (y1i9 (Int) k) 0 y1hy (st0 Tryz.f66 (y1ic a)) (fin Tryz.prog Tryz.f66 (.sc) y1if) = L_heldLayerS k a.1 a.2 := by kernel_rfl
theorem y1ii (k : Nat) : PureOk Tryz.prog 66 (y1ig k) :=
  pureOk_of_ev (y1hx k) Tryz.func66 (by kernel_rfl) (by kernel_rfl) y1ic y1id
    (fun l a h => by unfold y1id at h; split at h <;> first | (cases h; rfl) | cases h) (fun a => rfl) (lpgood_of (l := [(0, y1hz)]) (by kernel_rfl) ⟨y1ib k, trivial⟩)
    (fun o r h => by unfold y1if at h; split at h <;> first | (cases h; rfl) | cases h) (y1ih k)
def y1ij (k : Nat) : Orc := pureOrc [.one (.sl (.st .layer)), .one (.int .i64)] (y1ig k)
theorem y1ik (k : Nat) : OrcOk Tryz.prog 66 (y1ij k) := pureOrc_ok (y1ii k)
noncomputable def y1il (k : Nat) : Env := { P := Tryz.prog, tt := tt, orc := fun g => cond (Nat.beq g 66) (y1ij k) (noOrc) }
theorem y1im (k : Nat) : EnvOk (y1il k) := fun g => (orc_cond (y1ik k) (noOrc_ok _ _))
noncomputable def y1in : Code := (Tryz.f39.body).getD .skip
def y1io (ρ : Type) (k : Nat) : Nat → Ev ρ → Ev ρ := fun _ _ _ _ => none
def y1ip (a : Model × Int) : List Arg := [.agg [.int .i64 a.1.inp.h, .int .i64 a.1.inp.w, .int .i64 a.1.inp.c, .sl (.st .layer) a.1.layers], .one (.int .i64 a.2)]
def y1iq (l : List Arg) : Option (Model × Int) := match l with
  | [.agg [.int .i64 b0_0, .int .i64 b0_1, .int .i64 b0_2, .sl (.st .layer) b0_3], .one (.int .i64 b1)] => some ((⟨(⟨b0_0, b0_1, b0_2⟩ : Shape), b0_3⟩ : Model), b1)
  | _ => none
def y1ir (r : Int) : Out := (.r [] (.int .i64 r), [])
def y1is (o : Out) : Option (Int) := match o with
  | (.r [] (.int .i64 z1), []) => some z1
  | _ => none
def y1it (k : Nat) : PG := fun _ l K => (y1iq l).bind fun a => (L_heldModel k a.1 a.2).bind fun r => K (y1ir r)
theorem y1iu (k : Nat) (a : Model × Int) : ev (y1il k) (y1io (Int) k) 0 y1in (st0 Tryz.f39 (y1ip a)) (fin Tryz.prog Tryz.f39 (.sc) y1is) = L_heldModel k a.1 a.2 := by kernel_rfl
theorem y1iv (k : Nat) : PureOk Tryz.prog 39 (y1it k) :=
  pureOk_of_ev (y1im k) Tryz.func39 (by kernel_rfl) (by kernel_rfl) y1ip y1iq
    (fun l a h => by unfold y1iq at h; split at h <;> first | (cases h; rfl) | cases h) (fun a => rfl) (lpgood_none (by kernel_rfl))
    (fun o r h => by unfold y1is at h; split at h <;> first | (cases h; rfl) | cases h) (y1iu k)
def y1iw (k : Nat) : Orc := pureOrc [.agg [(.int .i64), (.int .i64), (.int .i64), (.sl (.st .layer))], .one (.int .i64)] (y1it k)
theorem y1ix (k : Nat) : OrcOk Tryz.prog 39 (y1iw k) := pureOrc_ok (y1iv k)
noncomputable def y1iy (k : Nat) : Env := { P := Tryz.prog, tt := tt, orc := fun g => cond (Nat.beq g 36) (y1hu k) (noOrc) }
theorem y1iz (k : Nat) : EnvOk (y1iy k) := fun g => (orc_cond (y1hv k) (noOrc_ok _ _))
noncomputable def y1j0 : Code := (Tryz.f14.body).getD .skip
def y1j1 (ρ : Type) (k : Nat) : Nat → Ev ρ → Ev ρ := fun _ _ _ _ => none
def y1j2 (a : Tensor × Int) : List Arg := [.agg [.int .i64 a.1.sh.h, .int .i64 a.1.sh.w, .int .i64 a.1.sh.c, .sl (.int .i64) a.1.data], .one (.int .i64 a.2)]
def y1j3 (l : List Arg) : Option (Tensor × Int) := match l with
  | [.agg [.int .i64 b0_0, .int .i64 b0_1, .int .i64 b0_2, .sl (.int .i64) b0_3], .one (.int .i64 b1)] => some ((⟨(⟨b0_0, b0_1, b0_2⟩ : Shape), b0_3⟩ : Tensor), b1)
  | _ => none
def y1j4 (r : Int) : Out := (.r [] (.int .i64 r), [])
def y1j5 (o : Out) : Option (Int) := match o with
  | (.r [] (.int .i64 z1), []) => some z1
  | _ => none
def y1j6 (k : Nat) : PG := fun _ l K => (y1j3 l).bind fun a => (L_heldTensor k a.1 a.2).bind fun r => K (y1j4 r)
theorem y1j7 (k : Nat) (a : Tensor × Int) : ev (y1iy k) (y1j1 (Int) k) 0 y1j0 (st0 Tryz.f14 (y1j2 a)) (fin Tryz.prog Tryz.f14 (.sc) y1j5) = L_heldTensor k a.1 a.2 := by kernel_rfl
theorem y1j8 (k : Nat) : PureOk Tryz.prog 14 (y1j6 k) :=
  pureOk_of_ev (y1iz k) Tryz.func14 (by kernel_rfl) (by kernel_rfl) y1j2 y1j3
    (fun l a h => by unfold y1j3 at h; split at h <;> first | (cases h; rfl) | cases h) (fun a => rfl) (lpgood_none (by kernel_rfl))
    (fun o r h => by unfold y1j5 at h; split at h <;> first | (cases h; rfl) | cases h) (y1j7 k)
def y1j9 (k : Nat) : Orc := pureOrc [.agg [(.int .i64), (.int .i64), (.int .i64), (.sl (.int .i64))], .one (.int .i64)] (y1j6 k)
theorem y1ja (k : Nat) : OrcOk Tryz.prog 14 (y1j9 k) := pureOrc_ok (y1j8 k)
noncomputable def y1jb (k : Nat) : Env := { P := Tryz.prog, tt := tt, orc := fun g => cond (Nat.beq g 14) (y1j9 k) (cond (Nat.beq g 39) (y1iw k) (noOrc)) }
theorem y1jc (k : Nat) : EnvOk (y1jb k) := fun g => (orc_cond (y1ja k) (orc_cond (y1ix k) (noOrc_ok _ _)))
noncomputable def y1jd : Code := (Tryz.f17.body).getD .skip
def y1je (ρ : Type) (k : Nat) : Nat → Ev ρ → Ev ρ := fun _ _ _ _ => none
def y1jf (a : Job × Int) : List Arg := [.agg [.int .i64 a.1.model.inp.h, .int .i64 a.1.model.inp.w, .int .i64 a.1.model.inp.c, .sl (.st .layer) a.1.model.layers, .int .i64 a.1.at_, .int .i64 a.1.act.sh.h, .int .i64 a.1.act.sh.w, .int .i64 a.1.act.sh.c, .sl (.int .i64) a.1.act.data, .int .i64 a.1.spent], .one (.int .i64 a.2)]
def y1jg (l : List Arg) : Option (Job × Int) := match l with
  | [.agg [.int .i64 b0_0, .int .i64 b0_1, .int .i64 b0_2, .sl (.st .layer) b0_3, .int .i64 b0_4, .int .i64 b0_5, .int .i64 b0_6, .int .i64 b0_7, .sl (.int .i64) b0_8, .int .i64 b0_9], .one (.int .i64 b1)] => some ((⟨(⟨(⟨b0_0, b0_1, b0_2⟩ : Shape), b0_3⟩ : Model), b0_4, (⟨(⟨b0_5, b0_6, b0_7⟩ : Shape), b0_8⟩ : Tensor), b0_9⟩ : Job), b1)
  | _ => none
def y1jh (r : Int) : Out := (.r [] (.int .i64 r), [])
def y1ji (o : Out) : Option (Int) := match o with
  | (.r [] (.int .i64 z1), []) => some z1
  | _ => none
def y1jj (k : Nat) : PG := fun _ l K => (y1jg l).bind fun a => (L_heldJob k a.1 a.2).bind fun r => K (y1jh r)
theorem y1jk (k : Nat) (a : Job × Int) : ev (y1jb k) (y1je (Int) k) 0 y1jd (st0 Tryz.f17 (y1jf a)) (fin Tryz.prog Tryz.f17 (.sc) y1ji) = L_heldJob k a.1 a.2 := by kernel_rfl
theorem y1jl (k : Nat) : PureOk Tryz.prog 17 (y1jj k) :=
  pureOk_of_ev (y1jc k) Tryz.func17 (by kernel_rfl) (by kernel_rfl) y1jf y1jg
    (fun l a h => by unfold y1jg at h; split at h <;> first | (cases h; rfl) | cases h) (fun a => rfl) (lpgood_none (by kernel_rfl))
    (fun o r h => by unfold y1ji at h; split at h <;> first | (cases h; rfl) | cases h) (y1jk k)
def y1jm (k : Nat) : Orc := pureOrc [.agg [(.int .i64), (.int .i64), (.int .i64), (.sl (.st .layer)), (.int .i64), (.int .i64), (.int .i64), (.int .i64), (.sl (.int .i64)), (.int .i64)], .one (.int .i64)] (y1jj k)
theorem y1jn (k : Nat) : OrcOk Tryz.prog 17 (y1jm k) := pureOrc_ok (y1jl k)
noncomputable def y1jo (k : Nat) : Env := { P := Tryz.prog, tt := tt, orc := fun g => cond (Nat.beq g 6) (y31 k) (cond (Nat.beq g 8) (y66 k) (cond (Nat.beq g 11) (y1el k) (cond (Nat.beq g 12) (y1h5 k) (cond (Nat.beq g 15) (yop k) (cond (Nat.beq g 16) (y1be k) (cond (Nat.beq g 17) (y1jm k) (noOrc))))))), wr := fun g => mem g [12], wt := true }
theorem y1jp (k : Nat) : EnvOk (y1jo k) := fun g => (orc_cond (y32 k) (orc_cond (y67 k) (orc_cond (y1em k) (orc_cond (y1h6 k) (orc_cond (yoq k) (orc_cond (y1bf k) (orc_cond (y1jn k) (noOrc_ok _ _))))))))
noncomputable def y1jq : Code := (Tryz.f4.body).getD .skip
def y1jr (ρ : Type) (k : Nat) : Nat → Ev ρ → Ev ρ := fun _ _ _ _ => none
def y1js (a : Job) : List Arg := [.agg [.int .i64 a.model.inp.h, .int .i64 a.model.inp.w, .int .i64 a.model.inp.c, .sl (.st .layer) a.model.layers, .int .i64 a.at_, .int .i64 a.act.sh.h, .int .i64 a.act.sh.w, .int .i64 a.act.sh.c, .sl (.int .i64) a.act.data, .int .i64 a.spent]]
def y1jt (l : List Arg) : Option (Job) := match l with
  | [.agg [.int .i64 b0_0, .int .i64 b0_1, .int .i64 b0_2, .sl (.st .layer) b0_3, .int .i64 b0_4, .int .i64 b0_5, .int .i64 b0_6, .int .i64 b0_7, .sl (.int .i64) b0_8, .int .i64 b0_9]] => some (⟨(⟨(⟨b0_0, b0_1, b0_2⟩ : Shape), b0_3⟩ : Model), b0_4, (⟨(⟨b0_5, b0_6, b0_7⟩ : Shape), b0_8⟩ : Tensor), b0_9⟩ : Job)
  | _ => none
def y1ju (r : Bool) : Out := (.r [] (.bool r), [])
def y1jv (o : Out) : Option (Bool) := match o with
  | (.r [] (.bool z1), []) => some z1
  | _ => none
def y1jw (k : Nat) : PG := fun _ l K => (y1jt l).bind fun a => (L_FnExactStepJob k a).bind fun r => K (y1ju r)
theorem y1jx (k : Nat) (a : Job) : ev (y1jo k) (y1jr (Bool) k) 0 y1jq (st0 Tryz.f4 (y1js a)) (fin Tryz.prog Tryz.f4 (.sc) y1jv) = L_FnExactStepJob k a := by kernel_rfl
theorem y1jy (k : Nat) : PureOk Tryz.prog 4 (y1jw k) :=
  pureOk_of_ev (y1jp k) Tryz.func4 (by kernel_rfl) (by kernel_rfl) y1js y1jt
    (fun l a h => by unfold y1jt at h; split at h <;> first | (cases h; rfl) | cases h) (fun a => rfl) (lpgood_none (by kernel_rfl))
    (fun o r h => by unfold y1jv at h; split at h <;> first | (cases h; rfl) | cases h) (y1jx k)
end
end Go.Proofs.Ev
