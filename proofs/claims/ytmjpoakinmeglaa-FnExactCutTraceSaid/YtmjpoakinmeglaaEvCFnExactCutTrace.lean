/- Text of this claim. -/
import Derived.Test.YtmjpoakinmeglaaEvK5
import Derived.Test.YtmjpoakinmeglaaProg
import Derived.Test.YtmjpoakinmeglaaEvD1
import Derived.Test.YtmjpoakinmeglaaEvD3
set_option linter.unusedVariables false
set_option linter.unusedSimpArgs false
set_option linter.unusedVariables false
set_option linter.unusedSimpArgs false
set_option maxRecDepth 100000
namespace Go.Proofs.Ev
noncomputable section
def tt : TT := look [(2, (.int .i64)), (3, (.int .i64)), (4, .bool), (5, (.int .u8)), (6, (.int .u8)), (9, .str), (10, .str), (11, .str), (12, (.int .u64)), (21, (.int .i32)), (23, (.st .shape)), (24, (.sl (.int .i64))), (26, (.st .tensor)), (28, (.sl (.st .tensor))), (31, (.st .shape)), (33, (.st .tensor)), (40, (.sl (.st .step))), (43, (.sl (.st .step))), (50, (.sl (.int .u8))), (52, (.st .step)), (57, (.st .step)), (71, (.sl (.st .task))), (75, (.sl (.st .task))), (84, (.sl (.st .wish))), (86, (.sl (.sl (.int .i64)))), (89, (.sl (.st .wish))), (99, (.sl (.st .layer))), (101, (.st .model)), (104, (.sl (.st .layer))), (106, (.st .model)), (147, (.st .wish)), (149, (.st .wish)), (171, (.int .u64)), (180, (.st .task)), (181, (.st .task)), (191, (.st .layer)), (192, (.sl (.st .shape))), (196, (.st .layer)), (215, (.int .u32)), (216, (.int .u8)), (217, (.int .u8)), (220, (.int .i32)), (221, (.int .i32))]
/-! ### 83 loop.example/g00778/laws.szByteS -/
noncomputable def E_L_szByteS (k : Nat) : Env := { P := Try.prog, tt := tt, orc := fun g => noOrc }
theorem E_L_szByteS_ok (k : Nat) : EnvOk (E_L_szByteS k) := fun g => (noOrc_ok _ _)
noncomputable def c_L_szByteS : Code := (Try.f83.body).getD .skip
def LP_L_szByteS (ρ : Type) (k : Nat) : Nat → Ev ρ → Ev ρ := fun _ _ _ _ => none
def L_szByteS_args (a : List Int × Int) : List Arg := [.one (.sl (.int .u8) a.1), .one (.int .i64 a.2)]
def L_szByteS_argD (l : List Arg) : Option (List Int × Int) := match l with
  | [.one (.sl (.int .u8) b0), .one (.int .i64 b1)] => some (b0, b1)
  | _ => none
def L_szByteS_enc (r : Int) : Out := (.r [] (.int .i64 r), [])
def L_szByteS_dec (o : Out) : Option (Int) := match o with
  | (.r [] (.int .i64 z1), []) => some z1
  | _ => none
def L_szByteS_G (k : Nat) : PG := fun _ l K => (L_szByteS_argD l).bind fun a => (L_szByteS k a.1 a.2).bind fun r => K (L_szByteS_enc r)
theorem L_szByteS_ev (k : Nat) (a : List Int × Int) : ev (E_L_szByteS k) (LP_L_szByteS (Int) k) 0 c_L_szByteS (st0 Try.f83 (L_szByteS_args a)) (fin Try.prog Try.f83 (.sc) L_szByteS_dec) = L_szByteS k a.1 a.2 := by kernel_rfl
theorem L_szByteS_ok (k : Nat) : PureOk Try.prog 83 (L_szByteS_G k) :=
  pureOk_of_ev (E_L_szByteS_ok k) Try.func83 (by kernel_rfl) (by kernel_rfl) L_szByteS_args L_szByteS_argD
    (fun l a h => by unfold L_szByteS_argD at h; split at h <;> first | (cases h; rfl) | cases h) (fun a => rfl) (lpgood_none (by kernel_rfl))
    (fun o r h => by unfold L_szByteS_dec at h; split at h <;> first | (cases h; rfl) | cases h) (L_szByteS_ev k)
def o_L_szByteS (k : Nat) : Orc := pureOrc [.one (.sl (.int .u8)), .one (.int .i64)] (L_szByteS_G k)
theorem o_L_szByteS_ok (k : Nat) : OrcOk Try.prog 83 (o_L_szByteS k) := pureOrc_ok (L_szByteS_ok k)
/-! ### 72 loop.example/g00778/laws.szIntS -/
noncomputable def E_L_szIntS (k : Nat) : Env := { P := Try.prog, tt := tt, orc := fun g => noOrc }
theorem E_L_szIntS_ok (k : Nat) : EnvOk (E_L_szIntS k) := fun g => (noOrc_ok _ _)
noncomputable def c_L_szIntS : Code := (Try.f72.body).getD .skip
def LP_L_szIntS (ρ : Type) (k : Nat) : Nat → Ev ρ → Ev ρ := fun _ _ _ _ => none
def L_szIntS_args (a : List Int × Int) : List Arg := [.one (.sl (.int .i64) a.1), .one (.int .i64 a.2)]
def L_szIntS_argD (l : List Arg) : Option (List Int × Int) := match l with
  | [.one (.sl (.int .i64) b0), .one (.int .i64 b1)] => some (b0, b1)
  | _ => none
def L_szIntS_enc (r : Int) : Out := (.r [] (.int .i64 r), [])
def L_szIntS_dec (o : Out) : Option (Int) := match o with
  | (.r [] (.int .i64 z1), []) => some z1
  | _ => none
def L_szIntS_G (k : Nat) : PG := fun _ l K => (L_szIntS_argD l).bind fun a => (L_szIntS k a.1 a.2).bind fun r => K (L_szIntS_enc r)
theorem L_szIntS_ev (k : Nat) (a : List Int × Int) : ev (E_L_szIntS k) (LP_L_szIntS (Int) k) 0 c_L_szIntS (st0 Try.f72 (L_szIntS_args a)) (fin Try.prog Try.f72 (.sc) L_szIntS_dec) = L_szIntS k a.1 a.2 := by kernel_rfl
theorem L_szIntS_ok (k : Nat) : PureOk Try.prog 72 (L_szIntS_G k) :=
  pureOk_of_ev (E_L_szIntS_ok k) Try.func72 (by kernel_rfl) (by kernel_rfl) L_szIntS_args L_szIntS_argD
    (fun l a h => by unfold L_szIntS_argD at h; split at h <;> first | (cases h; rfl) | cases h) (fun a => rfl) (lpgood_none (by kernel_rfl))
    (fun o r h => by unfold L_szIntS_dec at h; split at h <;> first | (cases h; rfl) | cases h) (L_szIntS_ev k)
def o_L_szIntS (k : Nat) : Orc := pureOrc [.one (.sl (.int .i64)), .one (.int .i64)] (L_szIntS_G k)
theorem o_L_szIntS_ok (k : Nat) : OrcOk Try.prog 72 (o_L_szIntS k) := pureOrc_ok (L_szIntS_ok k)
/-! ### 13 loop.example/g00778/laws.szTensor -/
noncomputable def E_L_szTensor (k : Nat) : Env := { P := Try.prog, tt := tt, orc := fun g => cond (Nat.beq g 72) (o_L_szIntS k) (noOrc) }
theorem E_L_szTensor_ok (k : Nat) : EnvOk (E_L_szTensor k) := fun g => (orc_cond (o_L_szIntS_ok k) (noOrc_ok _ _))
noncomputable def c_L_szTensor : Code := (Try.f13.body).getD .skip
def LP_L_szTensor (ρ : Type) (k : Nat) : Nat → Ev ρ → Ev ρ := fun _ _ _ _ => none
def L_szTensor_args (a : Tensor × Int) : List Arg := [.agg [.int .i64 a.1.sh.h, .int .i64 a.1.sh.w, .int .i64 a.1.sh.c, .sl (.int .i64) a.1.data], .one (.int .i64 a.2)]
def L_szTensor_argD (l : List Arg) : Option (Tensor × Int) := match l with
  | [.agg [.int .i64 b0_0, .int .i64 b0_1, .int .i64 b0_2, .sl (.int .i64) b0_3], .one (.int .i64 b1)] => some ((⟨(⟨b0_0, b0_1, b0_2⟩ : Shape), b0_3⟩ : Tensor), b1)
  | _ => none
def L_szTensor_enc (r : Int) : Out := (.r [] (.int .i64 r), [])
def L_szTensor_dec (o : Out) : Option (Int) := match o with
  | (.r [] (.int .i64 z1), []) => some z1
  | _ => none
def L_szTensor_G (k : Nat) : PG := fun _ l K => (L_szTensor_argD l).bind fun a => (L_szTensor k a.1 a.2).bind fun r => K (L_szTensor_enc r)
theorem L_szTensor_ev (k : Nat) (a : Tensor × Int) : ev (E_L_szTensor k) (LP_L_szTensor (Int) k) 0 c_L_szTensor (st0 Try.f13 (L_szTensor_args a)) (fin Try.prog Try.f13 (.sc) L_szTensor_dec) = L_szTensor k a.1 a.2 := by kernel_rfl
theorem L_szTensor_ok (k : Nat) : PureOk Try.prog 13 (L_szTensor_G k) :=
  pureOk_of_ev (E_L_szTensor_ok k) Try.func13 (by kernel_rfl) (by kernel_rfl) L_szTensor_args L_szTensor_argD
    (fun l a h => by unfold L_szTensor_argD at h; split at h <;> first | (cases h; rfl) | cases h) (fun a => rfl) (lpgood_none (by kernel_rfl))
    (fun o r h => by unfold L_szTensor_dec at h; split at h <;> first | (cases h; rfl) | cases h) (L_szTensor_ev k)
def o_L_szTensor (k : Nat) : Orc := pureOrc [.agg [(.int .i64), (.int .i64), (.int .i64), (.sl (.int .i64))], .one (.int .i64)] (L_szTensor_G k)
theorem o_L_szTensor_ok (k : Nat) : OrcOk Try.prog 13 (o_L_szTensor k) := pureOrc_ok (L_szTensor_ok k)
/-! ### 31 loop.example/g00778/laws.szStep -/
noncomputable def E_L_szStep (k : Nat) : Env := { P := Try.prog, tt := tt, orc := fun g => cond (Nat.beq g 13) (o_L_szTensor k) (cond (Nat.beq g 83) (o_L_szByteS k) (noOrc)) }
theorem E_L_szStep_ok (k : Nat) : EnvOk (E_L_szStep k) := fun g => (orc_cond (o_L_szTensor_ok k) (orc_cond (o_L_szByteS_ok k) (noOrc_ok _ _)))
noncomputable def c_L_szStep : Code := (Try.f31.body).getD .skip
def LP_L_szStep (ρ : Type) (k : Nat) : Nat → Ev ρ → Ev ρ := fun _ _ _ _ => none
def L_szStep_args (a : Step × Int) : List Arg := [.agg [.int .i64 a.1.kind, .int .i64 a.1.a, .int .i64 a.1.b, .sl (.int .u8) a.1.data, .int .i64 a.1.input.sh.h, .int .i64 a.1.input.sh.w, .int .i64 a.1.input.sh.c, .sl (.int .i64) a.1.input.data], .one (.int .i64 a.2)]
def L_szStep_argD (l : List Arg) : Option (Step × Int) := match l with
  | [.agg [.int .i64 b0_0, .int .i64 b0_1, .int .i64 b0_2, .sl (.int .u8) b0_3, .int .i64 b0_4, .int .i64 b0_5, .int .i64 b0_6, .sl (.int .i64) b0_7], .one (.int .i64 b1)] => some ((⟨b0_0, b0_1, b0_2, b0_3, (⟨(⟨b0_4, b0_5, b0_6⟩ : Shape), b0_7⟩ : Tensor)⟩ : Step), b1)
  | _ => none
def L_szStep_enc (r : Int) : Out := (.r [] (.int .i64 r), [])
def L_szStep_dec (o : Out) : Option (Int) := match o with
  | (.r [] (.int .i64 z1), []) => some z1
  | _ => none
def L_szStep_G (k : Nat) : PG := fun _ l K => (L_szStep_argD l).bind fun a => (L_szStep k a.1 a.2).bind fun r => K (L_szStep_enc r)
theorem L_szStep_ev (k : Nat) (a : Step × Int) : ev (E_L_szStep k) (LP_L_szStep (Int) k) 0 c_L_szStep (st0 Try.f31 (L_szStep_args a)) (fin Try.prog Try.f31 (.sc) L_szStep_dec) = L_szStep k a.1 a.2 := by kernel_rfl
theorem L_szStep_ok (k : Nat) : PureOk Try.prog 31 (L_szStep_G k) :=
  pureOk_of_ev (E_L_szStep_ok k) Try.func31 (by kernel_rfl) (by kernel_rfl) L_szStep_args L_szStep_argD
    (fun l a h => by unfold L_szStep_argD at h; split at h <;> first | (cases h; rfl) | cases h) (fun a => rfl) (lpgood_none (by kernel_rfl))
    (fun o r h => by unfold L_szStep_dec at h; split at h <;> first | (cases h; rfl) | cases h) (L_szStep_ev k)
def o_L_szStep (k : Nat) : Orc := pureOrc [.agg [(.int .i64), (.int .i64), (.int .i64), (.sl (.int .u8)), (.int .i64), (.int .i64), (.int .i64), (.sl (.int .i64))], .one (.int .i64)] (L_szStep_G k)
theorem o_L_szStep_ok (k : Nat) : OrcOk Try.prog 31 (o_L_szStep k) := pureOrc_ok (L_szStep_ok k)
/-! ### 22 loop.example/g00778/laws.szStepS -/
noncomputable def E_L_szStepS (k : Nat) : Env := { P := Try.prog, tt := tt, orc := fun g => cond (Nat.beq g 31) (o_L_szStep k) (noOrc) }
theorem E_L_szStepS_ok (k : Nat) : EnvOk (E_L_szStepS k) := fun g => (orc_cond (o_L_szStep_ok k) (noOrc_ok _ _))
noncomputable def c_L_szStepS : Code := (Try.f22.body).getD .skip
noncomputable def b_L_szStepS_0 : Code := ((loopsIn 0 c_L_szStepS).getD 0 (0, .skip)).2
def L_szStepS_g0_keep : List Nat := [0, 1, 5]
def L_szStepS_g0_co : List (Where × Co) := []
def L_szStepS_g0_kx : Ex → List Nat
  | .exit j => cond (Nat.beq j 0) [1] []
  | .ret => [4]
  | .normal => []
def L_szStepS_g0_cx : Ex → List (Where × Co)
  | .exit j => cond (Nat.beq j 0) [] []
  | .ret => []
  | .normal => []
def L_szStepS_g0_tm (pv : (List Step) × (Int × Int)) : St := { slots := [(0, .r [] (.sl (.st .step) pv.1)), (1, .r [] (.int .i64 pv.2.1)), (5, .r [] (.int .i64 pv.2.2))], heap := [], nid := 0, n := 27, gh := [] }
def L_szStepS_g0_dec (nf : NF) : Option ((List Step) × (Int × Int)) := match nf with
  | ([.r [] (.sl (.st .step) w0), .r [] (.int .i64 w1), .r [] (.int .i64 w2)], [], []) => some (w0, (w1, w2))
  | _ => none
theorem L_szStepS_g0_hd (nf : NF) (v : (List Step) × (Int × Int)) (h : L_szStepS_g0_dec nf = some v) : denorm L_szStepS_g0_keep 27 nf = L_szStepS_g0_tm v := by
  unfold L_szStepS_g0_dec at h
  split at h
  · cases h; rfl
  · cases h
def L_szStepS_g0_x0 (p : List Step) (x : Int) : St := { slots := [(1, .r [] (.int .i64 x))], heap := [], nid := 0, n := 27, gh := [] }
def L_szStepS_g0_xret (p : List Step) (x : Int) : St := { slots := [(4, .r [] (.int .i64 x))], heap := [], nid := 0, n := 27, gh := [] }
def LP_L_szStepS (ρ : Type) (k : Nat) : Nat → Ev ρ → Ev ρ := fun id f => cond (Nat.beq id 0) (loopOrc L_szStepS_g0_keep L_szStepS_g0_co (fun n nf => cond (Nat.beq n 27) (L_szStepS_g0_dec nf) none) fun pv K => iter (fun v next => L_szStepS_g0 k pv.1 v next (fun x => K (.exit 0) (L_szStepS_g0_x0 pv.1 x)) (fun x => K .ret (L_szStepS_g0_xret pv.1 x))) k pv.2) ((fun _ _ _ _ => none) id f)
theorem L_szStepS_g0_round {ρ : Type} (k : Nat) (p : List Step) (v : Int × Int) (K K1 : Ex → St → Option ρ) : ev (E_L_szStepS k) (LP_L_szStepS ρ k) 0 b_L_szStepS_0 (L_szStepS_g0_tm (p, v)) (fun e st' => match e with
    | .normal => (normC L_szStepS_g0_keep L_szStepS_g0_co st').bind fun nf => K1 .normal (denorm L_szStepS_g0_keep st'.n nf)
    | e => (normC (L_szStepS_g0_kx e) (L_szStepS_g0_cx e) st').bind fun nf => K e (denorm (L_szStepS_g0_kx e) st'.n nf)) = L_szStepS_g0 k p v (fun v' => K1 .normal (L_szStepS_g0_tm (p, v'))) (fun x => K (.exit 0) (L_szStepS_g0_x0 p x)) (fun x => K .ret (L_szStepS_g0_xret p x)) := by kernel_rfl
theorem L_szStepS_g0_ok {ρ : Type} (k : Nat) : Sound Try.prog (.loop b_L_szStepS_0) (LP_L_szStepS ρ k 0 fun st K => ev (E_L_szStepS k) (LP_L_szStepS ρ k) 0 b_L_szStepS_0 st K) :=
  loop_ok (ev_sound (E_L_szStepS_ok k) b_L_szStepS_0 0 (lpgood_none (by kernel_rfl))) L_szStepS_g0_kx L_szStepS_g0_cx k (g := fun p v next K => L_szStepS_g0 k p v next (fun x => K (.exit 0) (L_szStepS_g0_x0 p x)) (fun x => K .ret (L_szStepS_g0_xret p x))) (dec_at L_szStepS_g0_hd) (fun p v K K1 => L_szStepS_g0_round k p v K K1)
def L_szStepS_args (a : List Step × Int) : List Arg := [.one (.sl (.st .step) a.1), .one (.int .i64 a.2)]
def L_szStepS_argD (l : List Arg) : Option (List Step × Int) := match l with
  | [.one (.sl (.st .step) b0), .one (.int .i64 b1)] => some (b0, b1)
  | _ => none
def L_szStepS_enc (r : Int) : Out := (.r [] (.int .i64 r), [])
def L_szStepS_dec (o : Out) : Option (Int) := match o with
  | (.r [] (.int .i64 z1), []) => some z1
  | _ => none
def L_szStepS_G (k : Nat) : PG := fun _ l K => (L_szStepS_argD l).bind fun a => (L_szStepS k a.1 a.2).bind fun r => K (L_szStepS_enc r)
theorem L_szStepS_ev (k : Nat) (a : List Step × Int) : ev (E_L_szStepS k) (LP_L_szStepS (Int) k) 0 c_L_szStepS (st0 Try.f22 (L_szStepS_args a)) (fin Try.prog Try.f22 (.sc) L_szStepS_dec) = L_szStepS k a.1 a.2 := by kernel_rfl
theorem L_szStepS_ok (k : Nat) : PureOk Try.prog 22 (L_szStepS_G k) :=
  pureOk_of_ev (E_L_szStepS_ok k) Try.func22 (by kernel_rfl) (by kernel_rfl) L_szStepS_args L_szStepS_argD
    (fun l a h => by unfold L_szStepS_argD at h; split at h <;> first | (cases h; rfl) | cases h) (fun a => rfl) (lpgood_of (l := [(0, b_L_szStepS_0)]) (by kernel_rfl) ⟨L_szStepS_g0_ok k, trivial⟩)
    (fun o r h => by unfold L_szStepS_dec at h; split at h <;> first | (cases h; rfl) | cases h) (L_szStepS_ev k)
def o_L_szStepS (k : Nat) : Orc := pureOrc [.one (.sl (.st .step)), .one (.int .i64)] (L_szStepS_G k)
theorem o_L_szStepS_ok (k : Nat) : OrcOk Try.prog 22 (o_L_szStepS k) := pureOrc_ok (L_szStepS_ok k)
/-! ### 41 loop.example/g00778/laws.toByteS -/
noncomputable def E_L_toByteS (k : Nat) : Env := { P := Try.prog, tt := tt, orc := fun g => noOrc }
theorem E_L_toByteS_ok (k : Nat) : EnvOk (E_L_toByteS k) := fun g => (noOrc_ok _ _)
noncomputable def c_L_toByteS : Code := (Try.f41.body).getD .skip
noncomputable def b_L_toByteS_0 : Code := ((loopsIn 0 c_L_toByteS).getD 0 (0, .skip)).2
def L_toByteS_g0_keep : List Nat := [0, 3, 4]
def L_toByteS_g0_co : List (Where × Co) := []
def L_toByteS_g0_kx : Ex → List Nat
  | .exit j => cond (Nat.beq j 0) [3] []
  | .ret => []
  | .normal => []
def L_toByteS_g0_cx : Ex → List (Where × Co)
  | .exit j => cond (Nat.beq j 0) [] []
  | .ret => []
  | .normal => []
def L_toByteS_g0_tm (pv : (List Int) × (Int × List Int)) : St := { slots := [(0, .r [] (.sl (.int .u8) pv.1)), (3, .own 0), (4, .r [] (.int .i64 pv.2.1))], heap := [(0, .arr none (.int .u8) pv.2.2)], nid := 1, n := 22, gh := [] }
def L_toByteS_g0_dec (nf : NF) : Option ((List Int) × (Int × List Int)) := match nf with
  | ([.r [] (.sl (.int .u8) w0), .own 0, .r [] (.int .i64 w1)], [.arr none (.int .u8) w2], []) => some (w0, (w1, w2))
  | _ => none
theorem L_toByteS_g0_hd (nf : NF) (v : (List Int) × (Int × List Int)) (h : L_toByteS_g0_dec nf = some v) : denorm L_toByteS_g0_keep 22 nf = L_toByteS_g0_tm v := by
  unfold L_toByteS_g0_dec at h
  split at h
  · cases h; rfl
  · cases h
def L_toByteS_g0_x0 (p : List Int) (x : List Int) : St := { slots := [(3, .own 0)], heap := [(0, .arr none (.int .u8) x)], nid := 1, n := 22, gh := [] }
def LP_L_toByteS (ρ : Type) (k : Nat) : Nat → Ev ρ → Ev ρ := fun id f => cond (Nat.beq id 0) (loopOrc L_toByteS_g0_keep L_toByteS_g0_co (fun n nf => cond (Nat.beq n 22) (L_toByteS_g0_dec nf) none) fun pv K => iter (fun v next => L_toByteS_g0 k pv.1 v next (fun x => K (.exit 0) (L_toByteS_g0_x0 pv.1 x))) k pv.2) ((fun _ _ _ _ => none) id f)
theorem L_toByteS_g0_round {ρ : Type} (k : Nat) (p : List Int) (v : Int × List Int) (K K1 : Ex → St → Option ρ) : ev (E_L_toByteS k) (LP_L_toByteS ρ k) 0 b_L_toByteS_0 (L_toByteS_g0_tm (p, v)) (fun e st' => match e with
    | .normal => (normC L_toByteS_g0_keep L_toByteS_g0_co st').bind fun nf => K1 .normal (denorm L_toByteS_g0_keep st'.n nf)
    | e => (normC (L_toByteS_g0_kx e) (L_toByteS_g0_cx e) st').bind fun nf => K e (denorm (L_toByteS_g0_kx e) st'.n nf)) = L_toByteS_g0 k p v (fun v' => K1 .normal (L_toByteS_g0_tm (p, v'))) (fun x => K (.exit 0) (L_toByteS_g0_x0 p x)) := by kernel_rfl
theorem L_toByteS_g0_ok {ρ : Type} (k : Nat) : Sound Try.prog (.loop b_L_toByteS_0) (LP_L_toByteS ρ k 0 fun st K => ev (E_L_toByteS k) (LP_L_toByteS ρ k) 0 b_L_toByteS_0 st K) :=
  loop_ok (ev_sound (E_L_toByteS_ok k) b_L_toByteS_0 0 (lpgood_none (by kernel_rfl))) L_toByteS_g0_kx L_toByteS_g0_cx k (g := fun p v next K => L_toByteS_g0 k p v next (fun x => K (.exit 0) (L_toByteS_g0_x0 p x))) (dec_at L_toByteS_g0_hd) (fun p v K K1 => L_toByteS_g0_round k p v K K1)
def L_toByteS_args (a : List Int) : List Arg := [.one (.sl (.int .u8) a)]
def L_toByteS_argD (l : List Arg) : Option (List Int) := match l with
  | [.one (.sl (.int .u8) b0)] => some b0
  | _ => none
def L_toByteS_enc (r : List Int) : Out := (.own 0, [.arr none (.int .u8) r])
def L_toByteS_dec (o : Out) : Option (List Int) := match o with
  | (.own 0, [.arr none (.int .u8) z1]) => some z1
  | _ => none
def L_toByteS_G (k : Nat) : PG := fun _ l K => (L_toByteS_argD l).bind fun a => (L_toByteS k a).bind fun r => K (L_toByteS_enc r)
theorem L_toByteS_ev (k : Nat) (a : List Int) : ev (E_L_toByteS k) (LP_L_toByteS (List Int) k) 0 c_L_toByteS (st0 Try.f41 (L_toByteS_args a)) (fin Try.prog Try.f41 (.own (.int .u8)) L_toByteS_dec) = L_toByteS k a := by kernel_rfl
theorem L_toByteS_ok (k : Nat) : PureOk Try.prog 41 (L_toByteS_G k) :=
  pureOk_of_ev (E_L_toByteS_ok k) Try.func41 (by kernel_rfl) (by kernel_rfl) L_toByteS_args L_toByteS_argD
    (fun l a h => by unfold L_toByteS_argD at h; split at h <;> first | (cases h; rfl) | cases h) (fun a => rfl) (lpgood_of (l := [(0, b_L_toByteS_0)]) (by kernel_rfl) ⟨L_toByteS_g0_ok k, trivial⟩)
    (fun o r h => by unfold L_toByteS_dec at h; split at h <;> first | (cases h; rfl) | cases h) (L_toByteS_ev k)
def o_L_toByteS (k : Nat) : Orc := pureOrc [.one (.sl (.int .u8))] (L_toByteS_G k)
theorem o_L_toByteS_ok (k : Nat) : OrcOk Try.prog 41 (o_L_toByteS k) := pureOrc_ok (L_toByteS_ok k)
/-! ### 75 loop.example/g00778/laws.toShape -/
noncomputable def E_L_toShape (k : Nat) : Env := { P := Try.prog, tt := tt, orc := fun g => noOrc }
theorem E_L_toShape_ok (k : Nat) : EnvOk (E_L_toShape k) := fun g => (noOrc_ok _ _)
noncomputable def c_L_toShape : Code := (Try.f75.body).getD .skip
def LP_L_toShape (ρ : Type) (k : Nat) : Nat → Ev ρ → Ev ρ := fun _ _ _ _ => none
def L_toShape_args (a : Shape) : List Arg := [.agg [.int .i64 a.h, .int .i64 a.w, .int .i64 a.c]]
def L_toShape_argD (l : List Arg) : Option (Shape) := match l with
  | [.agg [.int .i64 b0_0, .int .i64 b0_1, .int .i64 b0_2]] => some (⟨b0_0, b0_1, b0_2⟩ : Shape)
  | _ => none
def L_toShape_enc (r : Shape) : Out := (.agg [.r [] (.int .i64 r.h), .r [] (.int .i64 r.w), .r [] (.int .i64 r.c)], [])
def L_toShape_dec (o : Out) : Option (Shape) := match o with
  | (.agg [.r [] (.int .i64 z1), .r [] (.int .i64 z2), .r [] (.int .i64 z3)], []) => some (⟨z1, z2, z3⟩ : Shape)
  | _ => none
def L_toShape_G (k : Nat) : PG := fun _ l K => (L_toShape_argD l).bind fun a => (L_toShape k a).bind fun r => K (L_toShape_enc r)
theorem L_toShape_ev (k : Nat) (a : Shape) : ev (E_L_toShape k) (LP_L_toShape (Shape) k) 0 c_L_toShape (st0 Try.f75 (L_toShape_args a)) (fin Try.prog Try.f75 (.agg [.sc, .sc, .sc]) L_toShape_dec) = L_toShape k a := by kernel_rfl
theorem L_toShape_ok (k : Nat) : PureOk Try.prog 75 (L_toShape_G k) :=
  pureOk_of_ev (E_L_toShape_ok k) Try.func75 (by kernel_rfl) (by kernel_rfl) L_toShape_args L_toShape_argD
    (fun l a h => by unfold L_toShape_argD at h; split at h <;> first | (cases h; rfl) | cases h) (fun a => rfl) (lpgood_none (by kernel_rfl))
    (fun o r h => by unfold L_toShape_dec at h; split at h <;> first | (cases h; rfl) | cases h) (L_toShape_ev k)
def o_L_toShape (k : Nat) : Orc := pureOrc [.agg [(.int .i64), (.int .i64), (.int .i64)]] (L_toShape_G k)
theorem o_L_toShape_ok (k : Nat) : OrcOk Try.prog 75 (o_L_toShape k) := pureOrc_ok (L_toShape_ok k)
/-! ### 76 loop.example/g00778/laws.toIntS -/
noncomputable def E_L_toIntS (k : Nat) : Env := { P := Try.prog, tt := tt, orc := fun g => noOrc }
theorem E_L_toIntS_ok (k : Nat) : EnvOk (E_L_toIntS k) := fun g => (noOrc_ok _ _)
noncomputable def c_L_toIntS : Code := (Try.f76.body).getD .skip
noncomputable def b_L_toIntS_0 : Code := ((loopsIn 0 c_L_toIntS).getD 0 (0, .skip)).2
def L_toIntS_g0_keep : List Nat := [0, 3, 4]
def L_toIntS_g0_co : List (Where × Co) := []
def L_toIntS_g0_kx : Ex → List Nat
  | .exit j => cond (Nat.beq j 0) [3] []
  | .ret => []
  | .normal => []
def L_toIntS_g0_cx : Ex → List (Where × Co)
  | .exit j => cond (Nat.beq j 0) [] []
  | .ret => []
  | .normal => []
def L_toIntS_g0_tm (pv : (List Int) × (Int × List Int)) : St := { slots := [(0, .r [] (.sl (.int .i64) pv.1)), (3, .own 0), (4, .r [] (.int .i64 pv.2.1))], heap := [(0, .arr none (.int .i64) pv.2.2)], nid := 1, n := 22, gh := [] }
def L_toIntS_g0_dec (nf : NF) : Option ((List Int) × (Int × List Int)) := match nf with
  | ([.r [] (.sl (.int .i64) w0), .own 0, .r [] (.int .i64 w1)], [.arr none (.int .i64) w2], []) => some (w0, (w1, w2))
  | _ => none
theorem L_toIntS_g0_hd (nf : NF) (v : (List Int) × (Int × List Int)) (h : L_toIntS_g0_dec nf = some v) : denorm L_toIntS_g0_keep 22 nf = L_toIntS_g0_tm v := by
  unfold L_toIntS_g0_dec at h
  split at h
  · cases h; rfl
  · cases h
def L_toIntS_g0_x0 (p : List Int) (x : List Int) : St := { slots := [(3, .own 0)], heap := [(0, .arr none (.int .i64) x)], nid := 1, n := 22, gh := [] }
def LP_L_toIntS (ρ : Type) (k : Nat) : Nat → Ev ρ → Ev ρ := fun id f => cond (Nat.beq id 0) (loopOrc L_toIntS_g0_keep L_toIntS_g0_co (fun n nf => cond (Nat.beq n 22) (L_toIntS_g0_dec nf) none) fun pv K => iter (fun v next => L_toIntS_g0 k pv.1 v next (fun x => K (.exit 0) (L_toIntS_g0_x0 pv.1 x))) k pv.2) ((fun _ _ _ _ => none) id f)
theorem L_toIntS_g0_round {ρ : Type} (k : Nat) (p : List Int) (v : Int × List Int) (K K1 : Ex → St → Option ρ) : ev (E_L_toIntS k) (LP_L_toIntS ρ k) 0 b_L_toIntS_0 (L_toIntS_g0_tm (p, v)) (fun e st' => match e with
    | .normal => (normC L_toIntS_g0_keep L_toIntS_g0_co st').bind fun nf => K1 .normal (denorm L_toIntS_g0_keep st'.n nf)
    | e => (normC (L_toIntS_g0_kx e) (L_toIntS_g0_cx e) st').bind fun nf => K e (denorm (L_toIntS_g0_kx e) st'.n nf)) = L_toIntS_g0 k p v (fun v' => K1 .normal (L_toIntS_g0_tm (p, v'))) (fun x => K (.exit 0) (L_toIntS_g0_x0 p x)) := by kernel_rfl
theorem L_toIntS_g0_ok {ρ : Type} (k : Nat) : Sound Try.prog (.loop b_L_toIntS_0) (LP_L_toIntS ρ k 0 fun st K => ev (E_L_toIntS k) (LP_L_toIntS ρ k) 0 b_L_toIntS_0 st K) :=
  loop_ok (ev_sound (E_L_toIntS_ok k) b_L_toIntS_0 0 (lpgood_none (by kernel_rfl))) L_toIntS_g0_kx L_toIntS_g0_cx k (g := fun p v next K => L_toIntS_g0 k p v next (fun x => K (.exit 0) (L_toIntS_g0_x0 p x))) (dec_at L_toIntS_g0_hd) (fun p v K K1 => L_toIntS_g0_round k p v K K1)
def L_toIntS_args (a : List Int) : List Arg := [.one (.sl (.int .i64) a)]
def L_toIntS_argD (l : List Arg) : Option (List Int) := match l with
  | [.one (.sl (.int .i64) b0)] => some b0
  | _ => none
def L_toIntS_enc (r : List Int) : Out := (.own 0, [.arr none (.int .i64) r])
def L_toIntS_dec (o : Out) : Option (List Int) := match o with
  | (.own 0, [.arr none (.int .i64) z1]) => some z1
  | _ => none
def L_toIntS_G (k : Nat) : PG := fun _ l K => (L_toIntS_argD l).bind fun a => (L_toIntS k a).bind fun r => K (L_toIntS_enc r)
theorem L_toIntS_ev (k : Nat) (a : List Int) : ev (E_L_toIntS k) (LP_L_toIntS (List Int) k) 0 c_L_toIntS (st0 Try.f76 (L_toIntS_args a)) (fin Try.prog Try.f76 (.own (.int .i64)) L_toIntS_dec) = L_toIntS k a := by kernel_rfl
theorem L_toIntS_ok (k : Nat) : PureOk Try.prog 76 (L_toIntS_G k) :=
  pureOk_of_ev (E_L_toIntS_ok k) Try.func76 (by kernel_rfl) (by kernel_rfl) L_toIntS_args L_toIntS_argD
    (fun l a h => by unfold L_toIntS_argD at h; split at h <;> first | (cases h; rfl) | cases h) (fun a => rfl) (lpgood_of (l := [(0, b_L_toIntS_0)]) (by kernel_rfl) ⟨L_toIntS_g0_ok k, trivial⟩)
    (fun o r h => by unfold L_toIntS_dec at h; split at h <;> first | (cases h; rfl) | cases h) (L_toIntS_ev k)
def o_L_toIntS (k : Nat) : Orc := pureOrc [.one (.sl (.int .i64))] (L_toIntS_G k)
theorem o_L_toIntS_ok (k : Nat) : OrcOk Try.prog 76 (o_L_toIntS k) := pureOrc_ok (L_toIntS_ok k)
/-! ### 15 loop.example/g00778/laws.toTensor -/
noncomputable def E_L_toTensor (k : Nat) : Env := { P := Try.prog, tt := tt, orc := fun g => cond (Nat.beq g 75) (o_L_toShape k) (cond (Nat.beq g 76) (o_L_toIntS k) (noOrc)) }
theorem E_L_toTensor_ok (k : Nat) : EnvOk (E_L_toTensor k) := fun g => (orc_cond (o_L_toShape_ok k) (orc_cond (o_L_toIntS_ok k) (noOrc_ok _ _)))
noncomputable def c_L_toTensor : Code := (Try.f15.body).getD .skip
def LP_L_toTensor (ρ : Type) (k : Nat) : Nat → Ev ρ → Ev ρ := fun _ _ _ _ => none
def L_toTensor_args (a : Tensor) : List Arg := [.agg [.int .i64 a.sh.h, .int .i64 a.sh.w, .int .i64 a.sh.c, .sl (.int .i64) a.data]]
def L_toTensor_argD (l : List Arg) : Option (Tensor) := match l with
  | [.agg [.int .i64 b0_0, .int .i64 b0_1, .int .i64 b0_2, .sl (.int .i64) b0_3]] => some (⟨(⟨b0_0, b0_1, b0_2⟩ : Shape), b0_3⟩ : Tensor)
  | _ => none
def L_toTensor_enc (r : Tensor) : Out := (.agg [.r [] (.int .i64 r.sh.h), .r [] (.int .i64 r.sh.w), .r [] (.int .i64 r.sh.c), .own 0], [.arr none (.int .i64) r.data])
def L_toTensor_dec (o : Out) : Option (Tensor) := match o with
  | (.agg [.r [] (.int .i64 z1), .r [] (.int .i64 z2), .r [] (.int .i64 z3), .own 0], [.arr none (.int .i64) z4]) => some (⟨(⟨z1, z2, z3⟩ : Shape), z4⟩ : Tensor)
  | _ => none
def L_toTensor_G (k : Nat) : PG := fun _ l K => (L_toTensor_argD l).bind fun a => (L_toTensor k a).bind fun r => K (L_toTensor_enc r)
theorem L_toTensor_ev (k : Nat) (a : Tensor) : ev (E_L_toTensor k) (LP_L_toTensor (Tensor) k) 0 c_L_toTensor (st0 Try.f15 (L_toTensor_args a)) (fin Try.prog Try.f15 (.agg [.sc, .sc, .sc, .own (.int .i64)]) L_toTensor_dec) = L_toTensor k a := by kernel_rfl
theorem L_toTensor_ok (k : Nat) : PureOk Try.prog 15 (L_toTensor_G k) :=
  pureOk_of_ev (E_L_toTensor_ok k) Try.func15 (by kernel_rfl) (by kernel_rfl) L_toTensor_args L_toTensor_argD
    (fun l a h => by unfold L_toTensor_argD at h; split at h <;> first | (cases h; rfl) | cases h) (fun a => rfl) (lpgood_none (by kernel_rfl))
    (fun o r h => by unfold L_toTensor_dec at h; split at h <;> first | (cases h; rfl) | cases h) (L_toTensor_ev k)
def o_L_toTensor (k : Nat) : Orc := pureOrc [.agg [(.int .i64), (.int .i64), (.int .i64), (.sl (.int .i64))]] (L_toTensor_G k)
theorem o_L_toTensor_ok (k : Nat) : OrcOk Try.prog 15 (o_L_toTensor k) := pureOrc_ok (L_toTensor_ok k)
/-! ### 33 loop.example/g00778/laws.toStep -/
noncomputable def E_L_toStep (k : Nat) : Env := { P := Try.prog, tt := tt, orc := fun g => cond (Nat.beq g 15) (o_L_toTensor k) (cond (Nat.beq g 41) (o_L_toByteS k) (noOrc)) }
theorem E_L_toStep_ok (k : Nat) : EnvOk (E_L_toStep k) := fun g => (orc_cond (o_L_toTensor_ok k) (orc_cond (o_L_toByteS_ok k) (noOrc_ok _ _)))
noncomputable def c_L_toStep : Code := (Try.f33.body).getD .skip
def LP_L_toStep (ρ : Type) (k : Nat) : Nat → Ev ρ → Ev ρ := fun _ _ _ _ => none
def L_toStep_args (a : Step) : List Arg := [.agg [.int .i64 a.kind, .int .i64 a.a, .int .i64 a.b, .sl (.int .u8) a.data, .int .i64 a.input.sh.h, .int .i64 a.input.sh.w, .int .i64 a.input.sh.c, .sl (.int .i64) a.input.data]]
def L_toStep_argD (l : List Arg) : Option (Step) := match l with
  | [.agg [.int .i64 b0_0, .int .i64 b0_1, .int .i64 b0_2, .sl (.int .u8) b0_3, .int .i64 b0_4, .int .i64 b0_5, .int .i64 b0_6, .sl (.int .i64) b0_7]] => some (⟨b0_0, b0_1, b0_2, b0_3, (⟨(⟨b0_4, b0_5, b0_6⟩ : Shape), b0_7⟩ : Tensor)⟩ : Step)
  | _ => none
def L_toStep_enc (r : Step) : Out := (.agg [.r [] (.int .i64 r.kind), .r [] (.int .i64 r.a), .r [] (.int .i64 r.b), .own 0, .r [] (.int .i64 r.input.sh.h), .r [] (.int .i64 r.input.sh.w), .r [] (.int .i64 r.input.sh.c), .own 1], [.arr none (.int .u8) r.data, .arr none (.int .i64) r.input.data])
def L_toStep_dec (o : Out) : Option (Step) := match o with
  | (.agg [.r [] (.int .i64 z1), .r [] (.int .i64 z2), .r [] (.int .i64 z3), .own 0, .r [] (.int .i64 z5), .r [] (.int .i64 z6), .r [] (.int .i64 z7), .own 1], [.arr none (.int .u8) z4, .arr none (.int .i64) z8]) => some (⟨z1, z2, z3, z4, (⟨(⟨z5, z6, z7⟩ : Shape), z8⟩ : Tensor)⟩ : Step)
  | _ => none
def L_toStep_G (k : Nat) : PG := fun _ l K => (L_toStep_argD l).bind fun a => (L_toStep k a).bind fun r => K (L_toStep_enc r)
theorem L_toStep_ev (k : Nat) (a : Step) : ev (E_L_toStep k) (LP_L_toStep (Step) k) 0 c_L_toStep (st0 Try.f33 (L_toStep_args a)) (fin Try.prog Try.f33 (.agg [.sc, .sc, .sc, .own (.int .u8), .sc, .sc, .sc, .own (.int .i64)]) L_toStep_dec) = L_toStep k a := by kernel_rfl
theorem L_toStep_ok (k : Nat) : PureOk Try.prog 33 (L_toStep_G k) :=
  pureOk_of_ev (E_L_toStep_ok k) Try.func33 (by kernel_rfl) (by kernel_rfl) L_toStep_args L_toStep_argD
    (fun l a h => by unfold L_toStep_argD at h; split at h <;> first | (cases h; rfl) | cases h) (fun a => rfl) (lpgood_none (by kernel_rfl))
    (fun o r h => by unfold L_toStep_dec at h; split at h <;> first | (cases h; rfl) | cases h) (L_toStep_ev k)
def o_L_toStep (k : Nat) : Orc := pureOrc [.agg [(.int .i64), (.int .i64), (.int .i64), (.sl (.int .u8)), (.int .i64), (.int .i64), (.int .i64), (.sl (.int .i64))]] (L_toStep_G k)
theorem o_L_toStep_ok (k : Nat) : OrcOk Try.prog 33 (o_L_toStep k) := pureOrc_ok (L_toStep_ok k)
/-! ### 24 loop.example/g00778/laws.toStepS -/
noncomputable def E_L_toStepS (k : Nat) : Env := { P := Try.prog, tt := tt, orc := fun g => cond (Nat.beq g 33) (o_L_toStep k) (noOrc) }
theorem E_L_toStepS_ok (k : Nat) : EnvOk (E_L_toStepS k) := fun g => (orc_cond (o_L_toStep_ok k) (noOrc_ok _ _))
noncomputable def c_L_toStepS : Code := (Try.f24.body).getD .skip
noncomputable def b_L_toStepS_0 : Code := ((loopsIn 0 c_L_toStepS).getD 0 (0, .skip)).2
def L_toStepS_g0_keep : List Nat := [0, 3, 4]
def L_toStepS_g0_co : List (Where × Co) := []
def L_toStepS_g0_kx : Ex → List Nat
  | .exit j => cond (Nat.beq j 0) [3] []
  | .ret => []
  | .normal => []
def L_toStepS_g0_cx : Ex → List (Where × Co)
  | .exit j => cond (Nat.beq j 0) [] []
  | .ret => []
  | .normal => []
def L_toStepS_g0_tm (pv : (List Step) × (Int × List Step)) : St := { slots := [(0, .r [] (.sl (.st .step) pv.1)), (3, .own 0), (4, .r [] (.int .i64 pv.2.1))], heap := [(0, .arr none (.st .step) pv.2.2)], nid := 1, n := 23, gh := [] }
def L_toStepS_g0_dec (nf : NF) : Option ((List Step) × (Int × List Step)) := match nf with
  | ([.r [] (.sl (.st .step) w0), .own 0, .r [] (.int .i64 w1)], [.arr none (.st .step) w2], []) => some (w0, (w1, w2))
  | _ => none
theorem L_toStepS_g0_hd (nf : NF) (v : (List Step) × (Int × List Step)) (h : L_toStepS_g0_dec nf = some v) : denorm L_toStepS_g0_keep 23 nf = L_toStepS_g0_tm v := by
  unfold L_toStepS_g0_dec at h
  split at h
  · cases h; rfl
  · cases h
def L_toStepS_g0_x0 (p : List Step) (x : List Step) : St := { slots := [(3, .own 0)], heap := [(0, .arr none (.st .step) x)], nid := 1, n := 23, gh := [] }
def LP_L_toStepS (ρ : Type) (k : Nat) : Nat → Ev ρ → Ev ρ := fun id f => cond (Nat.beq id 0) (loopOrc L_toStepS_g0_keep L_toStepS_g0_co (fun n nf => cond (Nat.beq n 23) (L_toStepS_g0_dec nf) none) fun pv K => iter (fun v next => L_toStepS_g0 k pv.1 v next (fun x => K (.exit 0) (L_toStepS_g0_x0 pv.1 x))) k pv.2) ((fun _ _ _ _ => none) id f)
theorem L_toStepS_g0_round {ρ : Type} (k : Nat) (p : List Step) (v : Int × List Step) (K K1 : Ex → St → Option ρ) : ev (E_L_toStepS k) (LP_L_toStepS ρ k) 0 b_L_toStepS_0 (L_toStepS_g0_tm (p, v)) (fun e st' => match e with
    | .normal => (normC L_toStepS_g0_keep L_toStepS_g0_co st').bind fun nf => K1 .normal (denorm L_toStepS_g0_keep st'.n nf)
    | e => (normC (L_toStepS_g0_kx e) (L_toStepS_g0_cx e) st').bind fun nf => K e (denorm (L_toStepS_g0_kx e) st'.n nf)) = L_toStepS_g0 k p v (fun v' => K1 .normal (L_toStepS_g0_tm (p, v'))) (fun x => K (.exit 0) (L_toStepS_g0_x0 p x)) := by kernel_rfl
theorem L_toStepS_g0_ok {ρ : Type} (k : Nat) : Sound Try.prog (.loop b_L_toStepS_0) (LP_L_toStepS ρ k 0 fun st K => ev (E_L_toStepS k) (LP_L_toStepS ρ k) 0 b_L_toStepS_0 st K) :=
  loop_ok (ev_sound (E_L_toStepS_ok k) b_L_toStepS_0 0 (lpgood_none (by kernel_rfl))) L_toStepS_g0_kx L_toStepS_g0_cx k (g := fun p v next K => L_toStepS_g0 k p v next (fun x => K (.exit 0) (L_toStepS_g0_x0 p x))) (dec_at L_toStepS_g0_hd) (fun p v K K1 => L_toStepS_g0_round k p v K K1)
def L_toStepS_args (a : List Step) : List Arg := [.one (.sl (.st .step) a)]
def L_toStepS_argD (l : List Arg) : Option (List Step) := match l with
  | [.one (.sl (.st .step) b0)] => some b0
  | _ => none
def L_toStepS_enc (r : List Step) : Out := (.own 0, [.arr none (.st .step) r])
def L_toStepS_dec (o : Out) : Option (List Step) := match o with
  | (.own 0, [.arr none (.st .step) z1]) => some z1
  | _ => none
def L_toStepS_G (k : Nat) : PG := fun _ l K => (L_toStepS_argD l).bind fun a => (L_toStepS k a).bind fun r => K (L_toStepS_enc r)
theorem L_toStepS_ev (k : Nat) (a : List Step) : ev (E_L_toStepS k) (LP_L_toStepS (List Step) k) 0 c_L_toStepS (st0 Try.f24 (L_toStepS_args a)) (fin Try.prog Try.f24 (.own (.st .step)) L_toStepS_dec) = L_toStepS k a := by kernel_rfl
theorem L_toStepS_ok (k : Nat) : PureOk Try.prog 24 (L_toStepS_G k) :=
  pureOk_of_ev (E_L_toStepS_ok k) Try.func24 (by kernel_rfl) (by kernel_rfl) L_toStepS_args L_toStepS_argD
    (fun l a h => by unfold L_toStepS_argD at h; split at h <;> first | (cases h; rfl) | cases h) (fun a => rfl) (lpgood_of (l := [(0, b_L_toStepS_0)]) (by kernel_rfl) ⟨L_toStepS_g0_ok k, trivial⟩)
    (fun o r h => by unfold L_toStepS_dec at h; split at h <;> first | (cases h; rfl) | cases h) (L_toStepS_ev k)
def o_L_toStepS (k : Nat) : Orc := pureOrc [.one (.sl (.st .step))] (L_toStepS_G k)
theorem o_L_toStepS_ok (k : Nat) : OrcOk Try.prog 24 (o_L_toStepS k) := pureOrc_ok (L_toStepS_ok k)
/-! ### 92 loop.example/g00778/spec.l01In -/
noncomputable def E_S_l01In (k : Nat) : Env := { P := Try.prog, tt := tt, orc := fun g => noOrc }
theorem E_S_l01In_ok (k : Nat) : EnvOk (E_S_l01In k) := fun g => (noOrc_ok _ _)
noncomputable def c_S_l01In : Code := (Try.f92.body).getD .skip
def LP_S_l01In (ρ : Type) (k : Nat) : Nat → Ev ρ → Ev ρ := fun _ _ _ _ => none
def S_l01In_args (a : Int × Int × Int) : List Arg := [.one (.int .i64 a.1), .one (.int .i64 a.2.1), .one (.int .i64 a.2.2)]
def S_l01In_argD (l : List Arg) : Option (Int × Int × Int) := match l with
  | [.one (.int .i64 b0), .one (.int .i64 b1), .one (.int .i64 b2)] => some (b0, b1, b2)
  | _ => none
def S_l01In_enc (r : Bool) : Out := (.r [] (.bool r), [])
def S_l01In_dec (o : Out) : Option (Bool) := match o with
  | (.r [] (.bool z1), []) => some z1
  | _ => none
def S_l01In_G (k : Nat) : PG := fun _ l K => (S_l01In_argD l).bind fun a => (S_l01In k a.1 a.2.1 a.2.2).bind fun r => K (S_l01In_enc r)
theorem S_l01In_ev (k : Nat) (a : Int × Int × Int) : ev (E_S_l01In k) (LP_S_l01In (Bool) k) 0 c_S_l01In (st0 Try.f92 (S_l01In_args a)) (fin Try.prog Try.f92 (.sc) S_l01In_dec) = S_l01In k a.1 a.2.1 a.2.2 := by kernel_rfl
theorem S_l01In_ok (k : Nat) : PureOk Try.prog 92 (S_l01In_G k) :=
  pureOk_of_ev (E_S_l01In_ok k) Try.func92 (by kernel_rfl) (by kernel_rfl) S_l01In_args S_l01In_argD
    (fun l a h => by unfold S_l01In_argD at h; split at h <;> first | (cases h; rfl) | cases h) (fun a => rfl) (lpgood_none (by kernel_rfl))
    (fun o r h => by unfold S_l01In_dec at h; split at h <;> first | (cases h; rfl) | cases h) (S_l01In_ev k)
def o_S_l01In (k : Nat) : Orc := pureOrc [.one (.int .i64), .one (.int .i64), .one (.int .i64)] (S_l01In_G k)
theorem o_S_l01In_ok (k : Nat) : OrcOk Try.prog 92 (o_S_l01In k) := pureOrc_ok (S_l01In_ok k)
/-! ### 141 loop.example/g00778/spec.l09Takes -/
noncomputable def E_S_l09Takes (k : Nat) : Env := { P := Try.prog, tt := tt, orc := fun g => cond (Nat.beq g 92) (o_S_l01In k) (noOrc) }
theorem E_S_l09Takes_ok (k : Nat) : EnvOk (E_S_l09Takes k) := fun g => (orc_cond (o_S_l01In_ok k) (noOrc_ok _ _))
noncomputable def c_S_l09Takes : Code := (Try.f141.body).getD .skip
def LP_S_l09Takes (ρ : Type) (k : Nat) : Nat → Ev ρ → Ev ρ := fun _ _ _ _ => none
def S_l09Takes_args (a : Step) : List Arg := [.agg [.int .i64 a.kind, .int .i64 a.a, .int .i64 a.b, .sl (.int .u8) a.data, .int .i64 a.input.sh.h, .int .i64 a.input.sh.w, .int .i64 a.input.sh.c, .sl (.int .i64) a.input.data]]
def S_l09Takes_argD (l : List Arg) : Option (Step) := match l with
  | [.agg [.int .i64 b0_0, .int .i64 b0_1, .int .i64 b0_2, .sl (.int .u8) b0_3, .int .i64 b0_4, .int .i64 b0_5, .int .i64 b0_6, .sl (.int .i64) b0_7]] => some (⟨b0_0, b0_1, b0_2, b0_3, (⟨(⟨b0_4, b0_5, b0_6⟩ : Shape), b0_7⟩ : Tensor)⟩ : Step)
  | _ => none
def S_l09Takes_enc (r : Int) : Out := (.r [] (.int .i64 r), [])
def S_l09Takes_dec (o : Out) : Option (Int) := match o with
  | (.r [] (.int .i64 z1), []) => some z1
  | _ => none
def S_l09Takes_G (k : Nat) : PG := fun _ l K => (S_l09Takes_argD l).bind fun a => (S_l09Takes k a).bind fun r => K (S_l09Takes_enc r)
theorem S_l09Takes_ev (k : Nat) (a : Step) : ev (E_S_l09Takes k) (LP_S_l09Takes (Int) k) 0 c_S_l09Takes (st0 Try.f141 (S_l09Takes_args a)) (fin Try.prog Try.f141 (.sc) S_l09Takes_dec) = S_l09Takes k a := by kernel_rfl
theorem S_l09Takes_ok (k : Nat) : PureOk Try.prog 141 (S_l09Takes_G k) :=
  pureOk_of_ev (E_S_l09Takes_ok k) Try.func141 (by kernel_rfl) (by kernel_rfl) S_l09Takes_args S_l09Takes_argD
    (fun l a h => by unfold S_l09Takes_argD at h; split at h <;> first | (cases h; rfl) | cases h) (fun a => rfl) (lpgood_none (by kernel_rfl))
    (fun o r h => by unfold S_l09Takes_dec at h; split at h <;> first | (cases h; rfl) | cases h) (S_l09Takes_ev k)
def o_S_l09Takes (k : Nat) : Orc := pureOrc [.agg [(.int .i64), (.int .i64), (.int .i64), (.sl (.int .u8)), (.int .i64), (.int .i64), (.int .i64), (.sl (.int .i64))]] (S_l09Takes_G k)
theorem o_S_l09Takes_ok (k : Nat) : OrcOk Try.prog 141 (o_S_l09Takes k) := pureOrc_ok (S_l09Takes_ok k)
/-! ### 81 loop.example/g00778/spec.EndTick -/
noncomputable def E_S_EndTick (k : Nat) : Env := { P := Try.prog, tt := tt, orc := fun g => cond (Nat.beq g 141) (o_S_l09Takes k) (noOrc) }
theorem E_S_EndTick_ok (k : Nat) : EnvOk (E_S_EndTick k) := fun g => (orc_cond (o_S_l09Takes_ok k) (noOrc_ok _ _))
noncomputable def c_S_EndTick : Code := (Try.f81.body).getD .skip
noncomputable def b_S_EndTick_0 : Code := ((loopsIn 0 c_S_EndTick).getD 0 (0, .skip)).2
def S_EndTick_g0_keep : List Nat := [0, 3, 4]
def S_EndTick_g0_co : List (Where × Co) := []
def S_EndTick_g0_kx : Ex → List Nat
  | .exit j => cond (Nat.beq j 0) [3] []
  | .ret => []
  | .normal => []
def S_EndTick_g0_cx : Ex → List (Where × Co)
  | .exit j => cond (Nat.beq j 0) [] []
  | .ret => []
  | .normal => []
def S_EndTick_g0_tm (pv : (List Step) × (Int × Int)) : St := { slots := [(0, .r [] (.sl (.st .step) pv.1)), (3, .r [] (.int .i64 pv.2.1)), (4, .r [] (.int .i64 pv.2.2))], heap := [], nid := 0, n := 19, gh := [] }
def S_EndTick_g0_dec (nf : NF) : Option ((List Step) × (Int × Int)) := match nf with
  | ([.r [] (.sl (.st .step) w0), .r [] (.int .i64 w1), .r [] (.int .i64 w2)], [], []) => some (w0, (w1, w2))
  | _ => none
theorem S_EndTick_g0_hd (nf : NF) (v : (List Step) × (Int × Int)) (h : S_EndTick_g0_dec nf = some v) : denorm S_EndTick_g0_keep 19 nf = S_EndTick_g0_tm v := by
  unfold S_EndTick_g0_dec at h
  split at h
  · cases h; rfl
  · cases h
def S_EndTick_g0_x0 (p : List Step) (x : Int) : St := { slots := [(3, .r [] (.int .i64 x))], heap := [], nid := 0, n := 19, gh := [] }
def LP_S_EndTick (ρ : Type) (k : Nat) : Nat → Ev ρ → Ev ρ := fun id f => cond (Nat.beq id 0) (loopOrc S_EndTick_g0_keep S_EndTick_g0_co (fun n nf => cond (Nat.beq n 19) (S_EndTick_g0_dec nf) none) fun pv K => iter (fun v next => S_EndTick_g0 k pv.1 v next (fun x => K (.exit 0) (S_EndTick_g0_x0 pv.1 x))) k pv.2) ((fun _ _ _ _ => none) id f)
theorem S_EndTick_g0_round {ρ : Type} (k : Nat) (p : List Step) (v : Int × Int) (K K1 : Ex → St → Option ρ) : ev (E_S_EndTick k) (LP_S_EndTick ρ k) 0 b_S_EndTick_0 (S_EndTick_g0_tm (p, v)) (fun e st' => match e with
    | .normal => (normC S_EndTick_g0_keep S_EndTick_g0_co st').bind fun nf => K1 .normal (denorm S_EndTick_g0_keep st'.n nf)
    | e => (normC (S_EndTick_g0_kx e) (S_EndTick_g0_cx e) st').bind fun nf => K e (denorm (S_EndTick_g0_kx e) st'.n nf)) = S_EndTick_g0 k p v (fun v' => K1 .normal (S_EndTick_g0_tm (p, v'))) (fun x => K (.exit 0) (S_EndTick_g0_x0 p x)) := by kernel_rfl
theorem S_EndTick_g0_ok {ρ : Type} (k : Nat) : Sound Try.prog (.loop b_S_EndTick_0) (LP_S_EndTick ρ k 0 fun st K => ev (E_S_EndTick k) (LP_S_EndTick ρ k) 0 b_S_EndTick_0 st K) :=
  loop_ok (ev_sound (E_S_EndTick_ok k) b_S_EndTick_0 0 (lpgood_none (by kernel_rfl))) S_EndTick_g0_kx S_EndTick_g0_cx k (g := fun p v next K => S_EndTick_g0 k p v next (fun x => K (.exit 0) (S_EndTick_g0_x0 p x))) (dec_at S_EndTick_g0_hd) (fun p v K K1 => S_EndTick_g0_round k p v K K1)
def S_EndTick_args (a : List Step) : List Arg := [.one (.sl (.st .step) a)]
def S_EndTick_argD (l : List Arg) : Option (List Step) := match l with
  | [.one (.sl (.st .step) b0)] => some b0
  | _ => none
def S_EndTick_enc (r : Int) : Out := (.r [] (.int .i64 r), [])
def S_EndTick_dec (o : Out) : Option (Int) := match o with
  | (.r [] (.int .i64 z1), []) => some z1
  | _ => none
def S_EndTick_G (k : Nat) : PG := fun _ l K => (S_EndTick_argD l).bind fun a => (S_EndTick k a).bind fun r => K (S_EndTick_enc r)
theorem S_EndTick_ev (k : Nat) (a : List Step) : ev (E_S_EndTick k) (LP_S_EndTick (Int) k) 0 c_S_EndTick (st0 Try.f81 (S_EndTick_args a)) (fin Try.prog Try.f81 (.sc) S_EndTick_dec) = S_EndTick k a := by kernel_rfl
theorem S_EndTick_ok (k : Nat) : PureOk Try.prog 81 (S_EndTick_G k) :=
  pureOk_of_ev (E_S_EndTick_ok k) Try.func81 (by kernel_rfl) (by kernel_rfl) S_EndTick_args S_EndTick_argD
    (fun l a h => by unfold S_EndTick_argD at h; split at h <;> first | (cases h; rfl) | cases h) (fun a => rfl) (lpgood_of (l := [(0, b_S_EndTick_0)]) (by kernel_rfl) ⟨S_EndTick_g0_ok k, trivial⟩)
    (fun o r h => by unfold S_EndTick_dec at h; split at h <;> first | (cases h; rfl) | cases h) (S_EndTick_ev k)
def o_S_EndTick (k : Nat) : Orc := pureOrc [.one (.sl (.st .step))] (S_EndTick_G k)
theorem o_S_EndTick_ok (k : Nat) : OrcOk Try.prog 81 (o_S_EndTick k) := pureOrc_ok (S_EndTick_ok k)
/-! ### 93 loop.example/g00778/spec.l01Bytes -/
noncomputable def E_S_l01Bytes (k : Nat) : Env := { P := Try.prog, tt := tt, orc := fun g => noOrc }
theorem E_S_l01Bytes_ok (k : Nat) : EnvOk (E_S_l01Bytes k) := fun g => (noOrc_ok _ _)
noncomputable def c_S_l01Bytes : Code := (Try.f93.body).getD .skip
noncomputable def b_S_l01Bytes_0 : Code := ((loopsIn 0 c_S_l01Bytes).getD 0 (0, .skip)).2
def S_l01Bytes_g0_keep : List Nat := [0, 3, 4]
def S_l01Bytes_g0_co : List (Where × Co) := []
def S_l01Bytes_g0_kx : Ex → List Nat
  | .exit j => cond (Nat.beq j 0) [3] []
  | .ret => []
  | .normal => []
def S_l01Bytes_g0_cx : Ex → List (Where × Co)
  | .exit j => cond (Nat.beq j 0) [] []
  | .ret => []
  | .normal => []
def S_l01Bytes_g0_tm (pv : (List Int) × (Int × List Int)) : St := { slots := [(0, .r [] (.sl (.int .u8) pv.1)), (3, .own 0), (4, .r [] (.int .i64 pv.2.1))], heap := [(0, .arr none (.int .u8) pv.2.2)], nid := 1, n := 20, gh := [] }
def S_l01Bytes_g0_dec (nf : NF) : Option ((List Int) × (Int × List Int)) := match nf with
  | ([.r [] (.sl (.int .u8) w0), .own 0, .r [] (.int .i64 w1)], [.arr none (.int .u8) w2], []) => some (w0, (w1, w2))
  | _ => none
theorem S_l01Bytes_g0_hd (nf : NF) (v : (List Int) × (Int × List Int)) (h : S_l01Bytes_g0_dec nf = some v) : denorm S_l01Bytes_g0_keep 20 nf = S_l01Bytes_g0_tm v := by
  unfold S_l01Bytes_g0_dec at h
  split at h
  · cases h; rfl
  · cases h
def S_l01Bytes_g0_x0 (p : List Int) (x : List Int) : St := { slots := [(3, .own 0)], heap := [(0, .arr none (.int .u8) x)], nid := 1, n := 20, gh := [] }
def LP_S_l01Bytes (ρ : Type) (k : Nat) : Nat → Ev ρ → Ev ρ := fun id f => cond (Nat.beq id 0) (loopOrc S_l01Bytes_g0_keep S_l01Bytes_g0_co (fun n nf => cond (Nat.beq n 20) (S_l01Bytes_g0_dec nf) none) fun pv K => iter (fun v next => S_l01Bytes_g0 k pv.1 v next (fun x => K (.exit 0) (S_l01Bytes_g0_x0 pv.1 x))) k pv.2) ((fun _ _ _ _ => none) id f)
theorem S_l01Bytes_g0_round {ρ : Type} (k : Nat) (p : List Int) (v : Int × List Int) (K K1 : Ex → St → Option ρ) : ev (E_S_l01Bytes k) (LP_S_l01Bytes ρ k) 0 b_S_l01Bytes_0 (S_l01Bytes_g0_tm (p, v)) (fun e st' => match e with
    | .normal => (normC S_l01Bytes_g0_keep S_l01Bytes_g0_co st').bind fun nf => K1 .normal (denorm S_l01Bytes_g0_keep st'.n nf)
    | e => (normC (S_l01Bytes_g0_kx e) (S_l01Bytes_g0_cx e) st').bind fun nf => K e (denorm (S_l01Bytes_g0_kx e) st'.n nf)) = S_l01Bytes_g0 k p v (fun v' => K1 .normal (S_l01Bytes_g0_tm (p, v'))) (fun x => K (.exit 0) (S_l01Bytes_g0_x0 p x)) := by kernel_rfl
theorem S_l01Bytes_g0_ok {ρ : Type} (k : Nat) : Sound Try.prog (.loop b_S_l01Bytes_0) (LP_S_l01Bytes ρ k 0 fun st K => ev (E_S_l01Bytes k) (LP_S_l01Bytes ρ k) 0 b_S_l01Bytes_0 st K) :=
  loop_ok (ev_sound (E_S_l01Bytes_ok k) b_S_l01Bytes_0 0 (lpgood_none (by kernel_rfl))) S_l01Bytes_g0_kx S_l01Bytes_g0_cx k (g := fun p v next K => S_l01Bytes_g0 k p v next (fun x => K (.exit 0) (S_l01Bytes_g0_x0 p x))) (dec_at S_l01Bytes_g0_hd) (fun p v K K1 => S_l01Bytes_g0_round k p v K K1)
def S_l01Bytes_args (a : List Int) : List Arg := [.one (.sl (.int .u8) a)]
def S_l01Bytes_argD (l : List Arg) : Option (List Int) := match l with
  | [.one (.sl (.int .u8) b0)] => some b0
  | _ => none
def S_l01Bytes_enc (r : List Int) : Out := (.own 0, [.arr none (.int .u8) r])
def S_l01Bytes_dec (o : Out) : Option (List Int) := match o with
  | (.own 0, [.arr none (.int .u8) z1]) => some z1
  | _ => none
def S_l01Bytes_G (k : Nat) : PG := fun _ l K => (S_l01Bytes_argD l).bind fun a => (S_l01Bytes k a).bind fun r => K (S_l01Bytes_enc r)
theorem S_l01Bytes_ev (k : Nat) (a : List Int) : ev (E_S_l01Bytes k) (LP_S_l01Bytes (List Int) k) 0 c_S_l01Bytes (st0 Try.f93 (S_l01Bytes_args a)) (fin Try.prog Try.f93 (.own (.int .u8)) S_l01Bytes_dec) = S_l01Bytes k a := by kernel_rfl
theorem S_l01Bytes_ok (k : Nat) : PureOk Try.prog 93 (S_l01Bytes_G k) :=
  pureOk_of_ev (E_S_l01Bytes_ok k) Try.func93 (by kernel_rfl) (by kernel_rfl) S_l01Bytes_args S_l01Bytes_argD
    (fun l a h => by unfold S_l01Bytes_argD at h; split at h <;> first | (cases h; rfl) | cases h) (fun a => rfl) (lpgood_of (l := [(0, b_S_l01Bytes_0)]) (by kernel_rfl) ⟨S_l01Bytes_g0_ok k, trivial⟩)
    (fun o r h => by unfold S_l01Bytes_dec at h; split at h <;> first | (cases h; rfl) | cases h) (S_l01Bytes_ev k)
def o_S_l01Bytes (k : Nat) : Orc := pureOrc [.one (.sl (.int .u8))] (S_l01Bytes_G k)
theorem o_S_l01Bytes_ok (k : Nat) : OrcOk Try.prog 93 (o_S_l01Bytes k) := pureOrc_ok (S_l01Bytes_ok k)
/-! ### 74 loop.example/g00778/spec.l01Copy -/
noncomputable def E_S_l01Copy (k : Nat) : Env := { P := Try.prog, tt := tt, orc := fun g => noOrc }
theorem E_S_l01Copy_ok (k : Nat) : EnvOk (E_S_l01Copy k) := fun g => (noOrc_ok _ _)
noncomputable def c_S_l01Copy : Code := (Try.f74.body).getD .skip
noncomputable def b_S_l01Copy_0 : Code := ((loopsIn 0 c_S_l01Copy).getD 0 (0, .skip)).2
def S_l01Copy_g0_keep : List Nat := [0, 3, 4]
def S_l01Copy_g0_co : List (Where × Co) := []
def S_l01Copy_g0_kx : Ex → List Nat
  | .exit j => cond (Nat.beq j 0) [3] []
  | .ret => []
  | .normal => []
def S_l01Copy_g0_cx : Ex → List (Where × Co)
  | .exit j => cond (Nat.beq j 0) [] []
  | .ret => []
  | .normal => []
def S_l01Copy_g0_tm (pv : (List Int) × (Int × List Int)) : St := { slots := [(0, .r [] (.sl (.int .i64) pv.1)), (3, .own 0), (4, .r [] (.int .i64 pv.2.1))], heap := [(0, .arr none (.int .i64) pv.2.2)], nid := 1, n := 20, gh := [] }
def S_l01Copy_g0_dec (nf : NF) : Option ((List Int) × (Int × List Int)) := match nf with
  | ([.r [] (.sl (.int .i64) w0), .own 0, .r [] (.int .i64 w1)], [.arr none (.int .i64) w2], []) => some (w0, (w1, w2))
  | _ => none
theorem S_l01Copy_g0_hd (nf : NF) (v : (List Int) × (Int × List Int)) (h : S_l01Copy_g0_dec nf = some v) : denorm S_l01Copy_g0_keep 20 nf = S_l01Copy_g0_tm v := by
  unfold S_l01Copy_g0_dec at h
  split at h
  · cases h; rfl
  · cases h
def S_l01Copy_g0_x0 (p : List Int) (x : List Int) : St := { slots := [(3, .own 0)], heap := [(0, .arr none (.int .i64) x)], nid := 1, n := 20, gh := [] }
def LP_S_l01Copy (ρ : Type) (k : Nat) : Nat → Ev ρ → Ev ρ := fun id f => cond (Nat.beq id 0) (loopOrc S_l01Copy_g0_keep S_l01Copy_g0_co (fun n nf => cond (Nat.beq n 20) (S_l01Copy_g0_dec nf) none) fun pv K => iter (fun v next => S_l01Copy_g0 k pv.1 v next (fun x => K (.exit 0) (S_l01Copy_g0_x0 pv.1 x))) k pv.2) ((fun _ _ _ _ => none) id f)
theorem S_l01Copy_g0_round {ρ : Type} (k : Nat) (p : List Int) (v : Int × List Int) (K K1 : Ex → St → Option ρ) : ev (E_S_l01Copy k) (LP_S_l01Copy ρ k) 0 b_S_l01Copy_0 (S_l01Copy_g0_tm (p, v)) (fun e st' => match e with
    | .normal => (normC S_l01Copy_g0_keep S_l01Copy_g0_co st').bind fun nf => K1 .normal (denorm S_l01Copy_g0_keep st'.n nf)
    | e => (normC (S_l01Copy_g0_kx e) (S_l01Copy_g0_cx e) st').bind fun nf => K e (denorm (S_l01Copy_g0_kx e) st'.n nf)) = S_l01Copy_g0 k p v (fun v' => K1 .normal (S_l01Copy_g0_tm (p, v'))) (fun x => K (.exit 0) (S_l01Copy_g0_x0 p x)) := by kernel_rfl
theorem S_l01Copy_g0_ok {ρ : Type} (k : Nat) : Sound Try.prog (.loop b_S_l01Copy_0) (LP_S_l01Copy ρ k 0 fun st K => ev (E_S_l01Copy k) (LP_S_l01Copy ρ k) 0 b_S_l01Copy_0 st K) :=
  loop_ok (ev_sound (E_S_l01Copy_ok k) b_S_l01Copy_0 0 (lpgood_none (by kernel_rfl))) S_l01Copy_g0_kx S_l01Copy_g0_cx k (g := fun p v next K => S_l01Copy_g0 k p v next (fun x => K (.exit 0) (S_l01Copy_g0_x0 p x))) (dec_at S_l01Copy_g0_hd) (fun p v K K1 => S_l01Copy_g0_round k p v K K1)
def S_l01Copy_args (a : List Int) : List Arg := [.one (.sl (.int .i64) a)]
def S_l01Copy_argD (l : List Arg) : Option (List Int) := match l with
  | [.one (.sl (.int .i64) b0)] => some b0
  | _ => none
def S_l01Copy_enc (r : List Int) : Out := (.own 0, [.arr none (.int .i64) r])
def S_l01Copy_dec (o : Out) : Option (List Int) := match o with
  | (.own 0, [.arr none (.int .i64) z1]) => some z1
  | _ => none
def S_l01Copy_G (k : Nat) : PG := fun _ l K => (S_l01Copy_argD l).bind fun a => (S_l01Copy k a).bind fun r => K (S_l01Copy_enc r)
theorem S_l01Copy_ev (k : Nat) (a : List Int) : ev (E_S_l01Copy k) (LP_S_l01Copy (List Int) k) 0 c_S_l01Copy (st0 Try.f74 (S_l01Copy_args a)) (fin Try.prog Try.f74 (.own (.int .i64)) S_l01Copy_dec) = S_l01Copy k a := by kernel_rfl
theorem S_l01Copy_ok (k : Nat) : PureOk Try.prog 74 (S_l01Copy_G k) :=
  pureOk_of_ev (E_S_l01Copy_ok k) Try.func74 (by kernel_rfl) (by kernel_rfl) S_l01Copy_args S_l01Copy_argD
    (fun l a h => by unfold S_l01Copy_argD at h; split at h <;> first | (cases h; rfl) | cases h) (fun a => rfl) (lpgood_of (l := [(0, b_S_l01Copy_0)]) (by kernel_rfl) ⟨S_l01Copy_g0_ok k, trivial⟩)
    (fun o r h => by unfold S_l01Copy_dec at h; split at h <;> first | (cases h; rfl) | cases h) (S_l01Copy_ev k)
def o_S_l01Copy (k : Nat) : Orc := pureOrc [.one (.sl (.int .i64))] (S_l01Copy_G k)
theorem o_S_l01Copy_ok (k : Nat) : OrcOk Try.prog 74 (o_S_l01Copy k) := pureOrc_ok (S_l01Copy_ok k)
/-! ### 148 loop.example/g00778/spec.l02Copy -/
noncomputable def E_S_l02Copy (k : Nat) : Env := { P := Try.prog, tt := tt, orc := fun g => cond (Nat.beq g 74) (o_S_l01Copy k) (noOrc) }
theorem E_S_l02Copy_ok (k : Nat) : EnvOk (E_S_l02Copy k) := fun g => (orc_cond (o_S_l01Copy_ok k) (noOrc_ok _ _))
noncomputable def c_S_l02Copy : Code := (Try.f148.body).getD .skip
def LP_S_l02Copy (ρ : Type) (k : Nat) : Nat → Ev ρ → Ev ρ := fun _ _ _ _ => none
def S_l02Copy_args (a : Tensor) : List Arg := [.agg [.int .i64 a.sh.h, .int .i64 a.sh.w, .int .i64 a.sh.c, .sl (.int .i64) a.data]]
def S_l02Copy_argD (l : List Arg) : Option (Tensor) := match l with
  | [.agg [.int .i64 b0_0, .int .i64 b0_1, .int .i64 b0_2, .sl (.int .i64) b0_3]] => some (⟨(⟨b0_0, b0_1, b0_2⟩ : Shape), b0_3⟩ : Tensor)
  | _ => none
def S_l02Copy_enc (r : Tensor) : Out := (.agg [.r [] (.int .i64 r.sh.h), .r [] (.int .i64 r.sh.w), .r [] (.int .i64 r.sh.c), .own 0], [.arr none (.int .i64) r.data])
def S_l02Copy_dec (o : Out) : Option (Tensor) := match o with
  | (.agg [.r [] (.int .i64 z1), .r [] (.int .i64 z2), .r [] (.int .i64 z3), .own 0], [.arr none (.int .i64) z4]) => some (⟨(⟨z1, z2, z3⟩ : Shape), z4⟩ : Tensor)
  | _ => none
def S_l02Copy_G (k : Nat) : PG := fun _ l K => (S_l02Copy_argD l).bind fun a => (S_l02Copy k a).bind fun r => K (S_l02Copy_enc r)
theorem S_l02Copy_ev (k : Nat) (a : Tensor) : ev (E_S_l02Copy k) (LP_S_l02Copy (Tensor) k) 0 c_S_l02Copy (st0 Try.f148 (S_l02Copy_args a)) (fin Try.prog Try.f148 (.agg [.sc, .sc, .sc, .own (.int .i64)]) S_l02Copy_dec) = S_l02Copy k a := by kernel_rfl
theorem S_l02Copy_ok (k : Nat) : PureOk Try.prog 148 (S_l02Copy_G k) :=
  pureOk_of_ev (E_S_l02Copy_ok k) Try.func148 (by kernel_rfl) (by kernel_rfl) S_l02Copy_args S_l02Copy_argD
    (fun l a h => by unfold S_l02Copy_argD at h; split at h <;> first | (cases h; rfl) | cases h) (fun a => rfl) (lpgood_none (by kernel_rfl))
    (fun o r h => by unfold S_l02Copy_dec at h; split at h <;> first | (cases h; rfl) | cases h) (S_l02Copy_ev k)
def o_S_l02Copy (k : Nat) : Orc := pureOrc [.agg [(.int .i64), (.int .i64), (.int .i64), (.sl (.int .i64))]] (S_l02Copy_G k)
theorem o_S_l02Copy_ok (k : Nat) : OrcOk Try.prog 148 (o_S_l02Copy k) := pureOrc_ok (S_l02Copy_ok k)
/-! ### 97 loop.example/g00778/spec.l14Copy -/
noncomputable def E_S_l14Copy (k : Nat) : Env := { P := Try.prog, tt := tt, orc := fun g => cond (Nat.beq g 93) (o_S_l01Bytes k) (cond (Nat.beq g 148) (o_S_l02Copy k) (noOrc)) }
theorem E_S_l14Copy_ok (k : Nat) : EnvOk (E_S_l14Copy k) := fun g => (orc_cond (o_S_l01Bytes_ok k) (orc_cond (o_S_l02Copy_ok k) (noOrc_ok _ _)))
noncomputable def c_S_l14Copy : Code := (Try.f97.body).getD .skip
def LP_S_l14Copy (ρ : Type) (k : Nat) : Nat → Ev ρ → Ev ρ := fun _ _ _ _ => none
def S_l14Copy_args (a : Step) : List Arg := [.agg [.int .i64 a.kind, .int .i64 a.a, .int .i64 a.b, .sl (.int .u8) a.data, .int .i64 a.input.sh.h, .int .i64 a.input.sh.w, .int .i64 a.input.sh.c, .sl (.int .i64) a.input.data]]
def S_l14Copy_argD (l : List Arg) : Option (Step) := match l with
  | [.agg [.int .i64 b0_0, .int .i64 b0_1, .int .i64 b0_2, .sl (.int .u8) b0_3, .int .i64 b0_4, .int .i64 b0_5, .int .i64 b0_6, .sl (.int .i64) b0_7]] => some (⟨b0_0, b0_1, b0_2, b0_3, (⟨(⟨b0_4, b0_5, b0_6⟩ : Shape), b0_7⟩ : Tensor)⟩ : Step)
  | _ => none
def S_l14Copy_enc (r : Step) : Out := (.agg [.r [] (.int .i64 r.kind), .r [] (.int .i64 r.a), .r [] (.int .i64 r.b), .own 0, .r [] (.int .i64 r.input.sh.h), .r [] (.int .i64 r.input.sh.w), .r [] (.int .i64 r.input.sh.c), .own 1], [.arr none (.int .u8) r.data, .arr none (.int .i64) r.input.data])
def S_l14Copy_dec (o : Out) : Option (Step) := match o with
  | (.agg [.r [] (.int .i64 z1), .r [] (.int .i64 z2), .r [] (.int .i64 z3), .own 0, .r [] (.int .i64 z5), .r [] (.int .i64 z6), .r [] (.int .i64 z7), .own 1], [.arr none (.int .u8) z4, .arr none (.int .i64) z8]) => some (⟨z1, z2, z3, z4, (⟨(⟨z5, z6, z7⟩ : Shape), z8⟩ : Tensor)⟩ : Step)
  | _ => none
def S_l14Copy_G (k : Nat) : PG := fun _ l K => (S_l14Copy_argD l).bind fun a => (S_l14Copy k a).bind fun r => K (S_l14Copy_enc r)
theorem S_l14Copy_ev (k : Nat) (a : Step) : ev (E_S_l14Copy k) (LP_S_l14Copy (Step) k) 0 c_S_l14Copy (st0 Try.f97 (S_l14Copy_args a)) (fin Try.prog Try.f97 (.agg [.sc, .sc, .sc, .own (.int .u8), .sc, .sc, .sc, .own (.int .i64)]) S_l14Copy_dec) = S_l14Copy k a := by kernel_rfl
theorem S_l14Copy_ok (k : Nat) : PureOk Try.prog 97 (S_l14Copy_G k) :=
  pureOk_of_ev (E_S_l14Copy_ok k) Try.func97 (by kernel_rfl) (by kernel_rfl) S_l14Copy_args S_l14Copy_argD
    (fun l a h => by unfold S_l14Copy_argD at h; split at h <;> first | (cases h; rfl) | cases h) (fun a => rfl) (lpgood_none (by kernel_rfl))
    (fun o r h => by unfold S_l14Copy_dec at h; split at h <;> first | (cases h; rfl) | cases h) (S_l14Copy_ev k)
def o_S_l14Copy (k : Nat) : Orc := pureOrc [.agg [(.int .i64), (.int .i64), (.int .i64), (.sl (.int .u8)), (.int .i64), (.int .i64), (.int .i64), (.sl (.int .i64))]] (S_l14Copy_G k)
theorem o_S_l14Copy_ok (k : Nat) : OrcOk Try.prog 97 (o_S_l14Copy k) := pureOrc_ok (S_l14Copy_ok k)
/-! ### 44 loop.example/g00778/spec.CutTrace -/
noncomputable def E_S_CutTrace (k : Nat) : Env := { P := Try.prog, tt := tt, orc := fun g => cond (Nat.beq g 81) (o_S_EndTick k) (cond (Nat.beq g 97) (o_S_l14Copy k) (noOrc)) }
theorem E_S_CutTrace_ok (k : Nat) : EnvOk (E_S_CutTrace k) := fun g => (orc_cond (o_S_EndTick_ok k) (orc_cond (o_S_l14Copy_ok k) (noOrc_ok _ _)))
noncomputable def c_S_CutTrace : Code := (Try.f44.body).getD .skip
noncomputable def b_S_CutTrace_0 : Code := ((loopsIn 0 c_S_CutTrace).getD 0 (0, .skip)).2
def S_CutTrace_g0_keep : List Nat := [0, 1, 5, 6]
def S_CutTrace_g0_co : List (Where × Co) := []
def S_CutTrace_g0_kx : Ex → List Nat
  | .exit j => cond (Nat.beq j 0) [5] []
  | .ret => [4]
  | .normal => []
def S_CutTrace_g0_cx : Ex → List (Where × Co)
  | .exit j => cond (Nat.beq j 0) [] []
  | .ret => []
  | .normal => []
def S_CutTrace_g0_tm (pv : (List Step × Int) × (Int × List Step)) : St := { slots := [(0, .r [] (.sl (.st .step) pv.1.1)), (1, .r [] (.int .i64 pv.1.2)), (5, .own 0), (6, .r [] (.int .i64 pv.2.1))], heap := [(0, .arr none (.st .step) pv.2.2)], nid := 1, n := 31, gh := [] }
def S_CutTrace_g0_dec (nf : NF) : Option ((List Step × Int) × (Int × List Step)) := match nf with
  | ([.r [] (.sl (.st .step) w0), .r [] (.int .i64 w1), .own 0, .r [] (.int .i64 w2)], [.arr none (.st .step) w3], []) => some ((w0, w1), (w2, w3))
  | _ => none
theorem S_CutTrace_g0_hd (nf : NF) (v : (List Step × Int) × (Int × List Step)) (h : S_CutTrace_g0_dec nf = some v) : denorm S_CutTrace_g0_keep 31 nf = S_CutTrace_g0_tm v := by
  unfold S_CutTrace_g0_dec at h
  split at h
  · cases h; rfl
  · cases h
def S_CutTrace_g0_x0 (p : List Step × Int) (x : List Step) : St := { slots := [(5, .own 0)], heap := [(0, .arr none (.st .step) x)], nid := 1, n := 31, gh := [] }
def S_CutTrace_g0_xret (p : List Step × Int) (x : List Step) : St := { slots := [(4, .own 0)], heap := [(0, .arr none (.st .step) x)], nid := 1, n := 31, gh := [] }
def LP_S_CutTrace (ρ : Type) (k : Nat) : Nat → Ev ρ → Ev ρ := fun id f => cond (Nat.beq id 0) (loopOrc S_CutTrace_g0_keep S_CutTrace_g0_co (fun n nf => cond (Nat.beq n 31) (S_CutTrace_g0_dec nf) none) fun pv K => iter (fun v next => S_CutTrace_g0 k pv.1 v next (fun x => K (.exit 0) (S_CutTrace_g0_x0 pv.1 x)) (fun x => K .ret (S_CutTrace_g0_xret pv.1 x))) k pv.2) ((fun _ _ _ _ => none) id f)
theorem S_CutTrace_g0_round {ρ : Type} (k : Nat) (p : List Step × Int) (v : Int × List Step) (K K1 : Ex → St → Option ρ) : ev (E_S_CutTrace k) (LP_S_CutTrace ρ k) 0 b_S_CutTrace_0 (S_CutTrace_g0_tm (p, v)) (fun e st' => match e with
    | .normal => (normC S_CutTrace_g0_keep S_CutTrace_g0_co st').bind fun nf => K1 .normal (denorm S_CutTrace_g0_keep st'.n nf)
    | e => (normC (S_CutTrace_g0_kx e) (S_CutTrace_g0_cx e) st').bind fun nf => K e (denorm (S_CutTrace_g0_kx e) st'.n nf)) = S_CutTrace_g0 k p v (fun v' => K1 .normal (S_CutTrace_g0_tm (p, v'))) (fun x => K (.exit 0) (S_CutTrace_g0_x0 p x)) (fun x => K .ret (S_CutTrace_g0_xret p x)) := by kernel_rfl
theorem S_CutTrace_g0_ok {ρ : Type} (k : Nat) : Sound Try.prog (.loop b_S_CutTrace_0) (LP_S_CutTrace ρ k 0 fun st K => ev (E_S_CutTrace k) (LP_S_CutTrace ρ k) 0 b_S_CutTrace_0 st K) :=
  loop_ok (ev_sound (E_S_CutTrace_ok k) b_S_CutTrace_0 0 (lpgood_none (by kernel_rfl))) S_CutTrace_g0_kx S_CutTrace_g0_cx k (g := fun p v next K => S_CutTrace_g0 k p v next (fun x => K (.exit 0) (S_CutTrace_g0_x0 p x)) (fun x => K .ret (S_CutTrace_g0_xret p x))) (dec_at S_CutTrace_g0_hd) (fun p v K K1 => S_CutTrace_g0_round k p v K K1)
def S_CutTrace_args (a : List Step × Int) : List Arg := [.one (.sl (.st .step) a.1), .one (.int .i64 a.2)]
def S_CutTrace_argD (l : List Arg) : Option (List Step × Int) := match l with
  | [.one (.sl (.st .step) b0), .one (.int .i64 b1)] => some (b0, b1)
  | _ => none
def S_CutTrace_enc (r : List Step) : Out := (.own 0, [.arr none (.st .step) r])
def S_CutTrace_dec (o : Out) : Option (List Step) := match o with
  | (.own 0, [.arr none (.st .step) z1]) => some z1
  | _ => none
def S_CutTrace_G (k : Nat) : PG := fun _ l K => (S_CutTrace_argD l).bind fun a => (S_CutTrace k a.1 a.2).bind fun r => K (S_CutTrace_enc r)
theorem S_CutTrace_ev (k : Nat) (a : List Step × Int) : ev (E_S_CutTrace k) (LP_S_CutTrace (List Step) k) 0 c_S_CutTrace (st0 Try.f44 (S_CutTrace_args a)) (fin Try.prog Try.f44 (.own (.st .step)) S_CutTrace_dec) = S_CutTrace k a.1 a.2 := by kernel_rfl
theorem S_CutTrace_ok (k : Nat) : PureOk Try.prog 44 (S_CutTrace_G k) :=
  pureOk_of_ev (E_S_CutTrace_ok k) Try.func44 (by kernel_rfl) (by kernel_rfl) S_CutTrace_args S_CutTrace_argD
    (fun l a h => by unfold S_CutTrace_argD at h; split at h <;> first | (cases h; rfl) | cases h) (fun a => rfl) (lpgood_of (l := [(0, b_S_CutTrace_0)]) (by kernel_rfl) ⟨S_CutTrace_g0_ok k, trivial⟩)
    (fun o r h => by unfold S_CutTrace_dec at h; split at h <;> first | (cases h; rfl) | cases h) (S_CutTrace_ev k)
def o_S_CutTrace (k : Nat) : Orc := pureOrc [.one (.sl (.st .step)), .one (.int .i64)] (S_CutTrace_G k)
theorem o_S_CutTrace_ok (k : Nat) : OrcOk Try.prog 44 (o_S_CutTrace k) := pureOrc_ok (S_CutTrace_ok k)
/-! ### 94 loop.example/g00778/impl.in -/
noncomputable def E_I_in (k : Nat) : Env := { P := Try.prog, tt := tt, orc := fun g => noOrc }
theorem E_I_in_ok (k : Nat) : EnvOk (E_I_in k) := fun g => (noOrc_ok _ _)
noncomputable def c_I_in : Code := (Try.f94.body).getD .skip
def LP_I_in (ρ : Type) (k : Nat) : Nat → Ev ρ → Ev ρ := fun _ _ _ _ => none
def I_in_args (a : Int × Int × Int) : List Arg := [.one (.int .i64 a.1), .one (.int .i64 a.2.1), .one (.int .i64 a.2.2)]
def I_in_argD (l : List Arg) : Option (Int × Int × Int) := match l with
  | [.one (.int .i64 b0), .one (.int .i64 b1), .one (.int .i64 b2)] => some (b0, b1, b2)
  | _ => none
def I_in_enc (r : Bool) : Out := (.r [] (.bool r), [])
def I_in_dec (o : Out) : Option (Bool) := match o with
  | (.r [] (.bool z1), []) => some z1
  | _ => none
def I_in_G (k : Nat) : PG := fun _ l K => (I_in_argD l).bind fun a => (I_in k a.1 a.2.1 a.2.2).bind fun r => K (I_in_enc r)
theorem I_in_ev (k : Nat) (a : Int × Int × Int) : ev (E_I_in k) (LP_I_in (Bool) k) 0 c_I_in (st0 Try.f94 (I_in_args a)) (fin Try.prog Try.f94 (.sc) I_in_dec) = I_in k a.1 a.2.1 a.2.2 := by kernel_rfl
theorem I_in_ok (k : Nat) : PureOk Try.prog 94 (I_in_G k) :=
  pureOk_of_ev (E_I_in_ok k) Try.func94 (by kernel_rfl) (by kernel_rfl) I_in_args I_in_argD
    (fun l a h => by unfold I_in_argD at h; split at h <;> first | (cases h; rfl) | cases h) (fun a => rfl) (lpgood_none (by kernel_rfl))
    (fun o r h => by unfold I_in_dec at h; split at h <;> first | (cases h; rfl) | cases h) (I_in_ev k)
def o_I_in (k : Nat) : Orc := pureOrc [.one (.int .i64), .one (.int .i64), .one (.int .i64)] (I_in_G k)
theorem o_I_in_ok (k : Nat) : OrcOk Try.prog 94 (o_I_in k) := pureOrc_ok (I_in_ok k)
/-! ### 142 (loop.example/g00778/impl.Step).isTime -/
noncomputable def E_I_Step_isTime (k : Nat) : Env := { P := Try.prog, tt := tt, orc := fun g => cond (Nat.beq g 94) (o_I_in k) (noOrc) }
theorem E_I_Step_isTime_ok (k : Nat) : EnvOk (E_I_Step_isTime k) := fun g => (orc_cond (o_I_in_ok k) (noOrc_ok _ _))
noncomputable def c_I_Step_isTime : Code := (Try.f142.body).getD .skip
def LP_I_Step_isTime (ρ : Type) (k : Nat) : Nat → Ev ρ → Ev ρ := fun _ _ _ _ => none
def I_Step_isTime_args (a : Step) : List Arg := [.agg [.int .i64 a.kind, .int .i64 a.a, .int .i64 a.b, .sl (.int .u8) a.data, .int .i64 a.input.sh.h, .int .i64 a.input.sh.w, .int .i64 a.input.sh.c, .sl (.int .i64) a.input.data]]
def I_Step_isTime_argD (l : List Arg) : Option (Step) := match l with
  | [.agg [.int .i64 b0_0, .int .i64 b0_1, .int .i64 b0_2, .sl (.int .u8) b0_3, .int .i64 b0_4, .int .i64 b0_5, .int .i64 b0_6, .sl (.int .i64) b0_7]] => some (⟨b0_0, b0_1, b0_2, b0_3, (⟨(⟨b0_4, b0_5, b0_6⟩ : Shape), b0_7⟩ : Tensor)⟩ : Step)
  | _ => none
def I_Step_isTime_enc (r : Bool) : Out := (.r [] (.bool r), [])
def I_Step_isTime_dec (o : Out) : Option (Bool) := match o with
  | (.r [] (.bool z1), []) => some z1
  | _ => none
def I_Step_isTime_G (k : Nat) : PG := fun _ l K => (I_Step_isTime_argD l).bind fun a => (I_Step_isTime k a).bind fun r => K (I_Step_isTime_enc r)
theorem I_Step_isTime_ev (k : Nat) (a : Step) : ev (E_I_Step_isTime k) (LP_I_Step_isTime (Bool) k) 0 c_I_Step_isTime (st0 Try.f142 (I_Step_isTime_args a)) (fin Try.prog Try.f142 (.sc) I_Step_isTime_dec) = I_Step_isTime k a := by kernel_rfl
theorem I_Step_isTime_ok (k : Nat) : PureOk Try.prog 142 (I_Step_isTime_G k) :=
  pureOk_of_ev (E_I_Step_isTime_ok k) Try.func142 (by kernel_rfl) (by kernel_rfl) I_Step_isTime_args I_Step_isTime_argD
    (fun l a h => by unfold I_Step_isTime_argD at h; split at h <;> first | (cases h; rfl) | cases h) (fun a => rfl) (lpgood_none (by kernel_rfl))
    (fun o r h => by unfold I_Step_isTime_dec at h; split at h <;> first | (cases h; rfl) | cases h) (I_Step_isTime_ev k)
def o_I_Step_isTime (k : Nat) : Orc := pureOrc [.agg [(.int .i64), (.int .i64), (.int .i64), (.sl (.int .u8)), (.int .i64), (.int .i64), (.int .i64), (.sl (.int .i64))]] (I_Step_isTime_G k)
theorem o_I_Step_isTime_ok (k : Nat) : OrcOk Try.prog 142 (o_I_Step_isTime k) := pureOrc_ok (I_Step_isTime_ok k)
/-! ### 82 loop.example/g00778/impl.EndTick -/
noncomputable def E_I_EndTick (k : Nat) : Env := { P := Try.prog, tt := tt, orc := fun g => cond (Nat.beq g 142) (o_I_Step_isTime k) (noOrc) }
theorem E_I_EndTick_ok (k : Nat) : EnvOk (E_I_EndTick k) := fun g => (orc_cond (o_I_Step_isTime_ok k) (noOrc_ok _ _))
noncomputable def c_I_EndTick : Code := (Try.f82.body).getD .skip
noncomputable def b_I_EndTick_0 : Code := ((loopsIn 0 c_I_EndTick).getD 0 (0, .skip)).2
def I_EndTick_g0_keep : List Nat := [3, 6, 7, 8]
def I_EndTick_g0_co : List (Where × Co) := []
def I_EndTick_g0_kx : Ex → List Nat
  | .exit j => cond (Nat.beq j 0) [3] []
  | .ret => []
  | .normal => []
def I_EndTick_g0_cx : Ex → List (Where × Co)
  | .exit j => cond (Nat.beq j 0) [] []
  | .ret => []
  | .normal => []
def I_EndTick_g0_tm (pv : (List Step × Int) × (Int × Int)) : St := { slots := [(3, .r [] (.int .i64 pv.2.1)), (6, .r [] (.sl (.st .step) pv.1.1)), (7, .r [] (.int .i64 pv.1.2)), (8, .r [] (.int .i64 pv.2.2))], heap := [], nid := 0, n := 20, gh := [] }
def I_EndTick_g0_dec (nf : NF) : Option ((List Step × Int) × (Int × Int)) := match nf with
  | ([.r [] (.int .i64 w0), .r [] (.sl (.st .step) w1), .r [] (.int .i64 w2), .r [] (.int .i64 w3)], [], []) => some ((w1, w2), (w0, w3))
  | _ => none
theorem I_EndTick_g0_hd (nf : NF) (v : (List Step × Int) × (Int × Int)) (h : I_EndTick_g0_dec nf = some v) : denorm I_EndTick_g0_keep 20 nf = I_EndTick_g0_tm v := by
  unfold I_EndTick_g0_dec at h
  split at h
  · cases h; rfl
  · cases h
def I_EndTick_g0_x0 (p : List Step × Int) (x : Int) : St := { slots := [(3, .r [] (.int .i64 x))], heap := [], nid := 0, n := 20, gh := [] }
def LP_I_EndTick (ρ : Type) (k : Nat) : Nat → Ev ρ → Ev ρ := fun id f => cond (Nat.beq id 0) (loopOrc I_EndTick_g0_keep I_EndTick_g0_co (fun n nf => cond (Nat.beq n 20) (I_EndTick_g0_dec nf) none) fun pv K => iter (fun v next => I_EndTick_g0 k pv.1 v next (fun x => K (.exit 0) (I_EndTick_g0_x0 pv.1 x))) k pv.2) ((fun _ _ _ _ => none) id f)
theorem I_EndTick_g0_round {ρ : Type} (k : Nat) (p : List Step × Int) (v : Int × Int) (K K1 : Ex → St → Option ρ) : ev (E_I_EndTick k) (LP_I_EndTick ρ k) 0 b_I_EndTick_0 (I_EndTick_g0_tm (p, v)) (fun e st' => match e with
    | .normal => (normC I_EndTick_g0_keep I_EndTick_g0_co st').bind fun nf => K1 .normal (denorm I_EndTick_g0_keep st'.n nf)
    | e => (normC (I_EndTick_g0_kx e) (I_EndTick_g0_cx e) st').bind fun nf => K e (denorm (I_EndTick_g0_kx e) st'.n nf)) = I_EndTick_g0 k p v (fun v' => K1 .normal (I_EndTick_g0_tm (p, v'))) (fun x => K (.exit 0) (I_EndTick_g0_x0 p x)) := by kernel_rfl
theorem I_EndTick_g0_ok {ρ : Type} (k : Nat) : Sound Try.prog (.loop b_I_EndTick_0) (LP_I_EndTick ρ k 0 fun st K => ev (E_I_EndTick k) (LP_I_EndTick ρ k) 0 b_I_EndTick_0 st K) :=
  loop_ok (ev_sound (E_I_EndTick_ok k) b_I_EndTick_0 0 (lpgood_none (by kernel_rfl))) I_EndTick_g0_kx I_EndTick_g0_cx k (g := fun p v next K => I_EndTick_g0 k p v next (fun x => K (.exit 0) (I_EndTick_g0_x0 p x))) (dec_at I_EndTick_g0_hd) (fun p v K K1 => I_EndTick_g0_round k p v K K1)
def I_EndTick_args (a : List Step) : List Arg := [.one (.sl (.st .step) a)]
def I_EndTick_argD (l : List Arg) : Option (List Step) := match l with
  | [.one (.sl (.st .step) b0)] => some b0
  | _ => none
def I_EndTick_enc (r : Int) : Out := (.r [] (.int .i64 r), [])
def I_EndTick_dec (o : Out) : Option (Int) := match o with
  | (.r [] (.int .i64 z1), []) => some z1
  | _ => none
def I_EndTick_G (k : Nat) : PG := fun _ l K => (I_EndTick_argD l).bind fun a => (I_EndTick k a).bind fun r => K (I_EndTick_enc r)
theorem I_EndTick_ev (k : Nat) (a : List Step) : ev (E_I_EndTick k) (LP_I_EndTick (Int) k) 0 c_I_EndTick (st0 Try.f82 (I_EndTick_args a)) (fin Try.prog Try.f82 (.sc) I_EndTick_dec) = I_EndTick k a := by kernel_rfl
theorem I_EndTick_ok (k : Nat) : PureOk Try.prog 82 (I_EndTick_G k) :=
  pureOk_of_ev (E_I_EndTick_ok k) Try.func82 (by kernel_rfl) (by kernel_rfl) I_EndTick_args I_EndTick_argD
    (fun l a h => by unfold I_EndTick_argD at h; split at h <;> first | (cases h; rfl) | cases h) (fun a => rfl) (lpgood_of (l := [(0, b_I_EndTick_0)]) (by kernel_rfl) ⟨I_EndTick_g0_ok k, trivial⟩)
    (fun o r h => by unfold I_EndTick_dec at h; split at h <;> first | (cases h; rfl) | cases h) (I_EndTick_ev k)
def o_I_EndTick (k : Nat) : Orc := pureOrc [.one (.sl (.st .step))] (I_EndTick_G k)
theorem o_I_EndTick_ok (k : Nat) : OrcOk Try.prog 82 (o_I_EndTick k) := pureOrc_ok (I_EndTick_ok k)
/-! ### 149 slices.Clone[[]byte,byte] -/
noncomputable def E_slices_Clone_lbyte_byte (k : Nat) : Env := { P := Try.prog, tt := tt, orc := fun g => noOrc }
theorem E_slices_Clone_lbyte_byte_ok (k : Nat) : EnvOk (E_slices_Clone_lbyte_byte k) := fun g => (noOrc_ok _ _)
noncomputable def c_slices_Clone_lbyte_byte : Code := (Try.f149.body).getD .skip
def LP_slices_Clone_lbyte_byte (ρ : Type) (k : Nat) : Nat → Ev ρ → Ev ρ := fun _ _ _ _ => none
def slices_Clone_lbyte_byte_args (a : List Int) : List Arg := [.one (.sl (.int .u8) a)]
def slices_Clone_lbyte_byte_argD (l : List Arg) : Option (List Int) := match l with
  | [.one (.sl (.int .u8) b0)] => some b0
  | _ => none
def slices_Clone_lbyte_byte_enc (r : List Int) : Out := (.own 0, [.arr none (.int .u8) r])
def slices_Clone_lbyte_byte_dec (o : Out) : Option (List Int) := match o with
  | (.own 0, [.arr none (.int .u8) z1]) => some z1
  | _ => none
def slices_Clone_lbyte_byte_G (k : Nat) : PG := fun _ l K => (slices_Clone_lbyte_byte_argD l).bind fun a => (slices_Clone_lbyte_byte k a).bind fun r => K (slices_Clone_lbyte_byte_enc r)
theorem slices_Clone_lbyte_byte_ev (k : Nat) (a : List Int) : ev (E_slices_Clone_lbyte_byte k) (LP_slices_Clone_lbyte_byte (List Int) k) 0 c_slices_Clone_lbyte_byte (st0 Try.f149 (slices_Clone_lbyte_byte_args a)) (fin Try.prog Try.f149 (.own (.int .u8)) slices_Clone_lbyte_byte_dec) = slices_Clone_lbyte_byte k a := by kernel_rfl
theorem slices_Clone_lbyte_byte_ok (k : Nat) : PureOk Try.prog 149 (slices_Clone_lbyte_byte_G k) :=
  pureOk_of_ev (E_slices_Clone_lbyte_byte_ok k) Try.func149 (by kernel_rfl) (by kernel_rfl) slices_Clone_lbyte_byte_args slices_Clone_lbyte_byte_argD
    (fun l a h => by unfold slices_Clone_lbyte_byte_argD at h; split at h <;> first | (cases h; rfl) | cases h) (fun a => rfl) (lpgood_none (by kernel_rfl))
    (fun o r h => by unfold slices_Clone_lbyte_byte_dec at h; split at h <;> first | (cases h; rfl) | cases h) (slices_Clone_lbyte_byte_ev k)
def o_slices_Clone_lbyte_byte (k : Nat) : Orc := pureOrc [.one (.sl (.int .u8))] (slices_Clone_lbyte_byte_G k)
theorem o_slices_Clone_lbyte_byte_ok (k : Nat) : OrcOk Try.prog 149 (o_slices_Clone_lbyte_byte k) := pureOrc_ok (slices_Clone_lbyte_byte_ok k)
/-! ### 79 slices.Clone[[]int,int] -/
noncomputable def E_slices_Clone_lint_int (k : Nat) : Env := { P := Try.prog, tt := tt, orc := fun g => noOrc }
theorem E_slices_Clone_lint_int_ok (k : Nat) : EnvOk (E_slices_Clone_lint_int k) := fun g => (noOrc_ok _ _)
noncomputable def c_slices_Clone_lint_int : Code := (Try.f79.body).getD .skip
def LP_slices_Clone_lint_int (ρ : Type) (k : Nat) : Nat → Ev ρ → Ev ρ := fun _ _ _ _ => none
def slices_Clone_lint_int_args (a : List Int) : List Arg := [.one (.sl (.int .i64) a)]
def slices_Clone_lint_int_argD (l : List Arg) : Option (List Int) := match l with
  | [.one (.sl (.int .i64) b0)] => some b0
  | _ => none
def slices_Clone_lint_int_enc (r : List Int) : Out := (.own 0, [.arr none (.int .i64) r])
def slices_Clone_lint_int_dec (o : Out) : Option (List Int) := match o with
  | (.own 0, [.arr none (.int .i64) z1]) => some z1
  | _ => none
def slices_Clone_lint_int_G (k : Nat) : PG := fun _ l K => (slices_Clone_lint_int_argD l).bind fun a => (slices_Clone_lint_int k a).bind fun r => K (slices_Clone_lint_int_enc r)
theorem slices_Clone_lint_int_ev (k : Nat) (a : List Int) : ev (E_slices_Clone_lint_int k) (LP_slices_Clone_lint_int (List Int) k) 0 c_slices_Clone_lint_int (st0 Try.f79 (slices_Clone_lint_int_args a)) (fin Try.prog Try.f79 (.own (.int .i64)) slices_Clone_lint_int_dec) = slices_Clone_lint_int k a := by kernel_rfl
theorem slices_Clone_lint_int_ok (k : Nat) : PureOk Try.prog 79 (slices_Clone_lint_int_G k) :=
  pureOk_of_ev (E_slices_Clone_lint_int_ok k) Try.func79 (by kernel_rfl) (by kernel_rfl) slices_Clone_lint_int_args slices_Clone_lint_int_argD
    (fun l a h => by unfold slices_Clone_lint_int_argD at h; split at h <;> first | (cases h; rfl) | cases h) (fun a => rfl) (lpgood_none (by kernel_rfl))
    (fun o r h => by unfold slices_Clone_lint_int_dec at h; split at h <;> first | (cases h; rfl) | cases h) (slices_Clone_lint_int_ev k)
def o_slices_Clone_lint_int (k : Nat) : Orc := pureOrc [.one (.sl (.int .i64))] (slices_Clone_lint_int_G k)
theorem o_slices_Clone_lint_int_ok (k : Nat) : OrcOk Try.prog 79 (o_slices_Clone_lint_int k) := pureOrc_ok (slices_Clone_lint_int_ok k)
/-! ### 150 (loop.example/g00778/impl.Tensor).copied -/
noncomputable def E_I_Tensor_copied (k : Nat) : Env := { P := Try.prog, tt := tt, orc := fun g => cond (Nat.beq g 79) (o_slices_Clone_lint_int k) (noOrc) }
theorem E_I_Tensor_copied_ok (k : Nat) : EnvOk (E_I_Tensor_copied k) := fun g => (orc_cond (o_slices_Clone_lint_int_ok k) (noOrc_ok _ _))
noncomputable def c_I_Tensor_copied : Code := (Try.f150.body).getD .skip
def LP_I_Tensor_copied (ρ : Type) (k : Nat) : Nat → Ev ρ → Ev ρ := fun _ _ _ _ => none
def I_Tensor_copied_args (a : Tensor) : List Arg := [.agg [.int .i64 a.sh.h, .int .i64 a.sh.w, .int .i64 a.sh.c, .sl (.int .i64) a.data]]
def I_Tensor_copied_argD (l : List Arg) : Option (Tensor) := match l with
  | [.agg [.int .i64 b0_0, .int .i64 b0_1, .int .i64 b0_2, .sl (.int .i64) b0_3]] => some (⟨(⟨b0_0, b0_1, b0_2⟩ : Shape), b0_3⟩ : Tensor)
  | _ => none
def I_Tensor_copied_enc (r : Tensor) : Out := (.agg [.r [] (.int .i64 r.sh.h), .r [] (.int .i64 r.sh.w), .r [] (.int .i64 r.sh.c), .own 0], [.arr none (.int .i64) r.data])
def I_Tensor_copied_dec (o : Out) : Option (Tensor) := match o with
  | (.agg [.r [] (.int .i64 z1), .r [] (.int .i64 z2), .r [] (.int .i64 z3), .own 0], [.arr none (.int .i64) z4]) => some (⟨(⟨z1, z2, z3⟩ : Shape), z4⟩ : Tensor)
  | _ => none
def I_Tensor_copied_G (k : Nat) : PG := fun _ l K => (I_Tensor_copied_argD l).bind fun a => (I_Tensor_copied k a).bind fun r => K (I_Tensor_copied_enc r)
theorem I_Tensor_copied_ev (k : Nat) (a : Tensor) : ev (E_I_Tensor_copied k) (LP_I_Tensor_copied (Tensor) k) 0 c_I_Tensor_copied (st0 Try.f150 (I_Tensor_copied_args a)) (fin Try.prog Try.f150 (.agg [.sc, .sc, .sc, .own (.int .i64)]) I_Tensor_copied_dec) = I_Tensor_copied k a := by kernel_rfl
theorem I_Tensor_copied_ok (k : Nat) : PureOk Try.prog 150 (I_Tensor_copied_G k) :=
  pureOk_of_ev (E_I_Tensor_copied_ok k) Try.func150 (by kernel_rfl) (by kernel_rfl) I_Tensor_copied_args I_Tensor_copied_argD
    (fun l a h => by unfold I_Tensor_copied_argD at h; split at h <;> first | (cases h; rfl) | cases h) (fun a => rfl) (lpgood_none (by kernel_rfl))
    (fun o r h => by unfold I_Tensor_copied_dec at h; split at h <;> first | (cases h; rfl) | cases h) (I_Tensor_copied_ev k)
def o_I_Tensor_copied (k : Nat) : Orc := pureOrc [.agg [(.int .i64), (.int .i64), (.int .i64), (.sl (.int .i64))]] (I_Tensor_copied_G k)
theorem o_I_Tensor_copied_ok (k : Nat) : OrcOk Try.prog 150 (o_I_Tensor_copied k) := pureOrc_ok (I_Tensor_copied_ok k)
/-! ### 98 (loop.example/g00778/impl.Step).copied -/
noncomputable def E_I_Step_copied (k : Nat) : Env := { P := Try.prog, tt := tt, orc := fun g => cond (Nat.beq g 149) (o_slices_Clone_lbyte_byte k) (cond (Nat.beq g 150) (o_I_Tensor_copied k) (noOrc)) }
theorem E_I_Step_copied_ok (k : Nat) : EnvOk (E_I_Step_copied k) := fun g => (orc_cond (o_slices_Clone_lbyte_byte_ok k) (orc_cond (o_I_Tensor_copied_ok k) (noOrc_ok _ _)))
noncomputable def c_I_Step_copied : Code := (Try.f98.body).getD .skip
def LP_I_Step_copied (ρ : Type) (k : Nat) : Nat → Ev ρ → Ev ρ := fun _ _ _ _ => none
def I_Step_copied_args (a : Step) : List Arg := [.agg [.int .i64 a.kind, .int .i64 a.a, .int .i64 a.b, .sl (.int .u8) a.data, .int .i64 a.input.sh.h, .int .i64 a.input.sh.w, .int .i64 a.input.sh.c, .sl (.int .i64) a.input.data]]
def I_Step_copied_argD (l : List Arg) : Option (Step) := match l with
  | [.agg [.int .i64 b0_0, .int .i64 b0_1, .int .i64 b0_2, .sl (.int .u8) b0_3, .int .i64 b0_4, .int .i64 b0_5, .int .i64 b0_6, .sl (.int .i64) b0_7]] => some (⟨b0_0, b0_1, b0_2, b0_3, (⟨(⟨b0_4, b0_5, b0_6⟩ : Shape), b0_7⟩ : Tensor)⟩ : Step)
  | _ => none
def I_Step_copied_enc (r : Step) : Out := (.agg [.r [] (.int .i64 r.kind), .r [] (.int .i64 r.a), .r [] (.int .i64 r.b), .own 0, .r [] (.int .i64 r.input.sh.h), .r [] (.int .i64 r.input.sh.w), .r [] (.int .i64 r.input.sh.c), .own 1], [.arr none (.int .u8) r.data, .arr none (.int .i64) r.input.data])
def I_Step_copied_dec (o : Out) : Option (Step) := match o with
  | (.agg [.r [] (.int .i64 z1), .r [] (.int .i64 z2), .r [] (.int .i64 z3), .own 0, .r [] (.int .i64 z5), .r [] (.int .i64 z6), .r [] (.int .i64 z7), .own 1], [.arr none (.int .u8) z4, .arr none (.int .i64) z8]) => some (⟨z1, z2, z3, z4, (⟨(⟨z5, z6, z7⟩ : Shape), z8⟩ : Tensor)⟩ : Step)
  | _ => none
def I_Step_copied_G (k : Nat) : PG := fun _ l K => (I_Step_copied_argD l).bind fun a => (I_Step_copied k a).bind fun r => K (I_Step_copied_enc r)
theorem I_Step_copied_ev (k : Nat) (a : Step) : ev (E_I_Step_copied k) (LP_I_Step_copied (Step) k) 0 c_I_Step_copied (st0 Try.f98 (I_Step_copied_args a)) (fin Try.prog Try.f98 (.agg [.sc, .sc, .sc, .own (.int .u8), .sc, .sc, .sc, .own (.int .i64)]) I_Step_copied_dec) = I_Step_copied k a := by kernel_rfl
theorem I_Step_copied_ok (k : Nat) : PureOk Try.prog 98 (I_Step_copied_G k) :=
  pureOk_of_ev (E_I_Step_copied_ok k) Try.func98 (by kernel_rfl) (by kernel_rfl) I_Step_copied_args I_Step_copied_argD
    (fun l a h => by unfold I_Step_copied_argD at h; split at h <;> first | (cases h; rfl) | cases h) (fun a => rfl) (lpgood_none (by kernel_rfl))
    (fun o r h => by unfold I_Step_copied_dec at h; split at h <;> first | (cases h; rfl) | cases h) (I_Step_copied_ev k)
def o_I_Step_copied (k : Nat) : Orc := pureOrc [.agg [(.int .i64), (.int .i64), (.int .i64), (.sl (.int .u8)), (.int .i64), (.int .i64), (.int .i64), (.sl (.int .i64))]] (I_Step_copied_G k)
theorem o_I_Step_copied_ok (k : Nat) : OrcOk Try.prog 98 (o_I_Step_copied k) := pureOrc_ok (I_Step_copied_ok k)
/-! ### 45 loop.example/g00778/impl.CutTrace -/
noncomputable def E_I_CutTrace (k : Nat) : Env := { P := Try.prog, tt := tt, orc := fun g => cond (Nat.beq g 82) (o_I_EndTick k) (cond (Nat.beq g 98) (o_I_Step_copied k) (noOrc)) }
theorem E_I_CutTrace_ok (k : Nat) : EnvOk (E_I_CutTrace k) := fun g => (orc_cond (o_I_EndTick_ok k) (orc_cond (o_I_Step_copied_ok k) (noOrc_ok _ _)))
noncomputable def c_I_CutTrace : Code := (Try.f45.body).getD .skip
noncomputable def b_I_CutTrace_0 : Code := ((loopsIn 0 c_I_CutTrace).getD 0 (0, .skip)).2
def I_CutTrace_g0_keep : List Nat := [0, 1, 5, 9, 10, 11]
def I_CutTrace_g0_co : List (Where × Co) := []
def I_CutTrace_g0_kx : Ex → List Nat
  | .exit j => cond (Nat.beq j 0) [5] []
  | .ret => []
  | .normal => []
def I_CutTrace_g0_cx : Ex → List (Where × Co)
  | .exit j => cond (Nat.beq j 0) [] []
  | .ret => []
  | .normal => []
def I_CutTrace_g0_tm (pv : (List Step × Int × List Step × Int) × (Int × List Step)) : St := { slots := [(0, .r [] (.sl (.st .step) pv.1.1)), (1, .r [] (.int .i64 pv.1.2.1)), (5, .own 0), (9, .r [] (.sl (.st .step) pv.1.2.2.1)), (10, .r [] (.int .i64 pv.1.2.2.2)), (11, .r [] (.int .i64 pv.2.1))], heap := [(0, .arr none (.st .step) pv.2.2)], nid := 1, n := 30, gh := [] }
def I_CutTrace_g0_dec (nf : NF) : Option ((List Step × Int × List Step × Int) × (Int × List Step)) := match nf with
  | ([.r [] (.sl (.st .step) w0), .r [] (.int .i64 w1), .own 0, .r [] (.sl (.st .step) w2), .r [] (.int .i64 w3), .r [] (.int .i64 w4)], [.arr none (.st .step) w5], []) => some ((w0, w1, w2, w3), (w4, w5))
  | _ => none
theorem I_CutTrace_g0_hd (nf : NF) (v : (List Step × Int × List Step × Int) × (Int × List Step)) (h : I_CutTrace_g0_dec nf = some v) : denorm I_CutTrace_g0_keep 30 nf = I_CutTrace_g0_tm v := by
  unfold I_CutTrace_g0_dec at h
  split at h
  · cases h; rfl
  · cases h
def I_CutTrace_g0_x0 (p : List Step × Int × List Step × Int) (x : List Step) : St := { slots := [(5, .own 0)], heap := [(0, .arr none (.st .step) x)], nid := 1, n := 30, gh := [] }
def LP_I_CutTrace (ρ : Type) (k : Nat) : Nat → Ev ρ → Ev ρ := fun id f => cond (Nat.beq id 0) (loopOrc I_CutTrace_g0_keep I_CutTrace_g0_co (fun n nf => cond (Nat.beq n 30) (I_CutTrace_g0_dec nf) none) fun pv K => iter (fun v next => I_CutTrace_g0 k pv.1 v next (fun x => K (.exit 0) (I_CutTrace_g0_x0 pv.1 x))) k pv.2) ((fun _ _ _ _ => none) id f)
theorem I_CutTrace_g0_round {ρ : Type} (k : Nat) (p : List Step × Int × List Step × Int) (v : Int × List Step) (K K1 : Ex → St → Option ρ) : ev (E_I_CutTrace k) (LP_I_CutTrace ρ k) 0 b_I_CutTrace_0 (I_CutTrace_g0_tm (p, v)) (fun e st' => match e with
    | .normal => (normC I_CutTrace_g0_keep I_CutTrace_g0_co st').bind fun nf => K1 .normal (denorm I_CutTrace_g0_keep st'.n nf)
    | e => (normC (I_CutTrace_g0_kx e) (I_CutTrace_g0_cx e) st').bind fun nf => K e (denorm (I_CutTrace_g0_kx e) st'.n nf)) = I_CutTrace_g0 k p v (fun v' => K1 .normal (I_CutTrace_g0_tm (p, v'))) (fun x => K (.exit 0) (I_CutTrace_g0_x0 p x)) := by kernel_rfl
theorem I_CutTrace_g0_ok {ρ : Type} (k : Nat) : Sound Try.prog (.loop b_I_CutTrace_0) (LP_I_CutTrace ρ k 0 fun st K => ev (E_I_CutTrace k) (LP_I_CutTrace ρ k) 0 b_I_CutTrace_0 st K) :=
  loop_ok (ev_sound (E_I_CutTrace_ok k) b_I_CutTrace_0 0 (lpgood_none (by kernel_rfl))) I_CutTrace_g0_kx I_CutTrace_g0_cx k (g := fun p v next K => I_CutTrace_g0 k p v next (fun x => K (.exit 0) (I_CutTrace_g0_x0 p x))) (dec_at I_CutTrace_g0_hd) (fun p v K K1 => I_CutTrace_g0_round k p v K K1)
def I_CutTrace_args (a : List Step × Int) : List Arg := [.one (.sl (.st .step) a.1), .one (.int .i64 a.2)]
def I_CutTrace_argD (l : List Arg) : Option (List Step × Int) := match l with
  | [.one (.sl (.st .step) b0), .one (.int .i64 b1)] => some (b0, b1)
  | _ => none
def I_CutTrace_enc (r : List Step) : Out := (.own 0, [.arr none (.st .step) r])
def I_CutTrace_dec (o : Out) : Option (List Step) := match o with
  | (.own 0, [.arr none (.st .step) z1]) => some z1
  | _ => none
def I_CutTrace_G (k : Nat) : PG := fun _ l K => (I_CutTrace_argD l).bind fun a => (I_CutTrace k a.1 a.2).bind fun r => K (I_CutTrace_enc r)
theorem I_CutTrace_ev (k : Nat) (a : List Step × Int) : ev (E_I_CutTrace k) (LP_I_CutTrace (List Step) k) 0 c_I_CutTrace (st0 Try.f45 (I_CutTrace_args a)) (fin Try.prog Try.f45 (.own (.st .step)) I_CutTrace_dec) = I_CutTrace k a.1 a.2 := by kernel_rfl
theorem I_CutTrace_ok (k : Nat) : PureOk Try.prog 45 (I_CutTrace_G k) :=
  pureOk_of_ev (E_I_CutTrace_ok k) Try.func45 (by kernel_rfl) (by kernel_rfl) I_CutTrace_args I_CutTrace_argD
    (fun l a h => by unfold I_CutTrace_argD at h; split at h <;> first | (cases h; rfl) | cases h) (fun a => rfl) (lpgood_of (l := [(0, b_I_CutTrace_0)]) (by kernel_rfl) ⟨I_CutTrace_g0_ok k, trivial⟩)
    (fun o r h => by unfold I_CutTrace_dec at h; split at h <;> first | (cases h; rfl) | cases h) (I_CutTrace_ev k)
def o_I_CutTrace (k : Nat) : Orc := pureOrc [.one (.sl (.st .step)), .one (.int .i64)] (I_CutTrace_G k)
theorem o_I_CutTrace_ok (k : Nat) : OrcOk Try.prog 45 (o_I_CutTrace k) := pureOrc_ok (I_CutTrace_ok k)
/-! ### 35 loop.example/g00778/laws.eqByteS -/
noncomputable def E_L_eqByteS (k : Nat) : Env := { P := Try.prog, tt := tt, orc := fun g => noOrc }
theorem E_L_eqByteS_ok (k : Nat) : EnvOk (E_L_eqByteS k) := fun g => (noOrc_ok _ _)
noncomputable def c_L_eqByteS : Code := (Try.f35.body).getD .skip
noncomputable def b_L_eqByteS_0 : Code := ((loopsIn 0 c_L_eqByteS).getD 0 (0, .skip)).2
def L_eqByteS_g0_keep : List Nat := [0, 1, 5]
def L_eqByteS_g0_co : List (Where × Co) := []
def L_eqByteS_g0_kx : Ex → List Nat
  | .exit j => cond (Nat.beq j 0) [] []
  | .ret => [4]
  | .normal => []
def L_eqByteS_g0_cx : Ex → List (Where × Co)
  | .exit j => cond (Nat.beq j 0) [] []
  | .ret => []
  | .normal => []
def L_eqByteS_g0_tm (pv : (List Int × List Int) × (Int)) : St := { slots := [(0, .r [] (.sl (.int .u8) pv.1.1)), (1, .r [] (.sl (.int .u8) pv.1.2)), (5, .r [] (.int .i64 pv.2))], heap := [], nid := 0, n := 26, gh := [] }
def L_eqByteS_g0_dec (nf : NF) : Option ((List Int × List Int) × (Int)) := match nf with
  | ([.r [] (.sl (.int .u8) w0), .r [] (.sl (.int .u8) w1), .r [] (.int .i64 w2)], [], []) => some ((w0, w1), w2)
  | _ => none
theorem L_eqByteS_g0_hd (nf : NF) (v : (List Int × List Int) × (Int)) (h : L_eqByteS_g0_dec nf = some v) : denorm L_eqByteS_g0_keep 26 nf = L_eqByteS_g0_tm v := by
  unfold L_eqByteS_g0_dec at h
  split at h
  · cases h; rfl
  · cases h
def L_eqByteS_g0_x0 (p : List Int × List Int) (x : Unit) : St := { slots := [], heap := [], nid := 0, n := 26, gh := [] }
def L_eqByteS_g0_xret (p : List Int × List Int) (x : Bool) : St := { slots := [(4, .r [] (.bool x))], heap := [], nid := 0, n := 26, gh := [] }
def LP_L_eqByteS (ρ : Type) (k : Nat) : Nat → Ev ρ → Ev ρ := fun id f => cond (Nat.beq id 0) (loopOrc L_eqByteS_g0_keep L_eqByteS_g0_co (fun n nf => cond (Nat.beq n 26) (L_eqByteS_g0_dec nf) none) fun pv K => iter (fun v next => L_eqByteS_g0 k pv.1 v next (fun x => K (.exit 0) (L_eqByteS_g0_x0 pv.1 x)) (fun x => K .ret (L_eqByteS_g0_xret pv.1 x))) k pv.2) ((fun _ _ _ _ => none) id f)
theorem L_eqByteS_g0_round {ρ : Type} (k : Nat) (p : List Int × List Int) (v : Int) (K K1 : Ex → St → Option ρ) : ev (E_L_eqByteS k) (LP_L_eqByteS ρ k) 0 b_L_eqByteS_0 (L_eqByteS_g0_tm (p, v)) (fun e st' => match e with
    | .normal => (normC L_eqByteS_g0_keep L_eqByteS_g0_co st').bind fun nf => K1 .normal (denorm L_eqByteS_g0_keep st'.n nf)
    | e => (normC (L_eqByteS_g0_kx e) (L_eqByteS_g0_cx e) st').bind fun nf => K e (denorm (L_eqByteS_g0_kx e) st'.n nf)) = L_eqByteS_g0 k p v (fun v' => K1 .normal (L_eqByteS_g0_tm (p, v'))) (fun x => K (.exit 0) (L_eqByteS_g0_x0 p x)) (fun x => K .ret (L_eqByteS_g0_xret p x)) := by kernel_rfl
theorem L_eqByteS_g0_ok {ρ : Type} (k : Nat) : Sound Try.prog (.loop b_L_eqByteS_0) (LP_L_eqByteS ρ k 0 fun st K => ev (E_L_eqByteS k) (LP_L_eqByteS ρ k) 0 b_L_eqByteS_0 st K) :=
  loop_ok (ev_sound (E_L_eqByteS_ok k) b_L_eqByteS_0 0 (lpgood_none (by kernel_rfl))) L_eqByteS_g0_kx L_eqByteS_g0_cx k (g := fun p v next K => L_eqByteS_g0 k p v next (fun x => K (.exit 0) (L_eqByteS_g0_x0 p x)) (fun x => K .ret (L_eqByteS_g0_xret p x))) (dec_at L_eqByteS_g0_hd) (fun p v K K1 => L_eqByteS_g0_round k p v K K1)
def L_eqByteS_args (a : List Int × List Int) : List Arg := [.one (.sl (.int .u8) a.1), .one (.sl (.int .u8) a.2)]
def L_eqByteS_argD (l : List Arg) : Option (List Int × List Int) := match l with
  | [.one (.sl (.int .u8) b0), .one (.sl (.int .u8) b1)] => some (b0, b1)
  | _ => none
def L_eqByteS_enc (r : Bool) : Out := (.r [] (.bool r), [])
def L_eqByteS_dec (o : Out) : Option (Bool) := match o with
  | (.r [] (.bool z1), []) => some z1
  | _ => none
def L_eqByteS_G (k : Nat) : PG := fun _ l K => (L_eqByteS_argD l).bind fun a => (L_eqByteS k a.1 a.2).bind fun r => K (L_eqByteS_enc r)
theorem L_eqByteS_ev (k : Nat) (a : List Int × List Int) : ev (E_L_eqByteS k) (LP_L_eqByteS (Bool) k) 0 c_L_eqByteS (st0 Try.f35 (L_eqByteS_args a)) (fin Try.prog Try.f35 (.sc) L_eqByteS_dec) = L_eqByteS k a.1 a.2 := by kernel_rfl
theorem L_eqByteS_ok (k : Nat) : PureOk Try.prog 35 (L_eqByteS_G k) :=
  pureOk_of_ev (E_L_eqByteS_ok k) Try.func35 (by kernel_rfl) (by kernel_rfl) L_eqByteS_args L_eqByteS_argD
    (fun l a h => by unfold L_eqByteS_argD at h; split at h <;> first | (cases h; rfl) | cases h) (fun a => rfl) (lpgood_of (l := [(0, b_L_eqByteS_0)]) (by kernel_rfl) ⟨L_eqByteS_g0_ok k, trivial⟩)
    (fun o r h => by unfold L_eqByteS_dec at h; split at h <;> first | (cases h; rfl) | cases h) (L_eqByteS_ev k)
def o_L_eqByteS (k : Nat) : Orc := pureOrc [.one (.sl (.int .u8)), .one (.sl (.int .u8))] (L_eqByteS_G k)
theorem o_L_eqByteS_ok (k : Nat) : OrcOk Try.prog 35 (o_L_eqByteS k) := pureOrc_ok (L_eqByteS_ok k)
/-! ### 80 loop.example/g00778/laws.eqShape -/
noncomputable def E_L_eqShape (k : Nat) : Env := { P := Try.prog, tt := tt, orc := fun g => noOrc }
theorem E_L_eqShape_ok (k : Nat) : EnvOk (E_L_eqShape k) := fun g => (noOrc_ok _ _)
noncomputable def c_L_eqShape : Code := (Try.f80.body).getD .skip
def LP_L_eqShape (ρ : Type) (k : Nat) : Nat → Ev ρ → Ev ρ := fun _ _ _ _ => none
def L_eqShape_args (a : Shape × Shape) : List Arg := [.agg [.int .i64 a.1.h, .int .i64 a.1.w, .int .i64 a.1.c], .agg [.int .i64 a.2.h, .int .i64 a.2.w, .int .i64 a.2.c]]
def L_eqShape_argD (l : List Arg) : Option (Shape × Shape) := match l with
  | [.agg [.int .i64 b0_0, .int .i64 b0_1, .int .i64 b0_2], .agg [.int .i64 b1_0, .int .i64 b1_1, .int .i64 b1_2]] => some ((⟨b0_0, b0_1, b0_2⟩ : Shape), (⟨b1_0, b1_1, b1_2⟩ : Shape))
  | _ => none
def L_eqShape_enc (r : Bool) : Out := (.r [] (.bool r), [])
def L_eqShape_dec (o : Out) : Option (Bool) := match o with
  | (.r [] (.bool z1), []) => some z1
  | _ => none
def L_eqShape_G (k : Nat) : PG := fun _ l K => (L_eqShape_argD l).bind fun a => (L_eqShape k a.1 a.2).bind fun r => K (L_eqShape_enc r)
theorem L_eqShape_ev (k : Nat) (a : Shape × Shape) : ev (E_L_eqShape k) (LP_L_eqShape (Bool) k) 0 c_L_eqShape (st0 Try.f80 (L_eqShape_args a)) (fin Try.prog Try.f80 (.sc) L_eqShape_dec) = L_eqShape k a.1 a.2 := by kernel_rfl
theorem L_eqShape_ok (k : Nat) : PureOk Try.prog 80 (L_eqShape_G k) :=
  pureOk_of_ev (E_L_eqShape_ok k) Try.func80 (by kernel_rfl) (by kernel_rfl) L_eqShape_args L_eqShape_argD
    (fun l a h => by unfold L_eqShape_argD at h; split at h <;> first | (cases h; rfl) | cases h) (fun a => rfl) (lpgood_none (by kernel_rfl))
    (fun o r h => by unfold L_eqShape_dec at h; split at h <;> first | (cases h; rfl) | cases h) (L_eqShape_ev k)
def o_L_eqShape (k : Nat) : Orc := pureOrc [.agg [(.int .i64), (.int .i64), (.int .i64)], .agg [(.int .i64), (.int .i64), (.int .i64)]] (L_eqShape_G k)
theorem o_L_eqShape_ok (k : Nat) : OrcOk Try.prog 80 (o_L_eqShape k) := pureOrc_ok (L_eqShape_ok k)
/-! ### 26 loop.example/g00778/laws.eqIntS -/
noncomputable def E_L_eqIntS (k : Nat) : Env := { P := Try.prog, tt := tt, orc := fun g => noOrc }
theorem E_L_eqIntS_ok (k : Nat) : EnvOk (E_L_eqIntS k) := fun g => (noOrc_ok _ _)
noncomputable def c_L_eqIntS : Code := (Try.f26.body).getD .skip
noncomputable def b_L_eqIntS_0 : Code := ((loopsIn 0 c_L_eqIntS).getD 0 (0, .skip)).2
def L_eqIntS_g0_keep : List Nat := [0, 1, 5]
def L_eqIntS_g0_co : List (Where × Co) := []
def L_eqIntS_g0_kx : Ex → List Nat
  | .exit j => cond (Nat.beq j 0) [] []
  | .ret => [4]
  | .normal => []
def L_eqIntS_g0_cx : Ex → List (Where × Co)
  | .exit j => cond (Nat.beq j 0) [] []
  | .ret => []
  | .normal => []
def L_eqIntS_g0_tm (pv : (List Int × List Int) × (Int)) : St := { slots := [(0, .r [] (.sl (.int .i64) pv.1.1)), (1, .r [] (.sl (.int .i64) pv.1.2)), (5, .r [] (.int .i64 pv.2))], heap := [], nid := 0, n := 26, gh := [] }
def L_eqIntS_g0_dec (nf : NF) : Option ((List Int × List Int) × (Int)) := match nf with
  | ([.r [] (.sl (.int .i64) w0), .r [] (.sl (.int .i64) w1), .r [] (.int .i64 w2)], [], []) => some ((w0, w1), w2)
  | _ => none
theorem L_eqIntS_g0_hd (nf : NF) (v : (List Int × List Int) × (Int)) (h : L_eqIntS_g0_dec nf = some v) : denorm L_eqIntS_g0_keep 26 nf = L_eqIntS_g0_tm v := by
  unfold L_eqIntS_g0_dec at h
  split at h
  · cases h; rfl
  · cases h
def L_eqIntS_g0_x0 (p : List Int × List Int) (x : Unit) : St := { slots := [], heap := [], nid := 0, n := 26, gh := [] }
def L_eqIntS_g0_xret (p : List Int × List Int) (x : Bool) : St := { slots := [(4, .r [] (.bool x))], heap := [], nid := 0, n := 26, gh := [] }
def LP_L_eqIntS (ρ : Type) (k : Nat) : Nat → Ev ρ → Ev ρ := fun id f => cond (Nat.beq id 0) (loopOrc L_eqIntS_g0_keep L_eqIntS_g0_co (fun n nf => cond (Nat.beq n 26) (L_eqIntS_g0_dec nf) none) fun pv K => iter (fun v next => L_eqIntS_g0 k pv.1 v next (fun x => K (.exit 0) (L_eqIntS_g0_x0 pv.1 x)) (fun x => K .ret (L_eqIntS_g0_xret pv.1 x))) k pv.2) ((fun _ _ _ _ => none) id f)
theorem L_eqIntS_g0_round {ρ : Type} (k : Nat) (p : List Int × List Int) (v : Int) (K K1 : Ex → St → Option ρ) : ev (E_L_eqIntS k) (LP_L_eqIntS ρ k) 0 b_L_eqIntS_0 (L_eqIntS_g0_tm (p, v)) (fun e st' => match e with
    | .normal => (normC L_eqIntS_g0_keep L_eqIntS_g0_co st').bind fun nf => K1 .normal (denorm L_eqIntS_g0_keep st'.n nf)
    | e => (normC (L_eqIntS_g0_kx e) (L_eqIntS_g0_cx e) st').bind fun nf => K e (denorm (L_eqIntS_g0_kx e) st'.n nf)) = L_eqIntS_g0 k p v (fun v' => K1 .normal (L_eqIntS_g0_tm (p, v'))) (fun x => K (.exit 0) (L_eqIntS_g0_x0 p x)) (fun x => K .ret (L_eqIntS_g0_xret p x)) := by kernel_rfl
theorem L_eqIntS_g0_ok {ρ : Type} (k : Nat) : Sound Try.prog (.loop b_L_eqIntS_0) (LP_L_eqIntS ρ k 0 fun st K => ev (E_L_eqIntS k) (LP_L_eqIntS ρ k) 0 b_L_eqIntS_0 st K) :=
  loop_ok (ev_sound (E_L_eqIntS_ok k) b_L_eqIntS_0 0 (lpgood_none (by kernel_rfl))) L_eqIntS_g0_kx L_eqIntS_g0_cx k (g := fun p v next K => L_eqIntS_g0 k p v next (fun x => K (.exit 0) (L_eqIntS_g0_x0 p x)) (fun x => K .ret (L_eqIntS_g0_xret p x))) (dec_at L_eqIntS_g0_hd) (fun p v K K1 => L_eqIntS_g0_round k p v K K1)
def L_eqIntS_args (a : List Int × List Int) : List Arg := [.one (.sl (.int .i64) a.1), .one (.sl (.int .i64) a.2)]
def L_eqIntS_argD (l : List Arg) : Option (List Int × List Int) := match l with
  | [.one (.sl (.int .i64) b0), .one (.sl (.int .i64) b1)] => some (b0, b1)
  | _ => none
def L_eqIntS_enc (r : Bool) : Out := (.r [] (.bool r), [])
def L_eqIntS_dec (o : Out) : Option (Bool) := match o with
  | (.r [] (.bool z1), []) => some z1
  | _ => none
def L_eqIntS_G (k : Nat) : PG := fun _ l K => (L_eqIntS_argD l).bind fun a => (L_eqIntS k a.1 a.2).bind fun r => K (L_eqIntS_enc r)
theorem L_eqIntS_ev (k : Nat) (a : List Int × List Int) : ev (E_L_eqIntS k) (LP_L_eqIntS (Bool) k) 0 c_L_eqIntS (st0 Try.f26 (L_eqIntS_args a)) (fin Try.prog Try.f26 (.sc) L_eqIntS_dec) = L_eqIntS k a.1 a.2 := by kernel_rfl
theorem L_eqIntS_ok (k : Nat) : PureOk Try.prog 26 (L_eqIntS_G k) :=
  pureOk_of_ev (E_L_eqIntS_ok k) Try.func26 (by kernel_rfl) (by kernel_rfl) L_eqIntS_args L_eqIntS_argD
    (fun l a h => by unfold L_eqIntS_argD at h; split at h <;> first | (cases h; rfl) | cases h) (fun a => rfl) (lpgood_of (l := [(0, b_L_eqIntS_0)]) (by kernel_rfl) ⟨L_eqIntS_g0_ok k, trivial⟩)
    (fun o r h => by unfold L_eqIntS_dec at h; split at h <;> first | (cases h; rfl) | cases h) (L_eqIntS_ev k)
def o_L_eqIntS (k : Nat) : Orc := pureOrc [.one (.sl (.int .i64)), .one (.sl (.int .i64))] (L_eqIntS_G k)
theorem o_L_eqIntS_ok (k : Nat) : OrcOk Try.prog 26 (o_L_eqIntS k) := pureOrc_ok (L_eqIntS_ok k)
/-! ### 18 loop.example/g00778/laws.eqTensor -/
noncomputable def E_L_eqTensor (k : Nat) : Env := { P := Try.prog, tt := tt, orc := fun g => cond (Nat.beq g 26) (o_L_eqIntS k) (cond (Nat.beq g 80) (o_L_eqShape k) (noOrc)) }
theorem E_L_eqTensor_ok (k : Nat) : EnvOk (E_L_eqTensor k) := fun g => (orc_cond (o_L_eqIntS_ok k) (orc_cond (o_L_eqShape_ok k) (noOrc_ok _ _)))
noncomputable def c_L_eqTensor : Code := (Try.f18.body).getD .skip
def LP_L_eqTensor (ρ : Type) (k : Nat) : Nat → Ev ρ → Ev ρ := fun _ _ _ _ => none
def L_eqTensor_args (a : Tensor × Tensor) : List Arg := [.agg [.int .i64 a.1.sh.h, .int .i64 a.1.sh.w, .int .i64 a.1.sh.c, .sl (.int .i64) a.1.data], .agg [.int .i64 a.2.sh.h, .int .i64 a.2.sh.w, .int .i64 a.2.sh.c, .sl (.int .i64) a.2.data]]
def L_eqTensor_argD (l : List Arg) : Option (Tensor × Tensor) := match l with
  | [.agg [.int .i64 b0_0, .int .i64 b0_1, .int .i64 b0_2, .sl (.int .i64) b0_3], .agg [.int .i64 b1_0, .int .i64 b1_1, .int .i64 b1_2, .sl (.int .i64) b1_3]] => some ((⟨(⟨b0_0, b0_1, b0_2⟩ : Shape), b0_3⟩ : Tensor), (⟨(⟨b1_0, b1_1, b1_2⟩ : Shape), b1_3⟩ : Tensor))
  | _ => none
def L_eqTensor_enc (r : Bool) : Out := (.r [] (.bool r), [])
def L_eqTensor_dec (o : Out) : Option (Bool) := match o with
  | (.r [] (.bool z1), []) => some z1
  | _ => none
def L_eqTensor_G (k : Nat) : PG := fun _ l K => (L_eqTensor_argD l).bind fun a => (L_eqTensor k a.1 a.2).bind fun r => K (L_eqTensor_enc r)
theorem L_eqTensor_ev (k : Nat) (a : Tensor × Tensor) : ev (E_L_eqTensor k) (LP_L_eqTensor (Bool) k) 0 c_L_eqTensor (st0 Try.f18 (L_eqTensor_args a)) (fin Try.prog Try.f18 (.sc) L_eqTensor_dec) = L_eqTensor k a.1 a.2 := by kernel_rfl
theorem L_eqTensor_ok (k : Nat) : PureOk Try.prog 18 (L_eqTensor_G k) :=
  pureOk_of_ev (E_L_eqTensor_ok k) Try.func18 (by kernel_rfl) (by kernel_rfl) L_eqTensor_args L_eqTensor_argD
    (fun l a h => by unfold L_eqTensor_argD at h; split at h <;> first | (cases h; rfl) | cases h) (fun a => rfl) (lpgood_none (by kernel_rfl))
    (fun o r h => by unfold L_eqTensor_dec at h; split at h <;> first | (cases h; rfl) | cases h) (L_eqTensor_ev k)
def o_L_eqTensor (k : Nat) : Orc := pureOrc [.agg [(.int .i64), (.int .i64), (.int .i64), (.sl (.int .i64))], .agg [(.int .i64), (.int .i64), (.int .i64), (.sl (.int .i64))]] (L_eqTensor_G k)
theorem o_L_eqTensor_ok (k : Nat) : OrcOk Try.prog 18 (o_L_eqTensor k) := pureOrc_ok (L_eqTensor_ok k)
/-! ### 36 loop.example/g00778/laws.eqStep -/
noncomputable def E_L_eqStep (k : Nat) : Env := { P := Try.prog, tt := tt, orc := fun g => cond (Nat.beq g 18) (o_L_eqTensor k) (cond (Nat.beq g 35) (o_L_eqByteS k) (noOrc)) }
theorem E_L_eqStep_ok (k : Nat) : EnvOk (E_L_eqStep k) := fun g => (orc_cond (o_L_eqTensor_ok k) (orc_cond (o_L_eqByteS_ok k) (noOrc_ok _ _)))
noncomputable def c_L_eqStep : Code := (Try.f36.body).getD .skip
def LP_L_eqStep (ρ : Type) (k : Nat) : Nat → Ev ρ → Ev ρ := fun _ _ _ _ => none
def L_eqStep_args (a : Step × Step) : List Arg := [.agg [.int .i64 a.1.kind, .int .i64 a.1.a, .int .i64 a.1.b, .sl (.int .u8) a.1.data, .int .i64 a.1.input.sh.h, .int .i64 a.1.input.sh.w, .int .i64 a.1.input.sh.c, .sl (.int .i64) a.1.input.data], .agg [.int .i64 a.2.kind, .int .i64 a.2.a, .int .i64 a.2.b, .sl (.int .u8) a.2.data, .int .i64 a.2.input.sh.h, .int .i64 a.2.input.sh.w, .int .i64 a.2.input.sh.c, .sl (.int .i64) a.2.input.data]]
def L_eqStep_argD (l : List Arg) : Option (Step × Step) := match l with
  | [.agg [.int .i64 b0_0, .int .i64 b0_1, .int .i64 b0_2, .sl (.int .u8) b0_3, .int .i64 b0_4, .int .i64 b0_5, .int .i64 b0_6, .sl (.int .i64) b0_7], .agg [.int .i64 b1_0, .int .i64 b1_1, .int .i64 b1_2, .sl (.int .u8) b1_3, .int .i64 b1_4, .int .i64 b1_5, .int .i64 b1_6, .sl (.int .i64) b1_7]] => some ((⟨b0_0, b0_1, b0_2, b0_3, (⟨(⟨b0_4, b0_5, b0_6⟩ : Shape), b0_7⟩ : Tensor)⟩ : Step), (⟨b1_0, b1_1, b1_2, b1_3, (⟨(⟨b1_4, b1_5, b1_6⟩ : Shape), b1_7⟩ : Tensor)⟩ : Step))
  | _ => none
def L_eqStep_enc (r : Bool) : Out := (.r [] (.bool r), [])
def L_eqStep_dec (o : Out) : Option (Bool) := match o with
  | (.r [] (.bool z1), []) => some z1
  | _ => none
def L_eqStep_G (k : Nat) : PG := fun _ l K => (L_eqStep_argD l).bind fun a => (L_eqStep k a.1 a.2).bind fun r => K (L_eqStep_enc r)
theorem L_eqStep_ev (k : Nat) (a : Step × Step) : ev (E_L_eqStep k) (LP_L_eqStep (Bool) k) 0 c_L_eqStep (st0 Try.f36 (L_eqStep_args a)) (fin Try.prog Try.f36 (.sc) L_eqStep_dec) = L_eqStep k a.1 a.2 := by kernel_rfl
theorem L_eqStep_ok (k : Nat) : PureOk Try.prog 36 (L_eqStep_G k) :=
  pureOk_of_ev (E_L_eqStep_ok k) Try.func36 (by kernel_rfl) (by kernel_rfl) L_eqStep_args L_eqStep_argD
    (fun l a h => by unfold L_eqStep_argD at h; split at h <;> first | (cases h; rfl) | cases h) (fun a => rfl) (lpgood_none (by kernel_rfl))
    (fun o r h => by unfold L_eqStep_dec at h; split at h <;> first | (cases h; rfl) | cases h) (L_eqStep_ev k)
def o_L_eqStep (k : Nat) : Orc := pureOrc [.agg [(.int .i64), (.int .i64), (.int .i64), (.sl (.int .u8)), (.int .i64), (.int .i64), (.int .i64), (.sl (.int .i64))], .agg [(.int .i64), (.int .i64), (.int .i64), (.sl (.int .u8)), (.int .i64), (.int .i64), (.int .i64), (.sl (.int .i64))]] (L_eqStep_G k)
theorem o_L_eqStep_ok (k : Nat) : OrcOk Try.prog 36 (o_L_eqStep k) := pureOrc_ok (L_eqStep_ok k)
/-! ### 27 loop.example/g00778/laws.eqStepS -/
noncomputable def E_L_eqStepS (k : Nat) : Env := { P := Try.prog, tt := tt, orc := fun g => cond (Nat.beq g 36) (o_L_eqStep k) (noOrc) }
theorem E_L_eqStepS_ok (k : Nat) : EnvOk (E_L_eqStepS k) := fun g => (orc_cond (o_L_eqStep_ok k) (noOrc_ok _ _))
noncomputable def c_L_eqStepS : Code := (Try.f27.body).getD .skip
noncomputable def b_L_eqStepS_0 : Code := ((loopsIn 0 c_L_eqStepS).getD 0 (0, .skip)).2
def L_eqStepS_g0_keep : List Nat := [0, 1, 5]
def L_eqStepS_g0_co : List (Where × Co) := []
def L_eqStepS_g0_kx : Ex → List Nat
  | .exit j => cond (Nat.beq j 0) [] []
  | .ret => [4]
  | .normal => []
def L_eqStepS_g0_cx : Ex → List (Where × Co)
  | .exit j => cond (Nat.beq j 0) [] []
  | .ret => []
  | .normal => []
def L_eqStepS_g0_tm (pv : (List Step × List Step) × (Int)) : St := { slots := [(0, .r [] (.sl (.st .step) pv.1.1)), (1, .r [] (.sl (.st .step) pv.1.2)), (5, .r [] (.int .i64 pv.2))], heap := [], nid := 0, n := 27, gh := [] }
def L_eqStepS_g0_dec (nf : NF) : Option ((List Step × List Step) × (Int)) := match nf with
  | ([.r [] (.sl (.st .step) w0), .r [] (.sl (.st .step) w1), .r [] (.int .i64 w2)], [], []) => some ((w0, w1), w2)
  | _ => none
theorem L_eqStepS_g0_hd (nf : NF) (v : (List Step × List Step) × (Int)) (h : L_eqStepS_g0_dec nf = some v) : denorm L_eqStepS_g0_keep 27 nf = L_eqStepS_g0_tm v := by
  unfold L_eqStepS_g0_dec at h
  split at h
  · cases h; rfl
  · cases h
def L_eqStepS_g0_x0 (p : List Step × List Step) (x : Unit) : St := { slots := [], heap := [], nid := 0, n := 27, gh := [] }
def L_eqStepS_g0_xret (p : List Step × List Step) (x : Bool) : St := { slots := [(4, .r [] (.bool x))], heap := [], nid := 0, n := 27, gh := [] }
def LP_L_eqStepS (ρ : Type) (k : Nat) : Nat → Ev ρ → Ev ρ := fun id f => cond (Nat.beq id 0) (loopOrc L_eqStepS_g0_keep L_eqStepS_g0_co (fun n nf => cond (Nat.beq n 27) (L_eqStepS_g0_dec nf) none) fun pv K => iter (fun v next => L_eqStepS_g0 k pv.1 v next (fun x => K (.exit 0) (L_eqStepS_g0_x0 pv.1 x)) (fun x => K .ret (L_eqStepS_g0_xret pv.1 x))) k pv.2) ((fun _ _ _ _ => none) id f)
theorem L_eqStepS_g0_round {ρ : Type} (k : Nat) (p : List Step × List Step) (v : Int) (K K1 : Ex → St → Option ρ) : ev (E_L_eqStepS k) (LP_L_eqStepS ρ k) 0 b_L_eqStepS_0 (L_eqStepS_g0_tm (p, v)) (fun e st' => match e with
    | .normal => (normC L_eqStepS_g0_keep L_eqStepS_g0_co st').bind fun nf => K1 .normal (denorm L_eqStepS_g0_keep st'.n nf)
    | e => (normC (L_eqStepS_g0_kx e) (L_eqStepS_g0_cx e) st').bind fun nf => K e (denorm (L_eqStepS_g0_kx e) st'.n nf)) = L_eqStepS_g0 k p v (fun v' => K1 .normal (L_eqStepS_g0_tm (p, v'))) (fun x => K (.exit 0) (L_eqStepS_g0_x0 p x)) (fun x => K .ret (L_eqStepS_g0_xret p x)) := by kernel_rfl
theorem L_eqStepS_g0_ok {ρ : Type} (k : Nat) : Sound Try.prog (.loop b_L_eqStepS_0) (LP_L_eqStepS ρ k 0 fun st K => ev (E_L_eqStepS k) (LP_L_eqStepS ρ k) 0 b_L_eqStepS_0 st K) :=
  loop_ok (ev_sound (E_L_eqStepS_ok k) b_L_eqStepS_0 0 (lpgood_none (by kernel_rfl))) L_eqStepS_g0_kx L_eqStepS_g0_cx k (g := fun p v next K => L_eqStepS_g0 k p v next (fun x => K (.exit 0) (L_eqStepS_g0_x0 p x)) (fun x => K .ret (L_eqStepS_g0_xret p x))) (dec_at L_eqStepS_g0_hd) (fun p v K K1 => L_eqStepS_g0_round k p v K K1)
def L_eqStepS_args (a : List Step × List Step) : List Arg := [.one (.sl (.st .step) a.1), .one (.sl (.st .step) a.2)]
def L_eqStepS_argD (l : List Arg) : Option (List Step × List Step) := match l with
  | [.one (.sl (.st .step) b0), .one (.sl (.st .step) b1)] => some (b0, b1)
  | _ => none
def L_eqStepS_enc (r : Bool) : Out := (.r [] (.bool r), [])
def L_eqStepS_dec (o : Out) : Option (Bool) := match o with
  | (.r [] (.bool z1), []) => some z1
  | _ => none
def L_eqStepS_G (k : Nat) : PG := fun _ l K => (L_eqStepS_argD l).bind fun a => (L_eqStepS k a.1 a.2).bind fun r => K (L_eqStepS_enc r)
theorem L_eqStepS_ev (k : Nat) (a : List Step × List Step) : ev (E_L_eqStepS k) (LP_L_eqStepS (Bool) k) 0 c_L_eqStepS (st0 Try.f27 (L_eqStepS_args a)) (fin Try.prog Try.f27 (.sc) L_eqStepS_dec) = L_eqStepS k a.1 a.2 := by kernel_rfl
theorem L_eqStepS_ok (k : Nat) : PureOk Try.prog 27 (L_eqStepS_G k) :=
  pureOk_of_ev (E_L_eqStepS_ok k) Try.func27 (by kernel_rfl) (by kernel_rfl) L_eqStepS_args L_eqStepS_argD
    (fun l a h => by unfold L_eqStepS_argD at h; split at h <;> first | (cases h; rfl) | cases h) (fun a => rfl) (lpgood_of (l := [(0, b_L_eqStepS_0)]) (by kernel_rfl) ⟨L_eqStepS_g0_ok k, trivial⟩)
    (fun o r h => by unfold L_eqStepS_dec at h; split at h <;> first | (cases h; rfl) | cases h) (L_eqStepS_ev k)
def o_L_eqStepS (k : Nat) : Orc := pureOrc [.one (.sl (.st .step)), .one (.sl (.st .step))] (L_eqStepS_G k)
theorem o_L_eqStepS_ok (k : Nat) : OrcOk Try.prog 27 (o_L_eqStepS k) := pureOrc_ok (L_eqStepS_ok k)
/-! ### 38 loop.example/g00778/laws.markByteS -/
noncomputable def E_L_markByteS_m3 (k : Nat) : Env := { P := Try.prog, tt := tt, orc := fun g => noOrc }
theorem E_L_markByteS_m3_ok (k : Nat) : EnvOk (E_L_markByteS_m3 k) := fun g => (noOrc_ok _ _)
noncomputable def c_L_markByteS_m3 : Code := (Try.f38.body).getD .skip
noncomputable def b_L_markByteS_m3_0 : Code := ((loopsIn 0 c_L_markByteS_m3).getD 0 (0, .skip)).2
def L_markByteS_m3_g0_keep : List Nat := [0, 1, 5]
def L_markByteS_m3_g0_co : List (Where × Co) := []
def L_markByteS_m3_g0_kx : Ex → List Nat
  | .exit j => cond (Nat.beq j 0) [1] []
  | .ret => []
  | .normal => []
def L_markByteS_m3_g0_cx : Ex → List (Where × Co)
  | .exit j => cond (Nat.beq j 0) [] []
  | .ret => []
  | .normal => []
def L_markByteS_m3_g0_tm (pv : (Unit) × (Int × Int × List Int)) : St := { slots := [(0, .own 0), (1, .r [] (.int .i64 pv.2.1)), (5, .r [] (.int .i64 pv.2.2.1))], heap := [(0, .arr none (.int .u8) pv.2.2.2)], nid := 1, n := 20, gh := [some 0] }
def L_markByteS_m3_g0_dec (nf : NF) : Option ((Unit) × (Int × Int × List Int)) := match nf with
  | ([.own 0, .r [] (.int .i64 w0), .r [] (.int .i64 w1)], [.arr none (.int .u8) w2], [some 0]) => some ((), (w0, w1, w2))
  | _ => none
theorem L_markByteS_m3_g0_hd (nf : NF) (v : (Unit) × (Int × Int × List Int)) (h : L_markByteS_m3_g0_dec nf = some v) : denorm L_markByteS_m3_g0_keep 20 nf = L_markByteS_m3_g0_tm v := by
  unfold L_markByteS_m3_g0_dec at h
  split at h
  · cases h; rfl
  · cases h
def L_markByteS_m3_g0_x0 (p : Unit) (x : Int × List Int) : St := { slots := [(1, .r [] (.int .i64 x.1))], heap := [(0, .arr none (.int .u8) x.2)], nid := 1, n := 20, gh := [some 0] }
def LP_L_markByteS_m3 (ρ : Type) (k : Nat) : Nat → Ev ρ → Ev ρ := fun id f => cond (Nat.beq id 0) (loopOrc L_markByteS_m3_g0_keep L_markByteS_m3_g0_co (fun n nf => cond (Nat.beq n 20) (L_markByteS_m3_g0_dec nf) none) fun pv K => iter (fun v next => L_markByteS_m3_g0 k pv.1 v next (fun x => K (.exit 0) (L_markByteS_m3_g0_x0 pv.1 x))) k pv.2) ((fun _ _ _ _ => none) id f)
theorem L_markByteS_m3_g0_round {ρ : Type} (k : Nat) (p : Unit) (v : Int × Int × List Int) (K K1 : Ex → St → Option ρ) : ev (E_L_markByteS_m3 k) (LP_L_markByteS_m3 ρ k) 0 b_L_markByteS_m3_0 (L_markByteS_m3_g0_tm (p, v)) (fun e st' => match e with
    | .normal => (normC L_markByteS_m3_g0_keep L_markByteS_m3_g0_co st').bind fun nf => K1 .normal (denorm L_markByteS_m3_g0_keep st'.n nf)
    | e => (normC (L_markByteS_m3_g0_kx e) (L_markByteS_m3_g0_cx e) st').bind fun nf => K e (denorm (L_markByteS_m3_g0_kx e) st'.n nf)) = L_markByteS_m3_g0 k p v (fun v' => K1 .normal (L_markByteS_m3_g0_tm (p, v'))) (fun x => K (.exit 0) (L_markByteS_m3_g0_x0 p x)) := by kernel_rfl
theorem L_markByteS_m3_g0_ok {ρ : Type} (k : Nat) : Sound Try.prog (.loop b_L_markByteS_m3_0) (LP_L_markByteS_m3 ρ k 0 fun st K => ev (E_L_markByteS_m3 k) (LP_L_markByteS_m3 ρ k) 0 b_L_markByteS_m3_0 st K) :=
  loop_ok (ev_sound (E_L_markByteS_m3_ok k) b_L_markByteS_m3_0 0 (lpgood_none (by kernel_rfl))) L_markByteS_m3_g0_kx L_markByteS_m3_g0_cx k (g := fun p v next K => L_markByteS_m3_g0 k p v next (fun x => K (.exit 0) (L_markByteS_m3_g0_x0 p x))) (dec_at L_markByteS_m3_g0_hd) (fun p v K K1 => L_markByteS_m3_g0_round k p v K K1)
def L_markByteS_m3_args (a : List Int × Int) : List SV := [.own 0, .r [] (.int .i64 a.2)]
def L_markByteS_m3_blks (a : List Int × Int) : List Blk := [.arr none (.int .u8) a.1]
def L_markByteS_m3_argD (l : List SV) (b : List Blk) : Option (List Int × Int) := match l, b with
  | [.own 0, .r [] (.int .i64 w0)], [.arr none (.int .u8) w1] => some (w1, w0)
  | _, _ => none
def L_markByteS_m3_enc (a : List Int × Int) (r : Int × List Int) : MOut := ⟨.r [] (.int .i64 r.1), [some (.arr none (.int .u8) r.2)], []⟩
def L_markByteS_m3_dec (a : List Int × Int) (o : MOut) : Option (Int × List Int) := match o with
  | ⟨.r [] (.int .i64 z1), [some (.arr none (.int .u8) z2)], []⟩ => some (z1, z2)
  | _ => none
def L_markByteS_m3_G (k : Nat) : MG := fun _ l b K => (L_markByteS_m3_argD l b).bind fun a => (L_markByteS_m3 k a.1 a.2).bind fun r => K (L_markByteS_m3_enc a r)
theorem L_markByteS_m3_ev (k : Nat) (a : List Int × Int) : ev (E_L_markByteS_m3 k) (LP_L_markByteS_m3 (Int × List Int) k) 0 c_L_markByteS_m3 (st0M Try.f38 (L_markByteS_m3_args a) (L_markByteS_m3_blks a)) (finM Try.prog Try.f38 (.sc) [.arr] (L_markByteS_m3_dec a)) = L_markByteS_m3 k a.1 a.2 := by kernel_rfl
theorem L_markByteS_m3_ok (k : Nat) : MutOk Try.prog 38 (L_markByteS_m3_G k) :=
  mutOk_of_ev (E_L_markByteS_m3_ok k) Try.func38 (by kernel_rfl) (by kernel_rfl) L_markByteS_m3_args L_markByteS_m3_blks L_markByteS_m3_argD
    (fun l b a h => by unfold L_markByteS_m3_argD at h; split at h <;> first | (cases h; exact ⟨rfl, rfl⟩) | cases h) (fun a => rfl) (lpgood_of (l := [(0, b_L_markByteS_m3_0)]) (by kernel_rfl) ⟨L_markByteS_m3_g0_ok k, trivial⟩) (fun a r => rfl)
    (fun a o r h => by unfold L_markByteS_m3_dec at h; split at h <;> first | (skip; cases h; rfl) | cases h) (L_markByteS_m3_ev k)
def o_L_markByteS_m3 (k : Nat) : Orc := mutOrc [.keep, .keep] (L_markByteS_m3_G k)
theorem o_L_markByteS_m3_ok (k : Nat) : OrcOk Try.prog 38 (o_L_markByteS_m3 k) := mutOrc_ok (L_markByteS_m3_ok k)
/-! ### 29 loop.example/g00778/laws.markIntS -/
noncomputable def E_L_markIntS_m3 (k : Nat) : Env := { P := Try.prog, tt := tt, orc := fun g => noOrc }
theorem E_L_markIntS_m3_ok (k : Nat) : EnvOk (E_L_markIntS_m3 k) := fun g => (noOrc_ok _ _)
noncomputable def c_L_markIntS_m3 : Code := (Try.f29.body).getD .skip
noncomputable def b_L_markIntS_m3_0 : Code := ((loopsIn 0 c_L_markIntS_m3).getD 0 (0, .skip)).2
def L_markIntS_m3_g0_keep : List Nat := [0, 1, 5]
def L_markIntS_m3_g0_co : List (Where × Co) := []
def L_markIntS_m3_g0_kx : Ex → List Nat
  | .exit j => cond (Nat.beq j 0) [1] []
  | .ret => []
  | .normal => []
def L_markIntS_m3_g0_cx : Ex → List (Where × Co)
  | .exit j => cond (Nat.beq j 0) [] []
  | .ret => []
  | .normal => []
def L_markIntS_m3_g0_tm (pv : (Unit) × (Int × Int × List Int)) : St := { slots := [(0, .own 0), (1, .r [] (.int .i64 pv.2.1)), (5, .r [] (.int .i64 pv.2.2.1))], heap := [(0, .arr none (.int .i64) pv.2.2.2)], nid := 1, n := 19, gh := [some 0] }
def L_markIntS_m3_g0_dec (nf : NF) : Option ((Unit) × (Int × Int × List Int)) := match nf with
  | ([.own 0, .r [] (.int .i64 w0), .r [] (.int .i64 w1)], [.arr none (.int .i64) w2], [some 0]) => some ((), (w0, w1, w2))
  | _ => none
theorem L_markIntS_m3_g0_hd (nf : NF) (v : (Unit) × (Int × Int × List Int)) (h : L_markIntS_m3_g0_dec nf = some v) : denorm L_markIntS_m3_g0_keep 19 nf = L_markIntS_m3_g0_tm v := by
  unfold L_markIntS_m3_g0_dec at h
  split at h
  · cases h; rfl
  · cases h
def L_markIntS_m3_g0_x0 (p : Unit) (x : Int × List Int) : St := { slots := [(1, .r [] (.int .i64 x.1))], heap := [(0, .arr none (.int .i64) x.2)], nid := 1, n := 19, gh := [some 0] }
def LP_L_markIntS_m3 (ρ : Type) (k : Nat) : Nat → Ev ρ → Ev ρ := fun id f => cond (Nat.beq id 0) (loopOrc L_markIntS_m3_g0_keep L_markIntS_m3_g0_co (fun n nf => cond (Nat.beq n 19) (L_markIntS_m3_g0_dec nf) none) fun pv K => iter (fun v next => L_markIntS_m3_g0 k pv.1 v next (fun x => K (.exit 0) (L_markIntS_m3_g0_x0 pv.1 x))) k pv.2) ((fun _ _ _ _ => none) id f)
theorem L_markIntS_m3_g0_round {ρ : Type} (k : Nat) (p : Unit) (v : Int × Int × List Int) (K K1 : Ex → St → Option ρ) : ev (E_L_markIntS_m3 k) (LP_L_markIntS_m3 ρ k) 0 b_L_markIntS_m3_0 (L_markIntS_m3_g0_tm (p, v)) (fun e st' => match e with
    | .normal => (normC L_markIntS_m3_g0_keep L_markIntS_m3_g0_co st').bind fun nf => K1 .normal (denorm L_markIntS_m3_g0_keep st'.n nf)
    | e => (normC (L_markIntS_m3_g0_kx e) (L_markIntS_m3_g0_cx e) st').bind fun nf => K e (denorm (L_markIntS_m3_g0_kx e) st'.n nf)) = L_markIntS_m3_g0 k p v (fun v' => K1 .normal (L_markIntS_m3_g0_tm (p, v'))) (fun x => K (.exit 0) (L_markIntS_m3_g0_x0 p x)) := by kernel_rfl
theorem L_markIntS_m3_g0_ok {ρ : Type} (k : Nat) : Sound Try.prog (.loop b_L_markIntS_m3_0) (LP_L_markIntS_m3 ρ k 0 fun st K => ev (E_L_markIntS_m3 k) (LP_L_markIntS_m3 ρ k) 0 b_L_markIntS_m3_0 st K) :=
  loop_ok (ev_sound (E_L_markIntS_m3_ok k) b_L_markIntS_m3_0 0 (lpgood_none (by kernel_rfl))) L_markIntS_m3_g0_kx L_markIntS_m3_g0_cx k (g := fun p v next K => L_markIntS_m3_g0 k p v next (fun x => K (.exit 0) (L_markIntS_m3_g0_x0 p x))) (dec_at L_markIntS_m3_g0_hd) (fun p v K K1 => L_markIntS_m3_g0_round k p v K K1)
def L_markIntS_m3_args (a : List Int × Int) : List SV := [.own 0, .r [] (.int .i64 a.2)]
def L_markIntS_m3_blks (a : List Int × Int) : List Blk := [.arr none (.int .i64) a.1]
def L_markIntS_m3_argD (l : List SV) (b : List Blk) : Option (List Int × Int) := match l, b with
  | [.own 0, .r [] (.int .i64 w0)], [.arr none (.int .i64) w1] => some (w1, w0)
  | _, _ => none
def L_markIntS_m3_enc (a : List Int × Int) (r : Int × List Int) : MOut := ⟨.r [] (.int .i64 r.1), [some (.arr none (.int .i64) r.2)], []⟩
def L_markIntS_m3_dec (a : List Int × Int) (o : MOut) : Option (Int × List Int) := match o with
  | ⟨.r [] (.int .i64 z1), [some (.arr none (.int .i64) z2)], []⟩ => some (z1, z2)
  | _ => none
def L_markIntS_m3_G (k : Nat) : MG := fun _ l b K => (L_markIntS_m3_argD l b).bind fun a => (L_markIntS_m3 k a.1 a.2).bind fun r => K (L_markIntS_m3_enc a r)
theorem L_markIntS_m3_ev (k : Nat) (a : List Int × Int) : ev (E_L_markIntS_m3 k) (LP_L_markIntS_m3 (Int × List Int) k) 0 c_L_markIntS_m3 (st0M Try.f29 (L_markIntS_m3_args a) (L_markIntS_m3_blks a)) (finM Try.prog Try.f29 (.sc) [.arr] (L_markIntS_m3_dec a)) = L_markIntS_m3 k a.1 a.2 := by kernel_rfl
theorem L_markIntS_m3_ok (k : Nat) : MutOk Try.prog 29 (L_markIntS_m3_G k) :=
  mutOk_of_ev (E_L_markIntS_m3_ok k) Try.func29 (by kernel_rfl) (by kernel_rfl) L_markIntS_m3_args L_markIntS_m3_blks L_markIntS_m3_argD
    (fun l b a h => by unfold L_markIntS_m3_argD at h; split at h <;> first | (cases h; exact ⟨rfl, rfl⟩) | cases h) (fun a => rfl) (lpgood_of (l := [(0, b_L_markIntS_m3_0)]) (by kernel_rfl) ⟨L_markIntS_m3_g0_ok k, trivial⟩) (fun a r => rfl)
    (fun a o r h => by unfold L_markIntS_m3_dec at h; split at h <;> first | (skip; cases h; rfl) | cases h) (L_markIntS_m3_ev k)
def o_L_markIntS_m3 (k : Nat) : Orc := mutOrc [.keep, .keep] (L_markIntS_m3_G k)
theorem o_L_markIntS_m3_ok (k : Nat) : OrcOk Try.prog 29 (o_L_markIntS_m3 k) := mutOrc_ok (L_markIntS_m3_ok k)
/-! ### 28 loop.example/g00778/laws.markStepS -/
noncomputable def E_L_markStepS_m2 (k : Nat) : Env := { P := Try.prog, tt := tt, orc := fun g => cond (Nat.beq g 29) (innOrc (o_L_markIntS_m3 k)) (cond (Nat.beq g 38) (innOrc (o_L_markByteS_m3 k)) (noOrc)), wr := fun g => mem g [29, 38], wt := true, inn := true }
theorem E_L_markStepS_m2_ok (k : Nat) : EnvOk (E_L_markStepS_m2 k) := fun g => (orc_cond (innOrc_ok (o_L_markIntS_m3_ok k)) (orc_cond (innOrc_ok (o_L_markByteS_m3_ok k)) (noOrc_ok _ _)))
noncomputable def c_L_markStepS_m2 : Code := (Try.f28.body).getD .skip
noncomputable def b_L_markStepS_m2_0 : Code := ((loopsIn 0 c_L_markStepS_m2).getD 0 (0, .skip)).2
def L_markStepS_m2_g0_keep : List Nat := [0, 1, 5]
def L_markStepS_m2_g0_co : List (Where × Co) := []
def L_markStepS_m2_g0_kx : Ex → List Nat
  | .exit j => cond (Nat.beq j 0) [1] []
  | .ret => []
  | .normal => []
def L_markStepS_m2_g0_cx : Ex → List (Where × Co)
  | .exit j => cond (Nat.beq j 0) [] []
  | .ret => []
  | .normal => []
def L_markStepS_m2_g0_tm (pv : (Unit) × (Int × Int × List Step)) : St := { slots := [(0, .own 0), (1, .r [] (.int .i64 pv.2.1)), (5, .r [] (.int .i64 pv.2.2.1))], heap := [(0, .arr none (.st .step) pv.2.2.2)], nid := 1, n := 76, gh := [some 0] }
def L_markStepS_m2_g0_dec (nf : NF) : Option ((Unit) × (Int × Int × List Step)) := match nf with
  | ([.own 0, .r [] (.int .i64 w0), .r [] (.int .i64 w1)], [.arr none (.st .step) w2], [some 0]) => some ((), (w0, w1, w2))
  | _ => none
theorem L_markStepS_m2_g0_hd (nf : NF) (v : (Unit) × (Int × Int × List Step)) (h : L_markStepS_m2_g0_dec nf = some v) : denorm L_markStepS_m2_g0_keep 76 nf = L_markStepS_m2_g0_tm v := by
  unfold L_markStepS_m2_g0_dec at h
  split at h
  · cases h; rfl
  · cases h
def L_markStepS_m2_g0_x0 (p : Unit) (x : Int × List Step) : St := { slots := [(1, .r [] (.int .i64 x.1))], heap := [(0, .arr none (.st .step) x.2)], nid := 1, n := 76, gh := [some 0] }
def LP_L_markStepS_m2 (ρ : Type) (k : Nat) : Nat → Ev ρ → Ev ρ := fun id f => cond (Nat.beq id 0) (loopOrc L_markStepS_m2_g0_keep L_markStepS_m2_g0_co (fun n nf => cond (Nat.beq n 76) (L_markStepS_m2_g0_dec nf) none) fun pv K => iter (fun v next => L_markStepS_m2_g0 k pv.1 v next (fun x => K (.exit 0) (L_markStepS_m2_g0_x0 pv.1 x))) k pv.2) ((fun _ _ _ _ => none) id f)
theorem L_markStepS_m2_g0_round {ρ : Type} (k : Nat) (p : Unit) (v : Int × Int × List Step) (K K1 : Ex → St → Option ρ) : ev (E_L_markStepS_m2 k) (LP_L_markStepS_m2 ρ k) 0 b_L_markStepS_m2_0 (L_markStepS_m2_g0_tm (p, v)) (fun e st' => match e with
    | .normal => (normC L_markStepS_m2_g0_keep L_markStepS_m2_g0_co st').bind fun nf => K1 .normal (denorm L_markStepS_m2_g0_keep st'.n nf)
    | e => (normC (L_markStepS_m2_g0_kx e) (L_markStepS_m2_g0_cx e) st').bind fun nf => K e (denorm (L_markStepS_m2_g0_kx e) st'.n nf)) = L_markStepS_m2_g0 k p v (fun v' => K1 .normal (L_markStepS_m2_g0_tm (p, v'))) (fun x => K (.exit 0) (L_markStepS_m2_g0_x0 p x)) := by kernel_rfl
theorem L_markStepS_m2_g0_ok {ρ : Type} (k : Nat) : Sound Try.prog (.loop b_L_markStepS_m2_0) (LP_L_markStepS_m2 ρ k 0 fun st K => ev (E_L_markStepS_m2 k) (LP_L_markStepS_m2 ρ k) 0 b_L_markStepS_m2_0 st K) :=
  loop_ok (ev_sound (E_L_markStepS_m2_ok k) b_L_markStepS_m2_0 0 (lpgood_none (by kernel_rfl))) L_markStepS_m2_g0_kx L_markStepS_m2_g0_cx k (g := fun p v next K => L_markStepS_m2_g0 k p v next (fun x => K (.exit 0) (L_markStepS_m2_g0_x0 p x))) (dec_at L_markStepS_m2_g0_hd) (fun p v K K1 => L_markStepS_m2_g0_round k p v K K1)
def L_markStepS_m2_args (a : List Step × Int) : List SV := [.own 0, .r [] (.int .i64 a.2)]
def L_markStepS_m2_blks (a : List Step × Int) : List Blk := [.arr none (.st .step) a.1]
def L_markStepS_m2_argD (l : List SV) (b : List Blk) : Option (List Step × Int) := match l, b with
  | [.own 0, .r [] (.int .i64 w0)], [.arr none (.st .step) w1] => some (w1, w0)
  | _, _ => none
def L_markStepS_m2_enc (a : List Step × Int) (r : Int × List Step) : MOut := ⟨.r [] (.int .i64 r.1), [some (.arr none (.st .step) r.2)], []⟩
def L_markStepS_m2_dec (a : List Step × Int) (o : MOut) : Option (Int × List Step) := match o with
  | ⟨.r [] (.int .i64 z1), [some (.arr none (.st .step) z2)], []⟩ => some (z1, z2)
  | _ => none
def L_markStepS_m2_G (k : Nat) : MG := fun _ l b K => (L_markStepS_m2_argD l b).bind fun a => (L_markStepS_m2 k a.1 a.2).bind fun r => K (L_markStepS_m2_enc a r)
theorem L_markStepS_m2_ev (k : Nat) (a : List Step × Int) : ev (E_L_markStepS_m2 k) (LP_L_markStepS_m2 (Int × List Step) k) 0 c_L_markStepS_m2 (st0M Try.f28 (L_markStepS_m2_args a) (L_markStepS_m2_blks a)) (finM Try.prog Try.f28 (.sc) [.arr] (L_markStepS_m2_dec a)) = L_markStepS_m2 k a.1 a.2 := by kernel_rfl
theorem L_markStepS_m2_ok (k : Nat) : MutOk Try.prog 28 (L_markStepS_m2_G k) :=
  mutOk_of_ev (E_L_markStepS_m2_ok k) Try.func28 (by kernel_rfl) (by kernel_rfl) L_markStepS_m2_args L_markStepS_m2_blks L_markStepS_m2_argD
    (fun l b a h => by unfold L_markStepS_m2_argD at h; split at h <;> first | (cases h; exact ⟨rfl, rfl⟩) | cases h) (fun a => rfl) (lpgood_of (l := [(0, b_L_markStepS_m2_0)]) (by kernel_rfl) ⟨L_markStepS_m2_g0_ok k, trivial⟩) (fun a r => rfl)
    (fun a o r h => by unfold L_markStepS_m2_dec at h; split at h <;> first | (skip; cases h; rfl) | cases h) (L_markStepS_m2_ev k)
def o_L_markStepS_m2 (k : Nat) : Orc := mutOrc [.keep, .keep] (L_markStepS_m2_G k)
theorem o_L_markStepS_m2_ok (k : Nat) : OrcOk Try.prog 28 (o_L_markStepS_m2 k) := mutOrc_ok (L_markStepS_m2_ok k)
/-! ### 39 loop.example/g00778/laws.heldByteS -/
noncomputable def E_L_heldByteS (k : Nat) : Env := { P := Try.prog, tt := tt, orc := fun g => noOrc }
theorem E_L_heldByteS_ok (k : Nat) : EnvOk (E_L_heldByteS k) := fun g => (noOrc_ok _ _)
noncomputable def c_L_heldByteS : Code := (Try.f39.body).getD .skip
noncomputable def b_L_heldByteS_0 : Code := ((loopsIn 0 c_L_heldByteS).getD 0 (0, .skip)).2
def L_heldByteS_g0_keep : List Nat := [0, 1, 5]
def L_heldByteS_g0_co : List (Where × Co) := []
def L_heldByteS_g0_kx : Ex → List Nat
  | .exit j => cond (Nat.beq j 0) [1] []
  | .ret => [4]
  | .normal => []
def L_heldByteS_g0_cx : Ex → List (Where × Co)
  | .exit j => cond (Nat.beq j 0) [] []
  | .ret => []
  | .normal => []
def L_heldByteS_g0_tm (pv : (List Int) × (Int × Int)) : St := { slots := [(0, .r [] (.sl (.int .u8) pv.1)), (1, .r [] (.int .i64 pv.2.1)), (5, .r [] (.int .i64 pv.2.2))], heap := [], nid := 0, n := 22, gh := [] }
def L_heldByteS_g0_dec (nf : NF) : Option ((List Int) × (Int × Int)) := match nf with
  | ([.r [] (.sl (.int .u8) w0), .r [] (.int .i64 w1), .r [] (.int .i64 w2)], [], []) => some (w0, (w1, w2))
  | _ => none
theorem L_heldByteS_g0_hd (nf : NF) (v : (List Int) × (Int × Int)) (h : L_heldByteS_g0_dec nf = some v) : denorm L_heldByteS_g0_keep 22 nf = L_heldByteS_g0_tm v := by
  unfold L_heldByteS_g0_dec at h
  split at h
  · cases h; rfl
  · cases h
def L_heldByteS_g0_x0 (p : List Int) (x : Int) : St := { slots := [(1, .r [] (.int .i64 x))], heap := [], nid := 0, n := 22, gh := [] }
def L_heldByteS_g0_xret (p : List Int) (x : Int) : St := { slots := [(4, .r [] (.int .i64 x))], heap := [], nid := 0, n := 22, gh := [] }
def LP_L_heldByteS (ρ : Type) (k : Nat) : Nat → Ev ρ → Ev ρ := fun id f => cond (Nat.beq id 0) (loopOrc L_heldByteS_g0_keep L_heldByteS_g0_co (fun n nf => cond (Nat.beq n 22) (L_heldByteS_g0_dec nf) none) fun pv K => iter (fun v next => L_heldByteS_g0 k pv.1 v next (fun x => K (.exit 0) (L_heldByteS_g0_x0 pv.1 x)) (fun x => K .ret (L_heldByteS_g0_xret pv.1 x))) k pv.2) ((fun _ _ _ _ => none) id f)
theorem L_heldByteS_g0_round {ρ : Type} (k : Nat) (p : List Int) (v : Int × Int) (K K1 : Ex → St → Option ρ) : ev (E_L_heldByteS k) (LP_L_heldByteS ρ k) 0 b_L_heldByteS_0 (L_heldByteS_g0_tm (p, v)) (fun e st' => match e with
    | .normal => (normC L_heldByteS_g0_keep L_heldByteS_g0_co st').bind fun nf => K1 .normal (denorm L_heldByteS_g0_keep st'.n nf)
    | e => (normC (L_heldByteS_g0_kx e) (L_heldByteS_g0_cx e) st').bind fun nf => K e (denorm (L_heldByteS_g0_kx e) st'.n nf)) = L_heldByteS_g0 k p v (fun v' => K1 .normal (L_heldByteS_g0_tm (p, v'))) (fun x => K (.exit 0) (L_heldByteS_g0_x0 p x)) (fun x => K .ret (L_heldByteS_g0_xret p x)) := by kernel_rfl
theorem L_heldByteS_g0_ok {ρ : Type} (k : Nat) : Sound Try.prog (.loop b_L_heldByteS_0) (LP_L_heldByteS ρ k 0 fun st K => ev (E_L_heldByteS k) (LP_L_heldByteS ρ k) 0 b_L_heldByteS_0 st K) :=
  loop_ok (ev_sound (E_L_heldByteS_ok k) b_L_heldByteS_0 0 (lpgood_none (by kernel_rfl))) L_heldByteS_g0_kx L_heldByteS_g0_cx k (g := fun p v next K => L_heldByteS_g0 k p v next (fun x => K (.exit 0) (L_heldByteS_g0_x0 p x)) (fun x => K .ret (L_heldByteS_g0_xret p x))) (dec_at L_heldByteS_g0_hd) (fun p v K K1 => L_heldByteS_g0_round k p v K K1)
def L_heldByteS_args (a : List Int × Int) : List Arg := [.one (.sl (.int .u8) a.1), .one (.int .i64 a.2)]
def L_heldByteS_argD (l : List Arg) : Option (List Int × Int) := match l with
  | [.one (.sl (.int .u8) b0), .one (.int .i64 b1)] => some (b0, b1)
  | _ => none
def L_heldByteS_enc (r : Int) : Out := (.r [] (.int .i64 r), [])
def L_heldByteS_dec (o : Out) : Option (Int) := match o with
  | (.r [] (.int .i64 z1), []) => some z1
  | _ => none
def L_heldByteS_G (k : Nat) : PG := fun _ l K => (L_heldByteS_argD l).bind fun a => (L_heldByteS k a.1 a.2).bind fun r => K (L_heldByteS_enc r)
theorem L_heldByteS_ev (k : Nat) (a : List Int × Int) : ev (E_L_heldByteS k) (LP_L_heldByteS (Int) k) 0 c_L_heldByteS (st0 Try.f39 (L_heldByteS_args a)) (fin Try.prog Try.f39 (.sc) L_heldByteS_dec) = L_heldByteS k a.1 a.2 := by kernel_rfl
theorem L_heldByteS_ok (k : Nat) : PureOk Try.prog 39 (L_heldByteS_G k) :=
  pureOk_of_ev (E_L_heldByteS_ok k) Try.func39 (by kernel_rfl) (by kernel_rfl) L_heldByteS_args L_heldByteS_argD
    (fun l a h => by unfold L_heldByteS_argD at h; split at h <;> first | (cases h; rfl) | cases h) (fun a => rfl) (lpgood_of (l := [(0, b_L_heldByteS_0)]) (by kernel_rfl) ⟨L_heldByteS_g0_ok k, trivial⟩)
    (fun o r h => by unfold L_heldByteS_dec at h; split at h <;> first | (cases h; rfl) | cases h) (L_heldByteS_ev k)
def o_L_heldByteS (k : Nat) : Orc := pureOrc [.one (.sl (.int .u8)), .one (.int .i64)] (L_heldByteS_G k)
theorem o_L_heldByteS_ok (k : Nat) : OrcOk Try.prog 39 (o_L_heldByteS k) := pureOrc_ok (L_heldByteS_ok k)
/-! ### 30 loop.example/g00778/laws.heldIntS -/
noncomputable def E_L_heldIntS (k : Nat) : Env := { P := Try.prog, tt := tt, orc := fun g => noOrc }
theorem E_L_heldIntS_ok (k : Nat) : EnvOk (E_L_heldIntS k) := fun g => (noOrc_ok _ _)
noncomputable def c_L_heldIntS : Code := (Try.f30.body).getD .skip
noncomputable def b_L_heldIntS_0 : Code := ((loopsIn 0 c_L_heldIntS).getD 0 (0, .skip)).2
def L_heldIntS_g0_keep : List Nat := [0, 1, 5]
def L_heldIntS_g0_co : List (Where × Co) := []
def L_heldIntS_g0_kx : Ex → List Nat
  | .exit j => cond (Nat.beq j 0) [1] []
  | .ret => [4]
  | .normal => []
def L_heldIntS_g0_cx : Ex → List (Where × Co)
  | .exit j => cond (Nat.beq j 0) [] []
  | .ret => []
  | .normal => []
def L_heldIntS_g0_tm (pv : (List Int) × (Int × Int)) : St := { slots := [(0, .r [] (.sl (.int .i64) pv.1)), (1, .r [] (.int .i64 pv.2.1)), (5, .r [] (.int .i64 pv.2.2))], heap := [], nid := 0, n := 21, gh := [] }
def L_heldIntS_g0_dec (nf : NF) : Option ((List Int) × (Int × Int)) := match nf with
  | ([.r [] (.sl (.int .i64) w0), .r [] (.int .i64 w1), .r [] (.int .i64 w2)], [], []) => some (w0, (w1, w2))
  | _ => none
theorem L_heldIntS_g0_hd (nf : NF) (v : (List Int) × (Int × Int)) (h : L_heldIntS_g0_dec nf = some v) : denorm L_heldIntS_g0_keep 21 nf = L_heldIntS_g0_tm v := by
  unfold L_heldIntS_g0_dec at h
  split at h
  · cases h; rfl
  · cases h
def L_heldIntS_g0_x0 (p : List Int) (x : Int) : St := { slots := [(1, .r [] (.int .i64 x))], heap := [], nid := 0, n := 21, gh := [] }
def L_heldIntS_g0_xret (p : List Int) (x : Int) : St := { slots := [(4, .r [] (.int .i64 x))], heap := [], nid := 0, n := 21, gh := [] }
def LP_L_heldIntS (ρ : Type) (k : Nat) : Nat → Ev ρ → Ev ρ := fun id f => cond (Nat.beq id 0) (loopOrc L_heldIntS_g0_keep L_heldIntS_g0_co (fun n nf => cond (Nat.beq n 21) (L_heldIntS_g0_dec nf) none) fun pv K => iter (fun v next => L_heldIntS_g0 k pv.1 v next (fun x => K (.exit 0) (L_heldIntS_g0_x0 pv.1 x)) (fun x => K .ret (L_heldIntS_g0_xret pv.1 x))) k pv.2) ((fun _ _ _ _ => none) id f)
theorem L_heldIntS_g0_round {ρ : Type} (k : Nat) (p : List Int) (v : Int × Int) (K K1 : Ex → St → Option ρ) : ev (E_L_heldIntS k) (LP_L_heldIntS ρ k) 0 b_L_heldIntS_0 (L_heldIntS_g0_tm (p, v)) (fun e st' => match e with
    | .normal => (normC L_heldIntS_g0_keep L_heldIntS_g0_co st').bind fun nf => K1 .normal (denorm L_heldIntS_g0_keep st'.n nf)
    | e => (normC (L_heldIntS_g0_kx e) (L_heldIntS_g0_cx e) st').bind fun nf => K e (denorm (L_heldIntS_g0_kx e) st'.n nf)) = L_heldIntS_g0 k p v (fun v' => K1 .normal (L_heldIntS_g0_tm (p, v'))) (fun x => K (.exit 0) (L_heldIntS_g0_x0 p x)) (fun x => K .ret (L_heldIntS_g0_xret p x)) := by kernel_rfl
theorem L_heldIntS_g0_ok {ρ : Type} (k : Nat) : Sound Try.prog (.loop b_L_heldIntS_0) (LP_L_heldIntS ρ k 0 fun st K => ev (E_L_heldIntS k) (LP_L_heldIntS ρ k) 0 b_L_heldIntS_0 st K) :=
  loop_ok (ev_sound (E_L_heldIntS_ok k) b_L_heldIntS_0 0 (lpgood_none (by kernel_rfl))) L_heldIntS_g0_kx L_heldIntS_g0_cx k (g := fun p v next K => L_heldIntS_g0 k p v next (fun x => K (.exit 0) (L_heldIntS_g0_x0 p x)) (fun x => K .ret (L_heldIntS_g0_xret p x))) (dec_at L_heldIntS_g0_hd) (fun p v K K1 => L_heldIntS_g0_round k p v K K1)
def L_heldIntS_args (a : List Int × Int) : List Arg := [.one (.sl (.int .i64) a.1), .one (.int .i64 a.2)]
def L_heldIntS_argD (l : List Arg) : Option (List Int × Int) := match l with
  | [.one (.sl (.int .i64) b0), .one (.int .i64 b1)] => some (b0, b1)
  | _ => none
def L_heldIntS_enc (r : Int) : Out := (.r [] (.int .i64 r), [])
def L_heldIntS_dec (o : Out) : Option (Int) := match o with
  | (.r [] (.int .i64 z1), []) => some z1
  | _ => none
def L_heldIntS_G (k : Nat) : PG := fun _ l K => (L_heldIntS_argD l).bind fun a => (L_heldIntS k a.1 a.2).bind fun r => K (L_heldIntS_enc r)
theorem L_heldIntS_ev (k : Nat) (a : List Int × Int) : ev (E_L_heldIntS k) (LP_L_heldIntS (Int) k) 0 c_L_heldIntS (st0 Try.f30 (L_heldIntS_args a)) (fin Try.prog Try.f30 (.sc) L_heldIntS_dec) = L_heldIntS k a.1 a.2 := by kernel_rfl
theorem L_heldIntS_ok (k : Nat) : PureOk Try.prog 30 (L_heldIntS_G k) :=
  pureOk_of_ev (E_L_heldIntS_ok k) Try.func30 (by kernel_rfl) (by kernel_rfl) L_heldIntS_args L_heldIntS_argD
    (fun l a h => by unfold L_heldIntS_argD at h; split at h <;> first | (cases h; rfl) | cases h) (fun a => rfl) (lpgood_of (l := [(0, b_L_heldIntS_0)]) (by kernel_rfl) ⟨L_heldIntS_g0_ok k, trivial⟩)
    (fun o r h => by unfold L_heldIntS_dec at h; split at h <;> first | (cases h; rfl) | cases h) (L_heldIntS_ev k)
def o_L_heldIntS (k : Nat) : Orc := pureOrc [.one (.sl (.int .i64)), .one (.int .i64)] (L_heldIntS_G k)
theorem o_L_heldIntS_ok (k : Nat) : OrcOk Try.prog 30 (o_L_heldIntS k) := pureOrc_ok (L_heldIntS_ok k)
/-! ### 46 loop.example/g00778/laws.heldStepS -/
noncomputable def E_L_heldStepS (k : Nat) : Env := { P := Try.prog, tt := tt, orc := fun g => cond (Nat.beq g 30) (o_L_heldIntS k) (cond (Nat.beq g 39) (o_L_heldByteS k) (noOrc)) }
theorem E_L_heldStepS_ok (k : Nat) : EnvOk (E_L_heldStepS k) := fun g => (orc_cond (o_L_heldIntS_ok k) (orc_cond (o_L_heldByteS_ok k) (noOrc_ok _ _)))
noncomputable def c_L_heldStepS : Code := (Try.f46.body).getD .skip
noncomputable def b_L_heldStepS_0 : Code := ((loopsIn 0 c_L_heldStepS).getD 0 (0, .skip)).2
def L_heldStepS_g0_keep : List Nat := [0, 1, 5]
def L_heldStepS_g0_co : List (Where × Co) := []
def L_heldStepS_g0_kx : Ex → List Nat
  | .exit j => cond (Nat.beq j 0) [1] []
  | .ret => [4]
  | .normal => []
def L_heldStepS_g0_cx : Ex → List (Where × Co)
  | .exit j => cond (Nat.beq j 0) [] []
  | .ret => []
  | .normal => []
def L_heldStepS_g0_tm (pv : (List Step) × (Int × Int)) : St := { slots := [(0, .r [] (.sl (.st .step) pv.1)), (1, .r [] (.int .i64 pv.2.1)), (5, .r [] (.int .i64 pv.2.2))], heap := [], nid := 0, n := 92, gh := [] }
def L_heldStepS_g0_dec (nf : NF) : Option ((List Step) × (Int × Int)) := match nf with
  | ([.r [] (.sl (.st .step) w0), .r [] (.int .i64 w1), .r [] (.int .i64 w2)], [], []) => some (w0, (w1, w2))
  | _ => none
theorem L_heldStepS_g0_hd (nf : NF) (v : (List Step) × (Int × Int)) (h : L_heldStepS_g0_dec nf = some v) : denorm L_heldStepS_g0_keep 92 nf = L_heldStepS_g0_tm v := by
  unfold L_heldStepS_g0_dec at h
  split at h
  · cases h; rfl
  · cases h
def L_heldStepS_g0_x0 (p : List Step) (x : Int) : St := { slots := [(1, .r [] (.int .i64 x))], heap := [], nid := 0, n := 92, gh := [] }
def L_heldStepS_g0_xret (p : List Step) (x : Int) : St := { slots := [(4, .r [] (.int .i64 x))], heap := [], nid := 0, n := 92, gh := [] }
def LP_L_heldStepS (ρ : Type) (k : Nat) : Nat → Ev ρ → Ev ρ := fun id f => cond (Nat.beq id 0) (loopOrc L_heldStepS_g0_keep L_heldStepS_g0_co (fun n nf => cond (Nat.beq n 92) (L_heldStepS_g0_dec nf) none) fun pv K => iter (fun v next => L_heldStepS_g0 k pv.1 v next (fun x => K (.exit 0) (L_heldStepS_g0_x0 pv.1 x)) (fun x => K .ret (L_heldStepS_g0_xret pv.1 x))) k pv.2) ((fun _ _ _ _ => none) id f)
theorem L_heldStepS_g0_round {ρ : Type} (k : Nat) (p : List Step) (v : Int × Int) (K K1 : Ex → St → Option ρ) : ev (E_L_heldStepS k) (LP_L_heldStepS ρ k) 0 b_L_heldStepS_0 (L_heldStepS_g0_tm (p, v)) (fun e st' => match e with
    | .normal => (normC L_heldStepS_g0_keep L_heldStepS_g0_co st').bind fun nf => K1 .normal (denorm L_heldStepS_g0_keep st'.n nf)
    | e => (normC (L_heldStepS_g0_kx e) (L_heldStepS_g0_cx e) st').bind fun nf => K e (denorm (L_heldStepS_g0_kx e) st'.n nf)) = L_heldStepS_g0 k p v (fun v' => K1 .normal (L_heldStepS_g0_tm (p, v'))) (fun x => K (.exit 0) (L_heldStepS_g0_x0 p x)) (fun x => K .ret (L_heldStepS_g0_xret p x)) := by kernel_rfl
theorem L_heldStepS_g0_ok {ρ : Type} (k : Nat) : Sound Try.prog (.loop b_L_heldStepS_0) (LP_L_heldStepS ρ k 0 fun st K => ev (E_L_heldStepS k) (LP_L_heldStepS ρ k) 0 b_L_heldStepS_0 st K) :=
  loop_ok (ev_sound (E_L_heldStepS_ok k) b_L_heldStepS_0 0 (lpgood_none (by kernel_rfl))) L_heldStepS_g0_kx L_heldStepS_g0_cx k (g := fun p v next K => L_heldStepS_g0 k p v next (fun x => K (.exit 0) (L_heldStepS_g0_x0 p x)) (fun x => K .ret (L_heldStepS_g0_xret p x))) (dec_at L_heldStepS_g0_hd) (fun p v K K1 => L_heldStepS_g0_round k p v K K1)
def L_heldStepS_args (a : List Step × Int) : List Arg := [.one (.sl (.st .step) a.1), .one (.int .i64 a.2)]
def L_heldStepS_argD (l : List Arg) : Option (List Step × Int) := match l with
  | [.one (.sl (.st .step) b0), .one (.int .i64 b1)] => some (b0, b1)
  | _ => none
def L_heldStepS_enc (r : Int) : Out := (.r [] (.int .i64 r), [])
def L_heldStepS_dec (o : Out) : Option (Int) := match o with
  | (.r [] (.int .i64 z1), []) => some z1
  | _ => none
def L_heldStepS_G (k : Nat) : PG := fun _ l K => (L_heldStepS_argD l).bind fun a => (L_heldStepS k a.1 a.2).bind fun r => K (L_heldStepS_enc r)
theorem L_heldStepS_ev (k : Nat) (a : List Step × Int) : ev (E_L_heldStepS k) (LP_L_heldStepS (Int) k) 0 c_L_heldStepS (st0 Try.f46 (L_heldStepS_args a)) (fin Try.prog Try.f46 (.sc) L_heldStepS_dec) = L_heldStepS k a.1 a.2 := by kernel_rfl
theorem L_heldStepS_ok (k : Nat) : PureOk Try.prog 46 (L_heldStepS_G k) :=
  pureOk_of_ev (E_L_heldStepS_ok k) Try.func46 (by kernel_rfl) (by kernel_rfl) L_heldStepS_args L_heldStepS_argD
    (fun l a h => by unfold L_heldStepS_argD at h; split at h <;> first | (cases h; rfl) | cases h) (fun a => rfl) (lpgood_of (l := [(0, b_L_heldStepS_0)]) (by kernel_rfl) ⟨L_heldStepS_g0_ok k, trivial⟩)
    (fun o r h => by unfold L_heldStepS_dec at h; split at h <;> first | (cases h; rfl) | cases h) (L_heldStepS_ev k)
def o_L_heldStepS (k : Nat) : Orc := pureOrc [.one (.sl (.st .step)), .one (.int .i64)] (L_heldStepS_G k)
theorem o_L_heldStepS_ok (k : Nat) : OrcOk Try.prog 46 (o_L_heldStepS k) := pureOrc_ok (L_heldStepS_ok k)
/-! ### 7 loop.example/g00778/laws.FnExactCutTrace -/
noncomputable def E_L_FnExactCutTrace (k : Nat) : Env := { P := Try.prog, tt := tt, orc := fun g => cond (Nat.beq g 22) (o_L_szStepS k) (cond (Nat.beq g 24) (o_L_toStepS k) (cond (Nat.beq g 27) (o_L_eqStepS k) (cond (Nat.beq g 28) (o_L_markStepS_m2 k) (cond (Nat.beq g 44) (o_S_CutTrace k) (cond (Nat.beq g 45) (o_I_CutTrace k) (cond (Nat.beq g 46) (o_L_heldStepS k) (noOrc))))))), wr := fun g => mem g [28], wt := true }
theorem E_L_FnExactCutTrace_ok (k : Nat) : EnvOk (E_L_FnExactCutTrace k) := fun g => (orc_cond (o_L_szStepS_ok k) (orc_cond (o_L_toStepS_ok k) (orc_cond (o_L_eqStepS_ok k) (orc_cond (o_L_markStepS_m2_ok k) (orc_cond (o_S_CutTrace_ok k) (orc_cond (o_I_CutTrace_ok k) (orc_cond (o_L_heldStepS_ok k) (noOrc_ok _ _))))))))
noncomputable def c_L_FnExactCutTrace : Code := (Try.f7.body).getD .skip
def LP_L_FnExactCutTrace (ρ : Type) (k : Nat) : Nat → Ev ρ → Ev ρ := fun _ _ _ _ => none
def L_FnExactCutTrace_args (a : List Step × Int) : List Arg := [.one (.sl (.st .step) a.1), .one (.int .i64 a.2)]
def L_FnExactCutTrace_argD (l : List Arg) : Option (List Step × Int) := match l with
  | [.one (.sl (.st .step) b0), .one (.int .i64 b1)] => some (b0, b1)
  | _ => none
def L_FnExactCutTrace_enc (r : Bool) : Out := (.r [] (.bool r), [])
def L_FnExactCutTrace_dec (o : Out) : Option (Bool) := match o with
  | (.r [] (.bool z1), []) => some z1
  | _ => none
def L_FnExactCutTrace_G (k : Nat) : PG := fun _ l K => (L_FnExactCutTrace_argD l).bind fun a => (L_FnExactCutTrace k a.1 a.2).bind fun r => K (L_FnExactCutTrace_enc r)
theorem L_FnExactCutTrace_ev (k : Nat) (a : List Step × Int) : ev (E_L_FnExactCutTrace k) (LP_L_FnExactCutTrace (Bool) k) 0 c_L_FnExactCutTrace (st0 Try.f7 (L_FnExactCutTrace_args a)) (fin Try.prog Try.f7 (.sc) L_FnExactCutTrace_dec) = L_FnExactCutTrace k a.1 a.2 := by kernel_rfl
theorem L_FnExactCutTrace_ok (k : Nat) : PureOk Try.prog 7 (L_FnExactCutTrace_G k) :=
  pureOk_of_ev (E_L_FnExactCutTrace_ok k) Try.func7 (by kernel_rfl) (by kernel_rfl) L_FnExactCutTrace_args L_FnExactCutTrace_argD
    (fun l a h => by unfold L_FnExactCutTrace_argD at h; split at h <;> first | (cases h; rfl) | cases h) (fun a => rfl) (lpgood_none (by kernel_rfl))
    (fun o r h => by unfold L_FnExactCutTrace_dec at h; split at h <;> first | (cases h; rfl) | cases h) (L_FnExactCutTrace_ev k)
def o_L_FnExactCutTrace (k : Nat) : Orc := pureOrc [.one (.sl (.st .step)), .one (.int .i64)] (L_FnExactCutTrace_G k)
theorem o_L_FnExactCutTrace_ok (k : Nat) : OrcOk Try.prog 7 (o_L_FnExactCutTrace k) := pureOrc_ok (L_FnExactCutTrace_ok k)
end
end Go.Proofs.Ev
