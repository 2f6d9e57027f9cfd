/- Text of this claim. -/
import Derived.Test.YtcgeekjfbjcofaaEvK5
import Derived.Test.YtcgeekjfbjcofaaProg
import Derived.Test.YtcgeekjfbjcofaaEvD1
set_option linter.unusedVariables false
set_option linter.unusedSimpArgs false
set_option linter.unusedVariables false
set_option linter.unusedSimpArgs false
set_option maxRecDepth 100000
namespace Go.Proofs.Ev
noncomputable section
def tt : TT := look [(2, (.int .i64)), (3, (.int .i64)), (4, .bool), (5, (.int .u8)), (6, (.int .u8)), (9, .str), (10, .str), (11, .str), (12, (.int .u64)), (21, (.int .i32)), (23, (.st .shape)), (24, (.sl (.int .i64))), (26, (.st .tensor)), (28, (.st .shape)), (30, (.st .tensor)), (38, (.sl (.int .u8))), (40, (.st .step)), (44, (.st .step)), (49, (.sl (.st .tensor))), (52, (.sl (.st .tensor))), (61, (.sl (.st .step))), (64, (.sl (.st .step))), (88, (.int .u64)), (96, (.int .u32)), (97, (.int .u8)), (98, (.int .u8)), (101, (.int .i32)), (102, (.int .i32))]
/-! ### 51 loop.example/g00778/laws.szByteS -/
noncomputable def E_L_szByteS (k : Nat) : Env := { P := Try.prog, tt := tt, orc := fun g => noOrc }
theorem E_L_szByteS_ok (k : Nat) : EnvOk (E_L_szByteS k) := fun g => (noOrc_ok _ _)
noncomputable def c_L_szByteS : Code := (Try.f51.body).getD .skip
def LP_L_szByteS (ρ : Type) (k : Nat) : Nat → Ev ρ → Ev ρ := fun _ _ _ _ => none
def L_szByteS_args (a : List Int × Int) : List Arg := [.one (.sl (.int .u8) a.1), .one (.int .i64 a.2)]
def L_szByteS_argD (l : List Arg) : Option (List Int × Int) := match l with
  | [.one (.sl (.int .u8) b0), .one (.int .i64 b1)] => some (b0, b1)
  | _ => none
def L_szByteS_enc (r : Int) : Out := (.r [] (.int .i64 r), [])
def L_szByteS_dec (o : Out) : Option (Int) := match o with
  | (.r [] (.int .i64 z1), []) => some z1
  | _ => none
def L_szByteS_G (k : Nat) : PG := fun _ l K => (L_szByteS_argD l).bind fun a => (L_szByteS k a.1 a.2).bind fun r => K (L_szByteS_enc r)
theorem L_szByteS_ev (k : Nat) (a : List Int × Int) : ev (E_L_szByteS k) (LP_L_szByteS (Int) k) 0 c_L_szByteS (st0 Try.f51 (L_szByteS_args a)) (fin Try.prog Try.f51 (.sc) L_szByteS_dec) = L_szByteS k a.1 a.2 := by kernel_rfl
theorem L_szByteS_ok (k : Nat) : PureOk Try.prog 51 (L_szByteS_G k) :=
  pureOk_of_ev (E_L_szByteS_ok k) Try.func51 (by kernel_rfl) (by kernel_rfl) L_szByteS_args L_szByteS_argD
    (fun l a h => by unfold L_szByteS_argD at h; split at h <;> first | (cases h; rfl) | cases h) (fun a => rfl) (lpgood_none (by kernel_rfl))
    (fun o r h => by unfold L_szByteS_dec at h; split at h <;> first | (cases h; rfl) | cases h) (L_szByteS_ev k)
def o_L_szByteS (k : Nat) : Orc := pureOrc [.one (.sl (.int .u8)), .one (.int .i64)] (L_szByteS_G k)
theorem o_L_szByteS_ok (k : Nat) : OrcOk Try.prog 51 (o_L_szByteS k) := pureOrc_ok (L_szByteS_ok k)
/-! ### 41 loop.example/g00778/laws.szIntS -/
noncomputable def E_L_szIntS (k : Nat) : Env := { P := Try.prog, tt := tt, orc := fun g => noOrc }
theorem E_L_szIntS_ok (k : Nat) : EnvOk (E_L_szIntS k) := fun g => (noOrc_ok _ _)
noncomputable def c_L_szIntS : Code := (Try.f41.body).getD .skip
def LP_L_szIntS (ρ : Type) (k : Nat) : Nat → Ev ρ → Ev ρ := fun _ _ _ _ => none
def L_szIntS_args (a : List Int × Int) : List Arg := [.one (.sl (.int .i64) a.1), .one (.int .i64 a.2)]
def L_szIntS_argD (l : List Arg) : Option (List Int × Int) := match l with
  | [.one (.sl (.int .i64) b0), .one (.int .i64 b1)] => some (b0, b1)
  | _ => none
def L_szIntS_enc (r : Int) : Out := (.r [] (.int .i64 r), [])
def L_szIntS_dec (o : Out) : Option (Int) := match o with
  | (.r [] (.int .i64 z1), []) => some z1
  | _ => none
def L_szIntS_G (k : Nat) : PG := fun _ l K => (L_szIntS_argD l).bind fun a => (L_szIntS k a.1 a.2).bind fun r => K (L_szIntS_enc r)
theorem L_szIntS_ev (k : Nat) (a : List Int × Int) : ev (E_L_szIntS k) (LP_L_szIntS (Int) k) 0 c_L_szIntS (st0 Try.f41 (L_szIntS_args a)) (fin Try.prog Try.f41 (.sc) L_szIntS_dec) = L_szIntS k a.1 a.2 := by kernel_rfl
theorem L_szIntS_ok (k : Nat) : PureOk Try.prog 41 (L_szIntS_G k) :=
  pureOk_of_ev (E_L_szIntS_ok k) Try.func41 (by kernel_rfl) (by kernel_rfl) L_szIntS_args L_szIntS_argD
    (fun l a h => by unfold L_szIntS_argD at h; split at h <;> first | (cases h; rfl) | cases h) (fun a => rfl) (lpgood_none (by kernel_rfl))
    (fun o r h => by unfold L_szIntS_dec at h; split at h <;> first | (cases h; rfl) | cases h) (L_szIntS_ev k)
def o_L_szIntS (k : Nat) : Orc := pureOrc [.one (.sl (.int .i64)), .one (.int .i64)] (L_szIntS_G k)
theorem o_L_szIntS_ok (k : Nat) : OrcOk Try.prog 41 (o_L_szIntS k) := pureOrc_ok (L_szIntS_ok k)
/-! ### 9 loop.example/g00778/laws.szTensor -/
noncomputable def E_L_szTensor (k : Nat) : Env := { P := Try.prog, tt := tt, orc := fun g => cond (Nat.beq g 41) (o_L_szIntS k) (noOrc) }
theorem E_L_szTensor_ok (k : Nat) : EnvOk (E_L_szTensor k) := fun g => (orc_cond (o_L_szIntS_ok k) (noOrc_ok _ _))
noncomputable def c_L_szTensor : Code := (Try.f9.body).getD .skip
def LP_L_szTensor (ρ : Type) (k : Nat) : Nat → Ev ρ → Ev ρ := fun _ _ _ _ => none
def L_szTensor_args (a : Tensor × Int) : List Arg := [.agg [.int .i64 a.1.sh.h, .int .i64 a.1.sh.w, .int .i64 a.1.sh.c, .sl (.int .i64) a.1.data], .one (.int .i64 a.2)]
def L_szTensor_argD (l : List Arg) : Option (Tensor × Int) := match l with
  | [.agg [.int .i64 b0_0, .int .i64 b0_1, .int .i64 b0_2, .sl (.int .i64) b0_3], .one (.int .i64 b1)] => some ((⟨(⟨b0_0, b0_1, b0_2⟩ : Shape), b0_3⟩ : Tensor), b1)
  | _ => none
def L_szTensor_enc (r : Int) : Out := (.r [] (.int .i64 r), [])
def L_szTensor_dec (o : Out) : Option (Int) := match o with
  | (.r [] (.int .i64 z1), []) => some z1
  | _ => none
def L_szTensor_G (k : Nat) : PG := fun _ l K => (L_szTensor_argD l).bind fun a => (L_szTensor k a.1 a.2).bind fun r => K (L_szTensor_enc r)
theorem L_szTensor_ev (k : Nat) (a : Tensor × Int) : ev (E_L_szTensor k) (LP_L_szTensor (Int) k) 0 c_L_szTensor (st0 Try.f9 (L_szTensor_args a)) (fin Try.prog Try.f9 (.sc) L_szTensor_dec) = L_szTensor k a.1 a.2 := by kernel_rfl
theorem L_szTensor_ok (k : Nat) : PureOk Try.prog 9 (L_szTensor_G k) :=
  pureOk_of_ev (E_L_szTensor_ok k) Try.func9 (by kernel_rfl) (by kernel_rfl) L_szTensor_args L_szTensor_argD
    (fun l a h => by unfold L_szTensor_argD at h; split at h <;> first | (cases h; rfl) | cases h) (fun a => rfl) (lpgood_none (by kernel_rfl))
    (fun o r h => by unfold L_szTensor_dec at h; split at h <;> first | (cases h; rfl) | cases h) (L_szTensor_ev k)
def o_L_szTensor (k : Nat) : Orc := pureOrc [.agg [(.int .i64), (.int .i64), (.int .i64), (.sl (.int .i64))], .one (.int .i64)] (L_szTensor_G k)
theorem o_L_szTensor_ok (k : Nat) : OrcOk Try.prog 9 (o_L_szTensor k) := pureOrc_ok (L_szTensor_ok k)
/-! ### 17 loop.example/g00778/laws.szStep -/
noncomputable def E_L_szStep (k : Nat) : Env := { P := Try.prog, tt := tt, orc := fun g => cond (Nat.beq g 9) (o_L_szTensor k) (cond (Nat.beq g 51) (o_L_szByteS k) (noOrc)) }
theorem E_L_szStep_ok (k : Nat) : EnvOk (E_L_szStep k) := fun g => (orc_cond (o_L_szTensor_ok k) (orc_cond (o_L_szByteS_ok k) (noOrc_ok _ _)))
noncomputable def c_L_szStep : Code := (Try.f17.body).getD .skip
def LP_L_szStep (ρ : Type) (k : Nat) : Nat → Ev ρ → Ev ρ := fun _ _ _ _ => none
def L_szStep_args (a : Step × Int) : List Arg := [.agg [.int .i64 a.1.kind, .int .i64 a.1.a, .int .i64 a.1.b, .sl (.int .u8) a.1.data, .int .i64 a.1.input.sh.h, .int .i64 a.1.input.sh.w, .int .i64 a.1.input.sh.c, .sl (.int .i64) a.1.input.data], .one (.int .i64 a.2)]
def L_szStep_argD (l : List Arg) : Option (Step × Int) := match l with
  | [.agg [.int .i64 b0_0, .int .i64 b0_1, .int .i64 b0_2, .sl (.int .u8) b0_3, .int .i64 b0_4, .int .i64 b0_5, .int .i64 b0_6, .sl (.int .i64) b0_7], .one (.int .i64 b1)] => some ((⟨b0_0, b0_1, b0_2, b0_3, (⟨(⟨b0_4, b0_5, b0_6⟩ : Shape), b0_7⟩ : Tensor)⟩ : Step), b1)
  | _ => none
def L_szStep_enc (r : Int) : Out := (.r [] (.int .i64 r), [])
def L_szStep_dec (o : Out) : Option (Int) := match o with
  | (.r [] (.int .i64 z1), []) => some z1
  | _ => none
def L_szStep_G (k : Nat) : PG := fun _ l K => (L_szStep_argD l).bind fun a => (L_szStep k a.1 a.2).bind fun r => K (L_szStep_enc r)
theorem L_szStep_ev (k : Nat) (a : Step × Int) : ev (E_L_szStep k) (LP_L_szStep (Int) k) 0 c_L_szStep (st0 Try.f17 (L_szStep_args a)) (fin Try.prog Try.f17 (.sc) L_szStep_dec) = L_szStep k a.1 a.2 := by kernel_rfl
theorem L_szStep_ok (k : Nat) : PureOk Try.prog 17 (L_szStep_G k) :=
  pureOk_of_ev (E_L_szStep_ok k) Try.func17 (by kernel_rfl) (by kernel_rfl) L_szStep_args L_szStep_argD
    (fun l a h => by unfold L_szStep_argD at h; split at h <;> first | (cases h; rfl) | cases h) (fun a => rfl) (lpgood_none (by kernel_rfl))
    (fun o r h => by unfold L_szStep_dec at h; split at h <;> first | (cases h; rfl) | cases h) (L_szStep_ev k)
def o_L_szStep (k : Nat) : Orc := pureOrc [.agg [(.int .i64), (.int .i64), (.int .i64), (.sl (.int .u8)), (.int .i64), (.int .i64), (.int .i64), (.sl (.int .i64))], .one (.int .i64)] (L_szStep_G k)
theorem o_L_szStep_ok (k : Nat) : OrcOk Try.prog 17 (o_L_szStep k) := pureOrc_ok (L_szStep_ok k)
/-! ### 36 loop.example/g00778/laws.szStepS -/
noncomputable def E_L_szStepS (k : Nat) : Env := { P := Try.prog, tt := tt, orc := fun g => cond (Nat.beq g 17) (o_L_szStep k) (noOrc) }
theorem E_L_szStepS_ok (k : Nat) : EnvOk (E_L_szStepS k) := fun g => (orc_cond (o_L_szStep_ok k) (noOrc_ok _ _))
noncomputable def c_L_szStepS : Code := (Try.f36.body).getD .skip
noncomputable def b_L_szStepS_0 : Code := ((loopsIn 0 c_L_szStepS).getD 0 (0, .skip)).2
def L_szStepS_g0_keep : List Nat := [0, 1, 5]
def L_szStepS_g0_co : List (Where × Co) := []
def L_szStepS_g0_kx : Ex → List Nat
  | .exit j => cond (Nat.beq j 0) [1] []
  | .ret => [4]
  | .normal => []
def L_szStepS_g0_cx : Ex → List (Where × Co)
  | .exit j => cond (Nat.beq j 0) [] []
  | .ret => []
  | .normal => []
def L_szStepS_g0_tm (pv : (List Step) × (Int × Int)) : St := { slots := [(0, .r [] (.sl (.st .step) pv.1)), (1, .r [] (.int .i64 pv.2.1)), (5, .r [] (.int .i64 pv.2.2))], heap := [], nid := 0, n := 27, gh := [] }
def L_szStepS_g0_dec (nf : NF) : Option ((List Step) × (Int × Int)) := match nf with
  | ([.r [] (.sl (.st .step) w0), .r [] (.int .i64 w1), .r [] (.int .i64 w2)], [], []) => some (w0, (w1, w2))
  | _ => none
theorem L_szStepS_g0_hd (nf : NF) (v : (List Step) × (Int × Int)) (h : L_szStepS_g0_dec nf = some v) : denorm L_szStepS_g0_keep 27 nf = L_szStepS_g0_tm v := by
  unfold L_szStepS_g0_dec at h
  split at h
  · cases h; rfl
  · cases h
def L_szStepS_g0_x0 (p : List Step) (x : Int) : St := { slots := [(1, .r [] (.int .i64 x))], heap := [], nid := 0, n := 27, gh := [] }
def L_szStepS_g0_xret (p : List Step) (x : Int) : St := { slots := [(4, .r [] (.int .i64 x))], heap := [], nid := 0, n := 27, gh := [] }
def LP_L_szStepS (ρ : Type) (k : Nat) : Nat → Ev ρ → Ev ρ := fun id f => cond (Nat.beq id 0) (loopOrc L_szStepS_g0_keep L_szStepS_g0_co (fun n nf => cond (Nat.beq n 27) (L_szStepS_g0_dec nf) none) fun pv K => iter (fun v next => L_szStepS_g0 k pv.1 v next (fun x => K (.exit 0) (L_szStepS_g0_x0 pv.1 x)) (fun x => K .ret (L_szStepS_g0_xret pv.1 x))) k pv.2) ((fun _ _ _ _ => none) id f)
theorem L_szStepS_g0_round {ρ : Type} (k : Nat) (p : List Step) (v : Int × Int) (K K1 : Ex → St → Option ρ) : ev (E_L_szStepS k) (LP_L_szStepS ρ k) 0 b_L_szStepS_0 (L_szStepS_g0_tm (p, v)) (fun e st' => match e with
    | .normal => (normC L_szStepS_g0_keep L_szStepS_g0_co st').bind fun nf => K1 .normal (denorm L_szStepS_g0_keep st'.n nf)
    | e => (normC (L_szStepS_g0_kx e) (L_szStepS_g0_cx e) st').bind fun nf => K e (denorm (L_szStepS_g0_kx e) st'.n nf)) = L_szStepS_g0 k p v (fun v' => K1 .normal (L_szStepS_g0_tm (p, v'))) (fun x => K (.exit 0) (L_szStepS_g0_x0 p x)) (fun x => K .ret (L_szStepS_g0_xret p x)) := by kernel_rfl
theorem L_szStepS_g0_ok {ρ : Type} (k : Nat) : Sound Try.prog (.loop b_L_szStepS_0) (LP_L_szStepS ρ k 0 fun st K => ev (E_L_szStepS k) (LP_L_szStepS ρ k) 0 b_L_szStepS_0 st K) :=
  loop_ok (ev_sound (E_L_szStepS_ok k) b_L_szStepS_0 0 (lpgood_none (by kernel_rfl))) L_szStepS_g0_kx L_szStepS_g0_cx k (g := fun p v next K => L_szStepS_g0 k p v next (fun x => K (.exit 0) (L_szStepS_g0_x0 p x)) (fun x => K .ret (L_szStepS_g0_xret p x))) (dec_at L_szStepS_g0_hd) (fun p v K K1 => L_szStepS_g0_round k p v K K1)
def L_szStepS_args (a : List Step × Int) : List Arg := [.one (.sl (.st .step) a.1), .one (.int .i64 a.2)]
def L_szStepS_argD (l : List Arg) : Option (List Step × Int) := match l with
  | [.one (.sl (.st .step) b0), .one (.int .i64 b1)] => some (b0, b1)
  | _ => none
def L_szStepS_enc (r : Int) : Out := (.r [] (.int .i64 r), [])
def L_szStepS_dec (o : Out) : Option (Int) := match o with
  | (.r [] (.int .i64 z1), []) => some z1
  | _ => none
def L_szStepS_G (k : Nat) : PG := fun _ l K => (L_szStepS_argD l).bind fun a => (L_szStepS k a.1 a.2).bind fun r => K (L_szStepS_enc r)
theorem L_szStepS_ev (k : Nat) (a : List Step × Int) : ev (E_L_szStepS k) (LP_L_szStepS (Int) k) 0 c_L_szStepS (st0 Try.f36 (L_szStepS_args a)) (fin Try.prog Try.f36 (.sc) L_szStepS_dec) = L_szStepS k a.1 a.2 := by kernel_rfl
theorem L_szStepS_ok (k : Nat) : PureOk Try.prog 36 (L_szStepS_G k) :=
  pureOk_of_ev (E_L_szStepS_ok k) Try.func36 (by kernel_rfl) (by kernel_rfl) L_szStepS_args L_szStepS_argD
    (fun l a h => by unfold L_szStepS_argD at h; split at h <;> first | (cases h; rfl) | cases h) (fun a => rfl) (lpgood_of (l := [(0, b_L_szStepS_0)]) (by kernel_rfl) ⟨L_szStepS_g0_ok k, trivial⟩)
    (fun o r h => by unfold L_szStepS_dec at h; split at h <;> first | (cases h; rfl) | cases h) (L_szStepS_ev k)
def o_L_szStepS (k : Nat) : Orc := pureOrc [.one (.sl (.st .step)), .one (.int .i64)] (L_szStepS_G k)
theorem o_L_szStepS_ok (k : Nat) : OrcOk Try.prog 36 (o_L_szStepS k) := pureOrc_ok (L_szStepS_ok k)
/-! ### 54 loop.example/g00778/laws.toByteS -/
noncomputable def E_L_toByteS (k : Nat) : Env := { P := Try.prog, tt := tt, orc := fun g => noOrc }
theorem E_L_toByteS_ok (k : Nat) : EnvOk (E_L_toByteS k) := fun g => (noOrc_ok _ _)
noncomputable def c_L_toByteS : Code := (Try.f54.body).getD .skip
noncomputable def b_L_toByteS_0 : Code := ((loopsIn 0 c_L_toByteS).getD 0 (0, .skip)).2
def L_toByteS_g0_keep : List Nat := [0, 3, 4]
def L_toByteS_g0_co : List (Where × Co) := []
def L_toByteS_g0_kx : Ex → List Nat
  | .exit j => cond (Nat.beq j 0) [3] []
  | .ret => []
  | .normal => []
def L_toByteS_g0_cx : Ex → List (Where × Co)
  | .exit j => cond (Nat.beq j 0) [] []
  | .ret => []
  | .normal => []
def L_toByteS_g0_tm (pv : (List Int) × (Int × List Int)) : St := { slots := [(0, .r [] (.sl (.int .u8) pv.1)), (3, .own 0), (4, .r [] (.int .i64 pv.2.1))], heap := [(0, .arr none (.int .u8) pv.2.2)], nid := 1, n := 22, gh := [] }
def L_toByteS_g0_dec (nf : NF) : Option ((List Int) × (Int × List Int)) := match nf with
  | ([.r [] (.sl (.int .u8) w0), .own 0, .r [] (.int .i64 w1)], [.arr none (.int .u8) w2], []) => some (w0, (w1, w2))
  | _ => none
theorem L_toByteS_g0_hd (nf : NF) (v : (List Int) × (Int × List Int)) (h : L_toByteS_g0_dec nf = some v) : denorm L_toByteS_g0_keep 22 nf = L_toByteS_g0_tm v := by
  unfold L_toByteS_g0_dec at h
  split at h
  · cases h; rfl
  · cases h
def L_toByteS_g0_x0 (p : List Int) (x : List Int) : St := { slots := [(3, .own 0)], heap := [(0, .arr none (.int .u8) x)], nid := 1, n := 22, gh := [] }
def LP_L_toByteS (ρ : Type) (k : Nat) : Nat → Ev ρ → Ev ρ := fun id f => cond (Nat.beq id 0) (loopOrc L_toByteS_g0_keep L_toByteS_g0_co (fun n nf => cond (Nat.beq n 22) (L_toByteS_g0_dec nf) none) fun pv K => iter (fun v next => L_toByteS_g0 k pv.1 v next (fun x => K (.exit 0) (L_toByteS_g0_x0 pv.1 x))) k pv.2) ((fun _ _ _ _ => none) id f)
theorem L_toByteS_g0_round {ρ : Type} (k : Nat) (p : List Int) (v : Int × List Int) (K K1 : Ex → St → Option ρ) : ev (E_L_toByteS k) (LP_L_toByteS ρ k) 0 b_L_toByteS_0 (L_toByteS_g0_tm (p, v)) (fun e st' => match e with
    | .normal => (normC L_toByteS_g0_keep L_toByteS_g0_co st').bind fun nf => K1 .normal (denorm L_toByteS_g0_keep st'.n nf)
    | e => (normC (L_toByteS_g0_kx e) (L_toByteS_g0_cx e) st').bind fun nf => K e (denorm (L_toByteS_g0_kx e) st'.n nf)) = L_toByteS_g0 k p v (fun v' => K1 .normal (L_toByteS_g0_tm (p, v'))) (fun x => K (.exit 0) (L_toByteS_g0_x0 p x)) := by kernel_rfl
theorem L_toByteS_g0_ok {ρ : Type} (k : Nat) : Sound Try.prog (.loop b_L_toByteS_0) (LP_L_toByteS ρ k 0 fun st K => ev (E_L_toByteS k) (LP_L_toByteS ρ k) 0 b_L_toByteS_0 st K) :=
  loop_ok (ev_sound (E_L_toByteS_ok k) b_L_toByteS_0 0 (lpgood_none (by kernel_rfl))) L_toByteS_g0_kx L_toByteS_g0_cx k (g := fun p v next K => L_toByteS_g0 k p v next (fun x => K (.exit 0) (L_toByteS_g0_x0 p x))) (dec_at L_toByteS_g0_hd) (fun p v K K1 => L_toByteS_g0_round k p v K K1)
def L_toByteS_args (a : List Int) : List Arg := [.one (.sl (.int .u8) a)]
def L_toByteS_argD (l : List Arg) : Option (List Int) := match l with
  | [.one (.sl (.int .u8) b0)] => some b0
  | _ => none
def L_toByteS_enc (r : List Int) : Out := (.own 0, [.arr none (.int .u8) r])
def L_toByteS_dec (o : Out) : Option (List Int) := match o with
  | (.own 0, [.arr none (.int .u8) z1]) => some z1
  | _ => none
def L_toByteS_G (k : Nat) : PG := fun _ l K => (L_toByteS_argD l).bind fun a => (L_toByteS k a).bind fun r => K (L_toByteS_enc r)
theorem L_toByteS_ev (k : Nat) (a : List Int) : ev (E_L_toByteS k) (LP_L_toByteS (List Int) k) 0 c_L_toByteS (st0 Try.f54 (L_toByteS_args a)) (fin Try.prog Try.f54 (.own (.int .u8)) L_toByteS_dec) = L_toByteS k a := by kernel_rfl
theorem L_toByteS_ok (k : Nat) : PureOk Try.prog 54 (L_toByteS_G k) :=
  pureOk_of_ev (E_L_toByteS_ok k) Try.func54 (by kernel_rfl) (by kernel_rfl) L_toByteS_args L_toByteS_argD
    (fun l a h => by unfold L_toByteS_argD at h; split at h <;> first | (cases h; rfl) | cases h) (fun a => rfl) (lpgood_of (l := [(0, b_L_toByteS_0)]) (by kernel_rfl) ⟨L_toByteS_g0_ok k, trivial⟩)
    (fun o r h => by unfold L_toByteS_dec at h; split at h <;> first | (cases h; rfl) | cases h) (L_toByteS_ev k)
def o_L_toByteS (k : Nat) : Orc := pureOrc [.one (.sl (.int .u8))] (L_toByteS_G k)
theorem o_L_toByteS_ok (k : Nat) : OrcOk Try.prog 54 (o_L_toByteS k) := pureOrc_ok (L_toByteS_ok k)
/-! ### 12 loop.example/g00778/laws.toShape -/
noncomputable def E_L_toShape (k : Nat) : Env := { P := Try.prog, tt := tt, orc := fun g => noOrc }
theorem E_L_toShape_ok (k : Nat) : EnvOk (E_L_toShape k) := fun g => (noOrc_ok _ _)
noncomputable def c_L_toShape : Code := (Try.f12.body).getD .skip
def LP_L_toShape (ρ : Type) (k : Nat) : Nat → Ev ρ → Ev ρ := fun _ _ _ _ => none
def L_toShape_args (a : Shape) : List Arg := [.agg [.int .i64 a.h, .int .i64 a.w, .int .i64 a.c]]
def L_toShape_argD (l : List Arg) : Option (Shape) := match l with
  | [.agg [.int .i64 b0_0, .int .i64 b0_1, .int .i64 b0_2]] => some (⟨b0_0, b0_1, b0_2⟩ : Shape)
  | _ => none
def L_toShape_enc (r : Shape) : Out := (.agg [.r [] (.int .i64 r.h), .r [] (.int .i64 r.w), .r [] (.int .i64 r.c)], [])
def L_toShape_dec (o : Out) : Option (Shape) := match o with
  | (.agg [.r [] (.int .i64 z1), .r [] (.int .i64 z2), .r [] (.int .i64 z3)], []) => some (⟨z1, z2, z3⟩ : Shape)
  | _ => none
def L_toShape_G (k : Nat) : PG := fun _ l K => (L_toShape_argD l).bind fun a => (L_toShape k a).bind fun r => K (L_toShape_enc r)
theorem L_toShape_ev (k : Nat) (a : Shape) : ev (E_L_toShape k) (LP_L_toShape (Shape) k) 0 c_L_toShape (st0 Try.f12 (L_toShape_args a)) (fin Try.prog Try.f12 (.agg [.sc, .sc, .sc]) L_toShape_dec) = L_toShape k a := by kernel_rfl
theorem L_toShape_ok (k : Nat) : PureOk Try.prog 12 (L_toShape_G k) :=
  pureOk_of_ev (E_L_toShape_ok k) Try.func12 (by kernel_rfl) (by kernel_rfl) L_toShape_args L_toShape_argD
    (fun l a h => by unfold L_toShape_argD at h; split at h <;> first | (cases h; rfl) | cases h) (fun a => rfl) (lpgood_none (by kernel_rfl))
    (fun o r h => by unfold L_toShape_dec at h; split at h <;> first | (cases h; rfl) | cases h) (L_toShape_ev k)
def o_L_toShape (k : Nat) : Orc := pureOrc [.agg [(.int .i64), (.int .i64), (.int .i64)]] (L_toShape_G k)
theorem o_L_toShape_ok (k : Nat) : OrcOk Try.prog 12 (o_L_toShape k) := pureOrc_ok (L_toShape_ok k)
/-! ### 31 loop.example/g00778/laws.toIntS -/
noncomputable def E_L_toIntS (k : Nat) : Env := { P := Try.prog, tt := tt, orc := fun g => noOrc }
theorem E_L_toIntS_ok (k : Nat) : EnvOk (E_L_toIntS k) := fun g => (noOrc_ok _ _)
noncomputable def c_L_toIntS : Code := (Try.f31.body).getD .skip
noncomputable def b_L_toIntS_0 : Code := ((loopsIn 0 c_L_toIntS).getD 0 (0, .skip)).2
def L_toIntS_g0_keep : List Nat := [0, 3, 4]
def L_toIntS_g0_co : List (Where × Co) := []
def L_toIntS_g0_kx : Ex → List Nat
  | .exit j => cond (Nat.beq j 0) [3] []
  | .ret => []
  | .normal => []
def L_toIntS_g0_cx : Ex → List (Where × Co)
  | .exit j => cond (Nat.beq j 0) [] []
  | .ret => []
  | .normal => []
def L_toIntS_g0_tm (pv : (List Int) × (Int × List Int)) : St := { slots := [(0, .r [] (.sl (.int .i64) pv.1)), (3, .own 0), (4, .r [] (.int .i64 pv.2.1))], heap := [(0, .arr none (.int .i64) pv.2.2)], nid := 1, n := 22, gh := [] }
def L_toIntS_g0_dec (nf : NF) : Option ((List Int) × (Int × List Int)) := match nf with
  | ([.r [] (.sl (.int .i64) w0), .own 0, .r [] (.int .i64 w1)], [.arr none (.int .i64) w2], []) => some (w0, (w1, w2))
  | _ => none
theorem L_toIntS_g0_hd (nf : NF) (v : (List Int) × (Int × List Int)) (h : L_toIntS_g0_dec nf = some v) : denorm L_toIntS_g0_keep 22 nf = L_toIntS_g0_tm v := by
  unfold L_toIntS_g0_dec at h
  split at h
  · cases h; rfl
  · cases h
def L_toIntS_g0_x0 (p : List Int) (x : List Int) : St := { slots := [(3, .own 0)], heap := [(0, .arr none (.int .i64) x)], nid := 1, n := 22, gh := [] }
def LP_L_toIntS (ρ : Type) (k : Nat) : Nat → Ev ρ → Ev ρ := fun id f => cond (Nat.beq id 0) (loopOrc L_toIntS_g0_keep L_toIntS_g0_co (fun n nf => cond (Nat.beq n 22) (L_toIntS_g0_dec nf) none) fun pv K => iter (fun v next => L_toIntS_g0 k pv.1 v next (fun x => K (.exit 0) (L_toIntS_g0_x0 pv.1 x))) k pv.2) ((fun _ _ _ _ => none) id f)
theorem L_toIntS_g0_round {ρ : Type} (k : Nat) (p : List Int) (v : Int × List Int) (K K1 : Ex → St → Option ρ) : ev (E_L_toIntS k) (LP_L_toIntS ρ k) 0 b_L_toIntS_0 (L_toIntS_g0_tm (p, v)) (fun e st' => match e with
    | .normal => (normC L_toIntS_g0_keep L_toIntS_g0_co st').bind fun nf => K1 .normal (denorm L_toIntS_g0_keep st'.n nf)
    | e => (normC (L_toIntS_g0_kx e) (L_toIntS_g0_cx e) st').bind fun nf => K e (denorm (L_toIntS_g0_kx e) st'.n nf)) = L_toIntS_g0 k p v (fun v' => K1 .normal (L_toIntS_g0_tm (p, v'))) (fun x => K (.exit 0) (L_toIntS_g0_x0 p x)) := by kernel_rfl
theorem L_toIntS_g0_ok {ρ : Type} (k : Nat) : Sound Try.prog (.loop b_L_toIntS_0) (LP_L_toIntS ρ k 0 fun st K => ev (E_L_toIntS k) (LP_L_toIntS ρ k) 0 b_L_toIntS_0 st K) :=
  loop_ok (ev_sound (E_L_toIntS_ok k) b_L_toIntS_0 0 (lpgood_none (by kernel_rfl))) L_toIntS_g0_kx L_toIntS_g0_cx k (g := fun p v next K => L_toIntS_g0 k p v next (fun x => K (.exit 0) (L_toIntS_g0_x0 p x))) (dec_at L_toIntS_g0_hd) (fun p v K K1 => L_toIntS_g0_round k p v K K1)
def L_toIntS_args (a : List Int) : List Arg := [.one (.sl (.int .i64) a)]
def L_toIntS_argD (l : List Arg) : Option (List Int) := match l with
  | [.one (.sl (.int .i64) b0)] => some b0
  | _ => none
def L_toIntS_enc (r : List Int) : Out := (.own 0, [.arr none (.int .i64) r])
def L_toIntS_dec (o : Out) : Option (List Int) := match o with
  | (.own 0, [.arr none (.int .i64) z1]) => some z1
  | _ => none
def L_toIntS_G (k : Nat) : PG := fun _ l K => (L_toIntS_argD l).bind fun a => (L_toIntS k a).bind fun r => K (L_toIntS_enc r)
theorem L_toIntS_ev (k : Nat) (a : List Int) : ev (E_L_toIntS k) (LP_L_toIntS (List Int) k) 0 c_L_toIntS (st0 Try.f31 (L_toIntS_args a)) (fin Try.prog Try.f31 (.own (.int .i64)) L_toIntS_dec) = L_toIntS k a := by kernel_rfl
theorem L_toIntS_ok (k : Nat) : PureOk Try.prog 31 (L_toIntS_G k) :=
  pureOk_of_ev (E_L_toIntS_ok k) Try.func31 (by kernel_rfl) (by kernel_rfl) L_toIntS_args L_toIntS_argD
    (fun l a h => by unfold L_toIntS_argD at h; split at h <;> first | (cases h; rfl) | cases h) (fun a => rfl) (lpgood_of (l := [(0, b_L_toIntS_0)]) (by kernel_rfl) ⟨L_toIntS_g0_ok k, trivial⟩)
    (fun o r h => by unfold L_toIntS_dec at h; split at h <;> first | (cases h; rfl) | cases h) (L_toIntS_ev k)
def o_L_toIntS (k : Nat) : Orc := pureOrc [.one (.sl (.int .i64))] (L_toIntS_G k)
theorem o_L_toIntS_ok (k : Nat) : OrcOk Try.prog 31 (o_L_toIntS k) := pureOrc_ok (L_toIntS_ok k)
/-! ### 11 loop.example/g00778/laws.toTensor -/
noncomputable def E_L_toTensor (k : Nat) : Env := { P := Try.prog, tt := tt, orc := fun g => cond (Nat.beq g 12) (o_L_toShape k) (cond (Nat.beq g 31) (o_L_toIntS k) (noOrc)) }
theorem E_L_toTensor_ok (k : Nat) : EnvOk (E_L_toTensor k) := fun g => (orc_cond (o_L_toShape_ok k) (orc_cond (o_L_toIntS_ok k) (noOrc_ok _ _)))
noncomputable def c_L_toTensor : Code := (Try.f11.body).getD .skip
def LP_L_toTensor (ρ : Type) (k : Nat) : Nat → Ev ρ → Ev ρ := fun _ _ _ _ => none
def L_toTensor_args (a : Tensor) : List Arg := [.agg [.int .i64 a.sh.h, .int .i64 a.sh.w, .int .i64 a.sh.c, .sl (.int .i64) a.data]]
def L_toTensor_argD (l : List Arg) : Option (Tensor) := match l with
  | [.agg [.int .i64 b0_0, .int .i64 b0_1, .int .i64 b0_2, .sl (.int .i64) b0_3]] => some (⟨(⟨b0_0, b0_1, b0_2⟩ : Shape), b0_3⟩ : Tensor)
  | _ => none
def L_toTensor_enc (r : Tensor) : Out := (.agg [.r [] (.int .i64 r.sh.h), .r [] (.int .i64 r.sh.w), .r [] (.int .i64 r.sh.c), .own 0], [.arr none (.int .i64) r.data])
def L_toTensor_dec (o : Out) : Option (Tensor) := match o with
  | (.agg [.r [] (.int .i64 z1), .r [] (.int .i64 z2), .r [] (.int .i64 z3), .own 0], [.arr none (.int .i64) z4]) => some (⟨(⟨z1, z2, z3⟩ : Shape), z4⟩ : Tensor)
  | _ => none
def L_toTensor_G (k : Nat) : PG := fun _ l K => (L_toTensor_argD l).bind fun a => (L_toTensor k a).bind fun r => K (L_toTensor_enc r)
theorem L_toTensor_ev (k : Nat) (a : Tensor) : ev (E_L_toTensor k) (LP_L_toTensor (Tensor) k) 0 c_L_toTensor (st0 Try.f11 (L_toTensor_args a)) (fin Try.prog Try.f11 (.agg [.sc, .sc, .sc, .own (.int .i64)]) L_toTensor_dec) = L_toTensor k a := by kernel_rfl
theorem L_toTensor_ok (k : Nat) : PureOk Try.prog 11 (L_toTensor_G k) :=
  pureOk_of_ev (E_L_toTensor_ok k) Try.func11 (by kernel_rfl) (by kernel_rfl) L_toTensor_args L_toTensor_argD
    (fun l a h => by unfold L_toTensor_argD at h; split at h <;> first | (cases h; rfl) | cases h) (fun a => rfl) (lpgood_none (by kernel_rfl))
    (fun o r h => by unfold L_toTensor_dec at h; split at h <;> first | (cases h; rfl) | cases h) (L_toTensor_ev k)
def o_L_toTensor (k : Nat) : Orc := pureOrc [.agg [(.int .i64), (.int .i64), (.int .i64), (.sl (.int .i64))]] (L_toTensor_G k)
theorem o_L_toTensor_ok (k : Nat) : OrcOk Try.prog 11 (o_L_toTensor k) := pureOrc_ok (L_toTensor_ok k)
/-! ### 19 loop.example/g00778/laws.toStep -/
noncomputable def E_L_toStep (k : Nat) : Env := { P := Try.prog, tt := tt, orc := fun g => cond (Nat.beq g 11) (o_L_toTensor k) (cond (Nat.beq g 54) (o_L_toByteS k) (noOrc)) }
theorem E_L_toStep_ok (k : Nat) : EnvOk (E_L_toStep k) := fun g => (orc_cond (o_L_toTensor_ok k) (orc_cond (o_L_toByteS_ok k) (noOrc_ok _ _)))
noncomputable def c_L_toStep : Code := (Try.f19.body).getD .skip
def LP_L_toStep (ρ : Type) (k : Nat) : Nat → Ev ρ → Ev ρ := fun _ _ _ _ => none
def L_toStep_args (a : Step) : List Arg := [.agg [.int .i64 a.kind, .int .i64 a.a, .int .i64 a.b, .sl (.int .u8) a.data, .int .i64 a.input.sh.h, .int .i64 a.input.sh.w, .int .i64 a.input.sh.c, .sl (.int .i64) a.input.data]]
def L_toStep_argD (l : List Arg) : Option (Step) := match l with
  | [.agg [.int .i64 b0_0, .int .i64 b0_1, .int .i64 b0_2, .sl (.int .u8) b0_3, .int .i64 b0_4, .int .i64 b0_5, .int .i64 b0_6, .sl (.int .i64) b0_7]] => some (⟨b0_0, b0_1, b0_2, b0_3, (⟨(⟨b0_4, b0_5, b0_6⟩ : Shape), b0_7⟩ : Tensor)⟩ : Step)
  | _ => none
def L_toStep_enc (r : Step) : Out := (.agg [.r [] (.int .i64 r.kind), .r [] (.int .i64 r.a), .r [] (.int .i64 r.b), .own 0, .r [] (.int .i64 r.input.sh.h), .r [] (.int .i64 r.input.sh.w), .r [] (.int .i64 r.input.sh.c), .own 1], [.arr none (.int .u8) r.data, .arr none (.int .i64) r.input.data])
def L_toStep_dec (o : Out) : Option (Step) := match o with
  | (.agg [.r [] (.int .i64 z1), .r [] (.int .i64 z2), .r [] (.int .i64 z3), .own 0, .r [] (.int .i64 z5), .r [] (.int .i64 z6), .r [] (.int .i64 z7), .own 1], [.arr none (.int .u8) z4, .arr none (.int .i64) z8]) => some (⟨z1, z2, z3, z4, (⟨(⟨z5, z6, z7⟩ : Shape), z8⟩ : Tensor)⟩ : Step)
  | _ => none
def L_toStep_G (k : Nat) : PG := fun _ l K => (L_toStep_argD l).bind fun a => (L_toStep k a).bind fun r => K (L_toStep_enc r)
theorem L_toStep_ev (k : Nat) (a : Step) : ev (E_L_toStep k) (LP_L_toStep (Step) k) 0 c_L_toStep (st0 Try.f19 (L_toStep_args a)) (fin Try.prog Try.f19 (.agg [.sc, .sc, .sc, .own (.int .u8), .sc, .sc, .sc, .own (.int .i64)]) L_toStep_dec) = L_toStep k a := by kernel_rfl
theorem L_toStep_ok (k : Nat) : PureOk Try.prog 19 (L_toStep_G k) :=
  pureOk_of_ev (E_L_toStep_ok k) Try.func19 (by kernel_rfl) (by kernel_rfl) L_toStep_args L_toStep_argD
    (fun l a h => by unfold L_toStep_argD at h; split at h <;> first | (cases h; rfl) | cases h) (fun a => rfl) (lpgood_none (by kernel_rfl))
    (fun o r h => by unfold L_toStep_dec at h; split at h <;> first | (cases h; rfl) | cases h) (L_toStep_ev k)
def o_L_toStep (k : Nat) : Orc := pureOrc [.agg [(.int .i64), (.int .i64), (.int .i64), (.sl (.int .u8)), (.int .i64), (.int .i64), (.int .i64), (.sl (.int .i64))]] (L_toStep_G k)
theorem o_L_toStep_ok (k : Nat) : OrcOk Try.prog 19 (o_L_toStep k) := pureOrc_ok (L_toStep_ok k)
/-! ### 38 loop.example/g00778/laws.toStepS -/
noncomputable def E_L_toStepS (k : Nat) : Env := { P := Try.prog, tt := tt, orc := fun g => cond (Nat.beq g 19) (o_L_toStep k) (noOrc) }
theorem E_L_toStepS_ok (k : Nat) : EnvOk (E_L_toStepS k) := fun g => (orc_cond (o_L_toStep_ok k) (noOrc_ok _ _))
noncomputable def c_L_toStepS : Code := (Try.f38.body).getD .skip
noncomputable def b_L_toStepS_0 : Code := ((loopsIn 0 c_L_toStepS).getD 0 (0, .skip)).2
def L_toStepS_g0_keep : List Nat := [0, 3, 4]
def L_toStepS_g0_co : List (Where × Co) := []
def L_toStepS_g0_kx : Ex → List Nat
  | .exit j => cond (Nat.beq j 0) [3] []
  | .ret => []
  | .normal => []
def L_toStepS_g0_cx : Ex → List (Where × Co)
  | .exit j => cond (Nat.beq j 0) [] []
  | .ret => []
  | .normal => []
def L_toStepS_g0_tm (pv : (List Step) × (Int × List Step)) : St := { slots := [(0, .r [] (.sl (.st .step) pv.1)), (3, .own 0), (4, .r [] (.int .i64 pv.2.1))], heap := [(0, .arr none (.st .step) pv.2.2)], nid := 1, n := 23, gh := [] }
def L_toStepS_g0_dec (nf : NF) : Option ((List Step) × (Int × List Step)) := match nf with
  | ([.r [] (.sl (.st .step) w0), .own 0, .r [] (.int .i64 w1)], [.arr none (.st .step) w2], []) => some (w0, (w1, w2))
  | _ => none
theorem L_toStepS_g0_hd (nf : NF) (v : (List Step) × (Int × List Step)) (h : L_toStepS_g0_dec nf = some v) : denorm L_toStepS_g0_keep 23 nf = L_toStepS_g0_tm v := by
  unfold L_toStepS_g0_dec at h
  split at h
  · cases h; rfl
  · cases h
def L_toStepS_g0_x0 (p : List Step) (x : List Step) : St := { slots := [(3, .own 0)], heap := [(0, .arr none (.st .step) x)], nid := 1, n := 23, gh := [] }
def LP_L_toStepS (ρ : Type) (k : Nat) : Nat → Ev ρ → Ev ρ := fun id f => cond (Nat.beq id 0) (loopOrc L_toStepS_g0_keep L_toStepS_g0_co (fun n nf => cond (Nat.beq n 23) (L_toStepS_g0_dec nf) none) fun pv K => iter (fun v next => L_toStepS_g0 k pv.1 v next (fun x => K (.exit 0) (L_toStepS_g0_x0 pv.1 x))) k pv.2) ((fun _ _ _ _ => none) id f)
theorem L_toStepS_g0_round {ρ : Type} (k : Nat) (p : List Step) (v : Int × List Step) (K K1 : Ex → St → Option ρ) : ev (E_L_toStepS k) (LP_L_toStepS ρ k) 0 b_L_toStepS_0 (L_toStepS_g0_tm (p, v)) (fun e st' => match e with
    | .normal => (normC L_toStepS_g0_keep L_toStepS_g0_co st').bind fun nf => K1 .normal (denorm L_toStepS_g0_keep st'.n nf)
    | e => (normC (L_toStepS_g0_kx e) (L_toStepS_g0_cx e) st').bind fun nf => K e (denorm (L_toStepS_g0_kx e) st'.n nf)) = L_toStepS_g0 k p v (fun v' => K1 .normal (L_toStepS_g0_tm (p, v'))) (fun x => K (.exit 0) (L_toStepS_g0_x0 p x)) := by kernel_rfl
theorem L_toStepS_g0_ok {ρ : Type} (k : Nat) : Sound Try.prog (.loop b_L_toStepS_0) (LP_L_toStepS ρ k 0 fun st K => ev (E_L_toStepS k) (LP_L_toStepS ρ k) 0 b_L_toStepS_0 st K) :=
  loop_ok (ev_sound (E_L_toStepS_ok k) b_L_toStepS_0 0 (lpgood_none (by kernel_rfl))) L_toStepS_g0_kx L_toStepS_g0_cx k (g := fun p v next K => L_toStepS_g0 k p v next (fun x => K (.exit 0) (L_toStepS_g0_x0 p x))) (dec_at L_toStepS_g0_hd) (fun p v K K1 => L_toStepS_g0_round k p v K K1)
def L_toStepS_args (a : List Step) : List Arg := [.one (.sl (.st .step) a)]
def L_toStepS_argD (l : List Arg) : Option (List Step) := match l with
  | [.one (.sl (.st .step) b0)] => some b0
  | _ => none
def L_toStepS_enc (r : List Step) : Out := (.own 0, [.arr none (.st .step) r])
def L_toStepS_dec (o : Out) : Option (List Step) := match o with
  | (.own 0, [.arr none (.st .step) z1]) => some z1
  | _ => none
def L_toStepS_G (k : Nat) : PG := fun _ l K => (L_toStepS_argD l).bind fun a => (L_toStepS k a).bind fun r => K (L_toStepS_enc r)
theorem L_toStepS_ev (k : Nat) (a : List Step) : ev (E_L_toStepS k) (LP_L_toStepS (List Step) k) 0 c_L_toStepS (st0 Try.f38 (L_toStepS_args a)) (fin Try.prog Try.f38 (.own (.st .step)) L_toStepS_dec) = L_toStepS k a := by kernel_rfl
theorem L_toStepS_ok (k : Nat) : PureOk Try.prog 38 (L_toStepS_G k) :=
  pureOk_of_ev (E_L_toStepS_ok k) Try.func38 (by kernel_rfl) (by kernel_rfl) L_toStepS_args L_toStepS_argD
    (fun l a h => by unfold L_toStepS_argD at h; split at h <;> first | (cases h; rfl) | cases h) (fun a => rfl) (lpgood_of (l := [(0, b_L_toStepS_0)]) (by kernel_rfl) ⟨L_toStepS_g0_ok k, trivial⟩)
    (fun o r h => by unfold L_toStepS_dec at h; split at h <;> first | (cases h; rfl) | cases h) (L_toStepS_ev k)
def o_L_toStepS (k : Nat) : Orc := pureOrc [.one (.sl (.st .step))] (L_toStepS_G k)
theorem o_L_toStepS_ok (k : Nat) : OrcOk Try.prog 38 (o_L_toStepS k) := pureOrc_ok (L_toStepS_ok k)
/-! ### 52 loop.example/g00778/spec.l01Same -/
noncomputable def E_S_l01Same (k : Nat) : Env := { P := Try.prog, tt := tt, orc := fun g => noOrc }
theorem E_S_l01Same_ok (k : Nat) : EnvOk (E_S_l01Same k) := fun g => (noOrc_ok _ _)
noncomputable def c_S_l01Same : Code := (Try.f52.body).getD .skip
noncomputable def b_S_l01Same_0 : Code := ((loopsIn 0 c_S_l01Same).getD 0 (0, .skip)).2
def S_l01Same_g0_keep : List Nat := [0, 1, 5]
def S_l01Same_g0_co : List (Where × Co) := []
def S_l01Same_g0_kx : Ex → List Nat
  | .exit j => cond (Nat.beq j 0) [] []
  | .ret => [4]
  | .normal => []
def S_l01Same_g0_cx : Ex → List (Where × Co)
  | .exit j => cond (Nat.beq j 0) [] []
  | .ret => []
  | .normal => []
def S_l01Same_g0_tm (pv : (List Int × List Int) × (Int)) : St := { slots := [(0, .r [] (.sl (.int .u8) pv.1.1)), (1, .r [] (.sl (.int .u8) pv.1.2)), (5, .r [] (.int .i64 pv.2))], heap := [], nid := 0, n := 26, gh := [] }
def S_l01Same_g0_dec (nf : NF) : Option ((List Int × List Int) × (Int)) := match nf with
  | ([.r [] (.sl (.int .u8) w0), .r [] (.sl (.int .u8) w1), .r [] (.int .i64 w2)], [], []) => some ((w0, w1), w2)
  | _ => none
theorem S_l01Same_g0_hd (nf : NF) (v : (List Int × List Int) × (Int)) (h : S_l01Same_g0_dec nf = some v) : denorm S_l01Same_g0_keep 26 nf = S_l01Same_g0_tm v := by
  unfold S_l01Same_g0_dec at h
  split at h
  · cases h; rfl
  · cases h
def S_l01Same_g0_x0 (p : List Int × List Int) (x : Unit) : St := { slots := [], heap := [], nid := 0, n := 26, gh := [] }
def S_l01Same_g0_xret (p : List Int × List Int) (x : Bool) : St := { slots := [(4, .r [] (.bool x))], heap := [], nid := 0, n := 26, gh := [] }
def LP_S_l01Same (ρ : Type) (k : Nat) : Nat → Ev ρ → Ev ρ := fun id f => cond (Nat.beq id 0) (loopOrc S_l01Same_g0_keep S_l01Same_g0_co (fun n nf => cond (Nat.beq n 26) (S_l01Same_g0_dec nf) none) fun pv K => iter (fun v next => S_l01Same_g0 k pv.1 v next (fun x => K (.exit 0) (S_l01Same_g0_x0 pv.1 x)) (fun x => K .ret (S_l01Same_g0_xret pv.1 x))) k pv.2) ((fun _ _ _ _ => none) id f)
theorem S_l01Same_g0_round {ρ : Type} (k : Nat) (p : List Int × List Int) (v : Int) (K K1 : Ex → St → Option ρ) : ev (E_S_l01Same k) (LP_S_l01Same ρ k) 0 b_S_l01Same_0 (S_l01Same_g0_tm (p, v)) (fun e st' => match e with
    | .normal => (normC S_l01Same_g0_keep S_l01Same_g0_co st').bind fun nf => K1 .normal (denorm S_l01Same_g0_keep st'.n nf)
    | e => (normC (S_l01Same_g0_kx e) (S_l01Same_g0_cx e) st').bind fun nf => K e (denorm (S_l01Same_g0_kx e) st'.n nf)) = S_l01Same_g0 k p v (fun v' => K1 .normal (S_l01Same_g0_tm (p, v'))) (fun x => K (.exit 0) (S_l01Same_g0_x0 p x)) (fun x => K .ret (S_l01Same_g0_xret p x)) := by kernel_rfl
theorem S_l01Same_g0_ok {ρ : Type} (k : Nat) : Sound Try.prog (.loop b_S_l01Same_0) (LP_S_l01Same ρ k 0 fun st K => ev (E_S_l01Same k) (LP_S_l01Same ρ k) 0 b_S_l01Same_0 st K) :=
  loop_ok (ev_sound (E_S_l01Same_ok k) b_S_l01Same_0 0 (lpgood_none (by kernel_rfl))) S_l01Same_g0_kx S_l01Same_g0_cx k (g := fun p v next K => S_l01Same_g0 k p v next (fun x => K (.exit 0) (S_l01Same_g0_x0 p x)) (fun x => K .ret (S_l01Same_g0_xret p x))) (dec_at S_l01Same_g0_hd) (fun p v K K1 => S_l01Same_g0_round k p v K K1)
def S_l01Same_args (a : List Int × List Int) : List Arg := [.one (.sl (.int .u8) a.1), .one (.sl (.int .u8) a.2)]
def S_l01Same_argD (l : List Arg) : Option (List Int × List Int) := match l with
  | [.one (.sl (.int .u8) b0), .one (.sl (.int .u8) b1)] => some (b0, b1)
  | _ => none
def S_l01Same_enc (r : Bool) : Out := (.r [] (.bool r), [])
def S_l01Same_dec (o : Out) : Option (Bool) := match o with
  | (.r [] (.bool z1), []) => some z1
  | _ => none
def S_l01Same_G (k : Nat) : PG := fun _ l K => (S_l01Same_argD l).bind fun a => (S_l01Same k a.1 a.2).bind fun r => K (S_l01Same_enc r)
theorem S_l01Same_ev (k : Nat) (a : List Int × List Int) : ev (E_S_l01Same k) (LP_S_l01Same (Bool) k) 0 c_S_l01Same (st0 Try.f52 (S_l01Same_args a)) (fin Try.prog Try.f52 (.sc) S_l01Same_dec) = S_l01Same k a.1 a.2 := by kernel_rfl
theorem S_l01Same_ok (k : Nat) : PureOk Try.prog 52 (S_l01Same_G k) :=
  pureOk_of_ev (E_S_l01Same_ok k) Try.func52 (by kernel_rfl) (by kernel_rfl) S_l01Same_args S_l01Same_argD
    (fun l a h => by unfold S_l01Same_argD at h; split at h <;> first | (cases h; rfl) | cases h) (fun a => rfl) (lpgood_of (l := [(0, b_S_l01Same_0)]) (by kernel_rfl) ⟨S_l01Same_g0_ok k, trivial⟩)
    (fun o r h => by unfold S_l01Same_dec at h; split at h <;> first | (cases h; rfl) | cases h) (S_l01Same_ev k)
def o_S_l01Same (k : Nat) : Orc := pureOrc [.one (.sl (.int .u8)), .one (.sl (.int .u8))] (S_l01Same_G k)
theorem o_S_l01Same_ok (k : Nat) : OrcOk Try.prog 52 (o_S_l01Same k) := pureOrc_ok (S_l01Same_ok k)
/-! ### 53 loop.example/g00778/spec.l03Same -/
noncomputable def E_S_l03Same (k : Nat) : Env := { P := Try.prog, tt := tt, orc := fun g => noOrc }
theorem E_S_l03Same_ok (k : Nat) : EnvOk (E_S_l03Same k) := fun g => (noOrc_ok _ _)
noncomputable def c_S_l03Same : Code := (Try.f53.body).getD .skip
noncomputable def b_S_l03Same_0 : Code := ((loopsIn 0 c_S_l03Same).getD 0 (0, .skip)).2
def S_l03Same_g0_keep : List Nat := [0, 1, 5]
def S_l03Same_g0_co : List (Where × Co) := []
def S_l03Same_g0_kx : Ex → List Nat
  | .exit j => cond (Nat.beq j 0) [] []
  | .ret => [4]
  | .normal => []
def S_l03Same_g0_cx : Ex → List (Where × Co)
  | .exit j => cond (Nat.beq j 0) [] []
  | .ret => []
  | .normal => []
def S_l03Same_g0_tm (pv : (List Int × List Int) × (Int)) : St := { slots := [(0, .r [] (.sl (.int .i64) pv.1.1)), (1, .r [] (.sl (.int .i64) pv.1.2)), (5, .r [] (.int .i64 pv.2))], heap := [], nid := 0, n := 26, gh := [] }
def S_l03Same_g0_dec (nf : NF) : Option ((List Int × List Int) × (Int)) := match nf with
  | ([.r [] (.sl (.int .i64) w0), .r [] (.sl (.int .i64) w1), .r [] (.int .i64 w2)], [], []) => some ((w0, w1), w2)
  | _ => none
theorem S_l03Same_g0_hd (nf : NF) (v : (List Int × List Int) × (Int)) (h : S_l03Same_g0_dec nf = some v) : denorm S_l03Same_g0_keep 26 nf = S_l03Same_g0_tm v := by
  unfold S_l03Same_g0_dec at h
  split at h
  · cases h; rfl
  · cases h
def S_l03Same_g0_x0 (p : List Int × List Int) (x : Unit) : St := { slots := [], heap := [], nid := 0, n := 26, gh := [] }
def S_l03Same_g0_xret (p : List Int × List Int) (x : Bool) : St := { slots := [(4, .r [] (.bool x))], heap := [], nid := 0, n := 26, gh := [] }
def LP_S_l03Same (ρ : Type) (k : Nat) : Nat → Ev ρ → Ev ρ := fun id f => cond (Nat.beq id 0) (loopOrc S_l03Same_g0_keep S_l03Same_g0_co (fun n nf => cond (Nat.beq n 26) (S_l03Same_g0_dec nf) none) fun pv K => iter (fun v next => S_l03Same_g0 k pv.1 v next (fun x => K (.exit 0) (S_l03Same_g0_x0 pv.1 x)) (fun x => K .ret (S_l03Same_g0_xret pv.1 x))) k pv.2) ((fun _ _ _ _ => none) id f)
theorem S_l03Same_g0_round {ρ : Type} (k : Nat) (p : List Int × List Int) (v : Int) (K K1 : Ex → St → Option ρ) : ev (E_S_l03Same k) (LP_S_l03Same ρ k) 0 b_S_l03Same_0 (S_l03Same_g0_tm (p, v)) (fun e st' => match e with
    | .normal => (normC S_l03Same_g0_keep S_l03Same_g0_co st').bind fun nf => K1 .normal (denorm S_l03Same_g0_keep st'.n nf)
    | e => (normC (S_l03Same_g0_kx e) (S_l03Same_g0_cx e) st').bind fun nf => K e (denorm (S_l03Same_g0_kx e) st'.n nf)) = S_l03Same_g0 k p v (fun v' => K1 .normal (S_l03Same_g0_tm (p, v'))) (fun x => K (.exit 0) (S_l03Same_g0_x0 p x)) (fun x => K .ret (S_l03Same_g0_xret p x)) := by kernel_rfl
theorem S_l03Same_g0_ok {ρ : Type} (k : Nat) : Sound Try.prog (.loop b_S_l03Same_0) (LP_S_l03Same ρ k 0 fun st K => ev (E_S_l03Same k) (LP_S_l03Same ρ k) 0 b_S_l03Same_0 st K) :=
  loop_ok (ev_sound (E_S_l03Same_ok k) b_S_l03Same_0 0 (lpgood_none (by kernel_rfl))) S_l03Same_g0_kx S_l03Same_g0_cx k (g := fun p v next K => S_l03Same_g0 k p v next (fun x => K (.exit 0) (S_l03Same_g0_x0 p x)) (fun x => K .ret (S_l03Same_g0_xret p x))) (dec_at S_l03Same_g0_hd) (fun p v K K1 => S_l03Same_g0_round k p v K K1)
def S_l03Same_args (a : List Int × List Int) : List Arg := [.one (.sl (.int .i64) a.1), .one (.sl (.int .i64) a.2)]
def S_l03Same_argD (l : List Arg) : Option (List Int × List Int) := match l with
  | [.one (.sl (.int .i64) b0), .one (.sl (.int .i64) b1)] => some (b0, b1)
  | _ => none
def S_l03Same_enc (r : Bool) : Out := (.r [] (.bool r), [])
def S_l03Same_dec (o : Out) : Option (Bool) := match o with
  | (.r [] (.bool z1), []) => some z1
  | _ => none
def S_l03Same_G (k : Nat) : PG := fun _ l K => (S_l03Same_argD l).bind fun a => (S_l03Same k a.1 a.2).bind fun r => K (S_l03Same_enc r)
theorem S_l03Same_ev (k : Nat) (a : List Int × List Int) : ev (E_S_l03Same k) (LP_S_l03Same (Bool) k) 0 c_S_l03Same (st0 Try.f53 (S_l03Same_args a)) (fin Try.prog Try.f53 (.sc) S_l03Same_dec) = S_l03Same k a.1 a.2 := by kernel_rfl
theorem S_l03Same_ok (k : Nat) : PureOk Try.prog 53 (S_l03Same_G k) :=
  pureOk_of_ev (E_S_l03Same_ok k) Try.func53 (by kernel_rfl) (by kernel_rfl) S_l03Same_args S_l03Same_argD
    (fun l a h => by unfold S_l03Same_argD at h; split at h <;> first | (cases h; rfl) | cases h) (fun a => rfl) (lpgood_of (l := [(0, b_S_l03Same_0)]) (by kernel_rfl) ⟨S_l03Same_g0_ok k, trivial⟩)
    (fun o r h => by unfold S_l03Same_dec at h; split at h <;> first | (cases h; rfl) | cases h) (S_l03Same_ev k)
def o_S_l03Same (k : Nat) : Orc := pureOrc [.one (.sl (.int .i64)), .one (.sl (.int .i64))] (S_l03Same_G k)
theorem o_S_l03Same_ok (k : Nat) : OrcOk Try.prog 53 (o_S_l03Same k) := pureOrc_ok (S_l03Same_ok k)
/-! ### 18 loop.example/g00778/spec.SameStep -/
noncomputable def E_S_SameStep (k : Nat) : Env := { P := Try.prog, tt := tt, orc := fun g => cond (Nat.beq g 52) (o_S_l01Same k) (cond (Nat.beq g 53) (o_S_l03Same k) (noOrc)) }
theorem E_S_SameStep_ok (k : Nat) : EnvOk (E_S_SameStep k) := fun g => (orc_cond (o_S_l01Same_ok k) (orc_cond (o_S_l03Same_ok k) (noOrc_ok _ _)))
noncomputable def c_S_SameStep : Code := (Try.f18.body).getD .skip
def LP_S_SameStep (ρ : Type) (k : Nat) : Nat → Ev ρ → Ev ρ := fun _ _ _ _ => none
def S_SameStep_args (a : Step × Step) : List Arg := [.agg [.int .i64 a.1.kind, .int .i64 a.1.a, .int .i64 a.1.b, .sl (.int .u8) a.1.data, .int .i64 a.1.input.sh.h, .int .i64 a.1.input.sh.w, .int .i64 a.1.input.sh.c, .sl (.int .i64) a.1.input.data], .agg [.int .i64 a.2.kind, .int .i64 a.2.a, .int .i64 a.2.b, .sl (.int .u8) a.2.data, .int .i64 a.2.input.sh.h, .int .i64 a.2.input.sh.w, .int .i64 a.2.input.sh.c, .sl (.int .i64) a.2.input.data]]
def S_SameStep_argD (l : List Arg) : Option (Step × Step) := match l with
  | [.agg [.int .i64 b0_0, .int .i64 b0_1, .int .i64 b0_2, .sl (.int .u8) b0_3, .int .i64 b0_4, .int .i64 b0_5, .int .i64 b0_6, .sl (.int .i64) b0_7], .agg [.int .i64 b1_0, .int .i64 b1_1, .int .i64 b1_2, .sl (.int .u8) b1_3, .int .i64 b1_4, .int .i64 b1_5, .int .i64 b1_6, .sl (.int .i64) b1_7]] => some ((⟨b0_0, b0_1, b0_2, b0_3, (⟨(⟨b0_4, b0_5, b0_6⟩ : Shape), b0_7⟩ : Tensor)⟩ : Step), (⟨b1_0, b1_1, b1_2, b1_3, (⟨(⟨b1_4, b1_5, b1_6⟩ : Shape), b1_7⟩ : Tensor)⟩ : Step))
  | _ => none
def S_SameStep_enc (r : Bool) : Out := (.r [] (.bool r), [])
def S_SameStep_dec (o : Out) : Option (Bool) := match o with
  | (.r [] (.bool z1), []) => some z1
  | _ => none
def S_SameStep_G (k : Nat) : PG := fun _ l K => (S_SameStep_argD l).bind fun a => (S_SameStep k a.1 a.2).bind fun r => K (S_SameStep_enc r)
theorem S_SameStep_ev (k : Nat) (a : Step × Step) : ev (E_S_SameStep k) (LP_S_SameStep (Bool) k) 0 c_S_SameStep (st0 Try.f18 (S_SameStep_args a)) (fin Try.prog Try.f18 (.sc) S_SameStep_dec) = S_SameStep k a.1 a.2 := by kernel_rfl
theorem S_SameStep_ok (k : Nat) : PureOk Try.prog 18 (S_SameStep_G k) :=
  pureOk_of_ev (E_S_SameStep_ok k) Try.func18 (by kernel_rfl) (by kernel_rfl) S_SameStep_args S_SameStep_argD
    (fun l a h => by unfold S_SameStep_argD at h; split at h <;> first | (cases h; rfl) | cases h) (fun a => rfl) (lpgood_none (by kernel_rfl))
    (fun o r h => by unfold S_SameStep_dec at h; split at h <;> first | (cases h; rfl) | cases h) (S_SameStep_ev k)
def o_S_SameStep (k : Nat) : Orc := pureOrc [.agg [(.int .i64), (.int .i64), (.int .i64), (.sl (.int .u8)), (.int .i64), (.int .i64), (.int .i64), (.sl (.int .i64))], .agg [(.int .i64), (.int .i64), (.int .i64), (.sl (.int .u8)), (.int .i64), (.int .i64), (.int .i64), (.sl (.int .i64))]] (S_SameStep_G k)
theorem o_S_SameStep_ok (k : Nat) : OrcOk Try.prog 18 (o_S_SameStep k) := pureOrc_ok (S_SameStep_ok k)
/-! ### 37 loop.example/g00778/spec.FirstOther -/
noncomputable def E_S_FirstOther (k : Nat) : Env := { P := Try.prog, tt := tt, orc := fun g => cond (Nat.beq g 18) (o_S_SameStep k) (noOrc) }
theorem E_S_FirstOther_ok (k : Nat) : EnvOk (E_S_FirstOther k) := fun g => (orc_cond (o_S_SameStep_ok k) (noOrc_ok _ _))
noncomputable def c_S_FirstOther : Code := (Try.f37.body).getD .skip
noncomputable def b_S_FirstOther_0 : Code := ((loopsIn 0 c_S_FirstOther).getD 0 (0, .skip)).2
def S_FirstOther_g0_keep : List Nat := [0, 1, 5]
def S_FirstOther_g0_co : List (Where × Co) := []
def S_FirstOther_g0_kx : Ex → List Nat
  | .exit j => cond (Nat.beq j 0) [0, 1] []
  | .ret => [4]
  | .normal => []
def S_FirstOther_g0_cx : Ex → List (Where × Co)
  | .exit j => cond (Nat.beq j 0) [] []
  | .ret => []
  | .normal => []
def S_FirstOther_g0_tm (pv : (List Step × List Step) × (Int)) : St := { slots := [(0, .r [] (.sl (.st .step) pv.1.1)), (1, .r [] (.sl (.st .step) pv.1.2)), (5, .r [] (.int .i64 pv.2))], heap := [], nid := 0, n := 43, gh := [] }
def S_FirstOther_g0_dec (nf : NF) : Option ((List Step × List Step) × (Int)) := match nf with
  | ([.r [] (.sl (.st .step) w0), .r [] (.sl (.st .step) w1), .r [] (.int .i64 w2)], [], []) => some ((w0, w1), w2)
  | _ => none
theorem S_FirstOther_g0_hd (nf : NF) (v : (List Step × List Step) × (Int)) (h : S_FirstOther_g0_dec nf = some v) : denorm S_FirstOther_g0_keep 43 nf = S_FirstOther_g0_tm v := by
  unfold S_FirstOther_g0_dec at h
  split at h
  · cases h; rfl
  · cases h
def S_FirstOther_g0_x0 (p : List Step × List Step) (x : Unit) : St := { slots := [(0, .r [] (.sl (.st .step) p.1)), (1, .r [] (.sl (.st .step) p.2))], heap := [], nid := 0, n := 43, gh := [] }
def S_FirstOther_g0_xret (p : List Step × List Step) (x : Int) : St := { slots := [(4, .r [] (.int .i64 x))], heap := [], nid := 0, n := 43, gh := [] }
def LP_S_FirstOther (ρ : Type) (k : Nat) : Nat → Ev ρ → Ev ρ := fun id f => cond (Nat.beq id 0) (loopOrc S_FirstOther_g0_keep S_FirstOther_g0_co (fun n nf => cond (Nat.beq n 43) (S_FirstOther_g0_dec nf) none) fun pv K => iter (fun v next => S_FirstOther_g0 k pv.1 v next (fun x => K (.exit 0) (S_FirstOther_g0_x0 pv.1 x)) (fun x => K .ret (S_FirstOther_g0_xret pv.1 x))) k pv.2) ((fun _ _ _ _ => none) id f)
theorem S_FirstOther_g0_round {ρ : Type} (k : Nat) (p : List Step × List Step) (v : Int) (K K1 : Ex → St → Option ρ) : ev (E_S_FirstOther k) (LP_S_FirstOther ρ k) 0 b_S_FirstOther_0 (S_FirstOther_g0_tm (p, v)) (fun e st' => match e with
    | .normal => (normC S_FirstOther_g0_keep S_FirstOther_g0_co st').bind fun nf => K1 .normal (denorm S_FirstOther_g0_keep st'.n nf)
    | e => (normC (S_FirstOther_g0_kx e) (S_FirstOther_g0_cx e) st').bind fun nf => K e (denorm (S_FirstOther_g0_kx e) st'.n nf)) = S_FirstOther_g0 k p v (fun v' => K1 .normal (S_FirstOther_g0_tm (p, v'))) (fun x => K (.exit 0) (S_FirstOther_g0_x0 p x)) (fun x => K .ret (S_FirstOther_g0_xret p x)) := by kernel_rfl
theorem S_FirstOther_g0_ok {ρ : Type} (k : Nat) : Sound Try.prog (.loop b_S_FirstOther_0) (LP_S_FirstOther ρ k 0 fun st K => ev (E_S_FirstOther k) (LP_S_FirstOther ρ k) 0 b_S_FirstOther_0 st K) :=
  loop_ok (ev_sound (E_S_FirstOther_ok k) b_S_FirstOther_0 0 (lpgood_none (by kernel_rfl))) S_FirstOther_g0_kx S_FirstOther_g0_cx k (g := fun p v next K => S_FirstOther_g0 k p v next (fun x => K (.exit 0) (S_FirstOther_g0_x0 p x)) (fun x => K .ret (S_FirstOther_g0_xret p x))) (dec_at S_FirstOther_g0_hd) (fun p v K K1 => S_FirstOther_g0_round k p v K K1)
def S_FirstOther_args (a : List Step × List Step) : List Arg := [.one (.sl (.st .step) a.1), .one (.sl (.st .step) a.2)]
def S_FirstOther_argD (l : List Arg) : Option (List Step × List Step) := match l with
  | [.one (.sl (.st .step) b0), .one (.sl (.st .step) b1)] => some (b0, b1)
  | _ => none
def S_FirstOther_enc (r : Int) : Out := (.r [] (.int .i64 r), [])
def S_FirstOther_dec (o : Out) : Option (Int) := match o with
  | (.r [] (.int .i64 z1), []) => some z1
  | _ => none
def S_FirstOther_G (k : Nat) : PG := fun _ l K => (S_FirstOther_argD l).bind fun a => (S_FirstOther k a.1 a.2).bind fun r => K (S_FirstOther_enc r)
theorem S_FirstOther_ev (k : Nat) (a : List Step × List Step) : ev (E_S_FirstOther k) (LP_S_FirstOther (Int) k) 0 c_S_FirstOther (st0 Try.f37 (S_FirstOther_args a)) (fin Try.prog Try.f37 (.sc) S_FirstOther_dec) = S_FirstOther k a.1 a.2 := by kernel_rfl
theorem S_FirstOther_ok (k : Nat) : PureOk Try.prog 37 (S_FirstOther_G k) :=
  pureOk_of_ev (E_S_FirstOther_ok k) Try.func37 (by kernel_rfl) (by kernel_rfl) S_FirstOther_args S_FirstOther_argD
    (fun l a h => by unfold S_FirstOther_argD at h; split at h <;> first | (cases h; rfl) | cases h) (fun a => rfl) (lpgood_of (l := [(0, b_S_FirstOther_0)]) (by kernel_rfl) ⟨S_FirstOther_g0_ok k, trivial⟩)
    (fun o r h => by unfold S_FirstOther_dec at h; split at h <;> first | (cases h; rfl) | cases h) (S_FirstOther_ev k)
def o_S_FirstOther (k : Nat) : Orc := pureOrc [.one (.sl (.st .step)), .one (.sl (.st .step))] (S_FirstOther_G k)
theorem o_S_FirstOther_ok (k : Nat) : OrcOk Try.prog 37 (o_S_FirstOther k) := pureOrc_ok (S_FirstOther_ok k)
/-! ### 55 bytes.Equal -/
noncomputable def E_bytes_Equal (k : Nat) : Env := { P := Try.prog, tt := tt, orc := fun g => noOrc }
theorem E_bytes_Equal_ok (k : Nat) : EnvOk (E_bytes_Equal k) := fun g => (noOrc_ok _ _)
noncomputable def c_bytes_Equal : Code := (Try.f55.body).getD .skip
def LP_bytes_Equal (ρ : Type) (k : Nat) : Nat → Ev ρ → Ev ρ := fun _ _ _ _ => none
def bytes_Equal_args (a : List Int × List Int) : List Arg := [.one (.sl (.int .u8) a.1), .one (.sl (.int .u8) a.2)]
def bytes_Equal_argD (l : List Arg) : Option (List Int × List Int) := match l with
  | [.one (.sl (.int .u8) b0), .one (.sl (.int .u8) b1)] => some (b0, b1)
  | _ => none
def bytes_Equal_enc (r : Bool) : Out := (.r [] (.bool r), [])
def bytes_Equal_dec (o : Out) : Option (Bool) := match o with
  | (.r [] (.bool z1), []) => some z1
  | _ => none
def bytes_Equal_G (k : Nat) : PG := fun _ l K => (bytes_Equal_argD l).bind fun a => (bytes_Equal k a.1 a.2).bind fun r => K (bytes_Equal_enc r)
theorem bytes_Equal_ev (k : Nat) (a : List Int × List Int) : ev (E_bytes_Equal k) (LP_bytes_Equal (Bool) k) 0 c_bytes_Equal (st0 Try.f55 (bytes_Equal_args a)) (fin Try.prog Try.f55 (.sc) bytes_Equal_dec) = bytes_Equal k a.1 a.2 := by kernel_rfl
theorem bytes_Equal_ok (k : Nat) : PureOk Try.prog 55 (bytes_Equal_G k) :=
  pureOk_of_ev (E_bytes_Equal_ok k) Try.func55 (by kernel_rfl) (by kernel_rfl) bytes_Equal_args bytes_Equal_argD
    (fun l a h => by unfold bytes_Equal_argD at h; split at h <;> first | (cases h; rfl) | cases h) (fun a => rfl) (lpgood_none (by kernel_rfl))
    (fun o r h => by unfold bytes_Equal_dec at h; split at h <;> first | (cases h; rfl) | cases h) (bytes_Equal_ev k)
def o_bytes_Equal (k : Nat) : Orc := pureOrc [.one (.sl (.int .u8)), .one (.sl (.int .u8))] (bytes_Equal_G k)
theorem o_bytes_Equal_ok (k : Nat) : OrcOk Try.prog 55 (o_bytes_Equal k) := pureOrc_ok (bytes_Equal_ok k)
/-! ### 67 slices.Equal[[]int,int] -/
noncomputable def E_slices_Equal_lint_int (k : Nat) : Env := { P := Try.prog, tt := tt, orc := fun g => noOrc }
theorem E_slices_Equal_lint_int_ok (k : Nat) : EnvOk (E_slices_Equal_lint_int k) := fun g => (noOrc_ok _ _)
noncomputable def c_slices_Equal_lint_int : Code := (Try.f67.body).getD .skip
noncomputable def b_slices_Equal_lint_int_0 : Code := ((loopsIn 0 c_slices_Equal_lint_int).getD 0 (0, .skip)).2
def slices_Equal_lint_int_g0_keep : List Nat := [0, 1, 12, 13]
def slices_Equal_lint_int_g0_co : List (Where × Co) := []
def slices_Equal_lint_int_g0_kx : Ex → List Nat
  | .exit j => cond (Nat.beq j 0) [] []
  | .ret => [4]
  | .normal => []
def slices_Equal_lint_int_g0_cx : Ex → List (Where × Co)
  | .exit j => cond (Nat.beq j 0) [] []
  | .ret => []
  | .normal => []
def slices_Equal_lint_int_g0_tm (pv : (List Int × List Int × Int) × (Int)) : St := { slots := [(0, .r [] (.sl (.int .i64) pv.1.1)), (1, .r [] (.sl (.int .i64) pv.1.2.1)), (12, .r [] (.int .i64 pv.1.2.2)), (13, .r [] (.int .i64 pv.2))], heap := [], nid := 0, n := 26, gh := [] }
def slices_Equal_lint_int_g0_dec (nf : NF) : Option ((List Int × List Int × Int) × (Int)) := match nf with
  | ([.r [] (.sl (.int .i64) w0), .r [] (.sl (.int .i64) w1), .r [] (.int .i64 w2), .r [] (.int .i64 w3)], [], []) => some ((w0, w1, w2), w3)
  | _ => none
theorem slices_Equal_lint_int_g0_hd (nf : NF) (v : (List Int × List Int × Int) × (Int)) (h : slices_Equal_lint_int_g0_dec nf = some v) : denorm slices_Equal_lint_int_g0_keep 26 nf = slices_Equal_lint_int_g0_tm v := by
  unfold slices_Equal_lint_int_g0_dec at h
  split at h
  · cases h; rfl
  · cases h
def slices_Equal_lint_int_g0_x0 (p : List Int × List Int × Int) (x : Unit) : St := { slots := [], heap := [], nid := 0, n := 26, gh := [] }
def slices_Equal_lint_int_g0_xret (p : List Int × List Int × Int) (x : Bool) : St := { slots := [(4, .r [] (.bool x))], heap := [], nid := 0, n := 26, gh := [] }
def LP_slices_Equal_lint_int (ρ : Type) (k : Nat) : Nat → Ev ρ → Ev ρ := fun id f => cond (Nat.beq id 0) (loopOrc slices_Equal_lint_int_g0_keep slices_Equal_lint_int_g0_co (fun n nf => cond (Nat.beq n 26) (slices_Equal_lint_int_g0_dec nf) none) fun pv K => iter (fun v next => slices_Equal_lint_int_g0 k pv.1 v next (fun x => K (.exit 0) (slices_Equal_lint_int_g0_x0 pv.1 x)) (fun x => K .ret (slices_Equal_lint_int_g0_xret pv.1 x))) k pv.2) ((fun _ _ _ _ => none) id f)
theorem slices_Equal_lint_int_g0_round {ρ : Type} (k : Nat) (p : List Int × List Int × Int) (v : Int) (K K1 : Ex → St → Option ρ) : ev (E_slices_Equal_lint_int k) (LP_slices_Equal_lint_int ρ k) 0 b_slices_Equal_lint_int_0 (slices_Equal_lint_int_g0_tm (p, v)) (fun e st' => match e with
    | .normal => (normC slices_Equal_lint_int_g0_keep slices_Equal_lint_int_g0_co st').bind fun nf => K1 .normal (denorm slices_Equal_lint_int_g0_keep st'.n nf)
    | e => (normC (slices_Equal_lint_int_g0_kx e) (slices_Equal_lint_int_g0_cx e) st').bind fun nf => K e (denorm (slices_Equal_lint_int_g0_kx e) st'.n nf)) = slices_Equal_lint_int_g0 k p v (fun v' => K1 .normal (slices_Equal_lint_int_g0_tm (p, v'))) (fun x => K (.exit 0) (slices_Equal_lint_int_g0_x0 p x)) (fun x => K .ret (slices_Equal_lint_int_g0_xret p x)) := by kernel_rfl
theorem slices_Equal_lint_int_g0_ok {ρ : Type} (k : Nat) : Sound Try.prog (.loop b_slices_Equal_lint_int_0) (LP_slices_Equal_lint_int ρ k 0 fun st K => ev (E_slices_Equal_lint_int k) (LP_slices_Equal_lint_int ρ k) 0 b_slices_Equal_lint_int_0 st K) :=
  loop_ok (ev_sound (E_slices_Equal_lint_int_ok k) b_slices_Equal_lint_int_0 0 (lpgood_none (by kernel_rfl))) slices_Equal_lint_int_g0_kx slices_Equal_lint_int_g0_cx k (g := fun p v next K => slices_Equal_lint_int_g0 k p v next (fun x => K (.exit 0) (slices_Equal_lint_int_g0_x0 p x)) (fun x => K .ret (slices_Equal_lint_int_g0_xret p x))) (dec_at slices_Equal_lint_int_g0_hd) (fun p v K K1 => slices_Equal_lint_int_g0_round k p v K K1)
def slices_Equal_lint_int_args (a : List Int × List Int) : List Arg := [.one (.sl (.int .i64) a.1), .one (.sl (.int .i64) a.2)]
def slices_Equal_lint_int_argD (l : List Arg) : Option (List Int × List Int) := match l with
  | [.one (.sl (.int .i64) b0), .one (.sl (.int .i64) b1)] => some (b0, b1)
  | _ => none
def slices_Equal_lint_int_enc (r : Bool) : Out := (.r [] (.bool r), [])
def slices_Equal_lint_int_dec (o : Out) : Option (Bool) := match o with
  | (.r [] (.bool z1), []) => some z1
  | _ => none
def slices_Equal_lint_int_G (k : Nat) : PG := fun _ l K => (slices_Equal_lint_int_argD l).bind fun a => (slices_Equal_lint_int k a.1 a.2).bind fun r => K (slices_Equal_lint_int_enc r)
theorem slices_Equal_lint_int_ev (k : Nat) (a : List Int × List Int) : ev (E_slices_Equal_lint_int k) (LP_slices_Equal_lint_int (Bool) k) 0 c_slices_Equal_lint_int (st0 Try.f67 (slices_Equal_lint_int_args a)) (fin Try.prog Try.f67 (.sc) slices_Equal_lint_int_dec) = slices_Equal_lint_int k a.1 a.2 := by kernel_rfl
theorem slices_Equal_lint_int_ok (k : Nat) : PureOk Try.prog 67 (slices_Equal_lint_int_G k) :=
  pureOk_of_ev (E_slices_Equal_lint_int_ok k) Try.func67 (by kernel_rfl) (by kernel_rfl) slices_Equal_lint_int_args slices_Equal_lint_int_argD
    (fun l a h => by unfold slices_Equal_lint_int_argD at h; split at h <;> first | (cases h; rfl) | cases h) (fun a => rfl) (lpgood_of (l := [(0, b_slices_Equal_lint_int_0)]) (by kernel_rfl) ⟨slices_Equal_lint_int_g0_ok k, trivial⟩)
    (fun o r h => by unfold slices_Equal_lint_int_dec at h; split at h <;> first | (cases h; rfl) | cases h) (slices_Equal_lint_int_ev k)
def o_slices_Equal_lint_int (k : Nat) : Orc := pureOrc [.one (.sl (.int .i64)), .one (.sl (.int .i64))] (slices_Equal_lint_int_G k)
theorem o_slices_Equal_lint_int_ok (k : Nat) : OrcOk Try.prog 67 (o_slices_Equal_lint_int k) := pureOrc_ok (slices_Equal_lint_int_ok k)
/-! ### 56 (loop.example/g00778/impl.Tensor).same -/
noncomputable def E_I_Tensor_same (k : Nat) : Env := { P := Try.prog, tt := tt, orc := fun g => cond (Nat.beq g 67) (o_slices_Equal_lint_int k) (noOrc) }
theorem E_I_Tensor_same_ok (k : Nat) : EnvOk (E_I_Tensor_same k) := fun g => (orc_cond (o_slices_Equal_lint_int_ok k) (noOrc_ok _ _))
noncomputable def c_I_Tensor_same : Code := (Try.f56.body).getD .skip
def LP_I_Tensor_same (ρ : Type) (k : Nat) : Nat → Ev ρ → Ev ρ := fun _ _ _ _ => none
def I_Tensor_same_args (a : Tensor × Tensor) : List Arg := [.agg [.int .i64 a.1.sh.h, .int .i64 a.1.sh.w, .int .i64 a.1.sh.c, .sl (.int .i64) a.1.data], .agg [.int .i64 a.2.sh.h, .int .i64 a.2.sh.w, .int .i64 a.2.sh.c, .sl (.int .i64) a.2.data]]
def I_Tensor_same_argD (l : List Arg) : Option (Tensor × Tensor) := match l with
  | [.agg [.int .i64 b0_0, .int .i64 b0_1, .int .i64 b0_2, .sl (.int .i64) b0_3], .agg [.int .i64 b1_0, .int .i64 b1_1, .int .i64 b1_2, .sl (.int .i64) b1_3]] => some ((⟨(⟨b0_0, b0_1, b0_2⟩ : Shape), b0_3⟩ : Tensor), (⟨(⟨b1_0, b1_1, b1_2⟩ : Shape), b1_3⟩ : Tensor))
  | _ => none
def I_Tensor_same_enc (r : Bool) : Out := (.r [] (.bool r), [])
def I_Tensor_same_dec (o : Out) : Option (Bool) := match o with
  | (.r [] (.bool z1), []) => some z1
  | _ => none
def I_Tensor_same_G (k : Nat) : PG := fun _ l K => (I_Tensor_same_argD l).bind fun a => (I_Tensor_same k a.1 a.2).bind fun r => K (I_Tensor_same_enc r)
theorem I_Tensor_same_ev (k : Nat) (a : Tensor × Tensor) : ev (E_I_Tensor_same k) (LP_I_Tensor_same (Bool) k) 0 c_I_Tensor_same (st0 Try.f56 (I_Tensor_same_args a)) (fin Try.prog Try.f56 (.sc) I_Tensor_same_dec) = I_Tensor_same k a.1 a.2 := by kernel_rfl
theorem I_Tensor_same_ok (k : Nat) : PureOk Try.prog 56 (I_Tensor_same_G k) :=
  pureOk_of_ev (E_I_Tensor_same_ok k) Try.func56 (by kernel_rfl) (by kernel_rfl) I_Tensor_same_args I_Tensor_same_argD
    (fun l a h => by unfold I_Tensor_same_argD at h; split at h <;> first | (cases h; rfl) | cases h) (fun a => rfl) (lpgood_none (by kernel_rfl))
    (fun o r h => by unfold I_Tensor_same_dec at h; split at h <;> first | (cases h; rfl) | cases h) (I_Tensor_same_ev k)
def o_I_Tensor_same (k : Nat) : Orc := pureOrc [.agg [(.int .i64), (.int .i64), (.int .i64), (.sl (.int .i64))], .agg [(.int .i64), (.int .i64), (.int .i64), (.sl (.int .i64))]] (I_Tensor_same_G k)
theorem o_I_Tensor_same_ok (k : Nat) : OrcOk Try.prog 56 (o_I_Tensor_same k) := pureOrc_ok (I_Tensor_same_ok k)
/-! ### 20 loop.example/g00778/impl.SameStep -/
noncomputable def E_I_SameStep (k : Nat) : Env := { P := Try.prog, tt := tt, orc := fun g => cond (Nat.beq g 55) (o_bytes_Equal k) (cond (Nat.beq g 56) (o_I_Tensor_same k) (noOrc)) }
theorem E_I_SameStep_ok (k : Nat) : EnvOk (E_I_SameStep k) := fun g => (orc_cond (o_bytes_Equal_ok k) (orc_cond (o_I_Tensor_same_ok k) (noOrc_ok _ _)))
noncomputable def c_I_SameStep : Code := (Try.f20.body).getD .skip
def LP_I_SameStep (ρ : Type) (k : Nat) : Nat → Ev ρ → Ev ρ := fun _ _ _ _ => none
def I_SameStep_args (a : Step × Step) : List Arg := [.agg [.int .i64 a.1.kind, .int .i64 a.1.a, .int .i64 a.1.b, .sl (.int .u8) a.1.data, .int .i64 a.1.input.sh.h, .int .i64 a.1.input.sh.w, .int .i64 a.1.input.sh.c, .sl (.int .i64) a.1.input.data], .agg [.int .i64 a.2.kind, .int .i64 a.2.a, .int .i64 a.2.b, .sl (.int .u8) a.2.data, .int .i64 a.2.input.sh.h, .int .i64 a.2.input.sh.w, .int .i64 a.2.input.sh.c, .sl (.int .i64) a.2.input.data]]
def I_SameStep_argD (l : List Arg) : Option (Step × Step) := match l with
  | [.agg [.int .i64 b0_0, .int .i64 b0_1, .int .i64 b0_2, .sl (.int .u8) b0_3, .int .i64 b0_4, .int .i64 b0_5, .int .i64 b0_6, .sl (.int .i64) b0_7], .agg [.int .i64 b1_0, .int .i64 b1_1, .int .i64 b1_2, .sl (.int .u8) b1_3, .int .i64 b1_4, .int .i64 b1_5, .int .i64 b1_6, .sl (.int .i64) b1_7]] => some ((⟨b0_0, b0_1, b0_2, b0_3, (⟨(⟨b0_4, b0_5, b0_6⟩ : Shape), b0_7⟩ : Tensor)⟩ : Step), (⟨b1_0, b1_1, b1_2, b1_3, (⟨(⟨b1_4, b1_5, b1_6⟩ : Shape), b1_7⟩ : Tensor)⟩ : Step))
  | _ => none
def I_SameStep_enc (r : Bool) : Out := (.r [] (.bool r), [])
def I_SameStep_dec (o : Out) : Option (Bool) := match o with
  | (.r [] (.bool z1), []) => some z1
  | _ => none
def I_SameStep_G (k : Nat) : PG := fun _ l K => (I_SameStep_argD l).bind fun a => (I_SameStep k a.1 a.2).bind fun r => K (I_SameStep_enc r)
theorem I_SameStep_ev (k : Nat) (a : Step × Step) : ev (E_I_SameStep k) (LP_I_SameStep (Bool) k) 0 c_I_SameStep (st0 Try.f20 (I_SameStep_args a)) (fin Try.prog Try.f20 (.sc) I_SameStep_dec) = I_SameStep k a.1 a.2 := by kernel_rfl
theorem I_SameStep_ok (k : Nat) : PureOk Try.prog 20 (I_SameStep_G k) :=
  pureOk_of_ev (E_I_SameStep_ok k) Try.func20 (by kernel_rfl) (by kernel_rfl) I_SameStep_args I_SameStep_argD
    (fun l a h => by unfold I_SameStep_argD at h; split at h <;> first | (cases h; rfl) | cases h) (fun a => rfl) (lpgood_none (by kernel_rfl))
    (fun o r h => by unfold I_SameStep_dec at h; split at h <;> first | (cases h; rfl) | cases h) (I_SameStep_ev k)
def o_I_SameStep (k : Nat) : Orc := pureOrc [.agg [(.int .i64), (.int .i64), (.int .i64), (.sl (.int .u8)), (.int .i64), (.int .i64), (.int .i64), (.sl (.int .i64))], .agg [(.int .i64), (.int .i64), (.int .i64), (.sl (.int .u8)), (.int .i64), (.int .i64), (.int .i64), (.sl (.int .i64))]] (I_SameStep_G k)
theorem o_I_SameStep_ok (k : Nat) : OrcOk Try.prog 20 (o_I_SameStep k) := pureOrc_ok (I_SameStep_ok k)
/-! ### 39 loop.example/g00778/impl.FirstOther -/
noncomputable def E_I_FirstOther (k : Nat) : Env := { P := Try.prog, tt := tt, orc := fun g => cond (Nat.beq g 20) (o_I_SameStep k) (noOrc) }
theorem E_I_FirstOther_ok (k : Nat) : EnvOk (E_I_FirstOther k) := fun g => (orc_cond (o_I_SameStep_ok k) (noOrc_ok _ _))
noncomputable def c_I_FirstOther : Code := (Try.f39.body).getD .skip
noncomputable def b_I_FirstOther_0 : Code := ((loopsIn 0 c_I_FirstOther).getD 0 (0, .skip)).2
def I_FirstOther_g0_keep : List Nat := [0, 1, 5, 12, 13]
def I_FirstOther_g0_co : List (Where × Co) := []
def I_FirstOther_g0_kx : Ex → List Nat
  | .exit j => cond (Nat.beq j 0) [0, 1, 5] []
  | .ret => [4]
  | .normal => []
def I_FirstOther_g0_cx : Ex → List (Where × Co)
  | .exit j => cond (Nat.beq j 0) [] []
  | .ret => []
  | .normal => []
def I_FirstOther_g0_tm (pv : (List Step × List Step × Int × Int) × (Int)) : St := { slots := [(0, .r [] (.sl (.st .step) pv.1.1)), (1, .r [] (.sl (.st .step) pv.1.2.1)), (5, .r [] (.int .i64 pv.1.2.2.1)), (12, .r [] (.int .i64 pv.1.2.2.2)), (13, .r [] (.int .i64 pv.2))], heap := [], nid := 0, n := 34, gh := [] }
def I_FirstOther_g0_dec (nf : NF) : Option ((List Step × List Step × Int × Int) × (Int)) := match nf with
  | ([.r [] (.sl (.st .step) w0), .r [] (.sl (.st .step) w1), .r [] (.int .i64 w2), .r [] (.int .i64 w3), .r [] (.int .i64 w4)], [], []) => some ((w0, w1, w2, w3), w4)
  | _ => none
theorem I_FirstOther_g0_hd (nf : NF) (v : (List Step × List Step × Int × Int) × (Int)) (h : I_FirstOther_g0_dec nf = some v) : denorm I_FirstOther_g0_keep 34 nf = I_FirstOther_g0_tm v := by
  unfold I_FirstOther_g0_dec at h
  split at h
  · cases h; rfl
  · cases h
def I_FirstOther_g0_x0 (p : List Step × List Step × Int × Int) (x : Unit) : St := { slots := [(0, .r [] (.sl (.st .step) p.1)), (1, .r [] (.sl (.st .step) p.2.1)), (5, .r [] (.int .i64 p.2.2.1))], heap := [], nid := 0, n := 34, gh := [] }
def I_FirstOther_g0_xret (p : List Step × List Step × Int × Int) (x : Int) : St := { slots := [(4, .r [] (.int .i64 x))], heap := [], nid := 0, n := 34, gh := [] }
def LP_I_FirstOther (ρ : Type) (k : Nat) : Nat → Ev ρ → Ev ρ := fun id f => cond (Nat.beq id 0) (loopOrc I_FirstOther_g0_keep I_FirstOther_g0_co (fun n nf => cond (Nat.beq n 34) (I_FirstOther_g0_dec nf) none) fun pv K => iter (fun v next => I_FirstOther_g0 k pv.1 v next (fun x => K (.exit 0) (I_FirstOther_g0_x0 pv.1 x)) (fun x => K .ret (I_FirstOther_g0_xret pv.1 x))) k pv.2) ((fun _ _ _ _ => none) id f)
theorem I_FirstOther_g0_round {ρ : Type} (k : Nat) (p : List Step × List Step × Int × Int) (v : Int) (K K1 : Ex → St → Option ρ) : ev (E_I_FirstOther k) (LP_I_FirstOther ρ k) 0 b_I_FirstOther_0 (I_FirstOther_g0_tm (p, v)) (fun e st' => match e with
    | .normal => (normC I_FirstOther_g0_keep I_FirstOther_g0_co st').bind fun nf => K1 .normal (denorm I_FirstOther_g0_keep st'.n nf)
    | e => (normC (I_FirstOther_g0_kx e) (I_FirstOther_g0_cx e) st').bind fun nf => K e (denorm (I_FirstOther_g0_kx e) st'.n nf)) = I_FirstOther_g0 k p v (fun v' => K1 .normal (I_FirstOther_g0_tm (p, v'))) (fun x => K (.exit 0) (I_FirstOther_g0_x0 p x)) (fun x => K .ret (I_FirstOther_g0_xret p x)) := by kernel_rfl
theorem I_FirstOther_g0_ok {ρ : Type} (k : Nat) : Sound Try.prog (.loop b_I_FirstOther_0) (LP_I_FirstOther ρ k 0 fun st K => ev (E_I_FirstOther k) (LP_I_FirstOther ρ k) 0 b_I_FirstOther_0 st K) :=
  loop_ok (ev_sound (E_I_FirstOther_ok k) b_I_FirstOther_0 0 (lpgood_none (by kernel_rfl))) I_FirstOther_g0_kx I_FirstOther_g0_cx k (g := fun p v next K => I_FirstOther_g0 k p v next (fun x => K (.exit 0) (I_FirstOther_g0_x0 p x)) (fun x => K .ret (I_FirstOther_g0_xret p x))) (dec_at I_FirstOther_g0_hd) (fun p v K K1 => I_FirstOther_g0_round k p v K K1)
def I_FirstOther_args (a : List Step × List Step) : List Arg := [.one (.sl (.st .step) a.1), .one (.sl (.st .step) a.2)]
def I_FirstOther_argD (l : List Arg) : Option (List Step × List Step) := match l with
  | [.one (.sl (.st .step) b0), .one (.sl (.st .step) b1)] => some (b0, b1)
  | _ => none
def I_FirstOther_enc (r : Int) : Out := (.r [] (.int .i64 r), [])
def I_FirstOther_dec (o : Out) : Option (Int) := match o with
  | (.r [] (.int .i64 z1), []) => some z1
  | _ => none
def I_FirstOther_G (k : Nat) : PG := fun _ l K => (I_FirstOther_argD l).bind fun a => (I_FirstOther k a.1 a.2).bind fun r => K (I_FirstOther_enc r)
theorem I_FirstOther_ev (k : Nat) (a : List Step × List Step) : ev (E_I_FirstOther k) (LP_I_FirstOther (Int) k) 0 c_I_FirstOther (st0 Try.f39 (I_FirstOther_args a)) (fin Try.prog Try.f39 (.sc) I_FirstOther_dec) = I_FirstOther k a.1 a.2 := by kernel_rfl
theorem I_FirstOther_ok (k : Nat) : PureOk Try.prog 39 (I_FirstOther_G k) :=
  pureOk_of_ev (E_I_FirstOther_ok k) Try.func39 (by kernel_rfl) (by kernel_rfl) I_FirstOther_args I_FirstOther_argD
    (fun l a h => by unfold I_FirstOther_argD at h; split at h <;> first | (cases h; rfl) | cases h) (fun a => rfl) (lpgood_of (l := [(0, b_I_FirstOther_0)]) (by kernel_rfl) ⟨I_FirstOther_g0_ok k, trivial⟩)
    (fun o r h => by unfold I_FirstOther_dec at h; split at h <;> first | (cases h; rfl) | cases h) (I_FirstOther_ev k)
def o_I_FirstOther (k : Nat) : Orc := pureOrc [.one (.sl (.st .step)), .one (.sl (.st .step))] (I_FirstOther_G k)
theorem o_I_FirstOther_ok (k : Nat) : OrcOk Try.prog 39 (o_I_FirstOther k) := pureOrc_ok (I_FirstOther_ok k)
/-! ### 57 loop.example/g00778/laws.eqByteS -/
noncomputable def E_L_eqByteS (k : Nat) : Env := { P := Try.prog, tt := tt, orc := fun g => noOrc }
theorem E_L_eqByteS_ok (k : Nat) : EnvOk (E_L_eqByteS k) := fun g => (noOrc_ok _ _)
noncomputable def c_L_eqByteS : Code := (Try.f57.body).getD .skip
noncomputable def b_L_eqByteS_0 : Code := ((loopsIn 0 c_L_eqByteS).getD 0 (0, .skip)).2
def L_eqByteS_g0_keep : List Nat := [0, 1, 5]
def L_eqByteS_g0_co : List (Where × Co) := []
def L_eqByteS_g0_kx : Ex → List Nat
  | .exit j => cond (Nat.beq j 0) [] []
  | .ret => [4]
  | .normal => []
def L_eqByteS_g0_cx : Ex → List (Where × Co)
  | .exit j => cond (Nat.beq j 0) [] []
  | .ret => []
  | .normal => []
def L_eqByteS_g0_tm (pv : (List Int × List Int) × (Int)) : St := { slots := [(0, .r [] (.sl (.int .u8) pv.1.1)), (1, .r [] (.sl (.int .u8) pv.1.2)), (5, .r [] (.int .i64 pv.2))], heap := [], nid := 0, n := 26, gh := [] }
def L_eqByteS_g0_dec (nf : NF) : Option ((List Int × List Int) × (Int)) := match nf with
  | ([.r [] (.sl (.int .u8) w0), .r [] (.sl (.int .u8) w1), .r [] (.int .i64 w2)], [], []) => some ((w0, w1), w2)
  | _ => none
theorem L_eqByteS_g0_hd (nf : NF) (v : (List Int × List Int) × (Int)) (h : L_eqByteS_g0_dec nf = some v) : denorm L_eqByteS_g0_keep 26 nf = L_eqByteS_g0_tm v := by
  unfold L_eqByteS_g0_dec at h
  split at h
  · cases h; rfl
  · cases h
def L_eqByteS_g0_x0 (p : List Int × List Int) (x : Unit) : St := { slots := [], heap := [], nid := 0, n := 26, gh := [] }
def L_eqByteS_g0_xret (p : List Int × List Int) (x : Bool) : St := { slots := [(4, .r [] (.bool x))], heap := [], nid := 0, n := 26, gh := [] }
def LP_L_eqByteS (ρ : Type) (k : Nat) : Nat → Ev ρ → Ev ρ := fun id f => cond (Nat.beq id 0) (loopOrc L_eqByteS_g0_keep L_eqByteS_g0_co (fun n nf => cond (Nat.beq n 26) (L_eqByteS_g0_dec nf) none) fun pv K => iter (fun v next => L_eqByteS_g0 k pv.1 v next (fun x => K (.exit 0) (L_eqByteS_g0_x0 pv.1 x)) (fun x => K .ret (L_eqByteS_g0_xret pv.1 x))) k pv.2) ((fun _ _ _ _ => none) id f)
theorem L_eqByteS_g0_round {ρ : Type} (k : Nat) (p : List Int × List Int) (v : Int) (K K1 : Ex → St → Option ρ) : ev (E_L_eqByteS k) (LP_L_eqByteS ρ k) 0 b_L_eqByteS_0 (L_eqByteS_g0_tm (p, v)) (fun e st' => match e with
    | .normal => (normC L_eqByteS_g0_keep L_eqByteS_g0_co st').bind fun nf => K1 .normal (denorm L_eqByteS_g0_keep st'.n nf)
    | e => (normC (L_eqByteS_g0_kx e) (L_eqByteS_g0_cx e) st').bind fun nf => K e (denorm (L_eqByteS_g0_kx e) st'.n nf)) = L_eqByteS_g0 k p v (fun v' => K1 .normal (L_eqByteS_g0_tm (p, v'))) (fun x => K (.exit 0) (L_eqByteS_g0_x0 p x)) (fun x => K .ret (L_eqByteS_g0_xret p x)) := by kernel_rfl
theorem L_eqByteS_g0_ok {ρ : Type} (k : Nat) : Sound Try.prog (.loop b_L_eqByteS_0) (LP_L_eqByteS ρ k 0 fun st K => ev (E_L_eqByteS k) (LP_L_eqByteS ρ k) 0 b_L_eqByteS_0 st K) :=
  loop_ok (ev_sound (E_L_eqByteS_ok k) b_L_eqByteS_0 0 (lpgood_none (by kernel_rfl))) L_eqByteS_g0_kx L_eqByteS_g0_cx k (g := fun p v next K => L_eqByteS_g0 k p v next (fun x => K (.exit 0) (L_eqByteS_g0_x0 p x)) (fun x => K .ret (L_eqByteS_g0_xret p x))) (dec_at L_eqByteS_g0_hd) (fun p v K K1 => L_eqByteS_g0_round k p v K K1)
def L_eqByteS_args (a : List Int × List Int) : List Arg := [.one (.sl (.int .u8) a.1), .one (.sl (.int .u8) a.2)]
def L_eqByteS_argD (l : List Arg) : Option (List Int × List Int) := match l with
  | [.one (.sl (.int .u8) b0), .one (.sl (.int .u8) b1)] => some (b0, b1)
  | _ => none
def L_eqByteS_enc (r : Bool) : Out := (.r [] (.bool r), [])
def L_eqByteS_dec (o : Out) : Option (Bool) := match o with
  | (.r [] (.bool z1), []) => some z1
  | _ => none
def L_eqByteS_G (k : Nat) : PG := fun _ l K => (L_eqByteS_argD l).bind fun a => (L_eqByteS k a.1 a.2).bind fun r => K (L_eqByteS_enc r)
theorem L_eqByteS_ev (k : Nat) (a : List Int × List Int) : ev (E_L_eqByteS k) (LP_L_eqByteS (Bool) k) 0 c_L_eqByteS (st0 Try.f57 (L_eqByteS_args a)) (fin Try.prog Try.f57 (.sc) L_eqByteS_dec) = L_eqByteS k a.1 a.2 := by kernel_rfl
theorem L_eqByteS_ok (k : Nat) : PureOk Try.prog 57 (L_eqByteS_G k) :=
  pureOk_of_ev (E_L_eqByteS_ok k) Try.func57 (by kernel_rfl) (by kernel_rfl) L_eqByteS_args L_eqByteS_argD
    (fun l a h => by unfold L_eqByteS_argD at h; split at h <;> first | (cases h; rfl) | cases h) (fun a => rfl) (lpgood_of (l := [(0, b_L_eqByteS_0)]) (by kernel_rfl) ⟨L_eqByteS_g0_ok k, trivial⟩)
    (fun o r h => by unfold L_eqByteS_dec at h; split at h <;> first | (cases h; rfl) | cases h) (L_eqByteS_ev k)
def o_L_eqByteS (k : Nat) : Orc := pureOrc [.one (.sl (.int .u8)), .one (.sl (.int .u8))] (L_eqByteS_G k)
theorem o_L_eqByteS_ok (k : Nat) : OrcOk Try.prog 57 (o_L_eqByteS k) := pureOrc_ok (L_eqByteS_ok k)
/-! ### 50 loop.example/g00778/laws.eqShape -/
noncomputable def E_L_eqShape (k : Nat) : Env := { P := Try.prog, tt := tt, orc := fun g => noOrc }
theorem E_L_eqShape_ok (k : Nat) : EnvOk (E_L_eqShape k) := fun g => (noOrc_ok _ _)
noncomputable def c_L_eqShape : Code := (Try.f50.body).getD .skip
def LP_L_eqShape (ρ : Type) (k : Nat) : Nat → Ev ρ → Ev ρ := fun _ _ _ _ => none
def L_eqShape_args (a : Shape × Shape) : List Arg := [.agg [.int .i64 a.1.h, .int .i64 a.1.w, .int .i64 a.1.c], .agg [.int .i64 a.2.h, .int .i64 a.2.w, .int .i64 a.2.c]]
def L_eqShape_argD (l : List Arg) : Option (Shape × Shape) := match l with
  | [.agg [.int .i64 b0_0, .int .i64 b0_1, .int .i64 b0_2], .agg [.int .i64 b1_0, .int .i64 b1_1, .int .i64 b1_2]] => some ((⟨b0_0, b0_1, b0_2⟩ : Shape), (⟨b1_0, b1_1, b1_2⟩ : Shape))
  | _ => none
def L_eqShape_enc (r : Bool) : Out := (.r [] (.bool r), [])
def L_eqShape_dec (o : Out) : Option (Bool) := match o with
  | (.r [] (.bool z1), []) => some z1
  | _ => none
def L_eqShape_G (k : Nat) : PG := fun _ l K => (L_eqShape_argD l).bind fun a => (L_eqShape k a.1 a.2).bind fun r => K (L_eqShape_enc r)
theorem L_eqShape_ev (k : Nat) (a : Shape × Shape) : ev (E_L_eqShape k) (LP_L_eqShape (Bool) k) 0 c_L_eqShape (st0 Try.f50 (L_eqShape_args a)) (fin Try.prog Try.f50 (.sc) L_eqShape_dec) = L_eqShape k a.1 a.2 := by kernel_rfl
theorem L_eqShape_ok (k : Nat) : PureOk Try.prog 50 (L_eqShape_G k) :=
  pureOk_of_ev (E_L_eqShape_ok k) Try.func50 (by kernel_rfl) (by kernel_rfl) L_eqShape_args L_eqShape_argD
    (fun l a h => by unfold L_eqShape_argD at h; split at h <;> first | (cases h; rfl) | cases h) (fun a => rfl) (lpgood_none (by kernel_rfl))
    (fun o r h => by unfold L_eqShape_dec at h; split at h <;> first | (cases h; rfl) | cases h) (L_eqShape_ev k)
def o_L_eqShape (k : Nat) : Orc := pureOrc [.agg [(.int .i64), (.int .i64), (.int .i64)], .agg [(.int .i64), (.int .i64), (.int .i64)]] (L_eqShape_G k)
theorem o_L_eqShape_ok (k : Nat) : OrcOk Try.prog 50 (o_L_eqShape k) := pureOrc_ok (L_eqShape_ok k)
/-! ### 33 loop.example/g00778/laws.eqIntS -/
noncomputable def E_L_eqIntS (k : Nat) : Env := { P := Try.prog, tt := tt, orc := fun g => noOrc }
theorem E_L_eqIntS_ok (k : Nat) : EnvOk (E_L_eqIntS k) := fun g => (noOrc_ok _ _)
noncomputable def c_L_eqIntS : Code := (Try.f33.body).getD .skip
noncomputable def b_L_eqIntS_0 : Code := ((loopsIn 0 c_L_eqIntS).getD 0 (0, .skip)).2
def L_eqIntS_g0_keep : List Nat := [0, 1, 5]
def L_eqIntS_g0_co : List (Where × Co) := []
def L_eqIntS_g0_kx : Ex → List Nat
  | .exit j => cond (Nat.beq j 0) [] []
  | .ret => [4]
  | .normal => []
def L_eqIntS_g0_cx : Ex → List (Where × Co)
  | .exit j => cond (Nat.beq j 0) [] []
  | .ret => []
  | .normal => []
def L_eqIntS_g0_tm (pv : (List Int × List Int) × (Int)) : St := { slots := [(0, .r [] (.sl (.int .i64) pv.1.1)), (1, .r [] (.sl (.int .i64) pv.1.2)), (5, .r [] (.int .i64 pv.2))], heap := [], nid := 0, n := 26, gh := [] }
def L_eqIntS_g0_dec (nf : NF) : Option ((List Int × List Int) × (Int)) := match nf with
  | ([.r [] (.sl (.int .i64) w0), .r [] (.sl (.int .i64) w1), .r [] (.int .i64 w2)], [], []) => some ((w0, w1), w2)
  | _ => none
theorem L_eqIntS_g0_hd (nf : NF) (v : (List Int × List Int) × (Int)) (h : L_eqIntS_g0_dec nf = some v) : denorm L_eqIntS_g0_keep 26 nf = L_eqIntS_g0_tm v := by
  unfold L_eqIntS_g0_dec at h
  split at h
  · cases h; rfl
  · cases h
def L_eqIntS_g0_x0 (p : List Int × List Int) (x : Unit) : St := { slots := [], heap := [], nid := 0, n := 26, gh := [] }
def L_eqIntS_g0_xret (p : List Int × List Int) (x : Bool) : St := { slots := [(4, .r [] (.bool x))], heap := [], nid := 0, n := 26, gh := [] }
def LP_L_eqIntS (ρ : Type) (k : Nat) : Nat → Ev ρ → Ev ρ := fun id f => cond (Nat.beq id 0) (loopOrc L_eqIntS_g0_keep L_eqIntS_g0_co (fun n nf => cond (Nat.beq n 26) (L_eqIntS_g0_dec nf) none) fun pv K => iter (fun v next => L_eqIntS_g0 k pv.1 v next (fun x => K (.exit 0) (L_eqIntS_g0_x0 pv.1 x)) (fun x => K .ret (L_eqIntS_g0_xret pv.1 x))) k pv.2) ((fun _ _ _ _ => none) id f)
theorem L_eqIntS_g0_round {ρ : Type} (k : Nat) (p : List Int × List Int) (v : Int) (K K1 : Ex → St → Option ρ) : ev (E_L_eqIntS k) (LP_L_eqIntS ρ k) 0 b_L_eqIntS_0 (L_eqIntS_g0_tm (p, v)) (fun e st' => match e with
    | .normal => (normC L_eqIntS_g0_keep L_eqIntS_g0_co st').bind fun nf => K1 .normal (denorm L_eqIntS_g0_keep st'.n nf)
    | e => (normC (L_eqIntS_g0_kx e) (L_eqIntS_g0_cx e) st').bind fun nf => K e (denorm (L_eqIntS_g0_kx e) st'.n nf)) = L_eqIntS_g0 k p v (fun v' => K1 .normal (L_eqIntS_g0_tm (p, v'))) (fun x => K (.exit 0) (L_eqIntS_g0_x0 p x)) (fun x => K .ret (L_eqIntS_g0_xret p x)) := by kernel_rfl
theorem L_eqIntS_g0_ok {ρ : Type} (k : Nat) : Sound Try.prog (.loop b_L_eqIntS_0) (LP_L_eqIntS ρ k 0 fun st K => ev (E_L_eqIntS k) (LP_L_eqIntS ρ k) 0 b_L_eqIntS_0 st K) :=
  loop_ok (ev_sound (E_L_eqIntS_ok k) b_L_eqIntS_0 0 (lpgood_none (by kernel_rfl))) L_eqIntS_g0_kx L_eqIntS_g0_cx k (g := fun p v next K => L_eqIntS_g0 k p v next (fun x => K (.exit 0) (L_eqIntS_g0_x0 p x)) (fun x => K .ret (L_eqIntS_g0_xret p x))) (dec_at L_eqIntS_g0_hd) (fun p v K K1 => L_eqIntS_g0_round k p v K K1)
def L_eqIntS_args (a : List Int × List Int) : List Arg := [.one (.sl (.int .i64) a.1), .one (.sl (.int .i64) a.2)]
def L_eqIntS_argD (l : List Arg) : Option (List Int × List Int) := match l with
  | [.one (.sl (.int .i64) b0), .one (.sl (.int .i64) b1)] => some (b0, b1)
  | _ => none
def L_eqIntS_enc (r : Bool) : Out := (.r [] (.bool r), [])
def L_eqIntS_dec (o : Out) : Option (Bool) := match o with
  | (.r [] (.bool z1), []) => some z1
  | _ => none
def L_eqIntS_G (k : Nat) : PG := fun _ l K => (L_eqIntS_argD l).bind fun a => (L_eqIntS k a.1 a.2).bind fun r => K (L_eqIntS_enc r)
theorem L_eqIntS_ev (k : Nat) (a : List Int × List Int) : ev (E_L_eqIntS k) (LP_L_eqIntS (Bool) k) 0 c_L_eqIntS (st0 Try.f33 (L_eqIntS_args a)) (fin Try.prog Try.f33 (.sc) L_eqIntS_dec) = L_eqIntS k a.1 a.2 := by kernel_rfl
theorem L_eqIntS_ok (k : Nat) : PureOk Try.prog 33 (L_eqIntS_G k) :=
  pureOk_of_ev (E_L_eqIntS_ok k) Try.func33 (by kernel_rfl) (by kernel_rfl) L_eqIntS_args L_eqIntS_argD
    (fun l a h => by unfold L_eqIntS_argD at h; split at h <;> first | (cases h; rfl) | cases h) (fun a => rfl) (lpgood_of (l := [(0, b_L_eqIntS_0)]) (by kernel_rfl) ⟨L_eqIntS_g0_ok k, trivial⟩)
    (fun o r h => by unfold L_eqIntS_dec at h; split at h <;> first | (cases h; rfl) | cases h) (L_eqIntS_ev k)
def o_L_eqIntS (k : Nat) : Orc := pureOrc [.one (.sl (.int .i64)), .one (.sl (.int .i64))] (L_eqIntS_G k)
theorem o_L_eqIntS_ok (k : Nat) : OrcOk Try.prog 33 (o_L_eqIntS k) := pureOrc_ok (L_eqIntS_ok k)
/-! ### 14 loop.example/g00778/laws.eqTensor -/
noncomputable def E_L_eqTensor (k : Nat) : Env := { P := Try.prog, tt := tt, orc := fun g => cond (Nat.beq g 33) (o_L_eqIntS k) (cond (Nat.beq g 50) (o_L_eqShape k) (noOrc)) }
theorem E_L_eqTensor_ok (k : Nat) : EnvOk (E_L_eqTensor k) := fun g => (orc_cond (o_L_eqIntS_ok k) (orc_cond (o_L_eqShape_ok k) (noOrc_ok _ _)))
noncomputable def c_L_eqTensor : Code := (Try.f14.body).getD .skip
def LP_L_eqTensor (ρ : Type) (k : Nat) : Nat → Ev ρ → Ev ρ := fun _ _ _ _ => none
def L_eqTensor_args (a : Tensor × Tensor) : List Arg := [.agg [.int .i64 a.1.sh.h, .int .i64 a.1.sh.w, .int .i64 a.1.sh.c, .sl (.int .i64) a.1.data], .agg [.int .i64 a.2.sh.h, .int .i64 a.2.sh.w, .int .i64 a.2.sh.c, .sl (.int .i64) a.2.data]]
def L_eqTensor_argD (l : List Arg) : Option (Tensor × Tensor) := match l with
  | [.agg [.int .i64 b0_0, .int .i64 b0_1, .int .i64 b0_2, .sl (.int .i64) b0_3], .agg [.int .i64 b1_0, .int .i64 b1_1, .int .i64 b1_2, .sl (.int .i64) b1_3]] => some ((⟨(⟨b0_0, b0_1, b0_2⟩ : Shape), b0_3⟩ : Tensor), (⟨(⟨b1_0, b1_1, b1_2⟩ : Shape), b1_3⟩ : Tensor))
  | _ => none
def L_eqTensor_enc (r : Bool) : Out := (.r [] (.bool r), [])
def L_eqTensor_dec (o : Out) : Option (Bool) := match o with
  | (.r [] (.bool z1), []) => some z1
  | _ => none
def L_eqTensor_G (k : Nat) : PG := fun _ l K => (L_eqTensor_argD l).bind fun a => (L_eqTensor k a.1 a.2).bind fun r => K (L_eqTensor_enc r)
theorem L_eqTensor_ev (k : Nat) (a : Tensor × Tensor) : ev (E_L_eqTensor k) (LP_L_eqTensor (Bool) k) 0 c_L_eqTensor (st0 Try.f14 (L_eqTensor_args a)) (fin Try.prog Try.f14 (.sc) L_eqTensor_dec) = L_eqTensor k a.1 a.2 := by kernel_rfl
theorem L_eqTensor_ok (k : Nat) : PureOk Try.prog 14 (L_eqTensor_G k) :=
  pureOk_of_ev (E_L_eqTensor_ok k) Try.func14 (by kernel_rfl) (by kernel_rfl) L_eqTensor_args L_eqTensor_argD
    (fun l a h => by unfold L_eqTensor_argD at h; split at h <;> first | (cases h; rfl) | cases h) (fun a => rfl) (lpgood_none (by kernel_rfl))
    (fun o r h => by unfold L_eqTensor_dec at h; split at h <;> first | (cases h; rfl) | cases h) (L_eqTensor_ev k)
def o_L_eqTensor (k : Nat) : Orc := pureOrc [.agg [(.int .i64), (.int .i64), (.int .i64), (.sl (.int .i64))], .agg [(.int .i64), (.int .i64), (.int .i64), (.sl (.int .i64))]] (L_eqTensor_G k)
theorem o_L_eqTensor_ok (k : Nat) : OrcOk Try.prog 14 (o_L_eqTensor k) := pureOrc_ok (L_eqTensor_ok k)
/-! ### 21 loop.example/g00778/laws.eqStep -/
noncomputable def E_L_eqStep (k : Nat) : Env := { P := Try.prog, tt := tt, orc := fun g => cond (Nat.beq g 14) (o_L_eqTensor k) (cond (Nat.beq g 57) (o_L_eqByteS k) (noOrc)) }
theorem E_L_eqStep_ok (k : Nat) : EnvOk (E_L_eqStep k) := fun g => (orc_cond (o_L_eqTensor_ok k) (orc_cond (o_L_eqByteS_ok k) (noOrc_ok _ _)))
noncomputable def c_L_eqStep : Code := (Try.f21.body).getD .skip
def LP_L_eqStep (ρ : Type) (k : Nat) : Nat → Ev ρ → Ev ρ := fun _ _ _ _ => none
def L_eqStep_args (a : Step × Step) : List Arg := [.agg [.int .i64 a.1.kind, .int .i64 a.1.a, .int .i64 a.1.b, .sl (.int .u8) a.1.data, .int .i64 a.1.input.sh.h, .int .i64 a.1.input.sh.w, .int .i64 a.1.input.sh.c, .sl (.int .i64) a.1.input.data], .agg [.int .i64 a.2.kind, .int .i64 a.2.a, .int .i64 a.2.b, .sl (.int .u8) a.2.data, .int .i64 a.2.input.sh.h, .int .i64 a.2.input.sh.w, .int .i64 a.2.input.sh.c, .sl (.int .i64) a.2.input.data]]
def L_eqStep_argD (l : List Arg) : Option (Step × Step) := match l with
  | [.agg [.int .i64 b0_0, .int .i64 b0_1, .int .i64 b0_2, .sl (.int .u8) b0_3, .int .i64 b0_4, .int .i64 b0_5, .int .i64 b0_6, .sl (.int .i64) b0_7], .agg [.int .i64 b1_0, .int .i64 b1_1, .int .i64 b1_2, .sl (.int .u8) b1_3, .int .i64 b1_4, .int .i64 b1_5, .int .i64 b1_6, .sl (.int .i64) b1_7]] => some ((⟨b0_0, b0_1, b0_2, b0_3, (⟨(⟨b0_4, b0_5, b0_6⟩ : Shape), b0_7⟩ : Tensor)⟩ : Step), (⟨b1_0, b1_1, b1_2, b1_3, (⟨(⟨b1_4, b1_5, b1_6⟩ : Shape), b1_7⟩ : Tensor)⟩ : Step))
  | _ => none
def L_eqStep_enc (r : Bool) : Out := (.r [] (.bool r), [])
def L_eqStep_dec (o : Out) : Option (Bool) := match o with
  | (.r [] (.bool z1), []) => some z1
  | _ => none
def L_eqStep_G (k : Nat) : PG := fun _ l K => (L_eqStep_argD l).bind fun a => (L_eqStep k a.1 a.2).bind fun r => K (L_eqStep_enc r)
theorem L_eqStep_ev (k : Nat) (a : Step × Step) : ev (E_L_eqStep k) (LP_L_eqStep (Bool) k) 0 c_L_eqStep (st0 Try.f21 (L_eqStep_args a)) (fin Try.prog Try.f21 (.sc) L_eqStep_dec) = L_eqStep k a.1 a.2 := by kernel_rfl
theorem L_eqStep_ok (k : Nat) : PureOk Try.prog 21 (L_eqStep_G k) :=
  pureOk_of_ev (E_L_eqStep_ok k) Try.func21 (by kernel_rfl) (by kernel_rfl) L_eqStep_args L_eqStep_argD
    (fun l a h => by unfold L_eqStep_argD at h; split at h <;> first | (cases h; rfl) | cases h) (fun a => rfl) (lpgood_none (by kernel_rfl))
    (fun o r h => by unfold L_eqStep_dec at h; split at h <;> first | (cases h; rfl) | cases h) (L_eqStep_ev k)
def o_L_eqStep (k : Nat) : Orc := pureOrc [.agg [(.int .i64), (.int .i64), (.int .i64), (.sl (.int .u8)), (.int .i64), (.int .i64), (.int .i64), (.sl (.int .i64))], .agg [(.int .i64), (.int .i64), (.int .i64), (.sl (.int .u8)), (.int .i64), (.int .i64), (.int .i64), (.sl (.int .i64))]] (L_eqStep_G k)
theorem o_L_eqStep_ok (k : Nat) : OrcOk Try.prog 21 (o_L_eqStep k) := pureOrc_ok (L_eqStep_ok k)
/-! ### 40 loop.example/g00778/laws.eqStepS -/
noncomputable def E_L_eqStepS (k : Nat) : Env := { P := Try.prog, tt := tt, orc := fun g => cond (Nat.beq g 21) (o_L_eqStep k) (noOrc) }
theorem E_L_eqStepS_ok (k : Nat) : EnvOk (E_L_eqStepS k) := fun g => (orc_cond (o_L_eqStep_ok k) (noOrc_ok _ _))
noncomputable def c_L_eqStepS : Code := (Try.f40.body).getD .skip
noncomputable def b_L_eqStepS_0 : Code := ((loopsIn 0 c_L_eqStepS).getD 0 (0, .skip)).2
def L_eqStepS_g0_keep : List Nat := [0, 1, 5]
def L_eqStepS_g0_co : List (Where × Co) := []
def L_eqStepS_g0_kx : Ex → List Nat
  | .exit j => cond (Nat.beq j 0) [] []
  | .ret => [4]
  | .normal => []
def L_eqStepS_g0_cx : Ex → List (Where × Co)
  | .exit j => cond (Nat.beq j 0) [] []
  | .ret => []
  | .normal => []
def L_eqStepS_g0_tm (pv : (List Step × List Step) × (Int)) : St := { slots := [(0, .r [] (.sl (.st .step) pv.1.1)), (1, .r [] (.sl (.st .step) pv.1.2)), (5, .r [] (.int .i64 pv.2))], heap := [], nid := 0, n := 27, gh := [] }
def L_eqStepS_g0_dec (nf : NF) : Option ((List Step × List Step) × (Int)) := match nf with
  | ([.r [] (.sl (.st .step) w0), .r [] (.sl (.st .step) w1), .r [] (.int .i64 w2)], [], []) => some ((w0, w1), w2)
  | _ => none
theorem L_eqStepS_g0_hd (nf : NF) (v : (List Step × List Step) × (Int)) (h : L_eqStepS_g0_dec nf = some v) : denorm L_eqStepS_g0_keep 27 nf = L_eqStepS_g0_tm v := by
  unfold L_eqStepS_g0_dec at h
  split at h
  · cases h; rfl
  · cases h
def L_eqStepS_g0_x0 (p : List Step × List Step) (x : Unit) : St := { slots := [], heap := [], nid := 0, n := 27, gh := [] }
def L_eqStepS_g0_xret (p : List Step × List Step) (x : Bool) : St := { slots := [(4, .r [] (.bool x))], heap := [], nid := 0, n := 27, gh := [] }
def LP_L_eqStepS (ρ : Type) (k : Nat) : Nat → Ev ρ → Ev ρ := fun id f => cond (Nat.beq id 0) (loopOrc L_eqStepS_g0_keep L_eqStepS_g0_co (fun n nf => cond (Nat.beq n 27) (L_eqStepS_g0_dec nf) none) fun pv K => iter (fun v next => L_eqStepS_g0 k pv.1 v next (fun x => K (.exit 0) (L_eqStepS_g0_x0 pv.1 x)) (fun x => K .ret (L_eqStepS_g0_xret pv.1 x))) k pv.2) ((fun _ _ _ _ => none) id f)
theorem L_eqStepS_g0_round {ρ : Type} (k : Nat) (p : List Step × List Step) (v : Int) (K K1 : Ex → St → Option ρ) : ev (E_L_eqStepS k) (LP_L_eqStepS ρ k) 0 b_L_eqStepS_0 (L_eqStepS_g0_tm (p, v)) (fun e st' => match e with
    | .normal => (normC L_eqStepS_g0_keep L_eqStepS_g0_co st').bind fun nf => K1 .normal (denorm L_eqStepS_g0_keep st'.n nf)
    | e => (normC (L_eqStepS_g0_kx e) (L_eqStepS_g0_cx e) st').bind fun nf => K e (denorm (L_eqStepS_g0_kx e) st'.n nf)) = L_eqStepS_g0 k p v (fun v' => K1 .normal (L_eqStepS_g0_tm (p, v'))) (fun x => K (.exit 0) (L_eqStepS_g0_x0 p x)) (fun x => K .ret (L_eqStepS_g0_xret p x)) := by kernel_rfl
theorem L_eqStepS_g0_ok {ρ : Type} (k : Nat) : Sound Try.prog (.loop b_L_eqStepS_0) (LP_L_eqStepS ρ k 0 fun st K => ev (E_L_eqStepS k) (LP_L_eqStepS ρ k) 0 b_L_eqStepS_0 st K) :=
  loop_ok (ev_sound (E_L_eqStepS_ok k) b_L_eqStepS_0 0 (lpgood_none (by kernel_rfl))) L_eqStepS_g0_kx L_eqStepS_g0_cx k (g := fun p v next K => L_eqStepS_g0 k p v next (fun x => K (.exit 0) (L_eqStepS_g0_x0 p x)) (fun x => K .ret (L_eqStepS_g0_xret p x))) (dec_at L_eqStepS_g0_hd) (fun p v K K1 => L_eqStepS_g0_round k p v K K1)
def L_eqStepS_args (a : List Step × List Step) : List Arg := [.one (.sl (.st .step) a.1), .one (.sl (.st .step) a.2)]
def L_eqStepS_argD (l : List Arg) : Option (List Step × List Step) := match l with
  | [.one (.sl (.st .step) b0), .one (.sl (.st .step) b1)] => some (b0, b1)
  | _ => none
def L_eqStepS_enc (r : Bool) : Out := (.r [] (.bool r), [])
def L_eqStepS_dec (o : Out) : Option (Bool) := match o with
  | (.r [] (.bool z1), []) => some z1
  | _ => none
def L_eqStepS_G (k : Nat) : PG := fun _ l K => (L_eqStepS_argD l).bind fun a => (L_eqStepS k a.1 a.2).bind fun r => K (L_eqStepS_enc r)
theorem L_eqStepS_ev (k : Nat) (a : List Step × List Step) : ev (E_L_eqStepS k) (LP_L_eqStepS (Bool) k) 0 c_L_eqStepS (st0 Try.f40 (L_eqStepS_args a)) (fin Try.prog Try.f40 (.sc) L_eqStepS_dec) = L_eqStepS k a.1 a.2 := by kernel_rfl
theorem L_eqStepS_ok (k : Nat) : PureOk Try.prog 40 (L_eqStepS_G k) :=
  pureOk_of_ev (E_L_eqStepS_ok k) Try.func40 (by kernel_rfl) (by kernel_rfl) L_eqStepS_args L_eqStepS_argD
    (fun l a h => by unfold L_eqStepS_argD at h; split at h <;> first | (cases h; rfl) | cases h) (fun a => rfl) (lpgood_of (l := [(0, b_L_eqStepS_0)]) (by kernel_rfl) ⟨L_eqStepS_g0_ok k, trivial⟩)
    (fun o r h => by unfold L_eqStepS_dec at h; split at h <;> first | (cases h; rfl) | cases h) (L_eqStepS_ev k)
def o_L_eqStepS (k : Nat) : Orc := pureOrc [.one (.sl (.st .step)), .one (.sl (.st .step))] (L_eqStepS_G k)
theorem o_L_eqStepS_ok (k : Nat) : OrcOk Try.prog 40 (o_L_eqStepS k) := pureOrc_ok (L_eqStepS_ok k)
/-! ### 8 loop.example/g00778/laws.FnExactFirstOther -/
noncomputable def E_L_FnExactFirstOther (k : Nat) : Env := { P := Try.prog, tt := tt, orc := fun g => cond (Nat.beq g 36) (o_L_szStepS k) (cond (Nat.beq g 37) (o_S_FirstOther k) (cond (Nat.beq g 38) (o_L_toStepS k) (cond (Nat.beq g 39) (o_I_FirstOther k) (cond (Nat.beq g 40) (o_L_eqStepS k) (noOrc))))) }
theorem E_L_FnExactFirstOther_ok (k : Nat) : EnvOk (E_L_FnExactFirstOther k) := fun g => (orc_cond (o_L_szStepS_ok k) (orc_cond (o_S_FirstOther_ok k) (orc_cond (o_L_toStepS_ok k) (orc_cond (o_I_FirstOther_ok k) (orc_cond (o_L_eqStepS_ok k) (noOrc_ok _ _))))))
noncomputable def c_L_FnExactFirstOther : Code := (Try.f8.body).getD .skip
def LP_L_FnExactFirstOther (ρ : Type) (k : Nat) : Nat → Ev ρ → Ev ρ := fun _ _ _ _ => none
def L_FnExactFirstOther_args (a : List Step × List Step) : List Arg := [.one (.sl (.st .step) a.1), .one (.sl (.st .step) a.2)]
def L_FnExactFirstOther_argD (l : List Arg) : Option (List Step × List Step) := match l with
  | [.one (.sl (.st .step) b0), .one (.sl (.st .step) b1)] => some (b0, b1)
  | _ => none
def L_FnExactFirstOther_enc (r : Bool) : Out := (.r [] (.bool r), [])
def L_FnExactFirstOther_dec (o : Out) : Option (Bool) := match o with
  | (.r [] (.bool z1), []) => some z1
  | _ => none
def L_FnExactFirstOther_G (k : Nat) : PG := fun _ l K => (L_FnExactFirstOther_argD l).bind fun a => (L_FnExactFirstOther k a.1 a.2).bind fun r => K (L_FnExactFirstOther_enc r)
theorem L_FnExactFirstOther_ev (k : Nat) (a : List Step × List Step) : ev (E_L_FnExactFirstOther k) (LP_L_FnExactFirstOther (Bool) k) 0 c_L_FnExactFirstOther (st0 Try.f8 (L_FnExactFirstOther_args a)) (fin Try.prog Try.f8 (.sc) L_FnExactFirstOther_dec) = L_FnExactFirstOther k a.1 a.2 := by kernel_rfl
theorem L_FnExactFirstOther_ok (k : Nat) : PureOk Try.prog 8 (L_FnExactFirstOther_G k) :=
  pureOk_of_ev (E_L_FnExactFirstOther_ok k) Try.func8 (by kernel_rfl) (by kernel_rfl) L_FnExactFirstOther_args L_FnExactFirstOther_argD
    (fun l a h => by unfold L_FnExactFirstOther_argD at h; split at h <;> first | (cases h; rfl) | cases h) (fun a => rfl) (lpgood_none (by kernel_rfl))
    (fun o r h => by unfold L_FnExactFirstOther_dec at h; split at h <;> first | (cases h; rfl) | cases h) (L_FnExactFirstOther_ev k)
def o_L_FnExactFirstOther (k : Nat) : Orc := pureOrc [.one (.sl (.st .step)), .one (.sl (.st .step))] (L_FnExactFirstOther_G k)
theorem o_L_FnExactFirstOther_ok (k : Nat) : OrcOk Try.prog 8 (o_L_FnExactFirstOther k) := pureOrc_ok (L_FnExactFirstOther_ok k)
end
end Go.Proofs.Ev
