/- Text of this claim. -/
import Derived.Test.YtcgeekjfbjcofaaEvK5
import Derived.Test.YtcgeekjfbjcofaaProg
import Derived.Test.YtcgeekjfbjcofaaEvD1
import Derived.Test.YtcgeekjfbjcofaaEvD2
set_option linter.unusedVariables false
set_option linter.unusedSimpArgs false
set_option linter.unusedVariables false
set_option linter.unusedSimpArgs false
set_option maxRecDepth 100000
namespace Go.Proofs.Ev
noncomputable section
def tt : TT := look [(2, (.int .i64)), (3, (.int .i64)), (4, .bool), (5, (.int .u8)), (6, (.int .u8)), (9, .str), (10, .str), (11, .str), (12, (.int .u64)), (21, (.int .i32)), (23, (.st .shape)), (24, (.sl (.int .i64))), (26, (.st .tensor)), (28, (.st .shape)), (30, (.st .tensor)), (38, (.sl (.int .u8))), (40, (.st .step)), (44, (.st .step)), (49, (.sl (.st .tensor))), (52, (.sl (.st .tensor))), (61, (.sl (.st .step))), (64, (.sl (.st .step))), (88, (.int .u64)), (96, (.int .u32)), (97, (.int .u8)), (98, (.int .u8)), (101, (.int .i32)), (102, (.int .i32))]
/-! ### 41 loop.example/g00778/laws.szIntS -/
noncomputable def E_L_szIntS (k : Nat) : Env := { P := Try.prog, tt := tt, orc := fun g => noOrc }
theorem E_L_szIntS_ok (k : Nat) : EnvOk (E_L_szIntS k) := fun g => (noOrc_ok _ _)
noncomputable def c_L_szIntS : Code := (Try.f41.body).getD .skip
def LP_L_szIntS (ρ : Type) (k : Nat) : Nat → Ev ρ → Ev ρ := fun _ _ _ _ => none
def L_szIntS_args (a : List Int × Int) : List Arg := [.one (.sl (.int .i64) a.1), .one (.int .i64 a.2)]
def L_szIntS_argD (l : List Arg) : Option (List Int × Int) := match l with
  | [.one (.sl (.int .i64) b0), .one (.int .i64 b1)] => some (b0, b1)
  | _ => none
def L_szIntS_enc (r : Int) : Out := (.r [] (.int .i64 r), [])
def L_szIntS_dec (o : Out) : Option (Int) := match o with
  | (.r [] (.int .i64 z1), []) => some z1
  | _ => none
def L_szIntS_G (k : Nat) : PG := fun _ l K => (L_szIntS_argD l).bind fun a => (L_szIntS k a.1 a.2).bind fun r => K (L_szIntS_enc r)
theorem L_szIntS_ev (k : Nat) (a : List Int × Int) : ev (E_L_szIntS k) (LP_L_szIntS (Int) k) 0 c_L_szIntS (st0 Try.f41 (L_szIntS_args a)) (fin Try.prog Try.f41 (.sc) L_szIntS_dec) = L_szIntS k a.1 a.2 := by kernel_rfl
theorem L_szIntS_ok (k : Nat) : PureOk Try.prog 41 (L_szIntS_G k) :=
  pureOk_of_ev (E_L_szIntS_ok k) Try.func41 (by kernel_rfl) (by kernel_rfl) L_szIntS_args L_szIntS_argD
    (fun l a h => by unfold L_szIntS_argD at h; split at h <;> first | (cases h; rfl) | cases h) (fun a => rfl) (lpgood_none (by kernel_rfl))
    (fun o r h => by unfold L_szIntS_dec at h; split at h <;> first | (cases h; rfl) | cases h) (L_szIntS_ev k)
def o_L_szIntS (k : Nat) : Orc := pureOrc [.one (.sl (.int .i64)), .one (.int .i64)] (L_szIntS_G k)
theorem o_L_szIntS_ok (k : Nat) : OrcOk Try.prog 41 (o_L_szIntS k) := pureOrc_ok (L_szIntS_ok k)
/-! ### 9 loop.example/g00778/laws.szTensor -/
noncomputable def E_L_szTensor (k : Nat) : Env := { P := Try.prog, tt := tt, orc := fun g => cond (Nat.beq g 41) (o_L_szIntS k) (noOrc) }
theorem E_L_szTensor_ok (k : Nat) : EnvOk (E_L_szTensor k) := fun g => (orc_cond (o_L_szIntS_ok k) (noOrc_ok _ _))
noncomputable def c_L_szTensor : Code := (Try.f9.body).getD .skip
def LP_L_szTensor (ρ : Type) (k : Nat) : Nat → Ev ρ → Ev ρ := fun _ _ _ _ => none
def L_szTensor_args (a : Tensor × Int) : List Arg := [.agg [.int .i64 a.1.sh.h, .int .i64 a.1.sh.w, .int .i64 a.1.sh.c, .sl (.int .i64) a.1.data], .one (.int .i64 a.2)]
def L_szTensor_argD (l : List Arg) : Option (Tensor × Int) := match l with
  | [.agg [.int .i64 b0_0, .int .i64 b0_1, .int .i64 b0_2, .sl (.int .i64) b0_3], .one (.int .i64 b1)] => some ((⟨(⟨b0_0, b0_1, b0_2⟩ : Shape), b0_3⟩ : Tensor), b1)
  | _ => none
def L_szTensor_enc (r : Int) : Out := (.r [] (.int .i64 r), [])
def L_szTensor_dec (o : Out) : Option (Int) := match o with
  | (.r [] (.int .i64 z1), []) => some z1
  | _ => none
def L_szTensor_G (k : Nat) : PG := fun _ l K => (L_szTensor_argD l).bind fun a => (L_szTensor k a.1 a.2).bind fun r => K (L_szTensor_enc r)
theorem L_szTensor_ev (k : Nat) (a : Tensor × Int) : ev (E_L_szTensor k) (LP_L_szTensor (Int) k) 0 c_L_szTensor (st0 Try.f9 (L_szTensor_args a)) (fin Try.prog Try.f9 (.sc) L_szTensor_dec) = L_szTensor k a.1 a.2 := by kernel_rfl
theorem L_szTensor_ok (k : Nat) : PureOk Try.prog 9 (L_szTensor_G k) :=
  pureOk_of_ev (E_L_szTensor_ok k) Try.func9 (by kernel_rfl) (by kernel_rfl) L_szTensor_args L_szTensor_argD
    (fun l a h => by unfold L_szTensor_argD at h; split at h <;> first | (cases h; rfl) | cases h) (fun a => rfl) (lpgood_none (by kernel_rfl))
    (fun o r h => by unfold L_szTensor_dec at h; split at h <;> first | (cases h; rfl) | cases h) (L_szTensor_ev k)
def o_L_szTensor (k : Nat) : Orc := pureOrc [.agg [(.int .i64), (.int .i64), (.int .i64), (.sl (.int .i64))], .one (.int .i64)] (L_szTensor_G k)
theorem o_L_szTensor_ok (k : Nat) : OrcOk Try.prog 9 (o_L_szTensor k) := pureOrc_ok (L_szTensor_ok k)
/-! ### 24 loop.example/g00778/laws.szTensorS -/
noncomputable def E_L_szTensorS (k : Nat) : Env := { P := Try.prog, tt := tt, orc := fun g => cond (Nat.beq g 9) (o_L_szTensor k) (noOrc) }
theorem E_L_szTensorS_ok (k : Nat) : EnvOk (E_L_szTensorS k) := fun g => (orc_cond (o_L_szTensor_ok k) (noOrc_ok _ _))
noncomputable def c_L_szTensorS : Code := (Try.f24.body).getD .skip
noncomputable def b_L_szTensorS_0 : Code := ((loopsIn 0 c_L_szTensorS).getD 0 (0, .skip)).2
def L_szTensorS_g0_keep : List Nat := [0, 1, 5]
def L_szTensorS_g0_co : List (Where × Co) := []
def L_szTensorS_g0_kx : Ex → List Nat
  | .exit j => cond (Nat.beq j 0) [1] []
  | .ret => [4]
  | .normal => []
def L_szTensorS_g0_cx : Ex → List (Where × Co)
  | .exit j => cond (Nat.beq j 0) [] []
  | .ret => []
  | .normal => []
def L_szTensorS_g0_tm (pv : (List Tensor) × (Int × Int)) : St := { slots := [(0, .r [] (.sl (.st .tensor) pv.1)), (1, .r [] (.int .i64 pv.2.1)), (5, .r [] (.int .i64 pv.2.2))], heap := [], nid := 0, n := 27, gh := [] }
def L_szTensorS_g0_dec (nf : NF) : Option ((List Tensor) × (Int × Int)) := match nf with
  | ([.r [] (.sl (.st .tensor) w0), .r [] (.int .i64 w1), .r [] (.int .i64 w2)], [], []) => some (w0, (w1, w2))
  | _ => none
theorem L_szTensorS_g0_hd (nf : NF) (v : (List Tensor) × (Int × Int)) (h : L_szTensorS_g0_dec nf = some v) : denorm L_szTensorS_g0_keep 27 nf = L_szTensorS_g0_tm v := by
  unfold L_szTensorS_g0_dec at h
  split at h
  · cases h; rfl
  · cases h
def L_szTensorS_g0_x0 (p : List Tensor) (x : Int) : St := { slots := [(1, .r [] (.int .i64 x))], heap := [], nid := 0, n := 27, gh := [] }
def L_szTensorS_g0_xret (p : List Tensor) (x : Int) : St := { slots := [(4, .r [] (.int .i64 x))], heap := [], nid := 0, n := 27, gh := [] }
def LP_L_szTensorS (ρ : Type) (k : Nat) : Nat → Ev ρ → Ev ρ := fun id f => cond (Nat.beq id 0) (loopOrc L_szTensorS_g0_keep L_szTensorS_g0_co (fun n nf => cond (Nat.beq n 27) (L_szTensorS_g0_dec nf) none) fun pv K => iter (fun v next => L_szTensorS_g0 k pv.1 v next (fun x => K (.exit 0) (L_szTensorS_g0_x0 pv.1 x)) (fun x => K .ret (L_szTensorS_g0_xret pv.1 x))) k pv.2) ((fun _ _ _ _ => none) id f)
theorem L_szTensorS_g0_round {ρ : Type} (k : Nat) (p : List Tensor) (v : Int × Int) (K K1 : Ex → St → Option ρ) : ev (E_L_szTensorS k) (LP_L_szTensorS ρ k) 0 b_L_szTensorS_0 (L_szTensorS_g0_tm (p, v)) (fun e st' => match e with
    | .normal => (normC L_szTensorS_g0_keep L_szTensorS_g0_co st').bind fun nf => K1 .normal (denorm L_szTensorS_g0_keep st'.n nf)
    | e => (normC (L_szTensorS_g0_kx e) (L_szTensorS_g0_cx e) st').bind fun nf => K e (denorm (L_szTensorS_g0_kx e) st'.n nf)) = L_szTensorS_g0 k p v (fun v' => K1 .normal (L_szTensorS_g0_tm (p, v'))) (fun x => K (.exit 0) (L_szTensorS_g0_x0 p x)) (fun x => K .ret (L_szTensorS_g0_xret p x)) := by kernel_rfl
theorem L_szTensorS_g0_ok {ρ : Type} (k : Nat) : Sound Try.prog (.loop b_L_szTensorS_0) (LP_L_szTensorS ρ k 0 fun st K => ev (E_L_szTensorS k) (LP_L_szTensorS ρ k) 0 b_L_szTensorS_0 st K) :=
  loop_ok (ev_sound (E_L_szTensorS_ok k) b_L_szTensorS_0 0 (lpgood_none (by kernel_rfl))) L_szTensorS_g0_kx L_szTensorS_g0_cx k (g := fun p v next K => L_szTensorS_g0 k p v next (fun x => K (.exit 0) (L_szTensorS_g0_x0 p x)) (fun x => K .ret (L_szTensorS_g0_xret p x))) (dec_at L_szTensorS_g0_hd) (fun p v K K1 => L_szTensorS_g0_round k p v K K1)
def L_szTensorS_args (a : List Tensor × Int) : List Arg := [.one (.sl (.st .tensor) a.1), .one (.int .i64 a.2)]
def L_szTensorS_argD (l : List Arg) : Option (List Tensor × Int) := match l with
  | [.one (.sl (.st .tensor) b0), .one (.int .i64 b1)] => some (b0, b1)
  | _ => none
def L_szTensorS_enc (r : Int) : Out := (.r [] (.int .i64 r), [])
def L_szTensorS_dec (o : Out) : Option (Int) := match o with
  | (.r [] (.int .i64 z1), []) => some z1
  | _ => none
def L_szTensorS_G (k : Nat) : PG := fun _ l K => (L_szTensorS_argD l).bind fun a => (L_szTensorS k a.1 a.2).bind fun r => K (L_szTensorS_enc r)
theorem L_szTensorS_ev (k : Nat) (a : List Tensor × Int) : ev (E_L_szTensorS k) (LP_L_szTensorS (Int) k) 0 c_L_szTensorS (st0 Try.f24 (L_szTensorS_args a)) (fin Try.prog Try.f24 (.sc) L_szTensorS_dec) = L_szTensorS k a.1 a.2 := by kernel_rfl
theorem L_szTensorS_ok (k : Nat) : PureOk Try.prog 24 (L_szTensorS_G k) :=
  pureOk_of_ev (E_L_szTensorS_ok k) Try.func24 (by kernel_rfl) (by kernel_rfl) L_szTensorS_args L_szTensorS_argD
    (fun l a h => by unfold L_szTensorS_argD at h; split at h <;> first | (cases h; rfl) | cases h) (fun a => rfl) (lpgood_of (l := [(0, b_L_szTensorS_0)]) (by kernel_rfl) ⟨L_szTensorS_g0_ok k, trivial⟩)
    (fun o r h => by unfold L_szTensorS_dec at h; split at h <;> first | (cases h; rfl) | cases h) (L_szTensorS_ev k)
def o_L_szTensorS (k : Nat) : Orc := pureOrc [.one (.sl (.st .tensor)), .one (.int .i64)] (L_szTensorS_G k)
theorem o_L_szTensorS_ok (k : Nat) : OrcOk Try.prog 24 (o_L_szTensorS k) := pureOrc_ok (L_szTensorS_ok k)
/-! ### 12 loop.example/g00778/laws.toShape -/
noncomputable def E_L_toShape (k : Nat) : Env := { P := Try.prog, tt := tt, orc := fun g => noOrc }
theorem E_L_toShape_ok (k : Nat) : EnvOk (E_L_toShape k) := fun g => (noOrc_ok _ _)
noncomputable def c_L_toShape : Code := (Try.f12.body).getD .skip
def LP_L_toShape (ρ : Type) (k : Nat) : Nat → Ev ρ → Ev ρ := fun _ _ _ _ => none
def L_toShape_args (a : Shape) : List Arg := [.agg [.int .i64 a.h, .int .i64 a.w, .int .i64 a.c]]
def L_toShape_argD (l : List Arg) : Option (Shape) := match l with
  | [.agg [.int .i64 b0_0, .int .i64 b0_1, .int .i64 b0_2]] => some (⟨b0_0, b0_1, b0_2⟩ : Shape)
  | _ => none
def L_toShape_enc (r : Shape) : Out := (.agg [.r [] (.int .i64 r.h), .r [] (.int .i64 r.w), .r [] (.int .i64 r.c)], [])
def L_toShape_dec (o : Out) : Option (Shape) := match o with
  | (.agg [.r [] (.int .i64 z1), .r [] (.int .i64 z2), .r [] (.int .i64 z3)], []) => some (⟨z1, z2, z3⟩ : Shape)
  | _ => none
def L_toShape_G (k : Nat) : PG := fun _ l K => (L_toShape_argD l).bind fun a => (L_toShape k a).bind fun r => K (L_toShape_enc r)
theorem L_toShape_ev (k : Nat) (a : Shape) : ev (E_L_toShape k) (LP_L_toShape (Shape) k) 0 c_L_toShape (st0 Try.f12 (L_toShape_args a)) (fin Try.prog Try.f12 (.agg [.sc, .sc, .sc]) L_toShape_dec) = L_toShape k a := by kernel_rfl
theorem L_toShape_ok (k : Nat) : PureOk Try.prog 12 (L_toShape_G k) :=
  pureOk_of_ev (E_L_toShape_ok k) Try.func12 (by kernel_rfl) (by kernel_rfl) L_toShape_args L_toShape_argD
    (fun l a h => by unfold L_toShape_argD at h; split at h <;> first | (cases h; rfl) | cases h) (fun a => rfl) (lpgood_none (by kernel_rfl))
    (fun o r h => by unfold L_toShape_dec at h; split at h <;> first | (cases h; rfl) | cases h) (L_toShape_ev k)
def o_L_toShape (k : Nat) : Orc := pureOrc [.agg [(.int .i64), (.int .i64), (.int .i64)]] (L_toShape_G k)
theorem o_L_toShape_ok (k : Nat) : OrcOk Try.prog 12 (o_L_toShape k) := pureOrc_ok (L_toShape_ok k)
/-! ### 31 loop.example/g00778/laws.toIntS -/
noncomputable def E_L_toIntS (k : Nat) : Env := { P := Try.prog, tt := tt, orc := fun g => noOrc }
theorem E_L_toIntS_ok (k : Nat) : EnvOk (E_L_toIntS k) := fun g => (noOrc_ok _ _)
noncomputable def c_L_toIntS : Code := (Try.f31.body).getD .skip
noncomputable def b_L_toIntS_0 : Code := ((loopsIn 0 c_L_toIntS).getD 0 (0, .skip)).2
def L_toIntS_g0_keep : List Nat := [0, 3, 4]
def L_toIntS_g0_co : List (Where × Co) := []
def L_toIntS_g0_kx : Ex → List Nat
  | .exit j => cond (Nat.beq j 0) [3] []
  | .ret => []
  | .normal => []
def L_toIntS_g0_cx : Ex → List (Where × Co)
  | .exit j => cond (Nat.beq j 0) [] []
  | .ret => []
  | .normal => []
def L_toIntS_g0_tm (pv : (List Int) × (Int × List Int)) : St := { slots := [(0, .r [] (.sl (.int .i64) pv.1)), (3, .own 0), (4, .r [] (.int .i64 pv.2.1))], heap := [(0, .arr none (.int .i64) pv.2.2)], nid := 1, n := 22, gh := [] }
def L_toIntS_g0_dec (nf : NF) : Option ((List Int) × (Int × List Int)) := match nf with
  | ([.r [] (.sl (.int .i64) w0), .own 0, .r [] (.int .i64 w1)], [.arr none (.int .i64) w2], []) => some (w0, (w1, w2))
  | _ => none
theorem L_toIntS_g0_hd (nf : NF) (v : (List Int) × (Int × List Int)) (h : L_toIntS_g0_dec nf = some v) : denorm L_toIntS_g0_keep 22 nf = L_toIntS_g0_tm v := by
  unfold L_toIntS_g0_dec at h
  split at h
  · cases h; rfl
  · cases h
def L_toIntS_g0_x0 (p : List Int) (x : List Int) : St := { slots := [(3, .own 0)], heap := [(0, .arr none (.int .i64) x)], nid := 1, n := 22, gh := [] }
def LP_L_toIntS (ρ : Type) (k : Nat) : Nat → Ev ρ → Ev ρ := fun id f => cond (Nat.beq id 0) (loopOrc L_toIntS_g0_keep L_toIntS_g0_co (fun n nf => cond (Nat.beq n 22) (L_toIntS_g0_dec nf) none) fun pv K => iter (fun v next => L_toIntS_g0 k pv.1 v next (fun x => K (.exit 0) (L_toIntS_g0_x0 pv.1 x))) k pv.2) ((fun _ _ _ _ => none) id f)
theorem L_toIntS_g0_round {ρ : Type} (k : Nat) (p : List Int) (v : Int × List Int) (K K1 : Ex → St → Option ρ) : ev (E_L_toIntS k) (LP_L_toIntS ρ k) 0 b_L_toIntS_0 (L_toIntS_g0_tm (p, v)) (fun e st' => match e with
    | .normal => (normC L_toIntS_g0_keep L_toIntS_g0_co st').bind fun nf => K1 .normal (denorm L_toIntS_g0_keep st'.n nf)
    | e => (normC (L_toIntS_g0_kx e) (L_toIntS_g0_cx e) st').bind fun nf => K e (denorm (L_toIntS_g0_kx e) st'.n nf)) = L_toIntS_g0 k p v (fun v' => K1 .normal (L_toIntS_g0_tm (p, v'))) (fun x => K (.exit 0) (L_toIntS_g0_x0 p x)) := by kernel_rfl
theorem L_toIntS_g0_ok {ρ : Type} (k : Nat) : Sound Try.prog (.loop b_L_toIntS_0) (LP_L_toIntS ρ k 0 fun st K => ev (E_L_toIntS k) (LP_L_toIntS ρ k) 0 b_L_toIntS_0 st K) :=
  loop_ok (ev_sound (E_L_toIntS_ok k) b_L_toIntS_0 0 (lpgood_none (by kernel_rfl))) L_toIntS_g0_kx L_toIntS_g0_cx k (g := fun p v next K => L_toIntS_g0 k p v next (fun x => K (.exit 0) (L_toIntS_g0_x0 p x))) (dec_at L_toIntS_g0_hd) (fun p v K K1 => L_toIntS_g0_round k p v K K1)
def L_toIntS_args (a : List Int) : List Arg := [.one (.sl (.int .i64) a)]
def L_toIntS_argD (l : List Arg) : Option (List Int) := match l with
  | [.one (.sl (.int .i64) b0)] => some b0
  | _ => none
def L_toIntS_enc (r : List Int) : Out := (.own 0, [.arr none (.int .i64) r])
def L_toIntS_dec (o : Out) : Option (List Int) := match o with
  | (.own 0, [.arr none (.int .i64) z1]) => some z1
  | _ => none
def L_toIntS_G (k : Nat) : PG := fun _ l K => (L_toIntS_argD l).bind fun a => (L_toIntS k a).bind fun r => K (L_toIntS_enc r)
theorem L_toIntS_ev (k : Nat) (a : List Int) : ev (E_L_toIntS k) (LP_L_toIntS (List Int) k) 0 c_L_toIntS (st0 Try.f31 (L_toIntS_args a)) (fin Try.prog Try.f31 (.own (.int .i64)) L_toIntS_dec) = L_toIntS k a := by kernel_rfl
theorem L_toIntS_ok (k : Nat) : PureOk Try.prog 31 (L_toIntS_G k) :=
  pureOk_of_ev (E_L_toIntS_ok k) Try.func31 (by kernel_rfl) (by kernel_rfl) L_toIntS_args L_toIntS_argD
    (fun l a h => by unfold L_toIntS_argD at h; split at h <;> first | (cases h; rfl) | cases h) (fun a => rfl) (lpgood_of (l := [(0, b_L_toIntS_0)]) (by kernel_rfl) ⟨L_toIntS_g0_ok k, trivial⟩)
    (fun o r h => by unfold L_toIntS_dec at h; split at h <;> first | (cases h; rfl) | cases h) (L_toIntS_ev k)
def o_L_toIntS (k : Nat) : Orc := pureOrc [.one (.sl (.int .i64))] (L_toIntS_G k)
theorem o_L_toIntS_ok (k : Nat) : OrcOk Try.prog 31 (o_L_toIntS k) := pureOrc_ok (L_toIntS_ok k)
/-! ### 11 loop.example/g00778/laws.toTensor -/
noncomputable def E_L_toTensor (k : Nat) : Env := { P := Try.prog, tt := tt, orc := fun g => cond (Nat.beq g 12) (o_L_toShape k) (cond (Nat.beq g 31) (o_L_toIntS k) (noOrc)) }
theorem E_L_toTensor_ok (k : Nat) : EnvOk (E_L_toTensor k) := fun g => (orc_cond (o_L_toShape_ok k) (orc_cond (o_L_toIntS_ok k) (noOrc_ok _ _)))
noncomputable def c_L_toTensor : Code := (Try.f11.body).getD .skip
def LP_L_toTensor (ρ : Type) (k : Nat) : Nat → Ev ρ → Ev ρ := fun _ _ _ _ => none
def L_toTensor_args (a : Tensor) : List Arg := [.agg [.int .i64 a.sh.h, .int .i64 a.sh.w, .int .i64 a.sh.c, .sl (.int .i64) a.data]]
def L_toTensor_argD (l : List Arg) : Option (Tensor) := match l with
  | [.agg [.int .i64 b0_0, .int .i64 b0_1, .int .i64 b0_2, .sl (.int .i64) b0_3]] => some (⟨(⟨b0_0, b0_1, b0_2⟩ : Shape), b0_3⟩ : Tensor)
  | _ => none
def L_toTensor_enc (r : Tensor) : Out := (.agg [.r [] (.int .i64 r.sh.h), .r [] (.int .i64 r.sh.w), .r [] (.int .i64 r.sh.c), .own 0], [.arr none (.int .i64) r.data])
def L_toTensor_dec (o : Out) : Option (Tensor) := match o with
  | (.agg [.r [] (.int .i64 z1), .r [] (.int .i64 z2), .r [] (.int .i64 z3), .own 0], [.arr none (.int .i64) z4]) => some (⟨(⟨z1, z2, z3⟩ : Shape), z4⟩ : Tensor)
  | _ => none
def L_toTensor_G (k : Nat) : PG := fun _ l K => (L_toTensor_argD l).bind fun a => (L_toTensor k a).bind fun r => K (L_toTensor_enc r)
theorem L_toTensor_ev (k : Nat) (a : Tensor) : ev (E_L_toTensor k) (LP_L_toTensor (Tensor) k) 0 c_L_toTensor (st0 Try.f11 (L_toTensor_args a)) (fin Try.prog Try.f11 (.agg [.sc, .sc, .sc, .own (.int .i64)]) L_toTensor_dec) = L_toTensor k a := by kernel_rfl
theorem L_toTensor_ok (k : Nat) : PureOk Try.prog 11 (L_toTensor_G k) :=
  pureOk_of_ev (E_L_toTensor_ok k) Try.func11 (by kernel_rfl) (by kernel_rfl) L_toTensor_args L_toTensor_argD
    (fun l a h => by unfold L_toTensor_argD at h; split at h <;> first | (cases h; rfl) | cases h) (fun a => rfl) (lpgood_none (by kernel_rfl))
    (fun o r h => by unfold L_toTensor_dec at h; split at h <;> first | (cases h; rfl) | cases h) (L_toTensor_ev k)
def o_L_toTensor (k : Nat) : Orc := pureOrc [.agg [(.int .i64), (.int .i64), (.int .i64), (.sl (.int .i64))]] (L_toTensor_G k)
theorem o_L_toTensor_ok (k : Nat) : OrcOk Try.prog 11 (o_L_toTensor k) := pureOrc_ok (L_toTensor_ok k)
/-! ### 26 loop.example/g00778/laws.toTensorS -/
noncomputable def E_L_toTensorS (k : Nat) : Env := { P := Try.prog, tt := tt, orc := fun g => cond (Nat.beq g 11) (o_L_toTensor k) (noOrc) }
theorem E_L_toTensorS_ok (k : Nat) : EnvOk (E_L_toTensorS k) := fun g => (orc_cond (o_L_toTensor_ok k) (noOrc_ok _ _))
noncomputable def c_L_toTensorS : Code := (Try.f26.body).getD .skip
noncomputable def b_L_toTensorS_0 : Code := ((loopsIn 0 c_L_toTensorS).getD 0 (0, .skip)).2
def L_toTensorS_g0_keep : List Nat := [0, 3, 4]
def L_toTensorS_g0_co : List (Where × Co) := []
def L_toTensorS_g0_kx : Ex → List Nat
  | .exit j => cond (Nat.beq j 0) [3] []
  | .ret => []
  | .normal => []
def L_toTensorS_g0_cx : Ex → List (Where × Co)
  | .exit j => cond (Nat.beq j 0) [] []
  | .ret => []
  | .normal => []
def L_toTensorS_g0_tm (pv : (List Tensor) × (Int × List Tensor)) : St := { slots := [(0, .r [] (.sl (.st .tensor) pv.1)), (3, .own 0), (4, .r [] (.int .i64 pv.2.1))], heap := [(0, .arr none (.st .tensor) pv.2.2)], nid := 1, n := 23, gh := [] }
def L_toTensorS_g0_dec (nf : NF) : Option ((List Tensor) × (Int × List Tensor)) := match nf with
  | ([.r [] (.sl (.st .tensor) w0), .own 0, .r [] (.int .i64 w1)], [.arr none (.st .tensor) w2], []) => some (w0, (w1, w2))
  | _ => none
theorem L_toTensorS_g0_hd (nf : NF) (v : (List Tensor) × (Int × List Tensor)) (h : L_toTensorS_g0_dec nf = some v) : denorm L_toTensorS_g0_keep 23 nf = L_toTensorS_g0_tm v := by
  unfold L_toTensorS_g0_dec at h
  split at h
  · cases h; rfl
  · cases h
def L_toTensorS_g0_x0 (p : List Tensor) (x : List Tensor) : St := { slots := [(3, .own 0)], heap := [(0, .arr none (.st .tensor) x)], nid := 1, n := 23, gh := [] }
def LP_L_toTensorS (ρ : Type) (k : Nat) : Nat → Ev ρ → Ev ρ := fun id f => cond (Nat.beq id 0) (loopOrc L_toTensorS_g0_keep L_toTensorS_g0_co (fun n nf => cond (Nat.beq n 23) (L_toTensorS_g0_dec nf) none) fun pv K => iter (fun v next => L_toTensorS_g0 k pv.1 v next (fun x => K (.exit 0) (L_toTensorS_g0_x0 pv.1 x))) k pv.2) ((fun _ _ _ _ => none) id f)
theorem L_toTensorS_g0_round {ρ : Type} (k : Nat) (p : List Tensor) (v : Int × List Tensor) (K K1 : Ex → St → Option ρ) : ev (E_L_toTensorS k) (LP_L_toTensorS ρ k) 0 b_L_toTensorS_0 (L_toTensorS_g0_tm (p, v)) (fun e st' => match e with
    | .normal => (normC L_toTensorS_g0_keep L_toTensorS_g0_co st').bind fun nf => K1 .normal (denorm L_toTensorS_g0_keep st'.n nf)
    | e => (normC (L_toTensorS_g0_kx e) (L_toTensorS_g0_cx e) st').bind fun nf => K e (denorm (L_toTensorS_g0_kx e) st'.n nf)) = L_toTensorS_g0 k p v (fun v' => K1 .normal (L_toTensorS_g0_tm (p, v'))) (fun x => K (.exit 0) (L_toTensorS_g0_x0 p x)) := by kernel_rfl
theorem L_toTensorS_g0_ok {ρ : Type} (k : Nat) : Sound Try.prog (.loop b_L_toTensorS_0) (LP_L_toTensorS ρ k 0 fun st K => ev (E_L_toTensorS k) (LP_L_toTensorS ρ k) 0 b_L_toTensorS_0 st K) :=
  loop_ok (ev_sound (E_L_toTensorS_ok k) b_L_toTensorS_0 0 (lpgood_none (by kernel_rfl))) L_toTensorS_g0_kx L_toTensorS_g0_cx k (g := fun p v next K => L_toTensorS_g0 k p v next (fun x => K (.exit 0) (L_toTensorS_g0_x0 p x))) (dec_at L_toTensorS_g0_hd) (fun p v K K1 => L_toTensorS_g0_round k p v K K1)
def L_toTensorS_args (a : List Tensor) : List Arg := [.one (.sl (.st .tensor) a)]
def L_toTensorS_argD (l : List Arg) : Option (List Tensor) := match l with
  | [.one (.sl (.st .tensor) b0)] => some b0
  | _ => none
def L_toTensorS_enc (r : List Tensor) : Out := (.own 0, [.arr none (.st .tensor) r])
def L_toTensorS_dec (o : Out) : Option (List Tensor) := match o with
  | (.own 0, [.arr none (.st .tensor) z1]) => some z1
  | _ => none
def L_toTensorS_G (k : Nat) : PG := fun _ l K => (L_toTensorS_argD l).bind fun a => (L_toTensorS k a).bind fun r => K (L_toTensorS_enc r)
theorem L_toTensorS_ev (k : Nat) (a : List Tensor) : ev (E_L_toTensorS k) (LP_L_toTensorS (List Tensor) k) 0 c_L_toTensorS (st0 Try.f26 (L_toTensorS_args a)) (fin Try.prog Try.f26 (.own (.st .tensor)) L_toTensorS_dec) = L_toTensorS k a := by kernel_rfl
theorem L_toTensorS_ok (k : Nat) : PureOk Try.prog 26 (L_toTensorS_G k) :=
  pureOk_of_ev (E_L_toTensorS_ok k) Try.func26 (by kernel_rfl) (by kernel_rfl) L_toTensorS_args L_toTensorS_argD
    (fun l a h => by unfold L_toTensorS_argD at h; split at h <;> first | (cases h; rfl) | cases h) (fun a => rfl) (lpgood_of (l := [(0, b_L_toTensorS_0)]) (by kernel_rfl) ⟨L_toTensorS_g0_ok k, trivial⟩)
    (fun o r h => by unfold L_toTensorS_dec at h; split at h <;> first | (cases h; rfl) | cases h) (L_toTensorS_ev k)
def o_L_toTensorS (k : Nat) : Orc := pureOrc [.one (.sl (.st .tensor))] (L_toTensorS_G k)
theorem o_L_toTensorS_ok (k : Nat) : OrcOk Try.prog 26 (o_L_toTensorS k) := pureOrc_ok (L_toTensorS_ok k)
/-! ### 58 loop.example/g00778/spec.l01In -/
noncomputable def E_S_l01In (k : Nat) : Env := { P := Try.prog, tt := tt, orc := fun g => noOrc }
theorem E_S_l01In_ok (k : Nat) : EnvOk (E_S_l01In k) := fun g => (noOrc_ok _ _)
noncomputable def c_S_l01In : Code := (Try.f58.body).getD .skip
def LP_S_l01In (ρ : Type) (k : Nat) : Nat → Ev ρ → Ev ρ := fun _ _ _ _ => none
def S_l01In_args (a : Int × Int × Int) : List Arg := [.one (.int .i64 a.1), .one (.int .i64 a.2.1), .one (.int .i64 a.2.2)]
def S_l01In_argD (l : List Arg) : Option (Int × Int × Int) := match l with
  | [.one (.int .i64 b0), .one (.int .i64 b1), .one (.int .i64 b2)] => some (b0, b1, b2)
  | _ => none
def S_l01In_enc (r : Bool) : Out := (.r [] (.bool r), [])
def S_l01In_dec (o : Out) : Option (Bool) := match o with
  | (.r [] (.bool z1), []) => some z1
  | _ => none
def S_l01In_G (k : Nat) : PG := fun _ l K => (S_l01In_argD l).bind fun a => (S_l01In k a.1 a.2.1 a.2.2).bind fun r => K (S_l01In_enc r)
theorem S_l01In_ev (k : Nat) (a : Int × Int × Int) : ev (E_S_l01In k) (LP_S_l01In (Bool) k) 0 c_S_l01In (st0 Try.f58 (S_l01In_args a)) (fin Try.prog Try.f58 (.sc) S_l01In_dec) = S_l01In k a.1 a.2.1 a.2.2 := by kernel_rfl
theorem S_l01In_ok (k : Nat) : PureOk Try.prog 58 (S_l01In_G k) :=
  pureOk_of_ev (E_S_l01In_ok k) Try.func58 (by kernel_rfl) (by kernel_rfl) S_l01In_args S_l01In_argD
    (fun l a h => by unfold S_l01In_argD at h; split at h <;> first | (cases h; rfl) | cases h) (fun a => rfl) (lpgood_none (by kernel_rfl))
    (fun o r h => by unfold S_l01In_dec at h; split at h <;> first | (cases h; rfl) | cases h) (S_l01In_ev k)
def o_S_l01In (k : Nat) : Orc := pureOrc [.one (.int .i64), .one (.int .i64), .one (.int .i64)] (S_l01In_G k)
theorem o_S_l01In_ok (k : Nat) : OrcOk Try.prog 58 (o_S_l01In k) := pureOrc_ok (S_l01In_ok k)
/-! ### 44 loop.example/g00778/spec.ShapeOk -/
noncomputable def E_S_ShapeOk (k : Nat) : Env := { P := Try.prog, tt := tt, orc := fun g => cond (Nat.beq g 58) (o_S_l01In k) (noOrc) }
theorem E_S_ShapeOk_ok (k : Nat) : EnvOk (E_S_ShapeOk k) := fun g => (orc_cond (o_S_l01In_ok k) (noOrc_ok _ _))
noncomputable def c_S_ShapeOk : Code := (Try.f44.body).getD .skip
def LP_S_ShapeOk (ρ : Type) (k : Nat) : Nat → Ev ρ → Ev ρ := fun _ _ _ _ => none
def S_ShapeOk_args (a : Shape) : List Arg := [.agg [.int .i64 a.h, .int .i64 a.w, .int .i64 a.c]]
def S_ShapeOk_argD (l : List Arg) : Option (Shape) := match l with
  | [.agg [.int .i64 b0_0, .int .i64 b0_1, .int .i64 b0_2]] => some (⟨b0_0, b0_1, b0_2⟩ : Shape)
  | _ => none
def S_ShapeOk_enc (r : Bool) : Out := (.r [] (.bool r), [])
def S_ShapeOk_dec (o : Out) : Option (Bool) := match o with
  | (.r [] (.bool z1), []) => some z1
  | _ => none
def S_ShapeOk_G (k : Nat) : PG := fun _ l K => (S_ShapeOk_argD l).bind fun a => (S_ShapeOk k a).bind fun r => K (S_ShapeOk_enc r)
theorem S_ShapeOk_ev (k : Nat) (a : Shape) : ev (E_S_ShapeOk k) (LP_S_ShapeOk (Bool) k) 0 c_S_ShapeOk (st0 Try.f44 (S_ShapeOk_args a)) (fin Try.prog Try.f44 (.sc) S_ShapeOk_dec) = S_ShapeOk k a := by kernel_rfl
theorem S_ShapeOk_ok (k : Nat) : PureOk Try.prog 44 (S_ShapeOk_G k) :=
  pureOk_of_ev (E_S_ShapeOk_ok k) Try.func44 (by kernel_rfl) (by kernel_rfl) S_ShapeOk_args S_ShapeOk_argD
    (fun l a h => by unfold S_ShapeOk_argD at h; split at h <;> first | (cases h; rfl) | cases h) (fun a => rfl) (lpgood_none (by kernel_rfl))
    (fun o r h => by unfold S_ShapeOk_dec at h; split at h <;> first | (cases h; rfl) | cases h) (S_ShapeOk_ev k)
def o_S_ShapeOk (k : Nat) : Orc := pureOrc [.agg [(.int .i64), (.int .i64), (.int .i64)]] (S_ShapeOk_G k)
theorem o_S_ShapeOk_ok (k : Nat) : OrcOk Try.prog 44 (o_S_ShapeOk k) := pureOrc_ok (S_ShapeOk_ok k)
/-! ### 45 loop.example/g00778/spec.SizeOf -/
noncomputable def E_S_SizeOf (k : Nat) : Env := { P := Try.prog, tt := tt, orc := fun g => cond (Nat.beq g 44) (o_S_ShapeOk k) (noOrc) }
theorem E_S_SizeOf_ok (k : Nat) : EnvOk (E_S_SizeOf k) := fun g => (orc_cond (o_S_ShapeOk_ok k) (noOrc_ok _ _))
noncomputable def c_S_SizeOf : Code := (Try.f45.body).getD .skip
def LP_S_SizeOf (ρ : Type) (k : Nat) : Nat → Ev ρ → Ev ρ := fun _ _ _ _ => none
def S_SizeOf_args (a : Shape) : List Arg := [.agg [.int .i64 a.h, .int .i64 a.w, .int .i64 a.c]]
def S_SizeOf_argD (l : List Arg) : Option (Shape) := match l with
  | [.agg [.int .i64 b0_0, .int .i64 b0_1, .int .i64 b0_2]] => some (⟨b0_0, b0_1, b0_2⟩ : Shape)
  | _ => none
def S_SizeOf_enc (r : Int) : Out := (.r [] (.int .i64 r), [])
def S_SizeOf_dec (o : Out) : Option (Int) := match o with
  | (.r [] (.int .i64 z1), []) => some z1
  | _ => none
def S_SizeOf_G (k : Nat) : PG := fun _ l K => (S_SizeOf_argD l).bind fun a => (S_SizeOf k a).bind fun r => K (S_SizeOf_enc r)
theorem S_SizeOf_ev (k : Nat) (a : Shape) : ev (E_S_SizeOf k) (LP_S_SizeOf (Int) k) 0 c_S_SizeOf (st0 Try.f45 (S_SizeOf_args a)) (fin Try.prog Try.f45 (.sc) S_SizeOf_dec) = S_SizeOf k a := by kernel_rfl
theorem S_SizeOf_ok (k : Nat) : PureOk Try.prog 45 (S_SizeOf_G k) :=
  pureOk_of_ev (E_S_SizeOf_ok k) Try.func45 (by kernel_rfl) (by kernel_rfl) S_SizeOf_args S_SizeOf_argD
    (fun l a h => by unfold S_SizeOf_argD at h; split at h <;> first | (cases h; rfl) | cases h) (fun a => rfl) (lpgood_none (by kernel_rfl))
    (fun o r h => by unfold S_SizeOf_dec at h; split at h <;> first | (cases h; rfl) | cases h) (S_SizeOf_ev k)
def o_S_SizeOf (k : Nat) : Orc := pureOrc [.agg [(.int .i64), (.int .i64), (.int .i64)]] (S_SizeOf_G k)
theorem o_S_SizeOf_ok (k : Nat) : OrcOk Try.prog 45 (o_S_SizeOf k) := pureOrc_ok (S_SizeOf_ok k)
/-! ### 64 loop.example/g00778/spec.l02Int8 -/
noncomputable def E_S_l02Int8 (k : Nat) : Env := { P := Try.prog, tt := tt, orc := fun g => cond (Nat.beq g 58) (o_S_l01In k) (noOrc) }
theorem E_S_l02Int8_ok (k : Nat) : EnvOk (E_S_l02Int8 k) := fun g => (orc_cond (o_S_l01In_ok k) (noOrc_ok _ _))
noncomputable def c_S_l02Int8 : Code := (Try.f64.body).getD .skip
def LP_S_l02Int8 (ρ : Type) (k : Nat) : Nat → Ev ρ → Ev ρ := fun _ _ _ _ => none
def S_l02Int8_args (a : Int) : List Arg := [.one (.int .i64 a)]
def S_l02Int8_argD (l : List Arg) : Option (Int) := match l with
  | [.one (.int .i64 b0)] => some b0
  | _ => none
def S_l02Int8_enc (r : Bool) : Out := (.r [] (.bool r), [])
def S_l02Int8_dec (o : Out) : Option (Bool) := match o with
  | (.r [] (.bool z1), []) => some z1
  | _ => none
def S_l02Int8_G (k : Nat) : PG := fun _ l K => (S_l02Int8_argD l).bind fun a => (S_l02Int8 k a).bind fun r => K (S_l02Int8_enc r)
theorem S_l02Int8_ev (k : Nat) (a : Int) : ev (E_S_l02Int8 k) (LP_S_l02Int8 (Bool) k) 0 c_S_l02Int8 (st0 Try.f64 (S_l02Int8_args a)) (fin Try.prog Try.f64 (.sc) S_l02Int8_dec) = S_l02Int8 k a := by kernel_rfl
theorem S_l02Int8_ok (k : Nat) : PureOk Try.prog 64 (S_l02Int8_G k) :=
  pureOk_of_ev (E_S_l02Int8_ok k) Try.func64 (by kernel_rfl) (by kernel_rfl) S_l02Int8_args S_l02Int8_argD
    (fun l a h => by unfold S_l02Int8_argD at h; split at h <;> first | (cases h; rfl) | cases h) (fun a => rfl) (lpgood_none (by kernel_rfl))
    (fun o r h => by unfold S_l02Int8_dec at h; split at h <;> first | (cases h; rfl) | cases h) (S_l02Int8_ev k)
def o_S_l02Int8 (k : Nat) : Orc := pureOrc [.one (.int .i64)] (S_l02Int8_G k)
theorem o_S_l02Int8_ok (k : Nat) : OrcOk Try.prog 64 (o_S_l02Int8 k) := pureOrc_ok (S_l02Int8_ok k)
/-! ### 43 loop.example/g00778/spec.TensorOk -/
noncomputable def E_S_TensorOk (k : Nat) : Env := { P := Try.prog, tt := tt, orc := fun g => cond (Nat.beq g 44) (o_S_ShapeOk k) (cond (Nat.beq g 45) (o_S_SizeOf k) (cond (Nat.beq g 64) (o_S_l02Int8 k) (noOrc))) }
theorem E_S_TensorOk_ok (k : Nat) : EnvOk (E_S_TensorOk k) := fun g => (orc_cond (o_S_ShapeOk_ok k) (orc_cond (o_S_SizeOf_ok k) (orc_cond (o_S_l02Int8_ok k) (noOrc_ok _ _))))
noncomputable def c_S_TensorOk : Code := (Try.f43.body).getD .skip
noncomputable def b_S_TensorOk_0 : Code := ((loopsIn 0 c_S_TensorOk).getD 0 (0, .skip)).2
def S_TensorOk_g0_keep : List Nat := [1, 3]
def S_TensorOk_g0_co : List (Where × Co) := []
def S_TensorOk_g0_kx : Ex → List Nat
  | .exit j => cond (Nat.beq j 0) [] []
  | .ret => [2]
  | .normal => []
def S_TensorOk_g0_cx : Ex → List (Where × Co)
  | .exit j => cond (Nat.beq j 0) [] []
  | .ret => []
  | .normal => []
def S_TensorOk_g0_tm (pv : (Int × Int × Int × List Int) × (Int)) : St := { slots := [(1, .ptr 0 0 0), (3, .r [] (.int .i64 pv.2))], heap := [(0, .box [.r [] (.int .i64 pv.1.1), .r [] (.int .i64 pv.1.2.1), .r [] (.int .i64 pv.1.2.2.1), .r [] (.sl (.int .i64) pv.1.2.2.2)])], nid := 1, n := 31, gh := [] }
def S_TensorOk_g0_dec (nf : NF) : Option ((Int × Int × Int × List Int) × (Int)) := match nf with
  | ([.ptr 0 0 0, .r [] (.int .i64 w0)], [.box [.r [] (.int .i64 w1), .r [] (.int .i64 w2), .r [] (.int .i64 w3), .r [] (.sl (.int .i64) w4)]], []) => some ((w1, w2, w3, w4), w0)
  | _ => none
theorem S_TensorOk_g0_hd (nf : NF) (v : (Int × Int × Int × List Int) × (Int)) (h : S_TensorOk_g0_dec nf = some v) : denorm S_TensorOk_g0_keep 31 nf = S_TensorOk_g0_tm v := by
  unfold S_TensorOk_g0_dec at h
  split at h
  · cases h; rfl
  · cases h
def S_TensorOk_g0_x0 (p : Int × Int × Int × List Int) (x : Unit) : St := { slots := [], heap := [], nid := 0, n := 31, gh := [] }
def S_TensorOk_g0_xret (p : Int × Int × Int × List Int) (x : Bool) : St := { slots := [(2, .r [] (.bool x))], heap := [], nid := 0, n := 31, gh := [] }
def LP_S_TensorOk (ρ : Type) (k : Nat) : Nat → Ev ρ → Ev ρ := fun id f => cond (Nat.beq id 0) (loopOrc S_TensorOk_g0_keep S_TensorOk_g0_co (fun n nf => cond (Nat.beq n 31) (S_TensorOk_g0_dec nf) none) fun pv K => iter (fun v next => S_TensorOk_g0 k pv.1 v next (fun x => K (.exit 0) (S_TensorOk_g0_x0 pv.1 x)) (fun x => K .ret (S_TensorOk_g0_xret pv.1 x))) k pv.2) ((fun _ _ _ _ => none) id f)
theorem S_TensorOk_g0_round {ρ : Type} (k : Nat) (p : Int × Int × Int × List Int) (v : Int) (K K1 : Ex → St → Option ρ) : ev (E_S_TensorOk k) (LP_S_TensorOk ρ k) 0 b_S_TensorOk_0 (S_TensorOk_g0_tm (p, v)) (fun e st' => match e with
    | .normal => (normC S_TensorOk_g0_keep S_TensorOk_g0_co st').bind fun nf => K1 .normal (denorm S_TensorOk_g0_keep st'.n nf)
    | e => (normC (S_TensorOk_g0_kx e) (S_TensorOk_g0_cx e) st').bind fun nf => K e (denorm (S_TensorOk_g0_kx e) st'.n nf)) = S_TensorOk_g0 k p v (fun v' => K1 .normal (S_TensorOk_g0_tm (p, v'))) (fun x => K (.exit 0) (S_TensorOk_g0_x0 p x)) (fun x => K .ret (S_TensorOk_g0_xret p x)) := by kernel_rfl
theorem S_TensorOk_g0_ok {ρ : Type} (k : Nat) : Sound Try.prog (.loop b_S_TensorOk_0) (LP_S_TensorOk ρ k 0 fun st K => ev (E_S_TensorOk k) (LP_S_TensorOk ρ k) 0 b_S_TensorOk_0 st K) :=
  loop_ok (ev_sound (E_S_TensorOk_ok k) b_S_TensorOk_0 0 (lpgood_none (by kernel_rfl))) S_TensorOk_g0_kx S_TensorOk_g0_cx k (g := fun p v next K => S_TensorOk_g0 k p v next (fun x => K (.exit 0) (S_TensorOk_g0_x0 p x)) (fun x => K .ret (S_TensorOk_g0_xret p x))) (dec_at S_TensorOk_g0_hd) (fun p v K K1 => S_TensorOk_g0_round k p v K K1)
def S_TensorOk_args (a : Tensor) : List Arg := [.agg [.int .i64 a.sh.h, .int .i64 a.sh.w, .int .i64 a.sh.c, .sl (.int .i64) a.data]]
def S_TensorOk_argD (l : List Arg) : Option (Tensor) := match l with
  | [.agg [.int .i64 b0_0, .int .i64 b0_1, .int .i64 b0_2, .sl (.int .i64) b0_3]] => some (⟨(⟨b0_0, b0_1, b0_2⟩ : Shape), b0_3⟩ : Tensor)
  | _ => none
def S_TensorOk_enc (r : Bool) : Out := (.r [] (.bool r), [])
def S_TensorOk_dec (o : Out) : Option (Bool) := match o with
  | (.r [] (.bool z1), []) => some z1
  | _ => none
def S_TensorOk_G (k : Nat) : PG := fun _ l K => (S_TensorOk_argD l).bind fun a => (S_TensorOk k a).bind fun r => K (S_TensorOk_enc r)
theorem S_TensorOk_ev (k : Nat) (a : Tensor) : ev (E_S_TensorOk k) (LP_S_TensorOk (Bool) k) 0 c_S_TensorOk (st0 Try.f43 (S_TensorOk_args a)) (fin Try.prog Try.f43 (.sc) S_TensorOk_dec) = S_TensorOk k a := by kernel_rfl
theorem S_TensorOk_ok (k : Nat) : PureOk Try.prog 43 (S_TensorOk_G k) :=
  pureOk_of_ev (E_S_TensorOk_ok k) Try.func43 (by kernel_rfl) (by kernel_rfl) S_TensorOk_args S_TensorOk_argD
    (fun l a h => by unfold S_TensorOk_argD at h; split at h <;> first | (cases h; rfl) | cases h) (fun a => rfl) (lpgood_of (l := [(0, b_S_TensorOk_0)]) (by kernel_rfl) ⟨S_TensorOk_g0_ok k, trivial⟩)
    (fun o r h => by unfold S_TensorOk_dec at h; split at h <;> first | (cases h; rfl) | cases h) (S_TensorOk_ev k)
def o_S_TensorOk (k : Nat) : Orc := pureOrc [.agg [(.int .i64), (.int .i64), (.int .i64), (.sl (.int .i64))]] (S_TensorOk_G k)
theorem o_S_TensorOk_ok (k : Nat) : OrcOk Try.prog 43 (o_S_TensorOk k) := pureOrc_ok (S_TensorOk_ok k)
/-! ### 25 loop.example/g00778/spec.JoinBatch -/
noncomputable def E_S_JoinBatch (k : Nat) : Env := { P := Try.prog, tt := tt, orc := fun g => cond (Nat.beq g 43) (o_S_TensorOk k) (cond (Nat.beq g 58) (o_S_l01In k) (noOrc)) }
theorem E_S_JoinBatch_ok (k : Nat) : EnvOk (E_S_JoinBatch k) := fun g => (orc_cond (o_S_TensorOk_ok k) (orc_cond (o_S_l01In_ok k) (noOrc_ok _ _)))
noncomputable def c_S_JoinBatch : Code := (Try.f25.body).getD .skip
noncomputable def b_S_JoinBatch_0 : Code := ((loopsIn 0 c_S_JoinBatch).getD 0 (0, .skip)).2
noncomputable def b_S_JoinBatch_1 : Code := ((loopsIn 0 b_S_JoinBatch_0).getD 0 (0, .skip)).2
def S_JoinBatch_g1_keep : List Nat := [0, 2, 4, 5, 6, 7]
def S_JoinBatch_g1_co : List (Where × Co) := []
def S_JoinBatch_g1_kx : Ex → List Nat
  | .exit j => cond (Nat.beq j 2) [0, 2, 4, 5] []
  | .ret => []
  | .normal => []
def S_JoinBatch_g1_cx : Ex → List (Where × Co)
  | .exit j => cond (Nat.beq j 2) [] []
  | .ret => []
  | .normal => []
def S_JoinBatch_g1_tm (pv : (List Tensor × Int × Int × Int × Int × Int × Int × Int × Int × Int × Int × List Int) × (Int × List Int)) : St := { slots := [(0, .r [] (.sl (.st .tensor) pv.1.1)), (2, .ptr 0 0 0), (4, .ptr 1 0 0), (5, .r [] (.int .i64 pv.1.2.1)), (6, .ptr 2 0 0), (7, .r [] (.int .i64 pv.2.1))], heap := [(0, .box [.r [] (.int .i64 pv.1.2.2.1), .r [] (.int .i64 pv.1.2.2.2.1), .r [] (.int .i64 pv.1.2.2.2.2.1), .nilS]), (1, .box [.r [] (.int .i64 pv.1.2.2.2.2.2.1), .r [] (.int .i64 pv.1.2.2.2.2.2.2.1), .r [] (.int .i64 pv.1.2.2.2.2.2.2.2.1), .own 3]), (2, .box [.r [] (.int .i64 pv.1.2.2.2.2.2.2.2.2.1), .r [] (.int .i64 pv.1.2.2.2.2.2.2.2.2.2.1), .r [] (.int .i64 pv.1.2.2.2.2.2.2.2.2.2.2.1), .r [] (.sl (.int .i64) pv.1.2.2.2.2.2.2.2.2.2.2.2)]), (3, .arr none (.int .i64) pv.2.2)], nid := 4, n := 78, gh := [] }
def S_JoinBatch_g1_dec (nf : NF) : Option ((List Tensor × Int × Int × Int × Int × Int × Int × Int × Int × Int × Int × List Int) × (Int × List Int)) := match nf with
  | ([.r [] (.sl (.st .tensor) w0), .ptr 0 0 0, .ptr 1 0 0, .r [] (.int .i64 w1), .ptr 2 0 0, .r [] (.int .i64 w2)], [.box [.r [] (.int .i64 w3), .r [] (.int .i64 w4), .r [] (.int .i64 w5), .nilS], .box [.r [] (.int .i64 w6), .r [] (.int .i64 w7), .r [] (.int .i64 w8), .own 3], .box [.r [] (.int .i64 w9), .r [] (.int .i64 w10), .r [] (.int .i64 w11), .r [] (.sl (.int .i64) w12)], .arr none (.int .i64) w13], []) => some ((w0, w1, w3, w4, w5, w6, w7, w8, w9, w10, w11, w12), (w2, w13))
  | _ => none
theorem S_JoinBatch_g1_hd (nf : NF) (v : (List Tensor × Int × Int × Int × Int × Int × Int × Int × Int × Int × Int × List Int) × (Int × List Int)) (h : S_JoinBatch_g1_dec nf = some v) : denorm S_JoinBatch_g1_keep 78 nf = S_JoinBatch_g1_tm v := by
  unfold S_JoinBatch_g1_dec at h
  split at h
  · cases h; rfl
  · cases h
def S_JoinBatch_g1_x2 (p : List Tensor × Int × Int × Int × Int × Int × Int × Int × Int × Int × Int × List Int) (x : List Int) : St := { slots := [(0, .r [] (.sl (.st .tensor) p.1)), (2, .ptr 0 0 0), (4, .ptr 1 0 0), (5, .r [] (.int .i64 p.2.1))], heap := [(0, .box [.r [] (.int .i64 p.2.2.1), .r [] (.int .i64 p.2.2.2.1), .r [] (.int .i64 p.2.2.2.2.1), .nilS]), (1, .box [.r [] (.int .i64 p.2.2.2.2.2.1), .r [] (.int .i64 p.2.2.2.2.2.2.1), .r [] (.int .i64 p.2.2.2.2.2.2.2.1), .own 2]), (2, .arr none (.int .i64) x)], nid := 3, n := 78, gh := [] }
def S_JoinBatch_g0_keep : List Nat := [0, 2, 4, 5]
def S_JoinBatch_g0_co : List (Where × Co) := [((.pbox 4 3), (.nilOwn false (.int .i64)))]
def S_JoinBatch_g0_kx : Ex → List Nat
  | .exit j => cond (Nat.beq j 0) [0, 2, 4] []
  | .ret => [2, 3]
  | .normal => []
def S_JoinBatch_g0_cx : Ex → List (Where × Co)
  | .exit j => cond (Nat.beq j 0) [] []
  | .ret => []
  | .normal => []
def S_JoinBatch_g0_tm (pv : (List Tensor × Int × Int × Int × Int × Int × Int) × (Int × List Int)) : St := { slots := [(0, .r [] (.sl (.st .tensor) pv.1.1)), (2, .ptr 0 0 0), (4, .ptr 1 0 0), (5, .r [] (.int .i64 pv.2.1))], heap := [(0, .box [.r [] (.int .i64 pv.1.2.1), .r [] (.int .i64 pv.1.2.2.1), .r [] (.int .i64 pv.1.2.2.2.1), .nilS]), (1, .box [.r [] (.int .i64 pv.1.2.2.2.2.1), .r [] (.int .i64 pv.1.2.2.2.2.2.1), .r [] (.int .i64 pv.1.2.2.2.2.2.2), .own 2]), (2, .arr none (.int .i64) pv.2.2)], nid := 3, n := 78, gh := [] }
def S_JoinBatch_g0_dec (nf : NF) : Option ((List Tensor × Int × Int × Int × Int × Int × Int) × (Int × List Int)) := match nf with
  | ([.r [] (.sl (.st .tensor) w0), .ptr 0 0 0, .ptr 1 0 0, .r [] (.int .i64 w1)], [.box [.r [] (.int .i64 w2), .r [] (.int .i64 w3), .r [] (.int .i64 w4), .nilS], .box [.r [] (.int .i64 w5), .r [] (.int .i64 w6), .r [] (.int .i64 w7), .own 2], .arr none (.int .i64) w8], []) => some ((w0, w2, w3, w4, w5, w6, w7), (w1, w8))
  | _ => none
theorem S_JoinBatch_g0_hd (nf : NF) (v : (List Tensor × Int × Int × Int × Int × Int × Int) × (Int × List Int)) (h : S_JoinBatch_g0_dec nf = some v) : denorm S_JoinBatch_g0_keep 78 nf = S_JoinBatch_g0_tm v := by
  unfold S_JoinBatch_g0_dec at h
  split at h
  · cases h; rfl
  · cases h
def S_JoinBatch_g0_x0 (p : List Tensor × Int × Int × Int × Int × Int × Int) (x : List Int) : St := { slots := [(0, .r [] (.sl (.st .tensor) p.1)), (2, .ptr 0 0 0), (4, .ptr 1 0 0)], heap := [(0, .box [.r [] (.int .i64 p.2.1), .r [] (.int .i64 p.2.2.1), .r [] (.int .i64 p.2.2.2.1), .nilS]), (1, .box [.r [] (.int .i64 p.2.2.2.2.1), .r [] (.int .i64 p.2.2.2.2.2.1), .r [] (.int .i64 p.2.2.2.2.2.2), .own 2]), (2, .arr none (.int .i64) x)], nid := 3, n := 78, gh := [] }
def S_JoinBatch_g0_xret (p : List Tensor × Int × Int × Int × Int × Int × Int) (x : Bool × Int × Int × Int) : St := { slots := [(2, .ptr 0 0 0), (3, .r [] (.bool x.1))], heap := [(0, .box [.r [] (.int .i64 x.2.1), .r [] (.int .i64 x.2.2.1), .r [] (.int .i64 x.2.2.2), .nilS])], nid := 1, n := 78, gh := [] }
def LP_S_JoinBatch (ρ : Type) (k : Nat) : Nat → Ev ρ → Ev ρ := fun id f => cond (Nat.beq id 0) (loopOrc S_JoinBatch_g0_keep S_JoinBatch_g0_co (fun n nf => cond (Nat.beq n 78) (S_JoinBatch_g0_dec nf) none) fun pv K => iter (fun v next => S_JoinBatch_g0 k pv.1 v next (fun x => K (.exit 0) (S_JoinBatch_g0_x0 pv.1 x)) (fun x => K .ret (S_JoinBatch_g0_xret pv.1 x))) k pv.2) ((fun id f => cond (Nat.beq id 2) (loopOrc S_JoinBatch_g1_keep S_JoinBatch_g1_co (fun n nf => cond (Nat.beq n 78) (S_JoinBatch_g1_dec nf) none) fun pv K => iter (fun v next => S_JoinBatch_g1 k pv.1 v next (fun x => K (.exit 2) (S_JoinBatch_g1_x2 pv.1 x))) k pv.2) ((fun _ _ _ _ => none) id f)) id f)
theorem S_JoinBatch_g1_round {ρ : Type} (k : Nat) (p : List Tensor × Int × Int × Int × Int × Int × Int × Int × Int × Int × Int × List Int) (v : Int × List Int) (K K1 : Ex → St → Option ρ) : ev (E_S_JoinBatch k) (LP_S_JoinBatch ρ k) 2 b_S_JoinBatch_1 (S_JoinBatch_g1_tm (p, v)) (fun e st' => match e with
    | .normal => (normC S_JoinBatch_g1_keep S_JoinBatch_g1_co st').bind fun nf => K1 .normal (denorm S_JoinBatch_g1_keep st'.n nf)
    | e => (normC (S_JoinBatch_g1_kx e) (S_JoinBatch_g1_cx e) st').bind fun nf => K e (denorm (S_JoinBatch_g1_kx e) st'.n nf)) = S_JoinBatch_g1 k p v (fun v' => K1 .normal (S_JoinBatch_g1_tm (p, v'))) (fun x => K (.exit 2) (S_JoinBatch_g1_x2 p x)) := by kernel_rfl
theorem S_JoinBatch_g1_ok {ρ : Type} (k : Nat) : Sound Try.prog (.loop b_S_JoinBatch_1) (LP_S_JoinBatch ρ k 2 fun st K => ev (E_S_JoinBatch k) (LP_S_JoinBatch ρ k) 2 b_S_JoinBatch_1 st K) :=
  loop_ok (ev_sound (E_S_JoinBatch_ok k) b_S_JoinBatch_1 2 (lpgood_none (by kernel_rfl))) S_JoinBatch_g1_kx S_JoinBatch_g1_cx k (g := fun p v next K => S_JoinBatch_g1 k p v next (fun x => K (.exit 2) (S_JoinBatch_g1_x2 p x))) (dec_at S_JoinBatch_g1_hd) (fun p v K K1 => S_JoinBatch_g1_round k p v K K1)
theorem S_JoinBatch_g0_round {ρ : Type} (k : Nat) (p : List Tensor × Int × Int × Int × Int × Int × Int) (v : Int × List Int) (K K1 : Ex → St → Option ρ) : ev (E_S_JoinBatch k) (LP_S_JoinBatch ρ k) 0 b_S_JoinBatch_0 (S_JoinBatch_g0_tm (p, v)) (fun e st' => match e with
    | .normal => (normC S_JoinBatch_g0_keep S_JoinBatch_g0_co st').bind fun nf => K1 .normal (denorm S_JoinBatch_g0_keep st'.n nf)
    | e => (normC (S_JoinBatch_g0_kx e) (S_JoinBatch_g0_cx e) st').bind fun nf => K e (denorm (S_JoinBatch_g0_kx e) st'.n nf)) = S_JoinBatch_g0 k p v (fun v' => K1 .normal (S_JoinBatch_g0_tm (p, v'))) (fun x => K (.exit 0) (S_JoinBatch_g0_x0 p x)) (fun x => K .ret (S_JoinBatch_g0_xret p x)) := by kernel_rfl
theorem S_JoinBatch_g0_ok {ρ : Type} (k : Nat) : Sound Try.prog (.loop b_S_JoinBatch_0) (LP_S_JoinBatch ρ k 0 fun st K => ev (E_S_JoinBatch k) (LP_S_JoinBatch ρ k) 0 b_S_JoinBatch_0 st K) :=
  loop_ok (ev_sound (E_S_JoinBatch_ok k) b_S_JoinBatch_0 0 (lpgood_of (l := [(2, b_S_JoinBatch_1)]) (by kernel_rfl) ⟨S_JoinBatch_g1_ok k, trivial⟩)) S_JoinBatch_g0_kx S_JoinBatch_g0_cx k (g := fun p v next K => S_JoinBatch_g0 k p v next (fun x => K (.exit 0) (S_JoinBatch_g0_x0 p x)) (fun x => K .ret (S_JoinBatch_g0_xret p x))) (dec_at S_JoinBatch_g0_hd) (fun p v K K1 => S_JoinBatch_g0_round k p v K K1)
def S_JoinBatch_args (a : List Tensor) : List Arg := [.one (.sl (.st .tensor) a)]
def S_JoinBatch_argD (l : List Arg) : Option (List Tensor) := match l with
  | [.one (.sl (.st .tensor) b0)] => some b0
  | _ => none
def S_JoinBatch_enc (r : Tensor × Bool) : Out := (.tup [.agg [.r [] (.int .i64 r.1.sh.h), .r [] (.int .i64 r.1.sh.w), .r [] (.int .i64 r.1.sh.c), .own 0], .r [] (.bool r.2)], [.arr none (.int .i64) r.1.data])
def S_JoinBatch_dec (o : Out) : Option (Tensor × Bool) := match o with
  | (.tup [.agg [.r [] (.int .i64 z1), .r [] (.int .i64 z2), .r [] (.int .i64 z3), .own 0], .r [] (.bool z5)], [.arr none (.int .i64) z4]) => some ((⟨(⟨z1, z2, z3⟩ : Shape), z4⟩ : Tensor), z5)
  | _ => none
def S_JoinBatch_G (k : Nat) : PG := fun _ l K => (S_JoinBatch_argD l).bind fun a => (S_JoinBatch k a).bind fun r => K (S_JoinBatch_enc r)
theorem S_JoinBatch_ev (k : Nat) (a : List Tensor) : ev (E_S_JoinBatch k) (LP_S_JoinBatch (Tensor × Bool) k) 0 c_S_JoinBatch (st0 Try.f25 (S_JoinBatch_args a)) (fin Try.prog Try.f25 (.tup [.agg [.sc, .sc, .sc, .own (.int .i64)], .sc]) S_JoinBatch_dec) = S_JoinBatch k a := by kernel_rfl
theorem S_JoinBatch_ok (k : Nat) : PureOk Try.prog 25 (S_JoinBatch_G k) :=
  pureOk_of_ev (E_S_JoinBatch_ok k) Try.func25 (by kernel_rfl) (by kernel_rfl) S_JoinBatch_args S_JoinBatch_argD
    (fun l a h => by unfold S_JoinBatch_argD at h; split at h <;> first | (cases h; rfl) | cases h) (fun a => rfl) (lpgood_of (l := [(0, b_S_JoinBatch_0)]) (by kernel_rfl) ⟨S_JoinBatch_g0_ok k, trivial⟩)
    (fun o r h => by unfold S_JoinBatch_dec at h; split at h <;> first | (cases h; rfl) | cases h) (S_JoinBatch_ev k)
def o_S_JoinBatch (k : Nat) : Orc := pureOrc [.one (.sl (.st .tensor))] (S_JoinBatch_G k)
theorem o_S_JoinBatch_ok (k : Nat) : OrcOk Try.prog 25 (o_S_JoinBatch k) := pureOrc_ok (S_JoinBatch_ok k)
/-! ### 59 loop.example/g00778/impl.in -/
noncomputable def E_I_in (k : Nat) : Env := { P := Try.prog, tt := tt, orc := fun g => noOrc }
theorem E_I_in_ok (k : Nat) : EnvOk (E_I_in k) := fun g => (noOrc_ok _ _)
noncomputable def c_I_in : Code := (Try.f59.body).getD .skip
def LP_I_in (ρ : Type) (k : Nat) : Nat → Ev ρ → Ev ρ := fun _ _ _ _ => none
def I_in_args (a : Int × Int × Int) : List Arg := [.one (.int .i64 a.1), .one (.int .i64 a.2.1), .one (.int .i64 a.2.2)]
def I_in_argD (l : List Arg) : Option (Int × Int × Int) := match l with
  | [.one (.int .i64 b0), .one (.int .i64 b1), .one (.int .i64 b2)] => some (b0, b1, b2)
  | _ => none
def I_in_enc (r : Bool) : Out := (.r [] (.bool r), [])
def I_in_dec (o : Out) : Option (Bool) := match o with
  | (.r [] (.bool z1), []) => some z1
  | _ => none
def I_in_G (k : Nat) : PG := fun _ l K => (I_in_argD l).bind fun a => (I_in k a.1 a.2.1 a.2.2).bind fun r => K (I_in_enc r)
theorem I_in_ev (k : Nat) (a : Int × Int × Int) : ev (E_I_in k) (LP_I_in (Bool) k) 0 c_I_in (st0 Try.f59 (I_in_args a)) (fin Try.prog Try.f59 (.sc) I_in_dec) = I_in k a.1 a.2.1 a.2.2 := by kernel_rfl
theorem I_in_ok (k : Nat) : PureOk Try.prog 59 (I_in_G k) :=
  pureOk_of_ev (E_I_in_ok k) Try.func59 (by kernel_rfl) (by kernel_rfl) I_in_args I_in_argD
    (fun l a h => by unfold I_in_argD at h; split at h <;> first | (cases h; rfl) | cases h) (fun a => rfl) (lpgood_none (by kernel_rfl))
    (fun o r h => by unfold I_in_dec at h; split at h <;> first | (cases h; rfl) | cases h) (I_in_ev k)
def o_I_in (k : Nat) : Orc := pureOrc [.one (.int .i64), .one (.int .i64), .one (.int .i64)] (I_in_G k)
theorem o_I_in_ok (k : Nat) : OrcOk Try.prog 59 (o_I_in k) := pureOrc_ok (I_in_ok k)
/-! ### 48 loop.example/g00778/impl.ShapeOk -/
noncomputable def E_I_ShapeOk (k : Nat) : Env := { P := Try.prog, tt := tt, orc := fun g => cond (Nat.beq g 59) (o_I_in k) (noOrc) }
theorem E_I_ShapeOk_ok (k : Nat) : EnvOk (E_I_ShapeOk k) := fun g => (orc_cond (o_I_in_ok k) (noOrc_ok _ _))
noncomputable def c_I_ShapeOk : Code := (Try.f48.body).getD .skip
def LP_I_ShapeOk (ρ : Type) (k : Nat) : Nat → Ev ρ → Ev ρ := fun _ _ _ _ => none
def I_ShapeOk_args (a : Shape) : List Arg := [.agg [.int .i64 a.h, .int .i64 a.w, .int .i64 a.c]]
def I_ShapeOk_argD (l : List Arg) : Option (Shape) := match l with
  | [.agg [.int .i64 b0_0, .int .i64 b0_1, .int .i64 b0_2]] => some (⟨b0_0, b0_1, b0_2⟩ : Shape)
  | _ => none
def I_ShapeOk_enc (r : Bool) : Out := (.r [] (.bool r), [])
def I_ShapeOk_dec (o : Out) : Option (Bool) := match o with
  | (.r [] (.bool z1), []) => some z1
  | _ => none
def I_ShapeOk_G (k : Nat) : PG := fun _ l K => (I_ShapeOk_argD l).bind fun a => (I_ShapeOk k a).bind fun r => K (I_ShapeOk_enc r)
theorem I_ShapeOk_ev (k : Nat) (a : Shape) : ev (E_I_ShapeOk k) (LP_I_ShapeOk (Bool) k) 0 c_I_ShapeOk (st0 Try.f48 (I_ShapeOk_args a)) (fin Try.prog Try.f48 (.sc) I_ShapeOk_dec) = I_ShapeOk k a := by kernel_rfl
theorem I_ShapeOk_ok (k : Nat) : PureOk Try.prog 48 (I_ShapeOk_G k) :=
  pureOk_of_ev (E_I_ShapeOk_ok k) Try.func48 (by kernel_rfl) (by kernel_rfl) I_ShapeOk_args I_ShapeOk_argD
    (fun l a h => by unfold I_ShapeOk_argD at h; split at h <;> first | (cases h; rfl) | cases h) (fun a => rfl) (lpgood_none (by kernel_rfl))
    (fun o r h => by unfold I_ShapeOk_dec at h; split at h <;> first | (cases h; rfl) | cases h) (I_ShapeOk_ev k)
def o_I_ShapeOk (k : Nat) : Orc := pureOrc [.agg [(.int .i64), (.int .i64), (.int .i64)]] (I_ShapeOk_G k)
theorem o_I_ShapeOk_ok (k : Nat) : OrcOk Try.prog 48 (o_I_ShapeOk k) := pureOrc_ok (I_ShapeOk_ok k)
/-! ### 49 loop.example/g00778/impl.SizeOf -/
noncomputable def E_I_SizeOf (k : Nat) : Env := { P := Try.prog, tt := tt, orc := fun g => cond (Nat.beq g 48) (o_I_ShapeOk k) (noOrc) }
theorem E_I_SizeOf_ok (k : Nat) : EnvOk (E_I_SizeOf k) := fun g => (orc_cond (o_I_ShapeOk_ok k) (noOrc_ok _ _))
noncomputable def c_I_SizeOf : Code := (Try.f49.body).getD .skip
def LP_I_SizeOf (ρ : Type) (k : Nat) : Nat → Ev ρ → Ev ρ := fun _ _ _ _ => none
def I_SizeOf_args (a : Shape) : List Arg := [.agg [.int .i64 a.h, .int .i64 a.w, .int .i64 a.c]]
def I_SizeOf_argD (l : List Arg) : Option (Shape) := match l with
  | [.agg [.int .i64 b0_0, .int .i64 b0_1, .int .i64 b0_2]] => some (⟨b0_0, b0_1, b0_2⟩ : Shape)
  | _ => none
def I_SizeOf_enc (r : Int) : Out := (.r [] (.int .i64 r), [])
def I_SizeOf_dec (o : Out) : Option (Int) := match o with
  | (.r [] (.int .i64 z1), []) => some z1
  | _ => none
def I_SizeOf_G (k : Nat) : PG := fun _ l K => (I_SizeOf_argD l).bind fun a => (I_SizeOf k a).bind fun r => K (I_SizeOf_enc r)
theorem I_SizeOf_ev (k : Nat) (a : Shape) : ev (E_I_SizeOf k) (LP_I_SizeOf (Int) k) 0 c_I_SizeOf (st0 Try.f49 (I_SizeOf_args a)) (fin Try.prog Try.f49 (.sc) I_SizeOf_dec) = I_SizeOf k a := by kernel_rfl
theorem I_SizeOf_ok (k : Nat) : PureOk Try.prog 49 (I_SizeOf_G k) :=
  pureOk_of_ev (E_I_SizeOf_ok k) Try.func49 (by kernel_rfl) (by kernel_rfl) I_SizeOf_args I_SizeOf_argD
    (fun l a h => by unfold I_SizeOf_argD at h; split at h <;> first | (cases h; rfl) | cases h) (fun a => rfl) (lpgood_none (by kernel_rfl))
    (fun o r h => by unfold I_SizeOf_dec at h; split at h <;> first | (cases h; rfl) | cases h) (I_SizeOf_ev k)
def o_I_SizeOf (k : Nat) : Orc := pureOrc [.agg [(.int .i64), (.int .i64), (.int .i64)]] (I_SizeOf_G k)
theorem o_I_SizeOf_ok (k : Nat) : OrcOk Try.prog 49 (o_I_SizeOf k) := pureOrc_ok (I_SizeOf_ok k)
/-! ### 72 loop.example/g00778/impl.areItems$1 -/
noncomputable def E_I_areItems_c1 (k : Nat) : Env := { P := Try.prog, tt := tt, orc := fun g => cond (Nat.beq g 59) (o_I_in k) (noOrc) }
theorem E_I_areItems_c1_ok (k : Nat) : EnvOk (E_I_areItems_c1 k) := fun g => (orc_cond (o_I_in_ok k) (noOrc_ok _ _))
noncomputable def c_I_areItems_c1 : Code := (Try.f72.body).getD .skip
def LP_I_areItems_c1 (ρ : Type) (k : Nat) : Nat → Ev ρ → Ev ρ := fun _ _ _ _ => none
def I_areItems_c1_args (a : Int) : List Arg := [.one (.int .i64 a)]
def I_areItems_c1_argD (l : List Arg) : Option (Int) := match l with
  | [.one (.int .i64 b0)] => some b0
  | _ => none
def I_areItems_c1_enc (r : Bool) : Out := (.r [] (.bool r), [])
def I_areItems_c1_dec (o : Out) : Option (Bool) := match o with
  | (.r [] (.bool z1), []) => some z1
  | _ => none
def I_areItems_c1_G (k : Nat) : PG := fun _ l K => (I_areItems_c1_argD l).bind fun a => (I_areItems_c1 k a).bind fun r => K (I_areItems_c1_enc r)
theorem I_areItems_c1_ev (k : Nat) (a : Int) : ev (E_I_areItems_c1 k) (LP_I_areItems_c1 (Bool) k) 0 c_I_areItems_c1 (st0 Try.f72 (I_areItems_c1_args a)) (fin Try.prog Try.f72 (.sc) I_areItems_c1_dec) = I_areItems_c1 k a := by kernel_rfl
theorem I_areItems_c1_ok (k : Nat) : PureOk Try.prog 72 (I_areItems_c1_G k) :=
  pureOk_of_ev (E_I_areItems_c1_ok k) Try.func72 (by kernel_rfl) (by kernel_rfl) I_areItems_c1_args I_areItems_c1_argD
    (fun l a h => by unfold I_areItems_c1_argD at h; split at h <;> first | (cases h; rfl) | cases h) (fun a => rfl) (lpgood_none (by kernel_rfl))
    (fun o r h => by unfold I_areItems_c1_dec at h; split at h <;> first | (cases h; rfl) | cases h) (I_areItems_c1_ev k)
def o_I_areItems_c1 (k : Nat) : Orc := pureOrc [.one (.int .i64)] (I_areItems_c1_G k)
theorem o_I_areItems_c1_ok (k : Nat) : OrcOk Try.prog 72 (o_I_areItems_c1 k) := pureOrc_ok (I_areItems_c1_ok k)
/-! ### 75 slices.IndexFunc[[]int,int] -/
noncomputable def E_slices_IndexFunc_lint_int__I_areItems_c1 (k : Nat) : Env := { P := Try.prog, tt := tt, orc := fun g => cond (Nat.beq g 72) (o_I_areItems_c1 k) (noOrc) }
theorem E_slices_IndexFunc_lint_int__I_areItems_c1_ok (k : Nat) : EnvOk (E_slices_IndexFunc_lint_int__I_areItems_c1 k) := fun g => (orc_cond (o_I_areItems_c1_ok k) (noOrc_ok _ _))
noncomputable def c_slices_IndexFunc_lint_int__I_areItems_c1 : Code := (Try.f75.body).getD .skip
noncomputable def b_slices_IndexFunc_lint_int__I_areItems_c1_0 : Code := ((loopsIn 0 c_slices_IndexFunc_lint_int__I_areItems_c1).getD 0 (0, .skip)).2
def slices_IndexFunc_lint_int__I_areItems_c1_g0_keep : List Nat := [0, 1, 7, 8]
def slices_IndexFunc_lint_int__I_areItems_c1_g0_co : List (Where × Co) := []
def slices_IndexFunc_lint_int__I_areItems_c1_g0_kx : Ex → List Nat
  | .exit j => cond (Nat.beq j 0) [] []
  | .ret => [4]
  | .normal => []
def slices_IndexFunc_lint_int__I_areItems_c1_g0_cx : Ex → List (Where × Co)
  | .exit j => cond (Nat.beq j 0) [] []
  | .ret => []
  | .normal => []
def slices_IndexFunc_lint_int__I_areItems_c1_g0_tm (pv : (List Int × Int) × (Int)) : St := { slots := [(0, .r [] (.sl (.int .i64) pv.1.1)), (1, .fn (.func 72) [] []), (7, .r [] (.int .i64 pv.1.2)), (8, .r [] (.int .i64 pv.2))], heap := [], nid := 0, n := 19, gh := [] }
def slices_IndexFunc_lint_int__I_areItems_c1_g0_dec (nf : NF) : Option ((List Int × Int) × (Int)) := match nf with
  | ([.r [] (.sl (.int .i64) w0), .fn (.func 72) [] [], .r [] (.int .i64 w1), .r [] (.int .i64 w2)], [], []) => some ((w0, w1), w2)
  | _ => none
theorem slices_IndexFunc_lint_int__I_areItems_c1_g0_hd (nf : NF) (v : (List Int × Int) × (Int)) (h : slices_IndexFunc_lint_int__I_areItems_c1_g0_dec nf = some v) : denorm slices_IndexFunc_lint_int__I_areItems_c1_g0_keep 19 nf = slices_IndexFunc_lint_int__I_areItems_c1_g0_tm v := by
  unfold slices_IndexFunc_lint_int__I_areItems_c1_g0_dec at h
  split at h
  · cases h; rfl
  · cases h
def slices_IndexFunc_lint_int__I_areItems_c1_g0_x0 (p : List Int × Int) (x : Unit) : St := { slots := [], heap := [], nid := 0, n := 19, gh := [] }
def slices_IndexFunc_lint_int__I_areItems_c1_g0_xret (p : List Int × Int) (x : Int) : St := { slots := [(4, .r [] (.int .i64 x))], heap := [], nid := 0, n := 19, gh := [] }
def LP_slices_IndexFunc_lint_int__I_areItems_c1 (ρ : Type) (k : Nat) : Nat → Ev ρ → Ev ρ := fun id f => cond (Nat.beq id 0) (loopOrc slices_IndexFunc_lint_int__I_areItems_c1_g0_keep slices_IndexFunc_lint_int__I_areItems_c1_g0_co (fun n nf => cond (Nat.beq n 19) (slices_IndexFunc_lint_int__I_areItems_c1_g0_dec nf) none) fun pv K => iter (fun v next => slices_IndexFunc_lint_int__I_areItems_c1_g0 k pv.1 v next (fun x => K (.exit 0) (slices_IndexFunc_lint_int__I_areItems_c1_g0_x0 pv.1 x)) (fun x => K .ret (slices_IndexFunc_lint_int__I_areItems_c1_g0_xret pv.1 x))) k pv.2) ((fun _ _ _ _ => none) id f)
theorem slices_IndexFunc_lint_int__I_areItems_c1_g0_round {ρ : Type} (k : Nat) (p : List Int × Int) (v : Int) (K K1 : Ex → St → Option ρ) : ev (E_slices_IndexFunc_lint_int__I_areItems_c1 k) (LP_slices_IndexFunc_lint_int__I_areItems_c1 ρ k) 0 b_slices_IndexFunc_lint_int__I_areItems_c1_0 (slices_IndexFunc_lint_int__I_areItems_c1_g0_tm (p, v)) (fun e st' => match e with
    | .normal => (normC slices_IndexFunc_lint_int__I_areItems_c1_g0_keep slices_IndexFunc_lint_int__I_areItems_c1_g0_co st').bind fun nf => K1 .normal (denorm slices_IndexFunc_lint_int__I_areItems_c1_g0_keep st'.n nf)
    | e => (normC (slices_IndexFunc_lint_int__I_areItems_c1_g0_kx e) (slices_IndexFunc_lint_int__I_areItems_c1_g0_cx e) st').bind fun nf => K e (denorm (slices_IndexFunc_lint_int__I_areItems_c1_g0_kx e) st'.n nf)) = slices_IndexFunc_lint_int__I_areItems_c1_g0 k p v (fun v' => K1 .normal (slices_IndexFunc_lint_int__I_areItems_c1_g0_tm (p, v'))) (fun x => K (.exit 0) (slices_IndexFunc_lint_int__I_areItems_c1_g0_x0 p x)) (fun x => K .ret (slices_IndexFunc_lint_int__I_areItems_c1_g0_xret p x)) := by kernel_rfl
theorem slices_IndexFunc_lint_int__I_areItems_c1_g0_ok {ρ : Type} (k : Nat) : Sound Try.prog (.loop b_slices_IndexFunc_lint_int__I_areItems_c1_0) (LP_slices_IndexFunc_lint_int__I_areItems_c1 ρ k 0 fun st K => ev (E_slices_IndexFunc_lint_int__I_areItems_c1 k) (LP_slices_IndexFunc_lint_int__I_areItems_c1 ρ k) 0 b_slices_IndexFunc_lint_int__I_areItems_c1_0 st K) :=
  loop_ok (ev_sound (E_slices_IndexFunc_lint_int__I_areItems_c1_ok k) b_slices_IndexFunc_lint_int__I_areItems_c1_0 0 (lpgood_none (by kernel_rfl))) slices_IndexFunc_lint_int__I_areItems_c1_g0_kx slices_IndexFunc_lint_int__I_areItems_c1_g0_cx k (g := fun p v next K => slices_IndexFunc_lint_int__I_areItems_c1_g0 k p v next (fun x => K (.exit 0) (slices_IndexFunc_lint_int__I_areItems_c1_g0_x0 p x)) (fun x => K .ret (slices_IndexFunc_lint_int__I_areItems_c1_g0_xret p x))) (dec_at slices_IndexFunc_lint_int__I_areItems_c1_g0_hd) (fun p v K K1 => slices_IndexFunc_lint_int__I_areItems_c1_g0_round k p v K K1)
def slices_IndexFunc_lint_int__I_areItems_c1_args (a : List Int) : List Arg := [.one (.sl (.int .i64) a), .fn (.func 72) [] []]
def slices_IndexFunc_lint_int__I_areItems_c1_argD (l : List Arg) : Option (List Int) := match l with
  | [.one (.sl (.int .i64) b0), .fn (.func 72) [] []] => some b0
  | _ => none
def slices_IndexFunc_lint_int__I_areItems_c1_enc (r : Int) : Out := (.r [] (.int .i64 r), [])
def slices_IndexFunc_lint_int__I_areItems_c1_dec (o : Out) : Option (Int) := match o with
  | (.r [] (.int .i64 z1), []) => some z1
  | _ => none
def slices_IndexFunc_lint_int__I_areItems_c1_G (k : Nat) : PG := fun _ l K => (slices_IndexFunc_lint_int__I_areItems_c1_argD l).bind fun a => (slices_IndexFunc_lint_int__I_areItems_c1 k a).bind fun r => K (slices_IndexFunc_lint_int__I_areItems_c1_enc r)
theorem slices_IndexFunc_lint_int__I_areItems_c1_ev (k : Nat) (a : List Int) : ev (E_slices_IndexFunc_lint_int__I_areItems_c1 k) (LP_slices_IndexFunc_lint_int__I_areItems_c1 (Int) k) 0 c_slices_IndexFunc_lint_int__I_areItems_c1 (st0 Try.f75 (slices_IndexFunc_lint_int__I_areItems_c1_args a)) (fin Try.prog Try.f75 (.sc) slices_IndexFunc_lint_int__I_areItems_c1_dec) = slices_IndexFunc_lint_int__I_areItems_c1 k a := by kernel_rfl
theorem slices_IndexFunc_lint_int__I_areItems_c1_ok (k : Nat) : PureOk Try.prog 75 (slices_IndexFunc_lint_int__I_areItems_c1_G k) :=
  pureOk_of_ev (E_slices_IndexFunc_lint_int__I_areItems_c1_ok k) Try.func75 (by kernel_rfl) (by kernel_rfl) slices_IndexFunc_lint_int__I_areItems_c1_args slices_IndexFunc_lint_int__I_areItems_c1_argD
    (fun l a h => by unfold slices_IndexFunc_lint_int__I_areItems_c1_argD at h; split at h <;> first | (cases h; rfl) | cases h) (fun a => rfl) (lpgood_of (l := [(0, b_slices_IndexFunc_lint_int__I_areItems_c1_0)]) (by kernel_rfl) ⟨slices_IndexFunc_lint_int__I_areItems_c1_g0_ok k, trivial⟩)
    (fun o r h => by unfold slices_IndexFunc_lint_int__I_areItems_c1_dec at h; split at h <;> first | (cases h; rfl) | cases h) (slices_IndexFunc_lint_int__I_areItems_c1_ev k)
def o_slices_IndexFunc_lint_int__I_areItems_c1 (k : Nat) : Orc := pureOrc [.one (.sl (.int .i64)), .fn] (slices_IndexFunc_lint_int__I_areItems_c1_G k)
theorem o_slices_IndexFunc_lint_int__I_areItems_c1_ok (k : Nat) : OrcOk Try.prog 75 (o_slices_IndexFunc_lint_int__I_areItems_c1 k) := pureOrc_ok (slices_IndexFunc_lint_int__I_areItems_c1_ok k)
/-! ### 71 slices.ContainsFunc[[]int,int] -/
noncomputable def E_slices_ContainsFunc_lint_int__I_areItems_c1 (k : Nat) : Env := { P := Try.prog, tt := tt, orc := fun g => cond (Nat.beq g 75) (o_slices_IndexFunc_lint_int__I_areItems_c1 k) (noOrc) }
theorem E_slices_ContainsFunc_lint_int__I_areItems_c1_ok (k : Nat) : EnvOk (E_slices_ContainsFunc_lint_int__I_areItems_c1 k) := fun g => (orc_cond (o_slices_IndexFunc_lint_int__I_areItems_c1_ok k) (noOrc_ok _ _))
noncomputable def c_slices_ContainsFunc_lint_int__I_areItems_c1 : Code := (Try.f71.body).getD .skip
def LP_slices_ContainsFunc_lint_int__I_areItems_c1 (ρ : Type) (k : Nat) : Nat → Ev ρ → Ev ρ := fun _ _ _ _ => none
def slices_ContainsFunc_lint_int__I_areItems_c1_args (a : List Int) : List Arg := [.one (.sl (.int .i64) a), .fn (.func 72) [] []]
def slices_ContainsFunc_lint_int__I_areItems_c1_argD (l : List Arg) : Option (List Int) := match l with
  | [.one (.sl (.int .i64) b0), .fn (.func 72) [] []] => some b0
  | _ => none
def slices_ContainsFunc_lint_int__I_areItems_c1_enc (r : Bool) : Out := (.r [] (.bool r), [])
def slices_ContainsFunc_lint_int__I_areItems_c1_dec (o : Out) : Option (Bool) := match o with
  | (.r [] (.bool z1), []) => some z1
  | _ => none
def slices_ContainsFunc_lint_int__I_areItems_c1_G (k : Nat) : PG := fun _ l K => (slices_ContainsFunc_lint_int__I_areItems_c1_argD l).bind fun a => (slices_ContainsFunc_lint_int__I_areItems_c1 k a).bind fun r => K (slices_ContainsFunc_lint_int__I_areItems_c1_enc r)
theorem slices_ContainsFunc_lint_int__I_areItems_c1_ev (k : Nat) (a : List Int) : ev (E_slices_ContainsFunc_lint_int__I_areItems_c1 k) (LP_slices_ContainsFunc_lint_int__I_areItems_c1 (Bool) k) 0 c_slices_ContainsFunc_lint_int__I_areItems_c1 (st0 Try.f71 (slices_ContainsFunc_lint_int__I_areItems_c1_args a)) (fin Try.prog Try.f71 (.sc) slices_ContainsFunc_lint_int__I_areItems_c1_dec) = slices_ContainsFunc_lint_int__I_areItems_c1 k a := by kernel_rfl
theorem slices_ContainsFunc_lint_int__I_areItems_c1_ok (k : Nat) : PureOk Try.prog 71 (slices_ContainsFunc_lint_int__I_areItems_c1_G k) :=
  pureOk_of_ev (E_slices_ContainsFunc_lint_int__I_areItems_c1_ok k) Try.func71 (by kernel_rfl) (by kernel_rfl) slices_ContainsFunc_lint_int__I_areItems_c1_args slices_ContainsFunc_lint_int__I_areItems_c1_argD
    (fun l a h => by unfold slices_ContainsFunc_lint_int__I_areItems_c1_argD at h; split at h <;> first | (cases h; rfl) | cases h) (fun a => rfl) (lpgood_none (by kernel_rfl))
    (fun o r h => by unfold slices_ContainsFunc_lint_int__I_areItems_c1_dec at h; split at h <;> first | (cases h; rfl) | cases h) (slices_ContainsFunc_lint_int__I_areItems_c1_ev k)
def o_slices_ContainsFunc_lint_int__I_areItems_c1 (k : Nat) : Orc := pureOrc [.one (.sl (.int .i64)), .fn] (slices_ContainsFunc_lint_int__I_areItems_c1_G k)
theorem o_slices_ContainsFunc_lint_int__I_areItems_c1_ok (k : Nat) : OrcOk Try.prog 71 (o_slices_ContainsFunc_lint_int__I_areItems_c1 k) := pureOrc_ok (slices_ContainsFunc_lint_int__I_areItems_c1_ok k)
/-! ### 66 loop.example/g00778/impl.areItems -/
noncomputable def E_I_areItems (k : Nat) : Env := { P := Try.prog, tt := tt, orc := fun g => cond (Nat.beq g 71) (o_slices_ContainsFunc_lint_int__I_areItems_c1 k) (noOrc) }
theorem E_I_areItems_ok (k : Nat) : EnvOk (E_I_areItems k) := fun g => (orc_cond (o_slices_ContainsFunc_lint_int__I_areItems_c1_ok k) (noOrc_ok _ _))
noncomputable def c_I_areItems : Code := (Try.f66.body).getD .skip
def LP_I_areItems (ρ : Type) (k : Nat) : Nat → Ev ρ → Ev ρ := fun _ _ _ _ => none
def I_areItems_args (a : List Int) : List Arg := [.one (.sl (.int .i64) a)]
def I_areItems_argD (l : List Arg) : Option (List Int) := match l with
  | [.one (.sl (.int .i64) b0)] => some b0
  | _ => none
def I_areItems_enc (r : Bool) : Out := (.r [] (.bool r), [])
def I_areItems_dec (o : Out) : Option (Bool) := match o with
  | (.r [] (.bool z1), []) => some z1
  | _ => none
def I_areItems_G (k : Nat) : PG := fun _ l K => (I_areItems_argD l).bind fun a => (I_areItems k a).bind fun r => K (I_areItems_enc r)
theorem I_areItems_ev (k : Nat) (a : List Int) : ev (E_I_areItems k) (LP_I_areItems (Bool) k) 0 c_I_areItems (st0 Try.f66 (I_areItems_args a)) (fin Try.prog Try.f66 (.sc) I_areItems_dec) = I_areItems k a := by kernel_rfl
theorem I_areItems_ok (k : Nat) : PureOk Try.prog 66 (I_areItems_G k) :=
  pureOk_of_ev (E_I_areItems_ok k) Try.func66 (by kernel_rfl) (by kernel_rfl) I_areItems_args I_areItems_argD
    (fun l a h => by unfold I_areItems_argD at h; split at h <;> first | (cases h; rfl) | cases h) (fun a => rfl) (lpgood_none (by kernel_rfl))
    (fun o r h => by unfold I_areItems_dec at h; split at h <;> first | (cases h; rfl) | cases h) (I_areItems_ev k)
def o_I_areItems (k : Nat) : Orc := pureOrc [.one (.sl (.int .i64))] (I_areItems_G k)
theorem o_I_areItems_ok (k : Nat) : OrcOk Try.prog 66 (o_I_areItems k) := pureOrc_ok (I_areItems_ok k)
/-! ### 47 loop.example/g00778/impl.TensorOk -/
noncomputable def E_I_TensorOk (k : Nat) : Env := { P := Try.prog, tt := tt, orc := fun g => cond (Nat.beq g 48) (o_I_ShapeOk k) (cond (Nat.beq g 49) (o_I_SizeOf k) (cond (Nat.beq g 66) (o_I_areItems k) (noOrc))) }
theorem E_I_TensorOk_ok (k : Nat) : EnvOk (E_I_TensorOk k) := fun g => (orc_cond (o_I_ShapeOk_ok k) (orc_cond (o_I_SizeOf_ok k) (orc_cond (o_I_areItems_ok k) (noOrc_ok _ _))))
noncomputable def c_I_TensorOk : Code := (Try.f47.body).getD .skip
def LP_I_TensorOk (ρ : Type) (k : Nat) : Nat → Ev ρ → Ev ρ := fun _ _ _ _ => none
def I_TensorOk_args (a : Tensor) : List Arg := [.agg [.int .i64 a.sh.h, .int .i64 a.sh.w, .int .i64 a.sh.c, .sl (.int .i64) a.data]]
def I_TensorOk_argD (l : List Arg) : Option (Tensor) := match l with
  | [.agg [.int .i64 b0_0, .int .i64 b0_1, .int .i64 b0_2, .sl (.int .i64) b0_3]] => some (⟨(⟨b0_0, b0_1, b0_2⟩ : Shape), b0_3⟩ : Tensor)
  | _ => none
def I_TensorOk_enc (r : Bool) : Out := (.r [] (.bool r), [])
def I_TensorOk_dec (o : Out) : Option (Bool) := match o with
  | (.r [] (.bool z1), []) => some z1
  | _ => none
def I_TensorOk_G (k : Nat) : PG := fun _ l K => (I_TensorOk_argD l).bind fun a => (I_TensorOk k a).bind fun r => K (I_TensorOk_enc r)
theorem I_TensorOk_ev (k : Nat) (a : Tensor) : ev (E_I_TensorOk k) (LP_I_TensorOk (Bool) k) 0 c_I_TensorOk (st0 Try.f47 (I_TensorOk_args a)) (fin Try.prog Try.f47 (.sc) I_TensorOk_dec) = I_TensorOk k a := by kernel_rfl
theorem I_TensorOk_ok (k : Nat) : PureOk Try.prog 47 (I_TensorOk_G k) :=
  pureOk_of_ev (E_I_TensorOk_ok k) Try.func47 (by kernel_rfl) (by kernel_rfl) I_TensorOk_args I_TensorOk_argD
    (fun l a h => by unfold I_TensorOk_argD at h; split at h <;> first | (cases h; rfl) | cases h) (fun a => rfl) (lpgood_none (by kernel_rfl))
    (fun o r h => by unfold I_TensorOk_dec at h; split at h <;> first | (cases h; rfl) | cases h) (I_TensorOk_ev k)
def o_I_TensorOk (k : Nat) : Orc := pureOrc [.agg [(.int .i64), (.int .i64), (.int .i64), (.sl (.int .i64))]] (I_TensorOk_G k)
theorem o_I_TensorOk_ok (k : Nat) : OrcOk Try.prog 47 (o_I_TensorOk k) := pureOrc_ok (I_TensorOk_ok k)
/-! ### 27 loop.example/g00778/impl.JoinBatch -/
noncomputable def E_I_JoinBatch (k : Nat) : Env := { P := Try.prog, tt := tt, orc := fun g => cond (Nat.beq g 47) (o_I_TensorOk k) (cond (Nat.beq g 59) (o_I_in k) (noOrc)) }
theorem E_I_JoinBatch_ok (k : Nat) : EnvOk (E_I_JoinBatch k) := fun g => (orc_cond (o_I_TensorOk_ok k) (orc_cond (o_I_in_ok k) (noOrc_ok _ _)))
noncomputable def c_I_JoinBatch : Code := (Try.f27.body).getD .skip
noncomputable def b_I_JoinBatch_0 : Code := ((loopsIn 0 c_I_JoinBatch).getD 0 (0, .skip)).2
def I_JoinBatch_g0_keep : List Nat := [2, 4, 21, 22, 23]
def I_JoinBatch_g0_co : List (Where × Co) := [((.pbox 4 3), (.nilOwn false (.int .i64)))]
def I_JoinBatch_g0_kx : Ex → List Nat
  | .exit j => cond (Nat.beq j 0) [2, 4] []
  | .ret => [2, 3]
  | .normal => []
def I_JoinBatch_g0_cx : Ex → List (Where × Co)
  | .exit j => cond (Nat.beq j 0) [] []
  | .ret => []
  | .normal => []
def I_JoinBatch_g0_tm (pv : (List Tensor × Int × Int × Int × Int × Int × Int × Int) × (Int × List Int)) : St := { slots := [(2, .ptr 0 0 0), (4, .ptr 1 0 0), (21, .r [] (.sl (.st .tensor) pv.1.1)), (22, .r [] (.int .i64 pv.1.2.1)), (23, .r [] (.int .i64 pv.2.1))], heap := [(0, .box [.r [] (.int .i64 pv.1.2.2.1), .r [] (.int .i64 pv.1.2.2.2.1), .r [] (.int .i64 pv.1.2.2.2.2.1), .nilS]), (1, .box [.r [] (.int .i64 pv.1.2.2.2.2.2.1), .r [] (.int .i64 pv.1.2.2.2.2.2.2.1), .r [] (.int .i64 pv.1.2.2.2.2.2.2.2), .own 2]), (2, .arr none (.int .i64) pv.2.2)], nid := 3, n := 48, gh := [] }
def I_JoinBatch_g0_dec (nf : NF) : Option ((List Tensor × Int × Int × Int × Int × Int × Int × Int) × (Int × List Int)) := match nf with
  | ([.ptr 0 0 0, .ptr 1 0 0, .r [] (.sl (.st .tensor) w0), .r [] (.int .i64 w1), .r [] (.int .i64 w2)], [.box [.r [] (.int .i64 w3), .r [] (.int .i64 w4), .r [] (.int .i64 w5), .nilS], .box [.r [] (.int .i64 w6), .r [] (.int .i64 w7), .r [] (.int .i64 w8), .own 2], .arr none (.int .i64) w9], []) => some ((w0, w1, w3, w4, w5, w6, w7, w8), (w2, w9))
  | _ => none
theorem I_JoinBatch_g0_hd (nf : NF) (v : (List Tensor × Int × Int × Int × Int × Int × Int × Int) × (Int × List Int)) (h : I_JoinBatch_g0_dec nf = some v) : denorm I_JoinBatch_g0_keep 48 nf = I_JoinBatch_g0_tm v := by
  unfold I_JoinBatch_g0_dec at h
  split at h
  · cases h; rfl
  · cases h
def I_JoinBatch_g0_x0 (p : List Tensor × Int × Int × Int × Int × Int × Int × Int) (x : List Int) : St := { slots := [(2, .ptr 0 0 0), (4, .ptr 1 0 0)], heap := [(0, .box [.r [] (.int .i64 p.2.2.1), .r [] (.int .i64 p.2.2.2.1), .r [] (.int .i64 p.2.2.2.2.1), .nilS]), (1, .box [.r [] (.int .i64 p.2.2.2.2.2.1), .r [] (.int .i64 p.2.2.2.2.2.2.1), .r [] (.int .i64 p.2.2.2.2.2.2.2), .own 2]), (2, .arr none (.int .i64) x)], nid := 3, n := 48, gh := [] }
def I_JoinBatch_g0_xret (p : List Tensor × Int × Int × Int × Int × Int × Int × Int) (x : Bool × Int × Int × Int) : St := { slots := [(2, .ptr 0 0 0), (3, .r [] (.bool x.1))], heap := [(0, .box [.r [] (.int .i64 x.2.1), .r [] (.int .i64 x.2.2.1), .r [] (.int .i64 x.2.2.2), .nilS])], nid := 1, n := 48, gh := [] }
def LP_I_JoinBatch (ρ : Type) (k : Nat) : Nat → Ev ρ → Ev ρ := fun id f => cond (Nat.beq id 0) (loopOrc I_JoinBatch_g0_keep I_JoinBatch_g0_co (fun n nf => cond (Nat.beq n 48) (I_JoinBatch_g0_dec nf) none) fun pv K => iter (fun v next => I_JoinBatch_g0 k pv.1 v next (fun x => K (.exit 0) (I_JoinBatch_g0_x0 pv.1 x)) (fun x => K .ret (I_JoinBatch_g0_xret pv.1 x))) k pv.2) ((fun _ _ _ _ => none) id f)
theorem I_JoinBatch_g0_round {ρ : Type} (k : Nat) (p : List Tensor × Int × Int × Int × Int × Int × Int × Int) (v : Int × List Int) (K K1 : Ex → St → Option ρ) : ev (E_I_JoinBatch k) (LP_I_JoinBatch ρ k) 0 b_I_JoinBatch_0 (I_JoinBatch_g0_tm (p, v)) (fun e st' => match e with
    | .normal => (normC I_JoinBatch_g0_keep I_JoinBatch_g0_co st').bind fun nf => K1 .normal (denorm I_JoinBatch_g0_keep st'.n nf)
    | e => (normC (I_JoinBatch_g0_kx e) (I_JoinBatch_g0_cx e) st').bind fun nf => K e (denorm (I_JoinBatch_g0_kx e) st'.n nf)) = I_JoinBatch_g0 k p v (fun v' => K1 .normal (I_JoinBatch_g0_tm (p, v'))) (fun x => K (.exit 0) (I_JoinBatch_g0_x0 p x)) (fun x => K .ret (I_JoinBatch_g0_xret p x)) := by kernel_rfl
theorem I_JoinBatch_g0_ok {ρ : Type} (k : Nat) : Sound Try.prog (.loop b_I_JoinBatch_0) (LP_I_JoinBatch ρ k 0 fun st K => ev (E_I_JoinBatch k) (LP_I_JoinBatch ρ k) 0 b_I_JoinBatch_0 st K) :=
  loop_ok (ev_sound (E_I_JoinBatch_ok k) b_I_JoinBatch_0 0 (lpgood_none (by kernel_rfl))) I_JoinBatch_g0_kx I_JoinBatch_g0_cx k (g := fun p v next K => I_JoinBatch_g0 k p v next (fun x => K (.exit 0) (I_JoinBatch_g0_x0 p x)) (fun x => K .ret (I_JoinBatch_g0_xret p x))) (dec_at I_JoinBatch_g0_hd) (fun p v K K1 => I_JoinBatch_g0_round k p v K K1)
def I_JoinBatch_args (a : List Tensor) : List Arg := [.one (.sl (.st .tensor) a)]
def I_JoinBatch_argD (l : List Arg) : Option (List Tensor) := match l with
  | [.one (.sl (.st .tensor) b0)] => some b0
  | _ => none
def I_JoinBatch_enc (r : Tensor × Bool) : Out := (.tup [.agg [.r [] (.int .i64 r.1.sh.h), .r [] (.int .i64 r.1.sh.w), .r [] (.int .i64 r.1.sh.c), .own 0], .r [] (.bool r.2)], [.arr none (.int .i64) r.1.data])
def I_JoinBatch_dec (o : Out) : Option (Tensor × Bool) := match o with
  | (.tup [.agg [.r [] (.int .i64 z1), .r [] (.int .i64 z2), .r [] (.int .i64 z3), .own 0], .r [] (.bool z5)], [.arr none (.int .i64) z4]) => some ((⟨(⟨z1, z2, z3⟩ : Shape), z4⟩ : Tensor), z5)
  | _ => none
def I_JoinBatch_G (k : Nat) : PG := fun _ l K => (I_JoinBatch_argD l).bind fun a => (I_JoinBatch k a).bind fun r => K (I_JoinBatch_enc r)
theorem I_JoinBatch_ev (k : Nat) (a : List Tensor) : ev (E_I_JoinBatch k) (LP_I_JoinBatch (Tensor × Bool) k) 0 c_I_JoinBatch (st0 Try.f27 (I_JoinBatch_args a)) (fin Try.prog Try.f27 (.tup [.agg [.sc, .sc, .sc, .own (.int .i64)], .sc]) I_JoinBatch_dec) = I_JoinBatch k a := by kernel_rfl
theorem I_JoinBatch_ok (k : Nat) : PureOk Try.prog 27 (I_JoinBatch_G k) :=
  pureOk_of_ev (E_I_JoinBatch_ok k) Try.func27 (by kernel_rfl) (by kernel_rfl) I_JoinBatch_args I_JoinBatch_argD
    (fun l a h => by unfold I_JoinBatch_argD at h; split at h <;> first | (cases h; rfl) | cases h) (fun a => rfl) (lpgood_of (l := [(0, b_I_JoinBatch_0)]) (by kernel_rfl) ⟨I_JoinBatch_g0_ok k, trivial⟩)
    (fun o r h => by unfold I_JoinBatch_dec at h; split at h <;> first | (cases h; rfl) | cases h) (I_JoinBatch_ev k)
def o_I_JoinBatch (k : Nat) : Orc := pureOrc [.one (.sl (.st .tensor))] (I_JoinBatch_G k)
theorem o_I_JoinBatch_ok (k : Nat) : OrcOk Try.prog 27 (o_I_JoinBatch k) := pureOrc_ok (I_JoinBatch_ok k)
/-! ### 50 loop.example/g00778/laws.eqShape -/
noncomputable def E_L_eqShape (k : Nat) : Env := { P := Try.prog, tt := tt, orc := fun g => noOrc }
theorem E_L_eqShape_ok (k : Nat) : EnvOk (E_L_eqShape k) := fun g => (noOrc_ok _ _)
noncomputable def c_L_eqShape : Code := (Try.f50.body).getD .skip
def LP_L_eqShape (ρ : Type) (k : Nat) : Nat → Ev ρ → Ev ρ := fun _ _ _ _ => none
def L_eqShape_args (a : Shape × Shape) : List Arg := [.agg [.int .i64 a.1.h, .int .i64 a.1.w, .int .i64 a.1.c], .agg [.int .i64 a.2.h, .int .i64 a.2.w, .int .i64 a.2.c]]
def L_eqShape_argD (l : List Arg) : Option (Shape × Shape) := match l with
  | [.agg [.int .i64 b0_0, .int .i64 b0_1, .int .i64 b0_2], .agg [.int .i64 b1_0, .int .i64 b1_1, .int .i64 b1_2]] => some ((⟨b0_0, b0_1, b0_2⟩ : Shape), (⟨b1_0, b1_1, b1_2⟩ : Shape))
  | _ => none
def L_eqShape_enc (r : Bool) : Out := (.r [] (.bool r), [])
def L_eqShape_dec (o : Out) : Option (Bool) := match o with
  | (.r [] (.bool z1), []) => some z1
  | _ => none
def L_eqShape_G (k : Nat) : PG := fun _ l K => (L_eqShape_argD l).bind fun a => (L_eqShape k a.1 a.2).bind fun r => K (L_eqShape_enc r)
theorem L_eqShape_ev (k : Nat) (a : Shape × Shape) : ev (E_L_eqShape k) (LP_L_eqShape (Bool) k) 0 c_L_eqShape (st0 Try.f50 (L_eqShape_args a)) (fin Try.prog Try.f50 (.sc) L_eqShape_dec) = L_eqShape k a.1 a.2 := by kernel_rfl
theorem L_eqShape_ok (k : Nat) : PureOk Try.prog 50 (L_eqShape_G k) :=
  pureOk_of_ev (E_L_eqShape_ok k) Try.func50 (by kernel_rfl) (by kernel_rfl) L_eqShape_args L_eqShape_argD
    (fun l a h => by unfold L_eqShape_argD at h; split at h <;> first | (cases h; rfl) | cases h) (fun a => rfl) (lpgood_none (by kernel_rfl))
    (fun o r h => by unfold L_eqShape_dec at h; split at h <;> first | (cases h; rfl) | cases h) (L_eqShape_ev k)
def o_L_eqShape (k : Nat) : Orc := pureOrc [.agg [(.int .i64), (.int .i64), (.int .i64)], .agg [(.int .i64), (.int .i64), (.int .i64)]] (L_eqShape_G k)
theorem o_L_eqShape_ok (k : Nat) : OrcOk Try.prog 50 (o_L_eqShape k) := pureOrc_ok (L_eqShape_ok k)
/-! ### 33 loop.example/g00778/laws.eqIntS -/
noncomputable def E_L_eqIntS (k : Nat) : Env := { P := Try.prog, tt := tt, orc := fun g => noOrc }
theorem E_L_eqIntS_ok (k : Nat) : EnvOk (E_L_eqIntS k) := fun g => (noOrc_ok _ _)
noncomputable def c_L_eqIntS : Code := (Try.f33.body).getD .skip
noncomputable def b_L_eqIntS_0 : Code := ((loopsIn 0 c_L_eqIntS).getD 0 (0, .skip)).2
def L_eqIntS_g0_keep : List Nat := [0, 1, 5]
def L_eqIntS_g0_co : List (Where × Co) := []
def L_eqIntS_g0_kx : Ex → List Nat
  | .exit j => cond (Nat.beq j 0) [] []
  | .ret => [4]
  | .normal => []
def L_eqIntS_g0_cx : Ex → List (Where × Co)
  | .exit j => cond (Nat.beq j 0) [] []
  | .ret => []
  | .normal => []
def L_eqIntS_g0_tm (pv : (List Int × List Int) × (Int)) : St := { slots := [(0, .r [] (.sl (.int .i64) pv.1.1)), (1, .r [] (.sl (.int .i64) pv.1.2)), (5, .r [] (.int .i64 pv.2))], heap := [], nid := 0, n := 26, gh := [] }
def L_eqIntS_g0_dec (nf : NF) : Option ((List Int × List Int) × (Int)) := match nf with
  | ([.r [] (.sl (.int .i64) w0), .r [] (.sl (.int .i64) w1), .r [] (.int .i64 w2)], [], []) => some ((w0, w1), w2)
  | _ => none
theorem L_eqIntS_g0_hd (nf : NF) (v : (List Int × List Int) × (Int)) (h : L_eqIntS_g0_dec nf = some v) : denorm L_eqIntS_g0_keep 26 nf = L_eqIntS_g0_tm v := by
  unfold L_eqIntS_g0_dec at h
  split at h
  · cases h; rfl
  · cases h
def L_eqIntS_g0_x0 (p : List Int × List Int) (x : Unit) : St := { slots := [], heap := [], nid := 0, n := 26, gh := [] }
def L_eqIntS_g0_xret (p : List Int × List Int) (x : Bool) : St := { slots := [(4, .r [] (.bool x))], heap := [], nid := 0, n := 26, gh := [] }
def LP_L_eqIntS (ρ : Type) (k : Nat) : Nat → Ev ρ → Ev ρ := fun id f => cond (Nat.beq id 0) (loopOrc L_eqIntS_g0_keep L_eqIntS_g0_co (fun n nf => cond (Nat.beq n 26) (L_eqIntS_g0_dec nf) none) fun pv K => iter (fun v next => L_eqIntS_g0 k pv.1 v next (fun x => K (.exit 0) (L_eqIntS_g0_x0 pv.1 x)) (fun x => K .ret (L_eqIntS_g0_xret pv.1 x))) k pv.2) ((fun _ _ _ _ => none) id f)
theorem L_eqIntS_g0_round {ρ : Type} (k : Nat) (p : List Int × List Int) (v : Int) (K K1 : Ex → St → Option ρ) : ev (E_L_eqIntS k) (LP_L_eqIntS ρ k) 0 b_L_eqIntS_0 (L_eqIntS_g0_tm (p, v)) (fun e st' => match e with
    | .normal => (normC L_eqIntS_g0_keep L_eqIntS_g0_co st').bind fun nf => K1 .normal (denorm L_eqIntS_g0_keep st'.n nf)
    | e => (normC (L_eqIntS_g0_kx e) (L_eqIntS_g0_cx e) st').bind fun nf => K e (denorm (L_eqIntS_g0_kx e) st'.n nf)) = L_eqIntS_g0 k p v (fun v' => K1 .normal (L_eqIntS_g0_tm (p, v'))) (fun x => K (.exit 0) (L_eqIntS_g0_x0 p x)) (fun x => K .ret (L_eqIntS_g0_xret p x)) := by kernel_rfl
theorem L_eqIntS_g0_ok {ρ : Type} (k : Nat) : Sound Try.prog (.loop b_L_eqIntS_0) (LP_L_eqIntS ρ k 0 fun st K => ev (E_L_eqIntS k) (LP_L_eqIntS ρ k) 0 b_L_eqIntS_0 st K) :=
  loop_ok (ev_sound (E_L_eqIntS_ok k) b_L_eqIntS_0 0 (lpgood_none (by kernel_rfl))) L_eqIntS_g0_kx L_eqIntS_g0_cx k (g := fun p v next K => L_eqIntS_g0 k p v next (fun x => K (.exit 0) (L_eqIntS_g0_x0 p x)) (fun x => K .ret (L_eqIntS_g0_xret p x))) (dec_at L_eqIntS_g0_hd) (fun p v K K1 => L_eqIntS_g0_round k p v K K1)
def L_eqIntS_args (a : List Int × List Int) : List Arg := [.one (.sl (.int .i64) a.1), .one (.sl (.int .i64) a.2)]
def L_eqIntS_argD (l : List Arg) : Option (List Int × List Int) := match l with
  | [.one (.sl (.int .i64) b0), .one (.sl (.int .i64) b1)] => some (b0, b1)
  | _ => none
def L_eqIntS_enc (r : Bool) : Out := (.r [] (.bool r), [])
def L_eqIntS_dec (o : Out) : Option (Bool) := match o with
  | (.r [] (.bool z1), []) => some z1
  | _ => none
def L_eqIntS_G (k : Nat) : PG := fun _ l K => (L_eqIntS_argD l).bind fun a => (L_eqIntS k a.1 a.2).bind fun r => K (L_eqIntS_enc r)
theorem L_eqIntS_ev (k : Nat) (a : List Int × List Int) : ev (E_L_eqIntS k) (LP_L_eqIntS (Bool) k) 0 c_L_eqIntS (st0 Try.f33 (L_eqIntS_args a)) (fin Try.prog Try.f33 (.sc) L_eqIntS_dec) = L_eqIntS k a.1 a.2 := by kernel_rfl
theorem L_eqIntS_ok (k : Nat) : PureOk Try.prog 33 (L_eqIntS_G k) :=
  pureOk_of_ev (E_L_eqIntS_ok k) Try.func33 (by kernel_rfl) (by kernel_rfl) L_eqIntS_args L_eqIntS_argD
    (fun l a h => by unfold L_eqIntS_argD at h; split at h <;> first | (cases h; rfl) | cases h) (fun a => rfl) (lpgood_of (l := [(0, b_L_eqIntS_0)]) (by kernel_rfl) ⟨L_eqIntS_g0_ok k, trivial⟩)
    (fun o r h => by unfold L_eqIntS_dec at h; split at h <;> first | (cases h; rfl) | cases h) (L_eqIntS_ev k)
def o_L_eqIntS (k : Nat) : Orc := pureOrc [.one (.sl (.int .i64)), .one (.sl (.int .i64))] (L_eqIntS_G k)
theorem o_L_eqIntS_ok (k : Nat) : OrcOk Try.prog 33 (o_L_eqIntS k) := pureOrc_ok (L_eqIntS_ok k)
/-! ### 14 loop.example/g00778/laws.eqTensor -/
noncomputable def E_L_eqTensor (k : Nat) : Env := { P := Try.prog, tt := tt, orc := fun g => cond (Nat.beq g 33) (o_L_eqIntS k) (cond (Nat.beq g 50) (o_L_eqShape k) (noOrc)) }
theorem E_L_eqTensor_ok (k : Nat) : EnvOk (E_L_eqTensor k) := fun g => (orc_cond (o_L_eqIntS_ok k) (orc_cond (o_L_eqShape_ok k) (noOrc_ok _ _)))
noncomputable def c_L_eqTensor : Code := (Try.f14.body).getD .skip
def LP_L_eqTensor (ρ : Type) (k : Nat) : Nat → Ev ρ → Ev ρ := fun _ _ _ _ => none
def L_eqTensor_args (a : Tensor × Tensor) : List Arg := [.agg [.int .i64 a.1.sh.h, .int .i64 a.1.sh.w, .int .i64 a.1.sh.c, .sl (.int .i64) a.1.data], .agg [.int .i64 a.2.sh.h, .int .i64 a.2.sh.w, .int .i64 a.2.sh.c, .sl (.int .i64) a.2.data]]
def L_eqTensor_argD (l : List Arg) : Option (Tensor × Tensor) := match l with
  | [.agg [.int .i64 b0_0, .int .i64 b0_1, .int .i64 b0_2, .sl (.int .i64) b0_3], .agg [.int .i64 b1_0, .int .i64 b1_1, .int .i64 b1_2, .sl (.int .i64) b1_3]] => some ((⟨(⟨b0_0, b0_1, b0_2⟩ : Shape), b0_3⟩ : Tensor), (⟨(⟨b1_0, b1_1, b1_2⟩ : Shape), b1_3⟩ : Tensor))
  | _ => none
def L_eqTensor_enc (r : Bool) : Out := (.r [] (.bool r), [])
def L_eqTensor_dec (o : Out) : Option (Bool) := match o with
  | (.r [] (.bool z1), []) => some z1
  | _ => none
def L_eqTensor_G (k : Nat) : PG := fun _ l K => (L_eqTensor_argD l).bind fun a => (L_eqTensor k a.1 a.2).bind fun r => K (L_eqTensor_enc r)
theorem L_eqTensor_ev (k : Nat) (a : Tensor × Tensor) : ev (E_L_eqTensor k) (LP_L_eqTensor (Bool) k) 0 c_L_eqTensor (st0 Try.f14 (L_eqTensor_args a)) (fin Try.prog Try.f14 (.sc) L_eqTensor_dec) = L_eqTensor k a.1 a.2 := by kernel_rfl
theorem L_eqTensor_ok (k : Nat) : PureOk Try.prog 14 (L_eqTensor_G k) :=
  pureOk_of_ev (E_L_eqTensor_ok k) Try.func14 (by kernel_rfl) (by kernel_rfl) L_eqTensor_args L_eqTensor_argD
    (fun l a h => by unfold L_eqTensor_argD at h; split at h <;> first | (cases h; rfl) | cases h) (fun a => rfl) (lpgood_none (by kernel_rfl))
    (fun o r h => by unfold L_eqTensor_dec at h; split at h <;> first | (cases h; rfl) | cases h) (L_eqTensor_ev k)
def o_L_eqTensor (k : Nat) : Orc := pureOrc [.agg [(.int .i64), (.int .i64), (.int .i64), (.sl (.int .i64))], .agg [(.int .i64), (.int .i64), (.int .i64), (.sl (.int .i64))]] (L_eqTensor_G k)
theorem o_L_eqTensor_ok (k : Nat) : OrcOk Try.prog 14 (o_L_eqTensor k) := pureOrc_ok (L_eqTensor_ok k)
/-! ### 28 loop.example/g00778/laws.eqTensorS -/
noncomputable def E_L_eqTensorS (k : Nat) : Env := { P := Try.prog, tt := tt, orc := fun g => cond (Nat.beq g 14) (o_L_eqTensor k) (noOrc) }
theorem E_L_eqTensorS_ok (k : Nat) : EnvOk (E_L_eqTensorS k) := fun g => (orc_cond (o_L_eqTensor_ok k) (noOrc_ok _ _))
noncomputable def c_L_eqTensorS : Code := (Try.f28.body).getD .skip
noncomputable def b_L_eqTensorS_0 : Code := ((loopsIn 0 c_L_eqTensorS).getD 0 (0, .skip)).2
def L_eqTensorS_g0_keep : List Nat := [0, 1, 5]
def L_eqTensorS_g0_co : List (Where × Co) := []
def L_eqTensorS_g0_kx : Ex → List Nat
  | .exit j => cond (Nat.beq j 0) [] []
  | .ret => [4]
  | .normal => []
def L_eqTensorS_g0_cx : Ex → List (Where × Co)
  | .exit j => cond (Nat.beq j 0) [] []
  | .ret => []
  | .normal => []
def L_eqTensorS_g0_tm (pv : (List Tensor × List Tensor) × (Int)) : St := { slots := [(0, .r [] (.sl (.st .tensor) pv.1.1)), (1, .r [] (.sl (.st .tensor) pv.1.2)), (5, .r [] (.int .i64 pv.2))], heap := [], nid := 0, n := 27, gh := [] }
def L_eqTensorS_g0_dec (nf : NF) : Option ((List Tensor × List Tensor) × (Int)) := match nf with
  | ([.r [] (.sl (.st .tensor) w0), .r [] (.sl (.st .tensor) w1), .r [] (.int .i64 w2)], [], []) => some ((w0, w1), w2)
  | _ => none
theorem L_eqTensorS_g0_hd (nf : NF) (v : (List Tensor × List Tensor) × (Int)) (h : L_eqTensorS_g0_dec nf = some v) : denorm L_eqTensorS_g0_keep 27 nf = L_eqTensorS_g0_tm v := by
  unfold L_eqTensorS_g0_dec at h
  split at h
  · cases h; rfl
  · cases h
def L_eqTensorS_g0_x0 (p : List Tensor × List Tensor) (x : Unit) : St := { slots := [], heap := [], nid := 0, n := 27, gh := [] }
def L_eqTensorS_g0_xret (p : List Tensor × List Tensor) (x : Bool) : St := { slots := [(4, .r [] (.bool x))], heap := [], nid := 0, n := 27, gh := [] }
def LP_L_eqTensorS (ρ : Type) (k : Nat) : Nat → Ev ρ → Ev ρ := fun id f => cond (Nat.beq id 0) (loopOrc L_eqTensorS_g0_keep L_eqTensorS_g0_co (fun n nf => cond (Nat.beq n 27) (L_eqTensorS_g0_dec nf) none) fun pv K => iter (fun v next => L_eqTensorS_g0 k pv.1 v next (fun x => K (.exit 0) (L_eqTensorS_g0_x0 pv.1 x)) (fun x => K .ret (L_eqTensorS_g0_xret pv.1 x))) k pv.2) ((fun _ _ _ _ => none) id f)
theorem L_eqTensorS_g0_round {ρ : Type} (k : Nat) (p : List Tensor × List Tensor) (v : Int) (K K1 : Ex → St → Option ρ) : ev (E_L_eqTensorS k) (LP_L_eqTensorS ρ k) 0 b_L_eqTensorS_0 (L_eqTensorS_g0_tm (p, v)) (fun e st' => match e with
    | .normal => (normC L_eqTensorS_g0_keep L_eqTensorS_g0_co st').bind fun nf => K1 .normal (denorm L_eqTensorS_g0_keep st'.n nf)
    | e => (normC (L_eqTensorS_g0_kx e) (L_eqTensorS_g0_cx e) st').bind fun nf => K e (denorm (L_eqTensorS_g0_kx e) st'.n nf)) = L_eqTensorS_g0 k p v (fun v' => K1 .normal (L_eqTensorS_g0_tm (p, v'))) (fun x => K (.exit 0) (L_eqTensorS_g0_x0 p x)) (fun x => K .ret (L_eqTensorS_g0_xret p x)) := by kernel_rfl
theorem L_eqTensorS_g0_ok {ρ : Type} (k : Nat) : Sound Try.prog (.loop b_L_eqTensorS_0) (LP_L_eqTensorS ρ k 0 fun st K => ev (E_L_eqTensorS k) (LP_L_eqTensorS ρ k) 0 b_L_eqTensorS_0 st K) :=
  loop_ok (ev_sound (E_L_eqTensorS_ok k) b_L_eqTensorS_0 0 (lpgood_none (by kernel_rfl))) L_eqTensorS_g0_kx L_eqTensorS_g0_cx k (g := fun p v next K => L_eqTensorS_g0 k p v next (fun x => K (.exit 0) (L_eqTensorS_g0_x0 p x)) (fun x => K .ret (L_eqTensorS_g0_xret p x))) (dec_at L_eqTensorS_g0_hd) (fun p v K K1 => L_eqTensorS_g0_round k p v K K1)
def L_eqTensorS_args (a : List Tensor × List Tensor) : List Arg := [.one (.sl (.st .tensor) a.1), .one (.sl (.st .tensor) a.2)]
def L_eqTensorS_argD (l : List Arg) : Option (List Tensor × List Tensor) := match l with
  | [.one (.sl (.st .tensor) b0), .one (.sl (.st .tensor) b1)] => some (b0, b1)
  | _ => none
def L_eqTensorS_enc (r : Bool) : Out := (.r [] (.bool r), [])
def L_eqTensorS_dec (o : Out) : Option (Bool) := match o with
  | (.r [] (.bool z1), []) => some z1
  | _ => none
def L_eqTensorS_G (k : Nat) : PG := fun _ l K => (L_eqTensorS_argD l).bind fun a => (L_eqTensorS k a.1 a.2).bind fun r => K (L_eqTensorS_enc r)
theorem L_eqTensorS_ev (k : Nat) (a : List Tensor × List Tensor) : ev (E_L_eqTensorS k) (LP_L_eqTensorS (Bool) k) 0 c_L_eqTensorS (st0 Try.f28 (L_eqTensorS_args a)) (fin Try.prog Try.f28 (.sc) L_eqTensorS_dec) = L_eqTensorS k a.1 a.2 := by kernel_rfl
theorem L_eqTensorS_ok (k : Nat) : PureOk Try.prog 28 (L_eqTensorS_G k) :=
  pureOk_of_ev (E_L_eqTensorS_ok k) Try.func28 (by kernel_rfl) (by kernel_rfl) L_eqTensorS_args L_eqTensorS_argD
    (fun l a h => by unfold L_eqTensorS_argD at h; split at h <;> first | (cases h; rfl) | cases h) (fun a => rfl) (lpgood_of (l := [(0, b_L_eqTensorS_0)]) (by kernel_rfl) ⟨L_eqTensorS_g0_ok k, trivial⟩)
    (fun o r h => by unfold L_eqTensorS_dec at h; split at h <;> first | (cases h; rfl) | cases h) (L_eqTensorS_ev k)
def o_L_eqTensorS (k : Nat) : Orc := pureOrc [.one (.sl (.st .tensor)), .one (.sl (.st .tensor))] (L_eqTensorS_G k)
theorem o_L_eqTensorS_ok (k : Nat) : OrcOk Try.prog 28 (o_L_eqTensorS k) := pureOrc_ok (L_eqTensorS_ok k)
/-! ### 34 loop.example/g00778/laws.markIntS -/
noncomputable def E_L_markIntS_m3 (k : Nat) : Env := { P := Try.prog, tt := tt, orc := fun g => noOrc }
theorem E_L_markIntS_m3_ok (k : Nat) : EnvOk (E_L_markIntS_m3 k) := fun g => (noOrc_ok _ _)
noncomputable def c_L_markIntS_m3 : Code := (Try.f34.body).getD .skip
noncomputable def b_L_markIntS_m3_0 : Code := ((loopsIn 0 c_L_markIntS_m3).getD 0 (0, .skip)).2
def L_markIntS_m3_g0_keep : List Nat := [0, 1, 5]
def L_markIntS_m3_g0_co : List (Where × Co) := []
def L_markIntS_m3_g0_kx : Ex → List Nat
  | .exit j => cond (Nat.beq j 0) [1] []
  | .ret => []
  | .normal => []
def L_markIntS_m3_g0_cx : Ex → List (Where × Co)
  | .exit j => cond (Nat.beq j 0) [] []
  | .ret => []
  | .normal => []
def L_markIntS_m3_g0_tm (pv : (Unit) × (Int × Int × List Int)) : St := { slots := [(0, .own 0), (1, .r [] (.int .i64 pv.2.1)), (5, .r [] (.int .i64 pv.2.2.1))], heap := [(0, .arr none (.int .i64) pv.2.2.2)], nid := 1, n := 19, gh := [some 0] }
def L_markIntS_m3_g0_dec (nf : NF) : Option ((Unit) × (Int × Int × List Int)) := match nf with
  | ([.own 0, .r [] (.int .i64 w0), .r [] (.int .i64 w1)], [.arr none (.int .i64) w2], [some 0]) => some ((), (w0, w1, w2))
  | _ => none
theorem L_markIntS_m3_g0_hd (nf : NF) (v : (Unit) × (Int × Int × List Int)) (h : L_markIntS_m3_g0_dec nf = some v) : denorm L_markIntS_m3_g0_keep 19 nf = L_markIntS_m3_g0_tm v := by
  unfold L_markIntS_m3_g0_dec at h
  split at h
  · cases h; rfl
  · cases h
def L_markIntS_m3_g0_x0 (p : Unit) (x : Int × List Int) : St := { slots := [(1, .r [] (.int .i64 x.1))], heap := [(0, .arr none (.int .i64) x.2)], nid := 1, n := 19, gh := [some 0] }
def LP_L_markIntS_m3 (ρ : Type) (k : Nat) : Nat → Ev ρ → Ev ρ := fun id f => cond (Nat.beq id 0) (loopOrc L_markIntS_m3_g0_keep L_markIntS_m3_g0_co (fun n nf => cond (Nat.beq n 19) (L_markIntS_m3_g0_dec nf) none) fun pv K => iter (fun v next => L_markIntS_m3_g0 k pv.1 v next (fun x => K (.exit 0) (L_markIntS_m3_g0_x0 pv.1 x))) k pv.2) ((fun _ _ _ _ => none) id f)
theorem L_markIntS_m3_g0_round {ρ : Type} (k : Nat) (p : Unit) (v : Int × Int × List Int) (K K1 : Ex → St → Option ρ) : ev (E_L_markIntS_m3 k) (LP_L_markIntS_m3 ρ k) 0 b_L_markIntS_m3_0 (L_markIntS_m3_g0_tm (p, v)) (fun e st' => match e with
    | .normal => (normC L_markIntS_m3_g0_keep L_markIntS_m3_g0_co st').bind fun nf => K1 .normal (denorm L_markIntS_m3_g0_keep st'.n nf)
    | e => (normC (L_markIntS_m3_g0_kx e) (L_markIntS_m3_g0_cx e) st').bind fun nf => K e (denorm (L_markIntS_m3_g0_kx e) st'.n nf)) = L_markIntS_m3_g0 k p v (fun v' => K1 .normal (L_markIntS_m3_g0_tm (p, v'))) (fun x => K (.exit 0) (L_markIntS_m3_g0_x0 p x)) := by kernel_rfl
theorem L_markIntS_m3_g0_ok {ρ : Type} (k : Nat) : Sound Try.prog (.loop b_L_markIntS_m3_0) (LP_L_markIntS_m3 ρ k 0 fun st K => ev (E_L_markIntS_m3 k) (LP_L_markIntS_m3 ρ k) 0 b_L_markIntS_m3_0 st K) :=
  loop_ok (ev_sound (E_L_markIntS_m3_ok k) b_L_markIntS_m3_0 0 (lpgood_none (by kernel_rfl))) L_markIntS_m3_g0_kx L_markIntS_m3_g0_cx k (g := fun p v next K => L_markIntS_m3_g0 k p v next (fun x => K (.exit 0) (L_markIntS_m3_g0_x0 p x))) (dec_at L_markIntS_m3_g0_hd) (fun p v K K1 => L_markIntS_m3_g0_round k p v K K1)
def L_markIntS_m3_args (a : List Int × Int) : List SV := [.own 0, .r [] (.int .i64 a.2)]
def L_markIntS_m3_blks (a : List Int × Int) : List Blk := [.arr none (.int .i64) a.1]
def L_markIntS_m3_argD (l : List SV) (b : List Blk) : Option (List Int × Int) := match l, b with
  | [.own 0, .r [] (.int .i64 w0)], [.arr none (.int .i64) w1] => some (w1, w0)
  | _, _ => none
def L_markIntS_m3_enc (a : List Int × Int) (r : Int × List Int) : MOut := ⟨.r [] (.int .i64 r.1), [some (.arr none (.int .i64) r.2)], []⟩
def L_markIntS_m3_dec (a : List Int × Int) (o : MOut) : Option (Int × List Int) := match o with
  | ⟨.r [] (.int .i64 z1), [some (.arr none (.int .i64) z2)], []⟩ => some (z1, z2)
  | _ => none
def L_markIntS_m3_G (k : Nat) : MG := fun _ l b K => (L_markIntS_m3_argD l b).bind fun a => (L_markIntS_m3 k a.1 a.2).bind fun r => K (L_markIntS_m3_enc a r)
theorem L_markIntS_m3_ev (k : Nat) (a : List Int × Int) : ev (E_L_markIntS_m3 k) (LP_L_markIntS_m3 (Int × List Int) k) 0 c_L_markIntS_m3 (st0M Try.f34 (L_markIntS_m3_args a) (L_markIntS_m3_blks a)) (finM Try.prog Try.f34 (.sc) [.arr] (L_markIntS_m3_dec a)) = L_markIntS_m3 k a.1 a.2 := by kernel_rfl
theorem L_markIntS_m3_ok (k : Nat) : MutOk Try.prog 34 (L_markIntS_m3_G k) :=
  mutOk_of_ev (E_L_markIntS_m3_ok k) Try.func34 (by kernel_rfl) (by kernel_rfl) L_markIntS_m3_args L_markIntS_m3_blks L_markIntS_m3_argD
    (fun l b a h => by unfold L_markIntS_m3_argD at h; split at h <;> first | (cases h; exact ⟨rfl, rfl⟩) | cases h) (fun a => rfl) (lpgood_of (l := [(0, b_L_markIntS_m3_0)]) (by kernel_rfl) ⟨L_markIntS_m3_g0_ok k, trivial⟩) (fun a r => rfl)
    (fun a o r h => by unfold L_markIntS_m3_dec at h; split at h <;> first | (skip; cases h; rfl) | cases h) (L_markIntS_m3_ev k)
def o_L_markIntS_m3 (k : Nat) : Orc := mutOrc [.keep, .keep] (L_markIntS_m3_G k)
theorem o_L_markIntS_m3_ok (k : Nat) : OrcOk Try.prog 34 (o_L_markIntS_m3 k) := mutOrc_ok (L_markIntS_m3_ok k)
/-! ### 29 loop.example/g00778/laws.markTensorS -/
noncomputable def E_L_markTensorS_m2 (k : Nat) : Env := { P := Try.prog, tt := tt, orc := fun g => cond (Nat.beq g 34) (innOrc (o_L_markIntS_m3 k)) (noOrc), wr := fun g => mem g [34], wt := true, inn := true }
theorem E_L_markTensorS_m2_ok (k : Nat) : EnvOk (E_L_markTensorS_m2 k) := fun g => (orc_cond (innOrc_ok (o_L_markIntS_m3_ok k)) (noOrc_ok _ _))
noncomputable def c_L_markTensorS_m2 : Code := (Try.f29.body).getD .skip
noncomputable def b_L_markTensorS_m2_0 : Code := ((loopsIn 0 c_L_markTensorS_m2).getD 0 (0, .skip)).2
def L_markTensorS_m2_g0_keep : List Nat := [0, 1, 5]
def L_markTensorS_m2_g0_co : List (Where × Co) := []
def L_markTensorS_m2_g0_kx : Ex → List Nat
  | .exit j => cond (Nat.beq j 0) [1] []
  | .ret => []
  | .normal => []
def L_markTensorS_m2_g0_cx : Ex → List (Where × Co)
  | .exit j => cond (Nat.beq j 0) [] []
  | .ret => []
  | .normal => []
def L_markTensorS_m2_g0_tm (pv : (Unit) × (Int × Int × List Tensor)) : St := { slots := [(0, .own 0), (1, .r [] (.int .i64 pv.2.1)), (5, .r [] (.int .i64 pv.2.2.1))], heap := [(0, .arr none (.st .tensor) pv.2.2.2)], nid := 1, n := 44, gh := [some 0] }
def L_markTensorS_m2_g0_dec (nf : NF) : Option ((Unit) × (Int × Int × List Tensor)) := match nf with
  | ([.own 0, .r [] (.int .i64 w0), .r [] (.int .i64 w1)], [.arr none (.st .tensor) w2], [some 0]) => some ((), (w0, w1, w2))
  | _ => none
theorem L_markTensorS_m2_g0_hd (nf : NF) (v : (Unit) × (Int × Int × List Tensor)) (h : L_markTensorS_m2_g0_dec nf = some v) : denorm L_markTensorS_m2_g0_keep 44 nf = L_markTensorS_m2_g0_tm v := by
  unfold L_markTensorS_m2_g0_dec at h
  split at h
  · cases h; rfl
  · cases h
def L_markTensorS_m2_g0_x0 (p : Unit) (x : Int × List Tensor) : St := { slots := [(1, .r [] (.int .i64 x.1))], heap := [(0, .arr none (.st .tensor) x.2)], nid := 1, n := 44, gh := [some 0] }
def LP_L_markTensorS_m2 (ρ : Type) (k : Nat) : Nat → Ev ρ → Ev ρ := fun id f => cond (Nat.beq id 0) (loopOrc L_markTensorS_m2_g0_keep L_markTensorS_m2_g0_co (fun n nf => cond (Nat.beq n 44) (L_markTensorS_m2_g0_dec nf) none) fun pv K => iter (fun v next => L_markTensorS_m2_g0 k pv.1 v next (fun x => K (.exit 0) (L_markTensorS_m2_g0_x0 pv.1 x))) k pv.2) ((fun _ _ _ _ => none) id f)
theorem L_markTensorS_m2_g0_round {ρ : Type} (k : Nat) (p : Unit) (v : Int × Int × List Tensor) (K K1 : Ex → St → Option ρ) : ev (E_L_markTensorS_m2 k) (LP_L_markTensorS_m2 ρ k) 0 b_L_markTensorS_m2_0 (L_markTensorS_m2_g0_tm (p, v)) (fun e st' => match e with
    | .normal => (normC L_markTensorS_m2_g0_keep L_markTensorS_m2_g0_co st').bind fun nf => K1 .normal (denorm L_markTensorS_m2_g0_keep st'.n nf)
    | e => (normC (L_markTensorS_m2_g0_kx e) (L_markTensorS_m2_g0_cx e) st').bind fun nf => K e (denorm (L_markTensorS_m2_g0_kx e) st'.n nf)) = L_markTensorS_m2_g0 k p v (fun v' => K1 .normal (L_markTensorS_m2_g0_tm (p, v'))) (fun x => K (.exit 0) (L_markTensorS_m2_g0_x0 p x)) := by kernel_rfl
theorem L_markTensorS_m2_g0_ok {ρ : Type} (k : Nat) : Sound Try.prog (.loop b_L_markTensorS_m2_0) (LP_L_markTensorS_m2 ρ k 0 fun st K => ev (E_L_markTensorS_m2 k) (LP_L_markTensorS_m2 ρ k) 0 b_L_markTensorS_m2_0 st K) :=
  loop_ok (ev_sound (E_L_markTensorS_m2_ok k) b_L_markTensorS_m2_0 0 (lpgood_none (by kernel_rfl))) L_markTensorS_m2_g0_kx L_markTensorS_m2_g0_cx k (g := fun p v next K => L_markTensorS_m2_g0 k p v next (fun x => K (.exit 0) (L_markTensorS_m2_g0_x0 p x))) (dec_at L_markTensorS_m2_g0_hd) (fun p v K K1 => L_markTensorS_m2_g0_round k p v K K1)
def L_markTensorS_m2_args (a : List Tensor × Int) : List SV := [.own 0, .r [] (.int .i64 a.2)]
def L_markTensorS_m2_blks (a : List Tensor × Int) : List Blk := [.arr none (.st .tensor) a.1]
def L_markTensorS_m2_argD (l : List SV) (b : List Blk) : Option (List Tensor × Int) := match l, b with
  | [.own 0, .r [] (.int .i64 w0)], [.arr none (.st .tensor) w1] => some (w1, w0)
  | _, _ => none
def L_markTensorS_m2_enc (a : List Tensor × Int) (r : Int × List Tensor) : MOut := ⟨.r [] (.int .i64 r.1), [some (.arr none (.st .tensor) r.2)], []⟩
def L_markTensorS_m2_dec (a : List Tensor × Int) (o : MOut) : Option (Int × List Tensor) := match o with
  | ⟨.r [] (.int .i64 z1), [some (.arr none (.st .tensor) z2)], []⟩ => some (z1, z2)
  | _ => none
def L_markTensorS_m2_G (k : Nat) : MG := fun _ l b K => (L_markTensorS_m2_argD l b).bind fun a => (L_markTensorS_m2 k a.1 a.2).bind fun r => K (L_markTensorS_m2_enc a r)
theorem L_markTensorS_m2_ev (k : Nat) (a : List Tensor × Int) : ev (E_L_markTensorS_m2 k) (LP_L_markTensorS_m2 (Int × List Tensor) k) 0 c_L_markTensorS_m2 (st0M Try.f29 (L_markTensorS_m2_args a) (L_markTensorS_m2_blks a)) (finM Try.prog Try.f29 (.sc) [.arr] (L_markTensorS_m2_dec a)) = L_markTensorS_m2 k a.1 a.2 := by kernel_rfl
theorem L_markTensorS_m2_ok (k : Nat) : MutOk Try.prog 29 (L_markTensorS_m2_G k) :=
  mutOk_of_ev (E_L_markTensorS_m2_ok k) Try.func29 (by kernel_rfl) (by kernel_rfl) L_markTensorS_m2_args L_markTensorS_m2_blks L_markTensorS_m2_argD
    (fun l b a h => by unfold L_markTensorS_m2_argD at h; split at h <;> first | (cases h; exact ⟨rfl, rfl⟩) | cases h) (fun a => rfl) (lpgood_of (l := [(0, b_L_markTensorS_m2_0)]) (by kernel_rfl) ⟨L_markTensorS_m2_g0_ok k, trivial⟩) (fun a r => rfl)
    (fun a o r h => by unfold L_markTensorS_m2_dec at h; split at h <;> first | (skip; cases h; rfl) | cases h) (L_markTensorS_m2_ev k)
def o_L_markTensorS_m2 (k : Nat) : Orc := mutOrc [.keep, .keep] (L_markTensorS_m2_G k)
theorem o_L_markTensorS_m2_ok (k : Nat) : OrcOk Try.prog 29 (o_L_markTensorS_m2 k) := mutOrc_ok (L_markTensorS_m2_ok k)
/-! ### 15 loop.example/g00778/laws.markTensor -/
noncomputable def E_L_markTensor_m2 (k : Nat) : Env := { P := Try.prog, tt := tt, orc := fun g => cond (Nat.beq g 34) (o_L_markIntS_m3 k) (noOrc), wr := fun g => mem g [34], wt := true }
theorem E_L_markTensor_m2_ok (k : Nat) : EnvOk (E_L_markTensor_m2 k) := fun g => (orc_cond (o_L_markIntS_m3_ok k) (noOrc_ok _ _))
noncomputable def c_L_markTensor_m2 : Code := (Try.f15.body).getD .skip
def LP_L_markTensor_m2 (ρ : Type) (k : Nat) : Nat → Ev ρ → Ev ρ := fun _ _ _ _ => none
def L_markTensor_m2_args (a : Tensor × Int) : List SV := [.agg [.r [] (.int .i64 a.1.sh.h), .r [] (.int .i64 a.1.sh.w), .r [] (.int .i64 a.1.sh.c), .own 0], .r [] (.int .i64 a.2)]
def L_markTensor_m2_blks (a : Tensor × Int) : List Blk := [.arr none (.int .i64) a.1.data]
def L_markTensor_m2_argD (l : List SV) (b : List Blk) : Option (Tensor × Int) := match l, b with
  | [.agg [.r [] (.int .i64 w0), .r [] (.int .i64 w1), .r [] (.int .i64 w2), .own 0], .r [] (.int .i64 w3)], [.arr none (.int .i64) w4] => some ((⟨(⟨w0, w1, w2⟩ : Shape), w4⟩ : Tensor), w3)
  | _, _ => none
def L_markTensor_m2_enc (a : Tensor × Int) (r : Int × List Int) : MOut := ⟨.r [] (.int .i64 r.1), [some (.arr none (.int .i64) r.2)], []⟩
def L_markTensor_m2_dec (a : Tensor × Int) (o : MOut) : Option (Int × List Int) := match o with
  | ⟨.r [] (.int .i64 z1), [some (.arr none (.int .i64) z2)], []⟩ => some (z1, z2)
  | _ => none
def L_markTensor_m2_G (k : Nat) : MG := fun _ l b K => (L_markTensor_m2_argD l b).bind fun a => (L_markTensor_m2 k a.1 a.2).bind fun r => K (L_markTensor_m2_enc a r)
theorem L_markTensor_m2_ev (k : Nat) (a : Tensor × Int) : ev (E_L_markTensor_m2 k) (LP_L_markTensor_m2 (Int × List Int) k) 0 c_L_markTensor_m2 (st0M Try.f15 (L_markTensor_m2_args a) (L_markTensor_m2_blks a)) (finM Try.prog Try.f15 (.sc) [.arr] (L_markTensor_m2_dec a)) = L_markTensor_m2 k a.1 a.2 := by kernel_rfl
theorem L_markTensor_m2_ok (k : Nat) : MutOk Try.prog 15 (L_markTensor_m2_G k) :=
  mutOk_of_ev (E_L_markTensor_m2_ok k) Try.func15 (by kernel_rfl) (by kernel_rfl) L_markTensor_m2_args L_markTensor_m2_blks L_markTensor_m2_argD
    (fun l b a h => by unfold L_markTensor_m2_argD at h; split at h <;> first | (cases h; exact ⟨rfl, rfl⟩) | cases h) (fun a => rfl) (lpgood_none (by kernel_rfl)) (fun a r => rfl)
    (fun a o r h => by unfold L_markTensor_m2_dec at h; split at h <;> first | (skip; cases h; rfl) | cases h) (L_markTensor_m2_ev k)
def o_L_markTensor_m2 (k : Nat) : Orc := mutOrc [.keep, .keep] (L_markTensor_m2_G k)
theorem o_L_markTensor_m2_ok (k : Nat) : OrcOk Try.prog 15 (o_L_markTensor_m2 k) := mutOrc_ok (L_markTensor_m2_ok k)
/-! ### 35 loop.example/g00778/laws.heldIntS -/
noncomputable def E_L_heldIntS (k : Nat) : Env := { P := Try.prog, tt := tt, orc := fun g => noOrc }
theorem E_L_heldIntS_ok (k : Nat) : EnvOk (E_L_heldIntS k) := fun g => (noOrc_ok _ _)
noncomputable def c_L_heldIntS : Code := (Try.f35.body).getD .skip
noncomputable def b_L_heldIntS_0 : Code := ((loopsIn 0 c_L_heldIntS).getD 0 (0, .skip)).2
def L_heldIntS_g0_keep : List Nat := [0, 1, 5]
def L_heldIntS_g0_co : List (Where × Co) := []
def L_heldIntS_g0_kx : Ex → List Nat
  | .exit j => cond (Nat.beq j 0) [1] []
  | .ret => [4]
  | .normal => []
def L_heldIntS_g0_cx : Ex → List (Where × Co)
  | .exit j => cond (Nat.beq j 0) [] []
  | .ret => []
  | .normal => []
def L_heldIntS_g0_tm (pv : (List Int) × (Int × Int)) : St := { slots := [(0, .r [] (.sl (.int .i64) pv.1)), (1, .r [] (.int .i64 pv.2.1)), (5, .r [] (.int .i64 pv.2.2))], heap := [], nid := 0, n := 21, gh := [] }
def L_heldIntS_g0_dec (nf : NF) : Option ((List Int) × (Int × Int)) := match nf with
  | ([.r [] (.sl (.int .i64) w0), .r [] (.int .i64 w1), .r [] (.int .i64 w2)], [], []) => some (w0, (w1, w2))
  | _ => none
theorem L_heldIntS_g0_hd (nf : NF) (v : (List Int) × (Int × Int)) (h : L_heldIntS_g0_dec nf = some v) : denorm L_heldIntS_g0_keep 21 nf = L_heldIntS_g0_tm v := by
  unfold L_heldIntS_g0_dec at h
  split at h
  · cases h; rfl
  · cases h
def L_heldIntS_g0_x0 (p : List Int) (x : Int) : St := { slots := [(1, .r [] (.int .i64 x))], heap := [], nid := 0, n := 21, gh := [] }
def L_heldIntS_g0_xret (p : List Int) (x : Int) : St := { slots := [(4, .r [] (.int .i64 x))], heap := [], nid := 0, n := 21, gh := [] }
def LP_L_heldIntS (ρ : Type) (k : Nat) : Nat → Ev ρ → Ev ρ := fun id f => cond (Nat.beq id 0) (loopOrc L_heldIntS_g0_keep L_heldIntS_g0_co (fun n nf => cond (Nat.beq n 21) (L_heldIntS_g0_dec nf) none) fun pv K => iter (fun v next => L_heldIntS_g0 k pv.1 v next (fun x => K (.exit 0) (L_heldIntS_g0_x0 pv.1 x)) (fun x => K .ret (L_heldIntS_g0_xret pv.1 x))) k pv.2) ((fun _ _ _ _ => none) id f)
theorem L_heldIntS_g0_round {ρ : Type} (k : Nat) (p : List Int) (v : Int × Int) (K K1 : Ex → St → Option ρ) : ev (E_L_heldIntS k) (LP_L_heldIntS ρ k) 0 b_L_heldIntS_0 (L_heldIntS_g0_tm (p, v)) (fun e st' => match e with
    | .normal => (normC L_heldIntS_g0_keep L_heldIntS_g0_co st').bind fun nf => K1 .normal (denorm L_heldIntS_g0_keep st'.n nf)
    | e => (normC (L_heldIntS_g0_kx e) (L_heldIntS_g0_cx e) st').bind fun nf => K e (denorm (L_heldIntS_g0_kx e) st'.n nf)) = L_heldIntS_g0 k p v (fun v' => K1 .normal (L_heldIntS_g0_tm (p, v'))) (fun x => K (.exit 0) (L_heldIntS_g0_x0 p x)) (fun x => K .ret (L_heldIntS_g0_xret p x)) := by kernel_rfl
theorem L_heldIntS_g0_ok {ρ : Type} (k : Nat) : Sound Try.prog (.loop b_L_heldIntS_0) (LP_L_heldIntS ρ k 0 fun st K => ev (E_L_heldIntS k) (LP_L_heldIntS ρ k) 0 b_L_heldIntS_0 st K) :=
  loop_ok (ev_sound (E_L_heldIntS_ok k) b_L_heldIntS_0 0 (lpgood_none (by kernel_rfl))) L_heldIntS_g0_kx L_heldIntS_g0_cx k (g := fun p v next K => L_heldIntS_g0 k p v next (fun x => K (.exit 0) (L_heldIntS_g0_x0 p x)) (fun x => K .ret (L_heldIntS_g0_xret p x))) (dec_at L_heldIntS_g0_hd) (fun p v K K1 => L_heldIntS_g0_round k p v K K1)
def L_heldIntS_args (a : List Int × Int) : List Arg := [.one (.sl (.int .i64) a.1), .one (.int .i64 a.2)]
def L_heldIntS_argD (l : List Arg) : Option (List Int × Int) := match l with
  | [.one (.sl (.int .i64) b0), .one (.int .i64 b1)] => some (b0, b1)
  | _ => none
def L_heldIntS_enc (r : Int) : Out := (.r [] (.int .i64 r), [])
def L_heldIntS_dec (o : Out) : Option (Int) := match o with
  | (.r [] (.int .i64 z1), []) => some z1
  | _ => none
def L_heldIntS_G (k : Nat) : PG := fun _ l K => (L_heldIntS_argD l).bind fun a => (L_heldIntS k a.1 a.2).bind fun r => K (L_heldIntS_enc r)
theorem L_heldIntS_ev (k : Nat) (a : List Int × Int) : ev (E_L_heldIntS k) (LP_L_heldIntS (Int) k) 0 c_L_heldIntS (st0 Try.f35 (L_heldIntS_args a)) (fin Try.prog Try.f35 (.sc) L_heldIntS_dec) = L_heldIntS k a.1 a.2 := by kernel_rfl
theorem L_heldIntS_ok (k : Nat) : PureOk Try.prog 35 (L_heldIntS_G k) :=
  pureOk_of_ev (E_L_heldIntS_ok k) Try.func35 (by kernel_rfl) (by kernel_rfl) L_heldIntS_args L_heldIntS_argD
    (fun l a h => by unfold L_heldIntS_argD at h; split at h <;> first | (cases h; rfl) | cases h) (fun a => rfl) (lpgood_of (l := [(0, b_L_heldIntS_0)]) (by kernel_rfl) ⟨L_heldIntS_g0_ok k, trivial⟩)
    (fun o r h => by unfold L_heldIntS_dec at h; split at h <;> first | (cases h; rfl) | cases h) (L_heldIntS_ev k)
def o_L_heldIntS (k : Nat) : Orc := pureOrc [.one (.sl (.int .i64)), .one (.int .i64)] (L_heldIntS_G k)
theorem o_L_heldIntS_ok (k : Nat) : OrcOk Try.prog 35 (o_L_heldIntS k) := pureOrc_ok (L_heldIntS_ok k)
/-! ### 16 loop.example/g00778/laws.heldTensor -/
noncomputable def E_L_heldTensor (k : Nat) : Env := { P := Try.prog, tt := tt, orc := fun g => cond (Nat.beq g 35) (o_L_heldIntS k) (noOrc) }
theorem E_L_heldTensor_ok (k : Nat) : EnvOk (E_L_heldTensor k) := fun g => (orc_cond (o_L_heldIntS_ok k) (noOrc_ok _ _))
noncomputable def c_L_heldTensor : Code := (Try.f16.body).getD .skip
def LP_L_heldTensor (ρ : Type) (k : Nat) : Nat → Ev ρ → Ev ρ := fun _ _ _ _ => none
def L_heldTensor_args (a : Tensor × Int) : List Arg := [.agg [.int .i64 a.1.sh.h, .int .i64 a.1.sh.w, .int .i64 a.1.sh.c, .sl (.int .i64) a.1.data], .one (.int .i64 a.2)]
def L_heldTensor_argD (l : List Arg) : Option (Tensor × Int) := match l with
  | [.agg [.int .i64 b0_0, .int .i64 b0_1, .int .i64 b0_2, .sl (.int .i64) b0_3], .one (.int .i64 b1)] => some ((⟨(⟨b0_0, b0_1, b0_2⟩ : Shape), b0_3⟩ : Tensor), b1)
  | _ => none
def L_heldTensor_enc (r : Int) : Out := (.r [] (.int .i64 r), [])
def L_heldTensor_dec (o : Out) : Option (Int) := match o with
  | (.r [] (.int .i64 z1), []) => some z1
  | _ => none
def L_heldTensor_G (k : Nat) : PG := fun _ l K => (L_heldTensor_argD l).bind fun a => (L_heldTensor k a.1 a.2).bind fun r => K (L_heldTensor_enc r)
theorem L_heldTensor_ev (k : Nat) (a : Tensor × Int) : ev (E_L_heldTensor k) (LP_L_heldTensor (Int) k) 0 c_L_heldTensor (st0 Try.f16 (L_heldTensor_args a)) (fin Try.prog Try.f16 (.sc) L_heldTensor_dec) = L_heldTensor k a.1 a.2 := by kernel_rfl
theorem L_heldTensor_ok (k : Nat) : PureOk Try.prog 16 (L_heldTensor_G k) :=
  pureOk_of_ev (E_L_heldTensor_ok k) Try.func16 (by kernel_rfl) (by kernel_rfl) L_heldTensor_args L_heldTensor_argD
    (fun l a h => by unfold L_heldTensor_argD at h; split at h <;> first | (cases h; rfl) | cases h) (fun a => rfl) (lpgood_none (by kernel_rfl))
    (fun o r h => by unfold L_heldTensor_dec at h; split at h <;> first | (cases h; rfl) | cases h) (L_heldTensor_ev k)
def o_L_heldTensor (k : Nat) : Orc := pureOrc [.agg [(.int .i64), (.int .i64), (.int .i64), (.sl (.int .i64))], .one (.int .i64)] (L_heldTensor_G k)
theorem o_L_heldTensor_ok (k : Nat) : OrcOk Try.prog 16 (o_L_heldTensor k) := pureOrc_ok (L_heldTensor_ok k)
/-! ### 6 loop.example/g00778/laws.FnExactJoinBatch -/
noncomputable def E_L_FnExactJoinBatch (k : Nat) : Env := { P := Try.prog, tt := tt, orc := fun g => cond (Nat.beq g 14) (o_L_eqTensor k) (cond (Nat.beq g 15) (o_L_markTensor_m2 k) (cond (Nat.beq g 16) (o_L_heldTensor k) (cond (Nat.beq g 24) (o_L_szTensorS k) (cond (Nat.beq g 25) (o_S_JoinBatch k) (cond (Nat.beq g 26) (o_L_toTensorS k) (cond (Nat.beq g 27) (o_I_JoinBatch k) (cond (Nat.beq g 28) (o_L_eqTensorS k) (cond (Nat.beq g 29) (o_L_markTensorS_m2 k) (noOrc))))))))), wr := fun g => mem g [15, 29], wt := true }
theorem E_L_FnExactJoinBatch_ok (k : Nat) : EnvOk (E_L_FnExactJoinBatch k) := fun g => (orc_cond (o_L_eqTensor_ok k) (orc_cond (o_L_markTensor_m2_ok k) (orc_cond (o_L_heldTensor_ok k) (orc_cond (o_L_szTensorS_ok k) (orc_cond (o_S_JoinBatch_ok k) (orc_cond (o_L_toTensorS_ok k) (orc_cond (o_I_JoinBatch_ok k) (orc_cond (o_L_eqTensorS_ok k) (orc_cond (o_L_markTensorS_m2_ok k) (noOrc_ok _ _))))))))))
noncomputable def c_L_FnExactJoinBatch : Code := (Try.f6.body).getD .skip
def LP_L_FnExactJoinBatch (ρ : Type) (k : Nat) : Nat → Ev ρ → Ev ρ := fun _ _ _ _ => none
def L_FnExactJoinBatch_args (a : List Tensor) : List Arg := [.one (.sl (.st .tensor) a)]
def L_FnExactJoinBatch_argD (l : List Arg) : Option (List Tensor) := match l with
  | [.one (.sl (.st .tensor) b0)] => some b0
  | _ => none
def L_FnExactJoinBatch_enc (r : Bool) : Out := (.r [] (.bool r), [])
def L_FnExactJoinBatch_dec (o : Out) : Option (Bool) := match o with
  | (.r [] (.bool z1), []) => some z1
  | _ => none
def L_FnExactJoinBatch_G (k : Nat) : PG := fun _ l K => (L_FnExactJoinBatch_argD l).bind fun a => (L_FnExactJoinBatch k a).bind fun r => K (L_FnExactJoinBatch_enc r)
theorem L_FnExactJoinBatch_ev (k : Nat) (a : List Tensor) : ev (E_L_FnExactJoinBatch k) (LP_L_FnExactJoinBatch (Bool) k) 0 c_L_FnExactJoinBatch (st0 Try.f6 (L_FnExactJoinBatch_args a)) (fin Try.prog Try.f6 (.sc) L_FnExactJoinBatch_dec) = L_FnExactJoinBatch k a := by kernel_rfl
theorem L_FnExactJoinBatch_ok (k : Nat) : PureOk Try.prog 6 (L_FnExactJoinBatch_G k) :=
  pureOk_of_ev (E_L_FnExactJoinBatch_ok k) Try.func6 (by kernel_rfl) (by kernel_rfl) L_FnExactJoinBatch_args L_FnExactJoinBatch_argD
    (fun l a h => by unfold L_FnExactJoinBatch_argD at h; split at h <;> first | (cases h; rfl) | cases h) (fun a => rfl) (lpgood_none (by kernel_rfl))
    (fun o r h => by unfold L_FnExactJoinBatch_dec at h; split at h <;> first | (cases h; rfl) | cases h) (L_FnExactJoinBatch_ev k)
def o_L_FnExactJoinBatch (k : Nat) : Orc := pureOrc [.one (.sl (.st .tensor))] (L_FnExactJoinBatch_G k)
theorem o_L_FnExactJoinBatch_ok (k : Nat) : OrcOk Try.prog 6 (o_L_FnExactJoinBatch k) := pureOrc_ok (L_FnExactJoinBatch_ok k)
end
end Go.Proofs.Ev
