/- Text of this claim. -/
import Derived.Test.YtjfcdjhkfhhieaaEvK5
import Derived.Test.YtjfcdjhkfhhieaaProg
import Derived.Test.YtjfcdjhkfhhieaaEvD1
import Derived.Test.YtjfcdjhkfhhieaaEvD3
import Derived.Test.YtjfcdjhkfhhieaaEvD5
set_option linter.unusedVariables false
set_option linter.unusedSimpArgs false
set_option linter.unusedVariables false
set_option linter.unusedSimpArgs false
set_option maxRecDepth 100000
namespace Go.Proofs.Ev
noncomputable section
def tt : TT := look [(2, (.int .i64)), (3, (.int .i64)), (4, .bool), (5, (.int .u8)), (6, (.int .u8)), (9, .str), (10, .str), (11, .str), (12, (.int .u64)), (21, (.int .i32)), (22, (.sl (.st .task))), (25, (.sl (.int .i64))), (27, (.sl (.st .task))), (40, (.st .shape)), (41, (.sl (.st .layer))), (43, (.st .model)), (46, (.st .shape)), (47, (.sl (.st .layer))), (49, (.st .model)), (63, (.st .tensor)), (66, (.st .tensor)), (77, (.sl (.sl (.int .i64)))), (84, (.sl (.st .tensor))), (86, (.sl (.st .tensor))), (96, (.st .task)), (109, (.sl (.st .shape))), (114, (.st .layer)), (137, (.st .task)), (147, (.st .layer)), (158, (.sl (.sl (.st .layer)))), (189, (.int .u64)), (196, (.int .u32)), (197, (.int .u8)), (198, (.int .u8)), (201, (.int .i32)), (202, (.int .i32))]
/-! ### 96 loop.example/g00778/laws.szIntS -/
noncomputable def E_L_szIntS (k : Nat) : Env := { P := Try.prog, tt := tt, orc := fun g => noOrc }
theorem E_L_szIntS_ok (k : Nat) : EnvOk (E_L_szIntS k) := fun g => (noOrc_ok _ _)
noncomputable def c_L_szIntS : Code := (Try.f96.body).getD .skip
def LP_L_szIntS (ρ : Type) (k : Nat) : Nat → Ev ρ → Ev ρ := fun _ _ _ _ => none
def L_szIntS_args (a : List Int × Int) : List Arg := [.one (.sl (.int .i64) a.1), .one (.int .i64 a.2)]
def L_szIntS_argD (l : List Arg) : Option (List Int × Int) := match l with
  | [.one (.sl (.int .i64) b0), .one (.int .i64 b1)] => some (b0, b1)
  | _ => none
def L_szIntS_enc (r : Int) : Out := (.r [] (.int .i64 r), [])
def L_szIntS_dec (o : Out) : Option (Int) := match o with
  | (.r [] (.int .i64 z1), []) => some z1
  | _ => none
def L_szIntS_G (k : Nat) : PG := fun _ l K => (L_szIntS_argD l).bind fun a => (L_szIntS k a.1 a.2).bind fun r => K (L_szIntS_enc r)
theorem L_szIntS_ev (k : Nat) (a : List Int × Int) : ev (E_L_szIntS k) (LP_L_szIntS (Int) k) 0 c_L_szIntS (st0 Try.f96 (L_szIntS_args a)) (fin Try.prog Try.f96 (.sc) L_szIntS_dec) = L_szIntS k a.1 a.2 := by kernel_rfl
theorem L_szIntS_ok (k : Nat) : PureOk Try.prog 96 (L_szIntS_G k) :=
  pureOk_of_ev (E_L_szIntS_ok k) Try.func96 (by kernel_rfl) (by kernel_rfl) L_szIntS_args L_szIntS_argD
    (fun l a h => by unfold L_szIntS_argD at h; split at h <;> first | (cases h; rfl) | cases h) (fun a => rfl) (lpgood_none (by kernel_rfl))
    (fun o r h => by unfold L_szIntS_dec at h; split at h <;> first | (cases h; rfl) | cases h) (L_szIntS_ev k)
def o_L_szIntS (k : Nat) : Orc := pureOrc [.one (.sl (.int .i64)), .one (.int .i64)] (L_szIntS_G k)
theorem o_L_szIntS_ok (k : Nat) : OrcOk Try.prog 96 (o_L_szIntS k) := pureOrc_ok (L_szIntS_ok k)
/-! ### 126 loop.example/g00778/laws.szLayer -/
noncomputable def E_L_szLayer (k : Nat) : Env := { P := Try.prog, tt := tt, orc := fun g => cond (Nat.beq g 96) (o_L_szIntS k) (noOrc) }
theorem E_L_szLayer_ok (k : Nat) : EnvOk (E_L_szLayer k) := fun g => (orc_cond (o_L_szIntS_ok k) (noOrc_ok _ _))
noncomputable def c_L_szLayer : Code := (Try.f126.body).getD .skip
def LP_L_szLayer (ρ : Type) (k : Nat) : Nat → Ev ρ → Ev ρ := fun _ _ _ _ => none
def L_szLayer_args (a : Layer × Int) : List Arg := [.agg [.int .i64 a.1.kind, .int .i64 a.1.out, .int .i64 a.1.size, .int .i64 a.1.step, .int .i64 a.1.mult, .int .i64 a.1.shift, .int .i64 a.1.zero, .sl (.int .i64) a.1.weights, .sl (.int .i64) a.1.bias], .one (.int .i64 a.2)]
def L_szLayer_argD (l : List Arg) : Option (Layer × Int) := match l with
  | [.agg [.int .i64 b0_0, .int .i64 b0_1, .int .i64 b0_2, .int .i64 b0_3, .int .i64 b0_4, .int .i64 b0_5, .int .i64 b0_6, .sl (.int .i64) b0_7, .sl (.int .i64) b0_8], .one (.int .i64 b1)] => some ((⟨b0_0, b0_1, b0_2, b0_3, b0_4, b0_5, b0_6, b0_7, b0_8⟩ : Layer), b1)
  | _ => none
def L_szLayer_enc (r : Int) : Out := (.r [] (.int .i64 r), [])
def L_szLayer_dec (o : Out) : Option (Int) := match o with
  | (.r [] (.int .i64 z1), []) => some z1
  | _ => none
def L_szLayer_G (k : Nat) : PG := fun _ l K => (L_szLayer_argD l).bind fun a => (L_szLayer k a.1 a.2).bind fun r => K (L_szLayer_enc r)
theorem L_szLayer_ev (k : Nat) (a : Layer × Int) : ev (E_L_szLayer k) (LP_L_szLayer (Int) k) 0 c_L_szLayer (st0 Try.f126 (L_szLayer_args a)) (fin Try.prog Try.f126 (.sc) L_szLayer_dec) = L_szLayer k a.1 a.2 := by kernel_rfl
theorem L_szLayer_ok (k : Nat) : PureOk Try.prog 126 (L_szLayer_G k) :=
  pureOk_of_ev (E_L_szLayer_ok k) Try.func126 (by kernel_rfl) (by kernel_rfl) L_szLayer_args L_szLayer_argD
    (fun l a h => by unfold L_szLayer_argD at h; split at h <;> first | (cases h; rfl) | cases h) (fun a => rfl) (lpgood_none (by kernel_rfl))
    (fun o r h => by unfold L_szLayer_dec at h; split at h <;> first | (cases h; rfl) | cases h) (L_szLayer_ev k)
def o_L_szLayer (k : Nat) : Orc := pureOrc [.agg [(.int .i64), (.int .i64), (.int .i64), (.int .i64), (.int .i64), (.int .i64), (.int .i64), (.sl (.int .i64)), (.sl (.int .i64))], .one (.int .i64)] (L_szLayer_G k)
theorem o_L_szLayer_ok (k : Nat) : OrcOk Try.prog 126 (o_L_szLayer k) := pureOrc_ok (L_szLayer_ok k)
/-! ### 72 loop.example/g00778/laws.szLayerS -/
noncomputable def E_L_szLayerS (k : Nat) : Env := { P := Try.prog, tt := tt, orc := fun g => cond (Nat.beq g 126) (o_L_szLayer k) (noOrc) }
theorem E_L_szLayerS_ok (k : Nat) : EnvOk (E_L_szLayerS k) := fun g => (orc_cond (o_L_szLayer_ok k) (noOrc_ok _ _))
noncomputable def c_L_szLayerS : Code := (Try.f72.body).getD .skip
noncomputable def b_L_szLayerS_0 : Code := ((loopsIn 0 c_L_szLayerS).getD 0 (0, .skip)).2
def L_szLayerS_g0_keep : List Nat := [0, 1, 5]
def L_szLayerS_g0_co : List (Where × Co) := []
def L_szLayerS_g0_kx : Ex → List Nat
  | .exit j => cond (Nat.beq j 0) [1] []
  | .ret => [4]
  | .normal => []
def L_szLayerS_g0_cx : Ex → List (Where × Co)
  | .exit j => cond (Nat.beq j 0) [] []
  | .ret => []
  | .normal => []
def L_szLayerS_g0_tm (pv : (List Layer) × (Int × Int)) : St := { slots := [(0, .r [] (.sl (.st .layer) pv.1)), (1, .r [] (.int .i64 pv.2.1)), (5, .r [] (.int .i64 pv.2.2))], heap := [], nid := 0, n := 27, gh := [] }
def L_szLayerS_g0_dec (nf : NF) : Option ((List Layer) × (Int × Int)) := match nf with
  | ([.r [] (.sl (.st .layer) w0), .r [] (.int .i64 w1), .r [] (.int .i64 w2)], [], []) => some (w0, (w1, w2))
  | _ => none
theorem L_szLayerS_g0_hd (nf : NF) (v : (List Layer) × (Int × Int)) (h : L_szLayerS_g0_dec nf = some v) : denorm L_szLayerS_g0_keep 27 nf = L_szLayerS_g0_tm v := by
  unfold L_szLayerS_g0_dec at h
  split at h
  · cases h; rfl
  · cases h
def L_szLayerS_g0_x0 (p : List Layer) (x : Int) : St := { slots := [(1, .r [] (.int .i64 x))], heap := [], nid := 0, n := 27, gh := [] }
def L_szLayerS_g0_xret (p : List Layer) (x : Int) : St := { slots := [(4, .r [] (.int .i64 x))], heap := [], nid := 0, n := 27, gh := [] }
def LP_L_szLayerS (ρ : Type) (k : Nat) : Nat → Ev ρ → Ev ρ := fun id f => cond (Nat.beq id 0) (loopOrc L_szLayerS_g0_keep L_szLayerS_g0_co (fun n nf => cond (Nat.beq n 27) (L_szLayerS_g0_dec nf) none) fun pv K => iter (fun v next => L_szLayerS_g0 k pv.1 v next (fun x => K (.exit 0) (L_szLayerS_g0_x0 pv.1 x)) (fun x => K .ret (L_szLayerS_g0_xret pv.1 x))) k pv.2) ((fun _ _ _ _ => none) id f)
theorem L_szLayerS_g0_round {ρ : Type} (k : Nat) (p : List Layer) (v : Int × Int) (K K1 : Ex → St → Option ρ) : ev (E_L_szLayerS k) (LP_L_szLayerS ρ k) 0 b_L_szLayerS_0 (L_szLayerS_g0_tm (p, v)) (fun e st' => match e with
    | .normal => (normC L_szLayerS_g0_keep L_szLayerS_g0_co st').bind fun nf => K1 .normal (denorm L_szLayerS_g0_keep st'.n nf)
    | e => (normC (L_szLayerS_g0_kx e) (L_szLayerS_g0_cx e) st').bind fun nf => K e (denorm (L_szLayerS_g0_kx e) st'.n nf)) = L_szLayerS_g0 k p v (fun v' => K1 .normal (L_szLayerS_g0_tm (p, v'))) (fun x => K (.exit 0) (L_szLayerS_g0_x0 p x)) (fun x => K .ret (L_szLayerS_g0_xret p x)) := by kernel_rfl
theorem L_szLayerS_g0_ok {ρ : Type} (k : Nat) : Sound Try.prog (.loop b_L_szLayerS_0) (LP_L_szLayerS ρ k 0 fun st K => ev (E_L_szLayerS k) (LP_L_szLayerS ρ k) 0 b_L_szLayerS_0 st K) :=
  loop_ok (ev_sound (E_L_szLayerS_ok k) b_L_szLayerS_0 0 (lpgood_none (by kernel_rfl))) L_szLayerS_g0_kx L_szLayerS_g0_cx k (g := fun p v next K => L_szLayerS_g0 k p v next (fun x => K (.exit 0) (L_szLayerS_g0_x0 p x)) (fun x => K .ret (L_szLayerS_g0_xret p x))) (dec_at L_szLayerS_g0_hd) (fun p v K K1 => L_szLayerS_g0_round k p v K K1)
def L_szLayerS_args (a : List Layer × Int) : List Arg := [.one (.sl (.st .layer) a.1), .one (.int .i64 a.2)]
def L_szLayerS_argD (l : List Arg) : Option (List Layer × Int) := match l with
  | [.one (.sl (.st .layer) b0), .one (.int .i64 b1)] => some (b0, b1)
  | _ => none
def L_szLayerS_enc (r : Int) : Out := (.r [] (.int .i64 r), [])
def L_szLayerS_dec (o : Out) : Option (Int) := match o with
  | (.r [] (.int .i64 z1), []) => some z1
  | _ => none
def L_szLayerS_G (k : Nat) : PG := fun _ l K => (L_szLayerS_argD l).bind fun a => (L_szLayerS k a.1 a.2).bind fun r => K (L_szLayerS_enc r)
theorem L_szLayerS_ev (k : Nat) (a : List Layer × Int) : ev (E_L_szLayerS k) (LP_L_szLayerS (Int) k) 0 c_L_szLayerS (st0 Try.f72 (L_szLayerS_args a)) (fin Try.prog Try.f72 (.sc) L_szLayerS_dec) = L_szLayerS k a.1 a.2 := by kernel_rfl
theorem L_szLayerS_ok (k : Nat) : PureOk Try.prog 72 (L_szLayerS_G k) :=
  pureOk_of_ev (E_L_szLayerS_ok k) Try.func72 (by kernel_rfl) (by kernel_rfl) L_szLayerS_args L_szLayerS_argD
    (fun l a h => by unfold L_szLayerS_argD at h; split at h <;> first | (cases h; rfl) | cases h) (fun a => rfl) (lpgood_of (l := [(0, b_L_szLayerS_0)]) (by kernel_rfl) ⟨L_szLayerS_g0_ok k, trivial⟩)
    (fun o r h => by unfold L_szLayerS_dec at h; split at h <;> first | (cases h; rfl) | cases h) (L_szLayerS_ev k)
def o_L_szLayerS (k : Nat) : Orc := pureOrc [.one (.sl (.st .layer)), .one (.int .i64)] (L_szLayerS_G k)
theorem o_L_szLayerS_ok (k : Nat) : OrcOk Try.prog 72 (o_L_szLayerS k) := pureOrc_ok (L_szLayerS_ok k)
/-! ### 21 loop.example/g00778/laws.szModel -/
noncomputable def E_L_szModel (k : Nat) : Env := { P := Try.prog, tt := tt, orc := fun g => cond (Nat.beq g 72) (o_L_szLayerS k) (noOrc) }
theorem E_L_szModel_ok (k : Nat) : EnvOk (E_L_szModel k) := fun g => (orc_cond (o_L_szLayerS_ok k) (noOrc_ok _ _))
noncomputable def c_L_szModel : Code := (Try.f21.body).getD .skip
def LP_L_szModel (ρ : Type) (k : Nat) : Nat → Ev ρ → Ev ρ := fun _ _ _ _ => none
def L_szModel_args (a : Model × Int) : List Arg := [.agg [.int .i64 a.1.inp.h, .int .i64 a.1.inp.w, .int .i64 a.1.inp.c, .sl (.st .layer) a.1.layers], .one (.int .i64 a.2)]
def L_szModel_argD (l : List Arg) : Option (Model × Int) := match l with
  | [.agg [.int .i64 b0_0, .int .i64 b0_1, .int .i64 b0_2, .sl (.st .layer) b0_3], .one (.int .i64 b1)] => some ((⟨(⟨b0_0, b0_1, b0_2⟩ : Shape), b0_3⟩ : Model), b1)
  | _ => none
def L_szModel_enc (r : Int) : Out := (.r [] (.int .i64 r), [])
def L_szModel_dec (o : Out) : Option (Int) := match o with
  | (.r [] (.int .i64 z1), []) => some z1
  | _ => none
def L_szModel_G (k : Nat) : PG := fun _ l K => (L_szModel_argD l).bind fun a => (L_szModel k a.1 a.2).bind fun r => K (L_szModel_enc r)
theorem L_szModel_ev (k : Nat) (a : Model × Int) : ev (E_L_szModel k) (LP_L_szModel (Int) k) 0 c_L_szModel (st0 Try.f21 (L_szModel_args a)) (fin Try.prog Try.f21 (.sc) L_szModel_dec) = L_szModel k a.1 a.2 := by kernel_rfl
theorem L_szModel_ok (k : Nat) : PureOk Try.prog 21 (L_szModel_G k) :=
  pureOk_of_ev (E_L_szModel_ok k) Try.func21 (by kernel_rfl) (by kernel_rfl) L_szModel_args L_szModel_argD
    (fun l a h => by unfold L_szModel_argD at h; split at h <;> first | (cases h; rfl) | cases h) (fun a => rfl) (lpgood_none (by kernel_rfl))
    (fun o r h => by unfold L_szModel_dec at h; split at h <;> first | (cases h; rfl) | cases h) (L_szModel_ev k)
def o_L_szModel (k : Nat) : Orc := pureOrc [.agg [(.int .i64), (.int .i64), (.int .i64), (.sl (.st .layer))], .one (.int .i64)] (L_szModel_G k)
theorem o_L_szModel_ok (k : Nat) : OrcOk Try.prog 21 (o_L_szModel k) := pureOrc_ok (L_szModel_ok k)
/-! ### 34 loop.example/g00778/laws.szTensor -/
noncomputable def E_L_szTensor (k : Nat) : Env := { P := Try.prog, tt := tt, orc := fun g => cond (Nat.beq g 96) (o_L_szIntS k) (noOrc) }
theorem E_L_szTensor_ok (k : Nat) : EnvOk (E_L_szTensor k) := fun g => (orc_cond (o_L_szIntS_ok k) (noOrc_ok _ _))
noncomputable def c_L_szTensor : Code := (Try.f34.body).getD .skip
def LP_L_szTensor (ρ : Type) (k : Nat) : Nat → Ev ρ → Ev ρ := fun _ _ _ _ => none
def L_szTensor_args (a : Tensor × Int) : List Arg := [.agg [.int .i64 a.1.sh.h, .int .i64 a.1.sh.w, .int .i64 a.1.sh.c, .sl (.int .i64) a.1.data], .one (.int .i64 a.2)]
def L_szTensor_argD (l : List Arg) : Option (Tensor × Int) := match l with
  | [.agg [.int .i64 b0_0, .int .i64 b0_1, .int .i64 b0_2, .sl (.int .i64) b0_3], .one (.int .i64 b1)] => some ((⟨(⟨b0_0, b0_1, b0_2⟩ : Shape), b0_3⟩ : Tensor), b1)
  | _ => none
def L_szTensor_enc (r : Int) : Out := (.r [] (.int .i64 r), [])
def L_szTensor_dec (o : Out) : Option (Int) := match o with
  | (.r [] (.int .i64 z1), []) => some z1
  | _ => none
def L_szTensor_G (k : Nat) : PG := fun _ l K => (L_szTensor_argD l).bind fun a => (L_szTensor k a.1 a.2).bind fun r => K (L_szTensor_enc r)
theorem L_szTensor_ev (k : Nat) (a : Tensor × Int) : ev (E_L_szTensor k) (LP_L_szTensor (Int) k) 0 c_L_szTensor (st0 Try.f34 (L_szTensor_args a)) (fin Try.prog Try.f34 (.sc) L_szTensor_dec) = L_szTensor k a.1 a.2 := by kernel_rfl
theorem L_szTensor_ok (k : Nat) : PureOk Try.prog 34 (L_szTensor_G k) :=
  pureOk_of_ev (E_L_szTensor_ok k) Try.func34 (by kernel_rfl) (by kernel_rfl) L_szTensor_args L_szTensor_argD
    (fun l a h => by unfold L_szTensor_argD at h; split at h <;> first | (cases h; rfl) | cases h) (fun a => rfl) (lpgood_none (by kernel_rfl))
    (fun o r h => by unfold L_szTensor_dec at h; split at h <;> first | (cases h; rfl) | cases h) (L_szTensor_ev k)
def o_L_szTensor (k : Nat) : Orc := pureOrc [.agg [(.int .i64), (.int .i64), (.int .i64), (.sl (.int .i64))], .one (.int .i64)] (L_szTensor_G k)
theorem o_L_szTensor_ok (k : Nat) : OrcOk Try.prog 34 (o_L_szTensor k) := pureOrc_ok (L_szTensor_ok k)
/-! ### 75 loop.example/g00778/laws.toShape -/
noncomputable def E_L_toShape (k : Nat) : Env := { P := Try.prog, tt := tt, orc := fun g => noOrc }
theorem E_L_toShape_ok (k : Nat) : EnvOk (E_L_toShape k) := fun g => (noOrc_ok _ _)
noncomputable def c_L_toShape : Code := (Try.f75.body).getD .skip
def LP_L_toShape (ρ : Type) (k : Nat) : Nat → Ev ρ → Ev ρ := fun _ _ _ _ => none
def L_toShape_args (a : Shape) : List Arg := [.agg [.int .i64 a.h, .int .i64 a.w, .int .i64 a.c]]
def L_toShape_argD (l : List Arg) : Option (Shape) := match l with
  | [.agg [.int .i64 b0_0, .int .i64 b0_1, .int .i64 b0_2]] => some (⟨b0_0, b0_1, b0_2⟩ : Shape)
  | _ => none
def L_toShape_enc (r : Shape) : Out := (.agg [.r [] (.int .i64 r.h), .r [] (.int .i64 r.w), .r [] (.int .i64 r.c)], [])
def L_toShape_dec (o : Out) : Option (Shape) := match o with
  | (.agg [.r [] (.int .i64 z1), .r [] (.int .i64 z2), .r [] (.int .i64 z3)], []) => some (⟨z1, z2, z3⟩ : Shape)
  | _ => none
def L_toShape_G (k : Nat) : PG := fun _ l K => (L_toShape_argD l).bind fun a => (L_toShape k a).bind fun r => K (L_toShape_enc r)
theorem L_toShape_ev (k : Nat) (a : Shape) : ev (E_L_toShape k) (LP_L_toShape (Shape) k) 0 c_L_toShape (st0 Try.f75 (L_toShape_args a)) (fin Try.prog Try.f75 (.agg [.sc, .sc, .sc]) L_toShape_dec) = L_toShape k a := by kernel_rfl
theorem L_toShape_ok (k : Nat) : PureOk Try.prog 75 (L_toShape_G k) :=
  pureOk_of_ev (E_L_toShape_ok k) Try.func75 (by kernel_rfl) (by kernel_rfl) L_toShape_args L_toShape_argD
    (fun l a h => by unfold L_toShape_argD at h; split at h <;> first | (cases h; rfl) | cases h) (fun a => rfl) (lpgood_none (by kernel_rfl))
    (fun o r h => by unfold L_toShape_dec at h; split at h <;> first | (cases h; rfl) | cases h) (L_toShape_ev k)
def o_L_toShape (k : Nat) : Orc := pureOrc [.agg [(.int .i64), (.int .i64), (.int .i64)]] (L_toShape_G k)
theorem o_L_toShape_ok (k : Nat) : OrcOk Try.prog 75 (o_L_toShape k) := pureOrc_ok (L_toShape_ok k)
/-! ### 14 loop.example/g00778/laws.toIntS -/
noncomputable def E_L_toIntS (k : Nat) : Env := { P := Try.prog, tt := tt, orc := fun g => noOrc }
theorem E_L_toIntS_ok (k : Nat) : EnvOk (E_L_toIntS k) := fun g => (noOrc_ok _ _)
noncomputable def c_L_toIntS : Code := (Try.f14.body).getD .skip
noncomputable def b_L_toIntS_0 : Code := ((loopsIn 0 c_L_toIntS).getD 0 (0, .skip)).2
def L_toIntS_g0_keep : List Nat := [0, 3, 4]
def L_toIntS_g0_co : List (Where × Co) := []
def L_toIntS_g0_kx : Ex → List Nat
  | .exit j => cond (Nat.beq j 0) [3] []
  | .ret => []
  | .normal => []
def L_toIntS_g0_cx : Ex → List (Where × Co)
  | .exit j => cond (Nat.beq j 0) [] []
  | .ret => []
  | .normal => []
def L_toIntS_g0_tm (pv : (List Int) × (Int × List Int)) : St := { slots := [(0, .r [] (.sl (.int .i64) pv.1)), (3, .own 0), (4, .r [] (.int .i64 pv.2.1))], heap := [(0, .arr none (.int .i64) pv.2.2)], nid := 1, n := 22, gh := [] }
def L_toIntS_g0_dec (nf : NF) : Option ((List Int) × (Int × List Int)) := match nf with
  | ([.r [] (.sl (.int .i64) w0), .own 0, .r [] (.int .i64 w1)], [.arr none (.int .i64) w2], []) => some (w0, (w1, w2))
  | _ => none
theorem L_toIntS_g0_hd (nf : NF) (v : (List Int) × (Int × List Int)) (h : L_toIntS_g0_dec nf = some v) : denorm L_toIntS_g0_keep 22 nf = L_toIntS_g0_tm v := by
  unfold L_toIntS_g0_dec at h
  split at h
  · cases h; rfl
  · cases h
def L_toIntS_g0_x0 (p : List Int) (x : List Int) : St := { slots := [(3, .own 0)], heap := [(0, .arr none (.int .i64) x)], nid := 1, n := 22, gh := [] }
def LP_L_toIntS (ρ : Type) (k : Nat) : Nat → Ev ρ → Ev ρ := fun id f => cond (Nat.beq id 0) (loopOrc L_toIntS_g0_keep L_toIntS_g0_co (fun n nf => cond (Nat.beq n 22) (L_toIntS_g0_dec nf) none) fun pv K => iter (fun v next => L_toIntS_g0 k pv.1 v next (fun x => K (.exit 0) (L_toIntS_g0_x0 pv.1 x))) k pv.2) ((fun _ _ _ _ => none) id f)
theorem L_toIntS_g0_round {ρ : Type} (k : Nat) (p : List Int) (v : Int × List Int) (K K1 : Ex → St → Option ρ) : ev (E_L_toIntS k) (LP_L_toIntS ρ k) 0 b_L_toIntS_0 (L_toIntS_g0_tm (p, v)) (fun e st' => match e with
    | .normal => (normC L_toIntS_g0_keep L_toIntS_g0_co st').bind fun nf => K1 .normal (denorm L_toIntS_g0_keep st'.n nf)
    | e => (normC (L_toIntS_g0_kx e) (L_toIntS_g0_cx e) st').bind fun nf => K e (denorm (L_toIntS_g0_kx e) st'.n nf)) = L_toIntS_g0 k p v (fun v' => K1 .normal (L_toIntS_g0_tm (p, v'))) (fun x => K (.exit 0) (L_toIntS_g0_x0 p x)) := by kernel_rfl
theorem L_toIntS_g0_ok {ρ : Type} (k : Nat) : Sound Try.prog (.loop b_L_toIntS_0) (LP_L_toIntS ρ k 0 fun st K => ev (E_L_toIntS k) (LP_L_toIntS ρ k) 0 b_L_toIntS_0 st K) :=
  loop_ok (ev_sound (E_L_toIntS_ok k) b_L_toIntS_0 0 (lpgood_none (by kernel_rfl))) L_toIntS_g0_kx L_toIntS_g0_cx k (g := fun p v next K => L_toIntS_g0 k p v next (fun x => K (.exit 0) (L_toIntS_g0_x0 p x))) (dec_at L_toIntS_g0_hd) (fun p v K K1 => L_toIntS_g0_round k p v K K1)
def L_toIntS_args (a : List Int) : List Arg := [.one (.sl (.int .i64) a)]
def L_toIntS_argD (l : List Arg) : Option (List Int) := match l with
  | [.one (.sl (.int .i64) b0)] => some b0
  | _ => none
def L_toIntS_enc (r : List Int) : Out := (.own 0, [.arr none (.int .i64) r])
def L_toIntS_dec (o : Out) : Option (List Int) := match o with
  | (.own 0, [.arr none (.int .i64) z1]) => some z1
  | _ => none
def L_toIntS_G (k : Nat) : PG := fun _ l K => (L_toIntS_argD l).bind fun a => (L_toIntS k a).bind fun r => K (L_toIntS_enc r)
theorem L_toIntS_ev (k : Nat) (a : List Int) : ev (E_L_toIntS k) (LP_L_toIntS (List Int) k) 0 c_L_toIntS (st0 Try.f14 (L_toIntS_args a)) (fin Try.prog Try.f14 (.own (.int .i64)) L_toIntS_dec) = L_toIntS k a := by kernel_rfl
theorem L_toIntS_ok (k : Nat) : PureOk Try.prog 14 (L_toIntS_G k) :=
  pureOk_of_ev (E_L_toIntS_ok k) Try.func14 (by kernel_rfl) (by kernel_rfl) L_toIntS_args L_toIntS_argD
    (fun l a h => by unfold L_toIntS_argD at h; split at h <;> first | (cases h; rfl) | cases h) (fun a => rfl) (lpgood_of (l := [(0, b_L_toIntS_0)]) (by kernel_rfl) ⟨L_toIntS_g0_ok k, trivial⟩)
    (fun o r h => by unfold L_toIntS_dec at h; split at h <;> first | (cases h; rfl) | cases h) (L_toIntS_ev k)
def o_L_toIntS (k : Nat) : Orc := pureOrc [.one (.sl (.int .i64))] (L_toIntS_G k)
theorem o_L_toIntS_ok (k : Nat) : OrcOk Try.prog 14 (o_L_toIntS k) := pureOrc_ok (L_toIntS_ok k)
/-! ### 128 loop.example/g00778/laws.toLayer -/
noncomputable def E_L_toLayer (k : Nat) : Env := { P := Try.prog, tt := tt, orc := fun g => cond (Nat.beq g 14) (o_L_toIntS k) (noOrc) }
theorem E_L_toLayer_ok (k : Nat) : EnvOk (E_L_toLayer k) := fun g => (orc_cond (o_L_toIntS_ok k) (noOrc_ok _ _))
noncomputable def c_L_toLayer : Code := (Try.f128.body).getD .skip
def LP_L_toLayer (ρ : Type) (k : Nat) : Nat → Ev ρ → Ev ρ := fun _ _ _ _ => none
def L_toLayer_args (a : Layer) : List Arg := [.agg [.int .i64 a.kind, .int .i64 a.out, .int .i64 a.size, .int .i64 a.step, .int .i64 a.mult, .int .i64 a.shift, .int .i64 a.zero, .sl (.int .i64) a.weights, .sl (.int .i64) a.bias]]
def L_toLayer_argD (l : List Arg) : Option (Layer) := match l with
  | [.agg [.int .i64 b0_0, .int .i64 b0_1, .int .i64 b0_2, .int .i64 b0_3, .int .i64 b0_4, .int .i64 b0_5, .int .i64 b0_6, .sl (.int .i64) b0_7, .sl (.int .i64) b0_8]] => some (⟨b0_0, b0_1, b0_2, b0_3, b0_4, b0_5, b0_6, b0_7, b0_8⟩ : Layer)
  | _ => none
def L_toLayer_enc (r : Layer) : Out := (.agg [.r [] (.int .i64 r.kind), .r [] (.int .i64 r.out), .r [] (.int .i64 r.size), .r [] (.int .i64 r.step), .r [] (.int .i64 r.mult), .r [] (.int .i64 r.shift), .r [] (.int .i64 r.zero), .own 0, .own 1], [.arr none (.int .i64) r.weights, .arr none (.int .i64) r.bias])
def L_toLayer_dec (o : Out) : Option (Layer) := match o with
  | (.agg [.r [] (.int .i64 z1), .r [] (.int .i64 z2), .r [] (.int .i64 z3), .r [] (.int .i64 z4), .r [] (.int .i64 z5), .r [] (.int .i64 z6), .r [] (.int .i64 z7), .own 0, .own 1], [.arr none (.int .i64) z8, .arr none (.int .i64) z9]) => some (⟨z1, z2, z3, z4, z5, z6, z7, z8, z9⟩ : Layer)
  | _ => none
def L_toLayer_G (k : Nat) : PG := fun _ l K => (L_toLayer_argD l).bind fun a => (L_toLayer k a).bind fun r => K (L_toLayer_enc r)
theorem L_toLayer_ev (k : Nat) (a : Layer) : ev (E_L_toLayer k) (LP_L_toLayer (Layer) k) 0 c_L_toLayer (st0 Try.f128 (L_toLayer_args a)) (fin Try.prog Try.f128 (.agg [.sc, .sc, .sc, .sc, .sc, .sc, .sc, .own (.int .i64), .own (.int .i64)]) L_toLayer_dec) = L_toLayer k a := by kernel_rfl
theorem L_toLayer_ok (k : Nat) : PureOk Try.prog 128 (L_toLayer_G k) :=
  pureOk_of_ev (E_L_toLayer_ok k) Try.func128 (by kernel_rfl) (by kernel_rfl) L_toLayer_args L_toLayer_argD
    (fun l a h => by unfold L_toLayer_argD at h; split at h <;> first | (cases h; rfl) | cases h) (fun a => rfl) (lpgood_none (by kernel_rfl))
    (fun o r h => by unfold L_toLayer_dec at h; split at h <;> first | (cases h; rfl) | cases h) (L_toLayer_ev k)
def o_L_toLayer (k : Nat) : Orc := pureOrc [.agg [(.int .i64), (.int .i64), (.int .i64), (.int .i64), (.int .i64), (.int .i64), (.int .i64), (.sl (.int .i64)), (.sl (.int .i64))]] (L_toLayer_G k)
theorem o_L_toLayer_ok (k : Nat) : OrcOk Try.prog 128 (o_L_toLayer k) := pureOrc_ok (L_toLayer_ok k)
/-! ### 76 loop.example/g00778/laws.toLayerS -/
noncomputable def E_L_toLayerS (k : Nat) : Env := { P := Try.prog, tt := tt, orc := fun g => cond (Nat.beq g 128) (o_L_toLayer k) (noOrc) }
theorem E_L_toLayerS_ok (k : Nat) : EnvOk (E_L_toLayerS k) := fun g => (orc_cond (o_L_toLayer_ok k) (noOrc_ok _ _))
noncomputable def c_L_toLayerS : Code := (Try.f76.body).getD .skip
noncomputable def b_L_toLayerS_0 : Code := ((loopsIn 0 c_L_toLayerS).getD 0 (0, .skip)).2
def L_toLayerS_g0_keep : List Nat := [0, 3, 4]
def L_toLayerS_g0_co : List (Where × Co) := []
def L_toLayerS_g0_kx : Ex → List Nat
  | .exit j => cond (Nat.beq j 0) [3] []
  | .ret => []
  | .normal => []
def L_toLayerS_g0_cx : Ex → List (Where × Co)
  | .exit j => cond (Nat.beq j 0) [] []
  | .ret => []
  | .normal => []
def L_toLayerS_g0_tm (pv : (List Layer) × (Int × List Layer)) : St := { slots := [(0, .r [] (.sl (.st .layer) pv.1)), (3, .own 0), (4, .r [] (.int .i64 pv.2.1))], heap := [(0, .arr none (.st .layer) pv.2.2)], nid := 1, n := 23, gh := [] }
def L_toLayerS_g0_dec (nf : NF) : Option ((List Layer) × (Int × List Layer)) := match nf with
  | ([.r [] (.sl (.st .layer) w0), .own 0, .r [] (.int .i64 w1)], [.arr none (.st .layer) w2], []) => some (w0, (w1, w2))
  | _ => none
theorem L_toLayerS_g0_hd (nf : NF) (v : (List Layer) × (Int × List Layer)) (h : L_toLayerS_g0_dec nf = some v) : denorm L_toLayerS_g0_keep 23 nf = L_toLayerS_g0_tm v := by
  unfold L_toLayerS_g0_dec at h
  split at h
  · cases h; rfl
  · cases h
def L_toLayerS_g0_x0 (p : List Layer) (x : List Layer) : St := { slots := [(3, .own 0)], heap := [(0, .arr none (.st .layer) x)], nid := 1, n := 23, gh := [] }
def LP_L_toLayerS (ρ : Type) (k : Nat) : Nat → Ev ρ → Ev ρ := fun id f => cond (Nat.beq id 0) (loopOrc L_toLayerS_g0_keep L_toLayerS_g0_co (fun n nf => cond (Nat.beq n 23) (L_toLayerS_g0_dec nf) none) fun pv K => iter (fun v next => L_toLayerS_g0 k pv.1 v next (fun x => K (.exit 0) (L_toLayerS_g0_x0 pv.1 x))) k pv.2) ((fun _ _ _ _ => none) id f)
theorem L_toLayerS_g0_round {ρ : Type} (k : Nat) (p : List Layer) (v : Int × List Layer) (K K1 : Ex → St → Option ρ) : ev (E_L_toLayerS k) (LP_L_toLayerS ρ k) 0 b_L_toLayerS_0 (L_toLayerS_g0_tm (p, v)) (fun e st' => match e with
    | .normal => (normC L_toLayerS_g0_keep L_toLayerS_g0_co st').bind fun nf => K1 .normal (denorm L_toLayerS_g0_keep st'.n nf)
    | e => (normC (L_toLayerS_g0_kx e) (L_toLayerS_g0_cx e) st').bind fun nf => K e (denorm (L_toLayerS_g0_kx e) st'.n nf)) = L_toLayerS_g0 k p v (fun v' => K1 .normal (L_toLayerS_g0_tm (p, v'))) (fun x => K (.exit 0) (L_toLayerS_g0_x0 p x)) := by kernel_rfl
theorem L_toLayerS_g0_ok {ρ : Type} (k : Nat) : Sound Try.prog (.loop b_L_toLayerS_0) (LP_L_toLayerS ρ k 0 fun st K => ev (E_L_toLayerS k) (LP_L_toLayerS ρ k) 0 b_L_toLayerS_0 st K) :=
  loop_ok (ev_sound (E_L_toLayerS_ok k) b_L_toLayerS_0 0 (lpgood_none (by kernel_rfl))) L_toLayerS_g0_kx L_toLayerS_g0_cx k (g := fun p v next K => L_toLayerS_g0 k p v next (fun x => K (.exit 0) (L_toLayerS_g0_x0 p x))) (dec_at L_toLayerS_g0_hd) (fun p v K K1 => L_toLayerS_g0_round k p v K K1)
def L_toLayerS_args (a : List Layer) : List Arg := [.one (.sl (.st .layer) a)]
def L_toLayerS_argD (l : List Arg) : Option (List Layer) := match l with
  | [.one (.sl (.st .layer) b0)] => some b0
  | _ => none
def L_toLayerS_enc (r : List Layer) : Out := (.own 0, [.arr none (.st .layer) r])
def L_toLayerS_dec (o : Out) : Option (List Layer) := match o with
  | (.own 0, [.arr none (.st .layer) z1]) => some z1
  | _ => none
def L_toLayerS_G (k : Nat) : PG := fun _ l K => (L_toLayerS_argD l).bind fun a => (L_toLayerS k a).bind fun r => K (L_toLayerS_enc r)
theorem L_toLayerS_ev (k : Nat) (a : List Layer) : ev (E_L_toLayerS k) (LP_L_toLayerS (List Layer) k) 0 c_L_toLayerS (st0 Try.f76 (L_toLayerS_args a)) (fin Try.prog Try.f76 (.own (.st .layer)) L_toLayerS_dec) = L_toLayerS k a := by kernel_rfl
theorem L_toLayerS_ok (k : Nat) : PureOk Try.prog 76 (L_toLayerS_G k) :=
  pureOk_of_ev (E_L_toLayerS_ok k) Try.func76 (by kernel_rfl) (by kernel_rfl) L_toLayerS_args L_toLayerS_argD
    (fun l a h => by unfold L_toLayerS_argD at h; split at h <;> first | (cases h; rfl) | cases h) (fun a => rfl) (lpgood_of (l := [(0, b_L_toLayerS_0)]) (by kernel_rfl) ⟨L_toLayerS_g0_ok k, trivial⟩)
    (fun o r h => by unfold L_toLayerS_dec at h; split at h <;> first | (cases h; rfl) | cases h) (L_toLayerS_ev k)
def o_L_toLayerS (k : Nat) : Orc := pureOrc [.one (.sl (.st .layer))] (L_toLayerS_G k)
theorem o_L_toLayerS_ok (k : Nat) : OrcOk Try.prog 76 (o_L_toLayerS k) := pureOrc_ok (L_toLayerS_ok k)
/-! ### 23 loop.example/g00778/laws.toModel -/
noncomputable def E_L_toModel (k : Nat) : Env := { P := Try.prog, tt := tt, orc := fun g => cond (Nat.beq g 75) (o_L_toShape k) (cond (Nat.beq g 76) (o_L_toLayerS k) (noOrc)) }
theorem E_L_toModel_ok (k : Nat) : EnvOk (E_L_toModel k) := fun g => (orc_cond (o_L_toShape_ok k) (orc_cond (o_L_toLayerS_ok k) (noOrc_ok _ _)))
noncomputable def c_L_toModel : Code := (Try.f23.body).getD .skip
def LP_L_toModel (ρ : Type) (k : Nat) : Nat → Ev ρ → Ev ρ := fun _ _ _ _ => none
def L_toModel_args (a : Model) : List Arg := [.agg [.int .i64 a.inp.h, .int .i64 a.inp.w, .int .i64 a.inp.c, .sl (.st .layer) a.layers]]
def L_toModel_argD (l : List Arg) : Option (Model) := match l with
  | [.agg [.int .i64 b0_0, .int .i64 b0_1, .int .i64 b0_2, .sl (.st .layer) b0_3]] => some (⟨(⟨b0_0, b0_1, b0_2⟩ : Shape), b0_3⟩ : Model)
  | _ => none
def L_toModel_enc (r : Model) : Out := (.agg [.r [] (.int .i64 r.inp.h), .r [] (.int .i64 r.inp.w), .r [] (.int .i64 r.inp.c), .own 0], [.arr none (.st .layer) r.layers])
def L_toModel_dec (o : Out) : Option (Model) := match o with
  | (.agg [.r [] (.int .i64 z1), .r [] (.int .i64 z2), .r [] (.int .i64 z3), .own 0], [.arr none (.st .layer) z4]) => some (⟨(⟨z1, z2, z3⟩ : Shape), z4⟩ : Model)
  | _ => none
def L_toModel_G (k : Nat) : PG := fun _ l K => (L_toModel_argD l).bind fun a => (L_toModel k a).bind fun r => K (L_toModel_enc r)
theorem L_toModel_ev (k : Nat) (a : Model) : ev (E_L_toModel k) (LP_L_toModel (Model) k) 0 c_L_toModel (st0 Try.f23 (L_toModel_args a)) (fin Try.prog Try.f23 (.agg [.sc, .sc, .sc, .own (.st .layer)]) L_toModel_dec) = L_toModel k a := by kernel_rfl
theorem L_toModel_ok (k : Nat) : PureOk Try.prog 23 (L_toModel_G k) :=
  pureOk_of_ev (E_L_toModel_ok k) Try.func23 (by kernel_rfl) (by kernel_rfl) L_toModel_args L_toModel_argD
    (fun l a h => by unfold L_toModel_argD at h; split at h <;> first | (cases h; rfl) | cases h) (fun a => rfl) (lpgood_none (by kernel_rfl))
    (fun o r h => by unfold L_toModel_dec at h; split at h <;> first | (cases h; rfl) | cases h) (L_toModel_ev k)
def o_L_toModel (k : Nat) : Orc := pureOrc [.agg [(.int .i64), (.int .i64), (.int .i64), (.sl (.st .layer))]] (L_toModel_G k)
theorem o_L_toModel_ok (k : Nat) : OrcOk Try.prog 23 (o_L_toModel k) := pureOrc_ok (L_toModel_ok k)
/-! ### 36 loop.example/g00778/laws.toTensor -/
noncomputable def E_L_toTensor (k : Nat) : Env := { P := Try.prog, tt := tt, orc := fun g => cond (Nat.beq g 14) (o_L_toIntS k) (cond (Nat.beq g 75) (o_L_toShape k) (noOrc)) }
theorem E_L_toTensor_ok (k : Nat) : EnvOk (E_L_toTensor k) := fun g => (orc_cond (o_L_toIntS_ok k) (orc_cond (o_L_toShape_ok k) (noOrc_ok _ _)))
noncomputable def c_L_toTensor : Code := (Try.f36.body).getD .skip
def LP_L_toTensor (ρ : Type) (k : Nat) : Nat → Ev ρ → Ev ρ := fun _ _ _ _ => none
def L_toTensor_args (a : Tensor) : List Arg := [.agg [.int .i64 a.sh.h, .int .i64 a.sh.w, .int .i64 a.sh.c, .sl (.int .i64) a.data]]
def L_toTensor_argD (l : List Arg) : Option (Tensor) := match l with
  | [.agg [.int .i64 b0_0, .int .i64 b0_1, .int .i64 b0_2, .sl (.int .i64) b0_3]] => some (⟨(⟨b0_0, b0_1, b0_2⟩ : Shape), b0_3⟩ : Tensor)
  | _ => none
def L_toTensor_enc (r : Tensor) : Out := (.agg [.r [] (.int .i64 r.sh.h), .r [] (.int .i64 r.sh.w), .r [] (.int .i64 r.sh.c), .own 0], [.arr none (.int .i64) r.data])
def L_toTensor_dec (o : Out) : Option (Tensor) := match o with
  | (.agg [.r [] (.int .i64 z1), .r [] (.int .i64 z2), .r [] (.int .i64 z3), .own 0], [.arr none (.int .i64) z4]) => some (⟨(⟨z1, z2, z3⟩ : Shape), z4⟩ : Tensor)
  | _ => none
def L_toTensor_G (k : Nat) : PG := fun _ l K => (L_toTensor_argD l).bind fun a => (L_toTensor k a).bind fun r => K (L_toTensor_enc r)
theorem L_toTensor_ev (k : Nat) (a : Tensor) : ev (E_L_toTensor k) (LP_L_toTensor (Tensor) k) 0 c_L_toTensor (st0 Try.f36 (L_toTensor_args a)) (fin Try.prog Try.f36 (.agg [.sc, .sc, .sc, .own (.int .i64)]) L_toTensor_dec) = L_toTensor k a := by kernel_rfl
theorem L_toTensor_ok (k : Nat) : PureOk Try.prog 36 (L_toTensor_G k) :=
  pureOk_of_ev (E_L_toTensor_ok k) Try.func36 (by kernel_rfl) (by kernel_rfl) L_toTensor_args L_toTensor_argD
    (fun l a h => by unfold L_toTensor_argD at h; split at h <;> first | (cases h; rfl) | cases h) (fun a => rfl) (lpgood_none (by kernel_rfl))
    (fun o r h => by unfold L_toTensor_dec at h; split at h <;> first | (cases h; rfl) | cases h) (L_toTensor_ev k)
def o_L_toTensor (k : Nat) : Orc := pureOrc [.agg [(.int .i64), (.int .i64), (.int .i64), (.sl (.int .i64))]] (L_toTensor_G k)
theorem o_L_toTensor_ok (k : Nat) : OrcOk Try.prog 36 (o_L_toTensor k) := pureOrc_ok (L_toTensor_ok k)
/-! ### 59 loop.example/g00778/spec.l01Copy -/
noncomputable def E_S_l01Copy (k : Nat) : Env := { P := Try.prog, tt := tt, orc := fun g => noOrc }
theorem E_S_l01Copy_ok (k : Nat) : EnvOk (E_S_l01Copy k) := fun g => (noOrc_ok _ _)
noncomputable def c_S_l01Copy : Code := (Try.f59.body).getD .skip
noncomputable def b_S_l01Copy_0 : Code := ((loopsIn 0 c_S_l01Copy).getD 0 (0, .skip)).2
def S_l01Copy_g0_keep : List Nat := [0, 3, 4]
def S_l01Copy_g0_co : List (Where × Co) := []
def S_l01Copy_g0_kx : Ex → List Nat
  | .exit j => cond (Nat.beq j 0) [3] []
  | .ret => []
  | .normal => []
def S_l01Copy_g0_cx : Ex → List (Where × Co)
  | .exit j => cond (Nat.beq j 0) [] []
  | .ret => []
  | .normal => []
def S_l01Copy_g0_tm (pv : (List Int) × (Int × List Int)) : St := { slots := [(0, .r [] (.sl (.int .i64) pv.1)), (3, .own 0), (4, .r [] (.int .i64 pv.2.1))], heap := [(0, .arr none (.int .i64) pv.2.2)], nid := 1, n := 20, gh := [] }
def S_l01Copy_g0_dec (nf : NF) : Option ((List Int) × (Int × List Int)) := match nf with
  | ([.r [] (.sl (.int .i64) w0), .own 0, .r [] (.int .i64 w1)], [.arr none (.int .i64) w2], []) => some (w0, (w1, w2))
  | _ => none
theorem S_l01Copy_g0_hd (nf : NF) (v : (List Int) × (Int × List Int)) (h : S_l01Copy_g0_dec nf = some v) : denorm S_l01Copy_g0_keep 20 nf = S_l01Copy_g0_tm v := by
  unfold S_l01Copy_g0_dec at h
  split at h
  · cases h; rfl
  · cases h
def S_l01Copy_g0_x0 (p : List Int) (x : List Int) : St := { slots := [(3, .own 0)], heap := [(0, .arr none (.int .i64) x)], nid := 1, n := 20, gh := [] }
def LP_S_l01Copy (ρ : Type) (k : Nat) : Nat → Ev ρ → Ev ρ := fun id f => cond (Nat.beq id 0) (loopOrc S_l01Copy_g0_keep S_l01Copy_g0_co (fun n nf => cond (Nat.beq n 20) (S_l01Copy_g0_dec nf) none) fun pv K => iter (fun v next => S_l01Copy_g0 k pv.1 v next (fun x => K (.exit 0) (S_l01Copy_g0_x0 pv.1 x))) k pv.2) ((fun _ _ _ _ => none) id f)
theorem S_l01Copy_g0_round {ρ : Type} (k : Nat) (p : List Int) (v : Int × List Int) (K K1 : Ex → St → Option ρ) : ev (E_S_l01Copy k) (LP_S_l01Copy ρ k) 0 b_S_l01Copy_0 (S_l01Copy_g0_tm (p, v)) (fun e st' => match e with
    | .normal => (normC S_l01Copy_g0_keep S_l01Copy_g0_co st').bind fun nf => K1 .normal (denorm S_l01Copy_g0_keep st'.n nf)
    | e => (normC (S_l01Copy_g0_kx e) (S_l01Copy_g0_cx e) st').bind fun nf => K e (denorm (S_l01Copy_g0_kx e) st'.n nf)) = S_l01Copy_g0 k p v (fun v' => K1 .normal (S_l01Copy_g0_tm (p, v'))) (fun x => K (.exit 0) (S_l01Copy_g0_x0 p x)) := by kernel_rfl
theorem S_l01Copy_g0_ok {ρ : Type} (k : Nat) : Sound Try.prog (.loop b_S_l01Copy_0) (LP_S_l01Copy ρ k 0 fun st K => ev (E_S_l01Copy k) (LP_S_l01Copy ρ k) 0 b_S_l01Copy_0 st K) :=
  loop_ok (ev_sound (E_S_l01Copy_ok k) b_S_l01Copy_0 0 (lpgood_none (by kernel_rfl))) S_l01Copy_g0_kx S_l01Copy_g0_cx k (g := fun p v next K => S_l01Copy_g0 k p v next (fun x => K (.exit 0) (S_l01Copy_g0_x0 p x))) (dec_at S_l01Copy_g0_hd) (fun p v K K1 => S_l01Copy_g0_round k p v K K1)
def S_l01Copy_args (a : List Int) : List Arg := [.one (.sl (.int .i64) a)]
def S_l01Copy_argD (l : List Arg) : Option (List Int) := match l with
  | [.one (.sl (.int .i64) b0)] => some b0
  | _ => none
def S_l01Copy_enc (r : List Int) : Out := (.own 0, [.arr none (.int .i64) r])
def S_l01Copy_dec (o : Out) : Option (List Int) := match o with
  | (.own 0, [.arr none (.int .i64) z1]) => some z1
  | _ => none
def S_l01Copy_G (k : Nat) : PG := fun _ l K => (S_l01Copy_argD l).bind fun a => (S_l01Copy k a).bind fun r => K (S_l01Copy_enc r)
theorem S_l01Copy_ev (k : Nat) (a : List Int) : ev (E_S_l01Copy k) (LP_S_l01Copy (List Int) k) 0 c_S_l01Copy (st0 Try.f59 (S_l01Copy_args a)) (fin Try.prog Try.f59 (.own (.int .i64)) S_l01Copy_dec) = S_l01Copy k a := by kernel_rfl
theorem S_l01Copy_ok (k : Nat) : PureOk Try.prog 59 (S_l01Copy_G k) :=
  pureOk_of_ev (E_S_l01Copy_ok k) Try.func59 (by kernel_rfl) (by kernel_rfl) S_l01Copy_args S_l01Copy_argD
    (fun l a h => by unfold S_l01Copy_argD at h; split at h <;> first | (cases h; rfl) | cases h) (fun a => rfl) (lpgood_of (l := [(0, b_S_l01Copy_0)]) (by kernel_rfl) ⟨S_l01Copy_g0_ok k, trivial⟩)
    (fun o r h => by unfold S_l01Copy_dec at h; split at h <;> first | (cases h; rfl) | cases h) (S_l01Copy_ev k)
def o_S_l01Copy (k : Nat) : Orc := pureOrc [.one (.sl (.int .i64))] (S_l01Copy_G k)
theorem o_S_l01Copy_ok (k : Nat) : OrcOk Try.prog 59 (o_S_l01Copy k) := pureOrc_ok (S_l01Copy_ok k)
/-! ### 83 loop.example/g00778/spec.l03Copy -/
noncomputable def E_S_l03Copy (k : Nat) : Env := { P := Try.prog, tt := tt, orc := fun g => cond (Nat.beq g 59) (o_S_l01Copy k) (noOrc) }
theorem E_S_l03Copy_ok (k : Nat) : EnvOk (E_S_l03Copy k) := fun g => (orc_cond (o_S_l01Copy_ok k) (noOrc_ok _ _))
noncomputable def c_S_l03Copy : Code := (Try.f83.body).getD .skip
def LP_S_l03Copy (ρ : Type) (k : Nat) : Nat → Ev ρ → Ev ρ := fun _ _ _ _ => none
def S_l03Copy_args (a : Layer) : List Arg := [.agg [.int .i64 a.kind, .int .i64 a.out, .int .i64 a.size, .int .i64 a.step, .int .i64 a.mult, .int .i64 a.shift, .int .i64 a.zero, .sl (.int .i64) a.weights, .sl (.int .i64) a.bias]]
def S_l03Copy_argD (l : List Arg) : Option (Layer) := match l with
  | [.agg [.int .i64 b0_0, .int .i64 b0_1, .int .i64 b0_2, .int .i64 b0_3, .int .i64 b0_4, .int .i64 b0_5, .int .i64 b0_6, .sl (.int .i64) b0_7, .sl (.int .i64) b0_8]] => some (⟨b0_0, b0_1, b0_2, b0_3, b0_4, b0_5, b0_6, b0_7, b0_8⟩ : Layer)
  | _ => none
def S_l03Copy_enc (r : Layer) : Out := (.agg [.r [] (.int .i64 r.kind), .r [] (.int .i64 r.out), .r [] (.int .i64 r.size), .r [] (.int .i64 r.step), .r [] (.int .i64 r.mult), .r [] (.int .i64 r.shift), .r [] (.int .i64 r.zero), .own 0, .own 1], [.arr none (.int .i64) r.weights, .arr none (.int .i64) r.bias])
def S_l03Copy_dec (o : Out) : Option (Layer) := match o with
  | (.agg [.r [] (.int .i64 z1), .r [] (.int .i64 z2), .r [] (.int .i64 z3), .r [] (.int .i64 z4), .r [] (.int .i64 z5), .r [] (.int .i64 z6), .r [] (.int .i64 z7), .own 0, .own 1], [.arr none (.int .i64) z8, .arr none (.int .i64) z9]) => some (⟨z1, z2, z3, z4, z5, z6, z7, z8, z9⟩ : Layer)
  | _ => none
def S_l03Copy_G (k : Nat) : PG := fun _ l K => (S_l03Copy_argD l).bind fun a => (S_l03Copy k a).bind fun r => K (S_l03Copy_enc r)
theorem S_l03Copy_ev (k : Nat) (a : Layer) : ev (E_S_l03Copy k) (LP_S_l03Copy (Layer) k) 0 c_S_l03Copy (st0 Try.f83 (S_l03Copy_args a)) (fin Try.prog Try.f83 (.agg [.sc, .sc, .sc, .sc, .sc, .sc, .sc, .own (.int .i64), .own (.int .i64)]) S_l03Copy_dec) = S_l03Copy k a := by kernel_rfl
theorem S_l03Copy_ok (k : Nat) : PureOk Try.prog 83 (S_l03Copy_G k) :=
  pureOk_of_ev (E_S_l03Copy_ok k) Try.func83 (by kernel_rfl) (by kernel_rfl) S_l03Copy_args S_l03Copy_argD
    (fun l a h => by unfold S_l03Copy_argD at h; split at h <;> first | (cases h; rfl) | cases h) (fun a => rfl) (lpgood_none (by kernel_rfl))
    (fun o r h => by unfold S_l03Copy_dec at h; split at h <;> first | (cases h; rfl) | cases h) (S_l03Copy_ev k)
def o_S_l03Copy (k : Nat) : Orc := pureOrc [.agg [(.int .i64), (.int .i64), (.int .i64), (.int .i64), (.int .i64), (.int .i64), (.int .i64), (.sl (.int .i64)), (.sl (.int .i64))]] (S_l03Copy_G k)
theorem o_S_l03Copy_ok (k : Nat) : OrcOk Try.prog 83 (o_S_l03Copy k) := pureOrc_ok (S_l03Copy_ok k)
/-! ### 94 loop.example/g00778/spec.l04Copy -/
noncomputable def E_S_l04Copy (k : Nat) : Env := { P := Try.prog, tt := tt, orc := fun g => cond (Nat.beq g 83) (o_S_l03Copy k) (noOrc) }
theorem E_S_l04Copy_ok (k : Nat) : EnvOk (E_S_l04Copy k) := fun g => (orc_cond (o_S_l03Copy_ok k) (noOrc_ok _ _))
noncomputable def c_S_l04Copy : Code := (Try.f94.body).getD .skip
noncomputable def b_S_l04Copy_0 : Code := ((loopsIn 0 c_S_l04Copy).getD 0 (0, .skip)).2
def S_l04Copy_g0_keep : List Nat := [1, 2, 3, 4]
def S_l04Copy_g0_co : List (Where × Co) := [((.pbox 3 3), (.nilOwn false (.st .layer)))]
def S_l04Copy_g0_kx : Ex → List Nat
  | .exit j => cond (Nat.beq j 0) [2, 3] []
  | .ret => []
  | .normal => []
def S_l04Copy_g0_cx : Ex → List (Where × Co)
  | .exit j => cond (Nat.beq j 0) [] []
  | .ret => []
  | .normal => []
def S_l04Copy_g0_tm (pv : (Int × Int × Int × List Layer × Int × Int × Int × Int × Int × Int) × (Int × List Layer)) : St := { slots := [(1, .ptr 0 0 0), (2, .ptr 1 0 0), (3, .ptr 2 0 0), (4, .r [] (.int .i64 pv.2.1))], heap := [(0, .box [.r [] (.int .i64 pv.1.1), .r [] (.int .i64 pv.1.2.1), .r [] (.int .i64 pv.1.2.2.1), .r [] (.sl (.st .layer) pv.1.2.2.2.1)]), (1, .box [.r [] (.int .i64 pv.1.2.2.2.2.1), .r [] (.int .i64 pv.1.2.2.2.2.2.1), .r [] (.int .i64 pv.1.2.2.2.2.2.2.1), .nilS]), (2, .box [.r [] (.int .i64 pv.1.2.2.2.2.2.2.2.1), .r [] (.int .i64 pv.1.2.2.2.2.2.2.2.2.1), .r [] (.int .i64 pv.1.2.2.2.2.2.2.2.2.2), .own 3]), (3, .arr none (.st .layer) pv.2.2)], nid := 4, n := 27, gh := [] }
def S_l04Copy_g0_dec (nf : NF) : Option ((Int × Int × Int × List Layer × Int × Int × Int × Int × Int × Int) × (Int × List Layer)) := match nf with
  | ([.ptr 0 0 0, .ptr 1 0 0, .ptr 2 0 0, .r [] (.int .i64 w0)], [.box [.r [] (.int .i64 w1), .r [] (.int .i64 w2), .r [] (.int .i64 w3), .r [] (.sl (.st .layer) w4)], .box [.r [] (.int .i64 w5), .r [] (.int .i64 w6), .r [] (.int .i64 w7), .nilS], .box [.r [] (.int .i64 w8), .r [] (.int .i64 w9), .r [] (.int .i64 w10), .own 3], .arr none (.st .layer) w11], []) => some ((w1, w2, w3, w4, w5, w6, w7, w8, w9, w10), (w0, w11))
  | _ => none
theorem S_l04Copy_g0_hd (nf : NF) (v : (Int × Int × Int × List Layer × Int × Int × Int × Int × Int × Int) × (Int × List Layer)) (h : S_l04Copy_g0_dec nf = some v) : denorm S_l04Copy_g0_keep 27 nf = S_l04Copy_g0_tm v := by
  unfold S_l04Copy_g0_dec at h
  split at h
  · cases h; rfl
  · cases h
def S_l04Copy_g0_x0 (p : Int × Int × Int × List Layer × Int × Int × Int × Int × Int × Int) (x : List Layer) : St := { slots := [(2, .ptr 0 0 0), (3, .ptr 1 0 0)], heap := [(0, .box [.r [] (.int .i64 p.2.2.2.2.1), .r [] (.int .i64 p.2.2.2.2.2.1), .r [] (.int .i64 p.2.2.2.2.2.2.1), .nilS]), (1, .box [.r [] (.int .i64 p.2.2.2.2.2.2.2.1), .r [] (.int .i64 p.2.2.2.2.2.2.2.2.1), .r [] (.int .i64 p.2.2.2.2.2.2.2.2.2), .own 2]), (2, .arr none (.st .layer) x)], nid := 3, n := 27, gh := [] }
def LP_S_l04Copy (ρ : Type) (k : Nat) : Nat → Ev ρ → Ev ρ := fun id f => cond (Nat.beq id 0) (loopOrc S_l04Copy_g0_keep S_l04Copy_g0_co (fun n nf => cond (Nat.beq n 27) (S_l04Copy_g0_dec nf) none) fun pv K => iter (fun v next => S_l04Copy_g0 k pv.1 v next (fun x => K (.exit 0) (S_l04Copy_g0_x0 pv.1 x))) k pv.2) ((fun _ _ _ _ => none) id f)
theorem S_l04Copy_g0_round {ρ : Type} (k : Nat) (p : Int × Int × Int × List Layer × Int × Int × Int × Int × Int × Int) (v : Int × List Layer) (K K1 : Ex → St → Option ρ) : ev (E_S_l04Copy k) (LP_S_l04Copy ρ k) 0 b_S_l04Copy_0 (S_l04Copy_g0_tm (p, v)) (fun e st' => match e with
    | .normal => (normC S_l04Copy_g0_keep S_l04Copy_g0_co st').bind fun nf => K1 .normal (denorm S_l04Copy_g0_keep st'.n nf)
    | e => (normC (S_l04Copy_g0_kx e) (S_l04Copy_g0_cx e) st').bind fun nf => K e (denorm (S_l04Copy_g0_kx e) st'.n nf)) = S_l04Copy_g0 k p v (fun v' => K1 .normal (S_l04Copy_g0_tm (p, v'))) (fun x => K (.exit 0) (S_l04Copy_g0_x0 p x)) := by kernel_rfl
theorem S_l04Copy_g0_ok {ρ : Type} (k : Nat) : Sound Try.prog (.loop b_S_l04Copy_0) (LP_S_l04Copy ρ k 0 fun st K => ev (E_S_l04Copy k) (LP_S_l04Copy ρ k) 0 b_S_l04Copy_0 st K) :=
  loop_ok (ev_sound (E_S_l04Copy_ok k) b_S_l04Copy_0 0 (lpgood_none (by kernel_rfl))) S_l04Copy_g0_kx S_l04Copy_g0_cx k (g := fun p v next K => S_l04Copy_g0 k p v next (fun x => K (.exit 0) (S_l04Copy_g0_x0 p x))) (dec_at S_l04Copy_g0_hd) (fun p v K K1 => S_l04Copy_g0_round k p v K K1)
def S_l04Copy_args (a : Model) : List Arg := [.agg [.int .i64 a.inp.h, .int .i64 a.inp.w, .int .i64 a.inp.c, .sl (.st .layer) a.layers]]
def S_l04Copy_argD (l : List Arg) : Option (Model) := match l with
  | [.agg [.int .i64 b0_0, .int .i64 b0_1, .int .i64 b0_2, .sl (.st .layer) b0_3]] => some (⟨(⟨b0_0, b0_1, b0_2⟩ : Shape), b0_3⟩ : Model)
  | _ => none
def S_l04Copy_enc (r : Model) : Out := (.agg [.r [] (.int .i64 r.inp.h), .r [] (.int .i64 r.inp.w), .r [] (.int .i64 r.inp.c), .own 0], [.arr none (.st .layer) r.layers])
def S_l04Copy_dec (o : Out) : Option (Model) := match o with
  | (.agg [.r [] (.int .i64 z1), .r [] (.int .i64 z2), .r [] (.int .i64 z3), .own 0], [.arr none (.st .layer) z4]) => some (⟨(⟨z1, z2, z3⟩ : Shape), z4⟩ : Model)
  | _ => none
def S_l04Copy_G (k : Nat) : PG := fun _ l K => (S_l04Copy_argD l).bind fun a => (S_l04Copy k a).bind fun r => K (S_l04Copy_enc r)
theorem S_l04Copy_ev (k : Nat) (a : Model) : ev (E_S_l04Copy k) (LP_S_l04Copy (Model) k) 0 c_S_l04Copy (st0 Try.f94 (S_l04Copy_args a)) (fin Try.prog Try.f94 (.agg [.sc, .sc, .sc, .own (.st .layer)]) S_l04Copy_dec) = S_l04Copy k a := by kernel_rfl
theorem S_l04Copy_ok (k : Nat) : PureOk Try.prog 94 (S_l04Copy_G k) :=
  pureOk_of_ev (E_S_l04Copy_ok k) Try.func94 (by kernel_rfl) (by kernel_rfl) S_l04Copy_args S_l04Copy_argD
    (fun l a h => by unfold S_l04Copy_argD at h; split at h <;> first | (cases h; rfl) | cases h) (fun a => rfl) (lpgood_of (l := [(0, b_S_l04Copy_0)]) (by kernel_rfl) ⟨S_l04Copy_g0_ok k, trivial⟩)
    (fun o r h => by unfold S_l04Copy_dec at h; split at h <;> first | (cases h; rfl) | cases h) (S_l04Copy_ev k)
def o_S_l04Copy (k : Nat) : Orc := pureOrc [.agg [(.int .i64), (.int .i64), (.int .i64), (.sl (.st .layer))]] (S_l04Copy_G k)
theorem o_S_l04Copy_ok (k : Nat) : OrcOk Try.prog 94 (o_S_l04Copy k) := pureOrc_ok (S_l04Copy_ok k)
/-! ### 97 loop.example/g00778/spec.l02Copy -/
noncomputable def E_S_l02Copy (k : Nat) : Env := { P := Try.prog, tt := tt, orc := fun g => cond (Nat.beq g 59) (o_S_l01Copy k) (noOrc) }
theorem E_S_l02Copy_ok (k : Nat) : EnvOk (E_S_l02Copy k) := fun g => (orc_cond (o_S_l01Copy_ok k) (noOrc_ok _ _))
noncomputable def c_S_l02Copy : Code := (Try.f97.body).getD .skip
def LP_S_l02Copy (ρ : Type) (k : Nat) : Nat → Ev ρ → Ev ρ := fun _ _ _ _ => none
def S_l02Copy_args (a : Tensor) : List Arg := [.agg [.int .i64 a.sh.h, .int .i64 a.sh.w, .int .i64 a.sh.c, .sl (.int .i64) a.data]]
def S_l02Copy_argD (l : List Arg) : Option (Tensor) := match l with
  | [.agg [.int .i64 b0_0, .int .i64 b0_1, .int .i64 b0_2, .sl (.int .i64) b0_3]] => some (⟨(⟨b0_0, b0_1, b0_2⟩ : Shape), b0_3⟩ : Tensor)
  | _ => none
def S_l02Copy_enc (r : Tensor) : Out := (.agg [.r [] (.int .i64 r.sh.h), .r [] (.int .i64 r.sh.w), .r [] (.int .i64 r.sh.c), .own 0], [.arr none (.int .i64) r.data])
def S_l02Copy_dec (o : Out) : Option (Tensor) := match o with
  | (.agg [.r [] (.int .i64 z1), .r [] (.int .i64 z2), .r [] (.int .i64 z3), .own 0], [.arr none (.int .i64) z4]) => some (⟨(⟨z1, z2, z3⟩ : Shape), z4⟩ : Tensor)
  | _ => none
def S_l02Copy_G (k : Nat) : PG := fun _ l K => (S_l02Copy_argD l).bind fun a => (S_l02Copy k a).bind fun r => K (S_l02Copy_enc r)
theorem S_l02Copy_ev (k : Nat) (a : Tensor) : ev (E_S_l02Copy k) (LP_S_l02Copy (Tensor) k) 0 c_S_l02Copy (st0 Try.f97 (S_l02Copy_args a)) (fin Try.prog Try.f97 (.agg [.sc, .sc, .sc, .own (.int .i64)]) S_l02Copy_dec) = S_l02Copy k a := by kernel_rfl
theorem S_l02Copy_ok (k : Nat) : PureOk Try.prog 97 (S_l02Copy_G k) :=
  pureOk_of_ev (E_S_l02Copy_ok k) Try.func97 (by kernel_rfl) (by kernel_rfl) S_l02Copy_args S_l02Copy_argD
    (fun l a h => by unfold S_l02Copy_argD at h; split at h <;> first | (cases h; rfl) | cases h) (fun a => rfl) (lpgood_none (by kernel_rfl))
    (fun o r h => by unfold S_l02Copy_dec at h; split at h <;> first | (cases h; rfl) | cases h) (S_l02Copy_ev k)
def o_S_l02Copy (k : Nat) : Orc := pureOrc [.agg [(.int .i64), (.int .i64), (.int .i64), (.sl (.int .i64))]] (S_l02Copy_G k)
theorem o_S_l02Copy_ok (k : Nat) : OrcOk Try.prog 97 (o_S_l02Copy k) := pureOrc_ok (S_l02Copy_ok k)
/-! ### 82 loop.example/g00778/spec.l01In -/
noncomputable def E_S_l01In (k : Nat) : Env := { P := Try.prog, tt := tt, orc := fun g => noOrc }
theorem E_S_l01In_ok (k : Nat) : EnvOk (E_S_l01In k) := fun g => (noOrc_ok _ _)
noncomputable def c_S_l01In : Code := (Try.f82.body).getD .skip
def LP_S_l01In (ρ : Type) (k : Nat) : Nat → Ev ρ → Ev ρ := fun _ _ _ _ => none
def S_l01In_args (a : Int × Int × Int) : List Arg := [.one (.int .i64 a.1), .one (.int .i64 a.2.1), .one (.int .i64 a.2.2)]
def S_l01In_argD (l : List Arg) : Option (Int × Int × Int) := match l with
  | [.one (.int .i64 b0), .one (.int .i64 b1), .one (.int .i64 b2)] => some (b0, b1, b2)
  | _ => none
def S_l01In_enc (r : Bool) : Out := (.r [] (.bool r), [])
def S_l01In_dec (o : Out) : Option (Bool) := match o with
  | (.r [] (.bool z1), []) => some z1
  | _ => none
def S_l01In_G (k : Nat) : PG := fun _ l K => (S_l01In_argD l).bind fun a => (S_l01In k a.1 a.2.1 a.2.2).bind fun r => K (S_l01In_enc r)
theorem S_l01In_ev (k : Nat) (a : Int × Int × Int) : ev (E_S_l01In k) (LP_S_l01In (Bool) k) 0 c_S_l01In (st0 Try.f82 (S_l01In_args a)) (fin Try.prog Try.f82 (.sc) S_l01In_dec) = S_l01In k a.1 a.2.1 a.2.2 := by kernel_rfl
theorem S_l01In_ok (k : Nat) : PureOk Try.prog 82 (S_l01In_G k) :=
  pureOk_of_ev (E_S_l01In_ok k) Try.func82 (by kernel_rfl) (by kernel_rfl) S_l01In_args S_l01In_argD
    (fun l a h => by unfold S_l01In_argD at h; split at h <;> first | (cases h; rfl) | cases h) (fun a => rfl) (lpgood_none (by kernel_rfl))
    (fun o r h => by unfold S_l01In_dec at h; split at h <;> first | (cases h; rfl) | cases h) (S_l01In_ev k)
def o_S_l01In (k : Nat) : Orc := pureOrc [.one (.int .i64), .one (.int .i64), .one (.int .i64)] (S_l01In_G k)
theorem o_S_l01In_ok (k : Nat) : OrcOk Try.prog 82 (o_S_l01In k) := pureOrc_ok (S_l01In_ok k)
/-! ### 132 loop.example/g00778/spec.ShapeOk -/
noncomputable def E_S_ShapeOk (k : Nat) : Env := { P := Try.prog, tt := tt, orc := fun g => cond (Nat.beq g 82) (o_S_l01In k) (noOrc) }
theorem E_S_ShapeOk_ok (k : Nat) : EnvOk (E_S_ShapeOk k) := fun g => (orc_cond (o_S_l01In_ok k) (noOrc_ok _ _))
noncomputable def c_S_ShapeOk : Code := (Try.f132.body).getD .skip
def LP_S_ShapeOk (ρ : Type) (k : Nat) : Nat → Ev ρ → Ev ρ := fun _ _ _ _ => none
def S_ShapeOk_args (a : Shape) : List Arg := [.agg [.int .i64 a.h, .int .i64 a.w, .int .i64 a.c]]
def S_ShapeOk_argD (l : List Arg) : Option (Shape) := match l with
  | [.agg [.int .i64 b0_0, .int .i64 b0_1, .int .i64 b0_2]] => some (⟨b0_0, b0_1, b0_2⟩ : Shape)
  | _ => none
def S_ShapeOk_enc (r : Bool) : Out := (.r [] (.bool r), [])
def S_ShapeOk_dec (o : Out) : Option (Bool) := match o with
  | (.r [] (.bool z1), []) => some z1
  | _ => none
def S_ShapeOk_G (k : Nat) : PG := fun _ l K => (S_ShapeOk_argD l).bind fun a => (S_ShapeOk k a).bind fun r => K (S_ShapeOk_enc r)
theorem S_ShapeOk_ev (k : Nat) (a : Shape) : ev (E_S_ShapeOk k) (LP_S_ShapeOk (Bool) k) 0 c_S_ShapeOk (st0 Try.f132 (S_ShapeOk_args a)) (fin Try.prog Try.f132 (.sc) S_ShapeOk_dec) = S_ShapeOk k a := by kernel_rfl
theorem S_ShapeOk_ok (k : Nat) : PureOk Try.prog 132 (S_ShapeOk_G k) :=
  pureOk_of_ev (E_S_ShapeOk_ok k) Try.func132 (by kernel_rfl) (by kernel_rfl) S_ShapeOk_args S_ShapeOk_argD
    (fun l a h => by unfold S_ShapeOk_argD at h; split at h <;> first | (cases h; rfl) | cases h) (fun a => rfl) (lpgood_none (by kernel_rfl))
    (fun o r h => by unfold S_ShapeOk_dec at h; split at h <;> first | (cases h; rfl) | cases h) (S_ShapeOk_ev k)
def o_S_ShapeOk (k : Nat) : Orc := pureOrc [.agg [(.int .i64), (.int .i64), (.int .i64)]] (S_ShapeOk_G k)
theorem o_S_ShapeOk_ok (k : Nat) : OrcOk Try.prog 132 (o_S_ShapeOk k) := pureOrc_ok (S_ShapeOk_ok k)
/-! ### 159 loop.example/g00778/spec.l02Int8 -/
noncomputable def E_S_l02Int8 (k : Nat) : Env := { P := Try.prog, tt := tt, orc := fun g => cond (Nat.beq g 82) (o_S_l01In k) (noOrc) }
theorem E_S_l02Int8_ok (k : Nat) : EnvOk (E_S_l02Int8 k) := fun g => (orc_cond (o_S_l01In_ok k) (noOrc_ok _ _))
noncomputable def c_S_l02Int8 : Code := (Try.f159.body).getD .skip
def LP_S_l02Int8 (ρ : Type) (k : Nat) : Nat → Ev ρ → Ev ρ := fun _ _ _ _ => none
def S_l02Int8_args (a : Int) : List Arg := [.one (.int .i64 a)]
def S_l02Int8_argD (l : List Arg) : Option (Int) := match l with
  | [.one (.int .i64 b0)] => some b0
  | _ => none
def S_l02Int8_enc (r : Bool) : Out := (.r [] (.bool r), [])
def S_l02Int8_dec (o : Out) : Option (Bool) := match o with
  | (.r [] (.bool z1), []) => some z1
  | _ => none
def S_l02Int8_G (k : Nat) : PG := fun _ l K => (S_l02Int8_argD l).bind fun a => (S_l02Int8 k a).bind fun r => K (S_l02Int8_enc r)
theorem S_l02Int8_ev (k : Nat) (a : Int) : ev (E_S_l02Int8 k) (LP_S_l02Int8 (Bool) k) 0 c_S_l02Int8 (st0 Try.f159 (S_l02Int8_args a)) (fin Try.prog Try.f159 (.sc) S_l02Int8_dec) = S_l02Int8 k a := by kernel_rfl
theorem S_l02Int8_ok (k : Nat) : PureOk Try.prog 159 (S_l02Int8_G k) :=
  pureOk_of_ev (E_S_l02Int8_ok k) Try.func159 (by kernel_rfl) (by kernel_rfl) S_l02Int8_args S_l02Int8_argD
    (fun l a h => by unfold S_l02Int8_argD at h; split at h <;> first | (cases h; rfl) | cases h) (fun a => rfl) (lpgood_none (by kernel_rfl))
    (fun o r h => by unfold S_l02Int8_dec at h; split at h <;> first | (cases h; rfl) | cases h) (S_l02Int8_ev k)
def o_S_l02Int8 (k : Nat) : Orc := pureOrc [.one (.int .i64)] (S_l02Int8_G k)
theorem o_S_l02Int8_ok (k : Nat) : OrcOk Try.prog 159 (o_S_l02Int8 k) := pureOrc_ok (S_l02Int8_ok k)
/-! ### 153 loop.example/g00778/spec.l03Plain -/
noncomputable def E_S_l03Plain (k : Nat) : Env := { P := Try.prog, tt := tt, orc := fun g => cond (Nat.beq g 82) (o_S_l01In k) (cond (Nat.beq g 159) (o_S_l02Int8 k) (noOrc)) }
theorem E_S_l03Plain_ok (k : Nat) : EnvOk (E_S_l03Plain k) := fun g => (orc_cond (o_S_l01In_ok k) (orc_cond (o_S_l02Int8_ok k) (noOrc_ok _ _)))
noncomputable def c_S_l03Plain : Code := (Try.f153.body).getD .skip
noncomputable def b_S_l03Plain_0 : Code := ((loopsIn 0 c_S_l03Plain).getD 0 (0, .skip)).2
noncomputable def b_S_l03Plain_1 : Code := ((loopsIn 0 c_S_l03Plain).getD 1 (0, .skip)).2
def S_l03Plain_g0_keep : List Nat := [3, 7]
def S_l03Plain_g0_co : List (Where × Co) := []
def S_l03Plain_g0_kx : Ex → List Nat
  | .exit j => cond (Nat.beq j 0) [3] []
  | .ret => [6]
  | .normal => []
def S_l03Plain_g0_cx : Ex → List (Where × Co)
  | .exit j => cond (Nat.beq j 0) [] []
  | .ret => []
  | .normal => []
def S_l03Plain_g0_tm (pv : (Int × Int × Int × Int × Int × Int × Int × List Int × List Int) × (Int)) : St := { slots := [(3, .ptr 0 0 0), (7, .r [] (.int .i64 pv.2))], heap := [(0, .box [.r [] (.int .i64 pv.1.1), .r [] (.int .i64 pv.1.2.1), .r [] (.int .i64 pv.1.2.2.1), .r [] (.int .i64 pv.1.2.2.2.1), .r [] (.int .i64 pv.1.2.2.2.2.1), .r [] (.int .i64 pv.1.2.2.2.2.2.1), .r [] (.int .i64 pv.1.2.2.2.2.2.2.1), .r [] (.sl (.int .i64) pv.1.2.2.2.2.2.2.2.1), .r [] (.sl (.int .i64) pv.1.2.2.2.2.2.2.2.2)])], nid := 1, n := 121, gh := [] }
def S_l03Plain_g0_dec (nf : NF) : Option ((Int × Int × Int × Int × Int × Int × Int × List Int × List Int) × (Int)) := match nf with
  | ([.ptr 0 0 0, .r [] (.int .i64 w0)], [.box [.r [] (.int .i64 w1), .r [] (.int .i64 w2), .r [] (.int .i64 w3), .r [] (.int .i64 w4), .r [] (.int .i64 w5), .r [] (.int .i64 w6), .r [] (.int .i64 w7), .r [] (.sl (.int .i64) w8), .r [] (.sl (.int .i64) w9)]], []) => some ((w1, w2, w3, w4, w5, w6, w7, w8, w9), w0)
  | _ => none
theorem S_l03Plain_g0_hd (nf : NF) (v : (Int × Int × Int × Int × Int × Int × Int × List Int × List Int) × (Int)) (h : S_l03Plain_g0_dec nf = some v) : denorm S_l03Plain_g0_keep 121 nf = S_l03Plain_g0_tm v := by
  unfold S_l03Plain_g0_dec at h
  split at h
  · cases h; rfl
  · cases h
def S_l03Plain_g0_x0 (p : Int × Int × Int × Int × Int × Int × Int × List Int × List Int) (x : Unit) : St := { slots := [(3, .ptr 0 0 0)], heap := [(0, .box [.r [] (.int .i64 p.1), .r [] (.int .i64 p.2.1), .r [] (.int .i64 p.2.2.1), .r [] (.int .i64 p.2.2.2.1), .r [] (.int .i64 p.2.2.2.2.1), .r [] (.int .i64 p.2.2.2.2.2.1), .r [] (.int .i64 p.2.2.2.2.2.2.1), .r [] (.sl (.int .i64) p.2.2.2.2.2.2.2.1), .r [] (.sl (.int .i64) p.2.2.2.2.2.2.2.2)])], nid := 1, n := 121, gh := [] }
def S_l03Plain_g0_xret (p : Int × Int × Int × Int × Int × Int × Int × List Int × List Int) (x : Bool) : St := { slots := [(6, .r [] (.bool x))], heap := [], nid := 0, n := 121, gh := [] }
def S_l03Plain_g1_keep : List Nat := [3, 8]
def S_l03Plain_g1_co : List (Where × Co) := []
def S_l03Plain_g1_kx : Ex → List Nat
  | .exit j => cond (Nat.beq j 2) [] []
  | .ret => [6]
  | .normal => []
def S_l03Plain_g1_cx : Ex → List (Where × Co)
  | .exit j => cond (Nat.beq j 2) [] []
  | .ret => []
  | .normal => []
def S_l03Plain_g1_tm (pv : (Int × Int × Int × Int × Int × Int × Int × List Int × List Int) × (Int)) : St := { slots := [(3, .ptr 0 0 0), (8, .r [] (.int .i64 pv.2))], heap := [(0, .box [.r [] (.int .i64 pv.1.1), .r [] (.int .i64 pv.1.2.1), .r [] (.int .i64 pv.1.2.2.1), .r [] (.int .i64 pv.1.2.2.2.1), .r [] (.int .i64 pv.1.2.2.2.2.1), .r [] (.int .i64 pv.1.2.2.2.2.2.1), .r [] (.int .i64 pv.1.2.2.2.2.2.2.1), .r [] (.sl (.int .i64) pv.1.2.2.2.2.2.2.2.1), .r [] (.sl (.int .i64) pv.1.2.2.2.2.2.2.2.2)])], nid := 1, n := 121, gh := [] }
def S_l03Plain_g1_dec (nf : NF) : Option ((Int × Int × Int × Int × Int × Int × Int × List Int × List Int) × (Int)) := match nf with
  | ([.ptr 0 0 0, .r [] (.int .i64 w0)], [.box [.r [] (.int .i64 w1), .r [] (.int .i64 w2), .r [] (.int .i64 w3), .r [] (.int .i64 w4), .r [] (.int .i64 w5), .r [] (.int .i64 w6), .r [] (.int .i64 w7), .r [] (.sl (.int .i64) w8), .r [] (.sl (.int .i64) w9)]], []) => some ((w1, w2, w3, w4, w5, w6, w7, w8, w9), w0)
  | _ => none
theorem S_l03Plain_g1_hd (nf : NF) (v : (Int × Int × Int × Int × Int × Int × Int × List Int × List Int) × (Int)) (h : S_l03Plain_g1_dec nf = some v) : denorm S_l03Plain_g1_keep 121 nf = S_l03Plain_g1_tm v := by
  unfold S_l03Plain_g1_dec at h
  split at h
  · cases h; rfl
  · cases h
def S_l03Plain_g1_x2 (p : Int × Int × Int × Int × Int × Int × Int × List Int × List Int) (x : Unit) : St := { slots := [], heap := [], nid := 0, n := 121, gh := [] }
def S_l03Plain_g1_xret (p : Int × Int × Int × Int × Int × Int × Int × List Int × List Int) (x : Bool) : St := { slots := [(6, .r [] (.bool x))], heap := [], nid := 0, n := 121, gh := [] }
def LP_S_l03Plain (ρ : Type) (k : Nat) : Nat → Ev ρ → Ev ρ := fun id f => cond (Nat.beq id 2) (loopOrc S_l03Plain_g1_keep S_l03Plain_g1_co (fun n nf => cond (Nat.beq n 121) (S_l03Plain_g1_dec nf) none) fun pv K => iter (fun v next => S_l03Plain_g1 k pv.1 v next (fun x => K (.exit 2) (S_l03Plain_g1_x2 pv.1 x)) (fun x => K .ret (S_l03Plain_g1_xret pv.1 x))) k pv.2) ((fun id f => cond (Nat.beq id 0) (loopOrc S_l03Plain_g0_keep S_l03Plain_g0_co (fun n nf => cond (Nat.beq n 121) (S_l03Plain_g0_dec nf) none) fun pv K => iter (fun v next => S_l03Plain_g0 k pv.1 v next (fun x => K (.exit 0) (S_l03Plain_g0_x0 pv.1 x)) (fun x => K .ret (S_l03Plain_g0_xret pv.1 x))) k pv.2) ((fun _ _ _ _ => none) id f)) id f)
theorem S_l03Plain_g0_round {ρ : Type} (k : Nat) (p : Int × Int × Int × Int × Int × Int × Int × List Int × List Int) (v : Int) (K K1 : Ex → St → Option ρ) : ev (E_S_l03Plain k) (LP_S_l03Plain ρ k) 0 b_S_l03Plain_0 (S_l03Plain_g0_tm (p, v)) (fun e st' => match e with
    | .normal => (normC S_l03Plain_g0_keep S_l03Plain_g0_co st').bind fun nf => K1 .normal (denorm S_l03Plain_g0_keep st'.n nf)
    | e => (normC (S_l03Plain_g0_kx e) (S_l03Plain_g0_cx e) st').bind fun nf => K e (denorm (S_l03Plain_g0_kx e) st'.n nf)) = S_l03Plain_g0 k p v (fun v' => K1 .normal (S_l03Plain_g0_tm (p, v'))) (fun x => K (.exit 0) (S_l03Plain_g0_x0 p x)) (fun x => K .ret (S_l03Plain_g0_xret p x)) := by kernel_rfl
theorem S_l03Plain_g0_ok {ρ : Type} (k : Nat) : Sound Try.prog (.loop b_S_l03Plain_0) (LP_S_l03Plain ρ k 0 fun st K => ev (E_S_l03Plain k) (LP_S_l03Plain ρ k) 0 b_S_l03Plain_0 st K) :=
  loop_ok (ev_sound (E_S_l03Plain_ok k) b_S_l03Plain_0 0 (lpgood_none (by kernel_rfl))) S_l03Plain_g0_kx S_l03Plain_g0_cx k (g := fun p v next K => S_l03Plain_g0 k p v next (fun x => K (.exit 0) (S_l03Plain_g0_x0 p x)) (fun x => K .ret (S_l03Plain_g0_xret p x))) (dec_at S_l03Plain_g0_hd) (fun p v K K1 => S_l03Plain_g0_round k p v K K1)
theorem S_l03Plain_g1_round {ρ : Type} (k : Nat) (p : Int × Int × Int × Int × Int × Int × Int × List Int × List Int) (v : Int) (K K1 : Ex → St → Option ρ) : ev (E_S_l03Plain k) (LP_S_l03Plain ρ k) 2 b_S_l03Plain_1 (S_l03Plain_g1_tm (p, v)) (fun e st' => match e with
    | .normal => (normC S_l03Plain_g1_keep S_l03Plain_g1_co st').bind fun nf => K1 .normal (denorm S_l03Plain_g1_keep st'.n nf)
    | e => (normC (S_l03Plain_g1_kx e) (S_l03Plain_g1_cx e) st').bind fun nf => K e (denorm (S_l03Plain_g1_kx e) st'.n nf)) = S_l03Plain_g1 k p v (fun v' => K1 .normal (S_l03Plain_g1_tm (p, v'))) (fun x => K (.exit 2) (S_l03Plain_g1_x2 p x)) (fun x => K .ret (S_l03Plain_g1_xret p x)) := by kernel_rfl
theorem S_l03Plain_g1_ok {ρ : Type} (k : Nat) : Sound Try.prog (.loop b_S_l03Plain_1) (LP_S_l03Plain ρ k 2 fun st K => ev (E_S_l03Plain k) (LP_S_l03Plain ρ k) 2 b_S_l03Plain_1 st K) :=
  loop_ok (ev_sound (E_S_l03Plain_ok k) b_S_l03Plain_1 2 (lpgood_none (by kernel_rfl))) S_l03Plain_g1_kx S_l03Plain_g1_cx k (g := fun p v next K => S_l03Plain_g1 k p v next (fun x => K (.exit 2) (S_l03Plain_g1_x2 p x)) (fun x => K .ret (S_l03Plain_g1_xret p x))) (dec_at S_l03Plain_g1_hd) (fun p v K K1 => S_l03Plain_g1_round k p v K K1)
def S_l03Plain_args (a : Layer × Bool × Bool) : List Arg := [.agg [.int .i64 a.1.kind, .int .i64 a.1.out, .int .i64 a.1.size, .int .i64 a.1.step, .int .i64 a.1.mult, .int .i64 a.1.shift, .int .i64 a.1.zero, .sl (.int .i64) a.1.weights, .sl (.int .i64) a.1.bias], .one (.bool a.2.1), .one (.bool a.2.2)]
def S_l03Plain_argD (l : List Arg) : Option (Layer × Bool × Bool) := match l with
  | [.agg [.int .i64 b0_0, .int .i64 b0_1, .int .i64 b0_2, .int .i64 b0_3, .int .i64 b0_4, .int .i64 b0_5, .int .i64 b0_6, .sl (.int .i64) b0_7, .sl (.int .i64) b0_8], .one (.bool b1), .one (.bool b2)] => some ((⟨b0_0, b0_1, b0_2, b0_3, b0_4, b0_5, b0_6, b0_7, b0_8⟩ : Layer), b1, b2)
  | _ => none
def S_l03Plain_enc (r : Bool) : Out := (.r [] (.bool r), [])
def S_l03Plain_dec (o : Out) : Option (Bool) := match o with
  | (.r [] (.bool z1), []) => some z1
  | _ => none
def S_l03Plain_G (k : Nat) : PG := fun _ l K => (S_l03Plain_argD l).bind fun a => (S_l03Plain k a.1 a.2.1 a.2.2).bind fun r => K (S_l03Plain_enc r)
theorem S_l03Plain_ev (k : Nat) (a : Layer × Bool × Bool) : ev (E_S_l03Plain k) (LP_S_l03Plain (Bool) k) 0 c_S_l03Plain (st0 Try.f153 (S_l03Plain_args a)) (fin Try.prog Try.f153 (.sc) S_l03Plain_dec) = S_l03Plain k a.1 a.2.1 a.2.2 := by kernel_rfl
theorem S_l03Plain_ok (k : Nat) : PureOk Try.prog 153 (S_l03Plain_G k) :=
  pureOk_of_ev (E_S_l03Plain_ok k) Try.func153 (by kernel_rfl) (by kernel_rfl) S_l03Plain_args S_l03Plain_argD
    (fun l a h => by unfold S_l03Plain_argD at h; split at h <;> first | (cases h; rfl) | cases h) (fun a => rfl) (lpgood_of (l := [(0, b_S_l03Plain_0), (2, b_S_l03Plain_1)]) (by kernel_rfl) ⟨S_l03Plain_g0_ok k, ⟨S_l03Plain_g1_ok k, trivial⟩⟩)
    (fun o r h => by unfold S_l03Plain_dec at h; split at h <;> first | (cases h; rfl) | cases h) (S_l03Plain_ev k)
def o_S_l03Plain (k : Nat) : Orc := pureOrc [.agg [(.int .i64), (.int .i64), (.int .i64), (.int .i64), (.int .i64), (.int .i64), (.int .i64), (.sl (.int .i64)), (.sl (.int .i64))], .one .bool, .one .bool] (S_l03Plain_G k)
theorem o_S_l03Plain_ok (k : Nat) : OrcOk Try.prog 153 (o_S_l03Plain k) := pureOrc_ok (S_l03Plain_ok k)
/-! ### 154 loop.example/g00778/spec.SizeOf -/
noncomputable def E_S_SizeOf (k : Nat) : Env := { P := Try.prog, tt := tt, orc := fun g => cond (Nat.beq g 132) (o_S_ShapeOk k) (noOrc) }
theorem E_S_SizeOf_ok (k : Nat) : EnvOk (E_S_SizeOf k) := fun g => (orc_cond (o_S_ShapeOk_ok k) (noOrc_ok _ _))
noncomputable def c_S_SizeOf : Code := (Try.f154.body).getD .skip
def LP_S_SizeOf (ρ : Type) (k : Nat) : Nat → Ev ρ → Ev ρ := fun _ _ _ _ => none
def S_SizeOf_args (a : Shape) : List Arg := [.agg [.int .i64 a.h, .int .i64 a.w, .int .i64 a.c]]
def S_SizeOf_argD (l : List Arg) : Option (Shape) := match l with
  | [.agg [.int .i64 b0_0, .int .i64 b0_1, .int .i64 b0_2]] => some (⟨b0_0, b0_1, b0_2⟩ : Shape)
  | _ => none
def S_SizeOf_enc (r : Int) : Out := (.r [] (.int .i64 r), [])
def S_SizeOf_dec (o : Out) : Option (Int) := match o with
  | (.r [] (.int .i64 z1), []) => some z1
  | _ => none
def S_SizeOf_G (k : Nat) : PG := fun _ l K => (S_SizeOf_argD l).bind fun a => (S_SizeOf k a).bind fun r => K (S_SizeOf_enc r)
theorem S_SizeOf_ev (k : Nat) (a : Shape) : ev (E_S_SizeOf k) (LP_S_SizeOf (Int) k) 0 c_S_SizeOf (st0 Try.f154 (S_SizeOf_args a)) (fin Try.prog Try.f154 (.sc) S_SizeOf_dec) = S_SizeOf k a := by kernel_rfl
theorem S_SizeOf_ok (k : Nat) : PureOk Try.prog 154 (S_SizeOf_G k) :=
  pureOk_of_ev (E_S_SizeOf_ok k) Try.func154 (by kernel_rfl) (by kernel_rfl) S_SizeOf_args S_SizeOf_argD
    (fun l a h => by unfold S_SizeOf_argD at h; split at h <;> first | (cases h; rfl) | cases h) (fun a => rfl) (lpgood_none (by kernel_rfl))
    (fun o r h => by unfold S_SizeOf_dec at h; split at h <;> first | (cases h; rfl) | cases h) (S_SizeOf_ev k)
def o_S_SizeOf (k : Nat) : Orc := pureOrc [.agg [(.int .i64), (.int .i64), (.int .i64)]] (S_SizeOf_G k)
theorem o_S_SizeOf_ok (k : Nat) : OrcOk Try.prog 154 (o_S_SizeOf k) := pureOrc_ok (S_SizeOf_ok k)
/-! ### 133 loop.example/g00778/spec.OutShape -/
noncomputable def E_S_OutShape (k : Nat) : Env := { P := Try.prog, tt := tt, orc := fun g => cond (Nat.beq g 82) (o_S_l01In k) (cond (Nat.beq g 132) (o_S_ShapeOk k) (cond (Nat.beq g 153) (o_S_l03Plain k) (cond (Nat.beq g 154) (o_S_SizeOf k) (noOrc)))) }
theorem E_S_OutShape_ok (k : Nat) : EnvOk (E_S_OutShape k) := fun g => (orc_cond (o_S_l01In_ok k) (orc_cond (o_S_ShapeOk_ok k) (orc_cond (o_S_l03Plain_ok k) (orc_cond (o_S_SizeOf_ok k) (noOrc_ok _ _)))))
noncomputable def c_S_OutShape : Code := (Try.f133.body).getD .skip
def LP_S_OutShape (ρ : Type) (k : Nat) : Nat → Ev ρ → Ev ρ := fun _ _ _ _ => none
def S_OutShape_args (a : Shape × Layer) : List Arg := [.agg [.int .i64 a.1.h, .int .i64 a.1.w, .int .i64 a.1.c], .agg [.int .i64 a.2.kind, .int .i64 a.2.out, .int .i64 a.2.size, .int .i64 a.2.step, .int .i64 a.2.mult, .int .i64 a.2.shift, .int .i64 a.2.zero, .sl (.int .i64) a.2.weights, .sl (.int .i64) a.2.bias]]
def S_OutShape_argD (l : List Arg) : Option (Shape × Layer) := match l with
  | [.agg [.int .i64 b0_0, .int .i64 b0_1, .int .i64 b0_2], .agg [.int .i64 b1_0, .int .i64 b1_1, .int .i64 b1_2, .int .i64 b1_3, .int .i64 b1_4, .int .i64 b1_5, .int .i64 b1_6, .sl (.int .i64) b1_7, .sl (.int .i64) b1_8]] => some ((⟨b0_0, b0_1, b0_2⟩ : Shape), (⟨b1_0, b1_1, b1_2, b1_3, b1_4, b1_5, b1_6, b1_7, b1_8⟩ : Layer))
  | _ => none
def S_OutShape_enc (r : Shape × Bool) : Out := (.tup [.agg [.r [] (.int .i64 r.1.h), .r [] (.int .i64 r.1.w), .r [] (.int .i64 r.1.c)], .r [] (.bool r.2)], [])
def S_OutShape_dec (o : Out) : Option (Shape × Bool) := match o with
  | (.tup [.agg [.r [] (.int .i64 z1), .r [] (.int .i64 z2), .r [] (.int .i64 z3)], .r [] (.bool z4)], []) => some ((⟨z1, z2, z3⟩ : Shape), z4)
  | _ => none
def S_OutShape_G (k : Nat) : PG := fun _ l K => (S_OutShape_argD l).bind fun a => (S_OutShape k a.1 a.2).bind fun r => K (S_OutShape_enc r)
theorem S_OutShape_ev (k : Nat) (a : Shape × Layer) : ev (E_S_OutShape k) (LP_S_OutShape (Shape × Bool) k) 0 c_S_OutShape (st0 Try.f133 (S_OutShape_args a)) (fin Try.prog Try.f133 (.tup [.agg [.sc, .sc, .sc], .sc]) S_OutShape_dec) = S_OutShape k a.1 a.2 := by kernel_rfl
theorem S_OutShape_ok (k : Nat) : PureOk Try.prog 133 (S_OutShape_G k) :=
  pureOk_of_ev (E_S_OutShape_ok k) Try.func133 (by kernel_rfl) (by kernel_rfl) S_OutShape_args S_OutShape_argD
    (fun l a h => by unfold S_OutShape_argD at h; split at h <;> first | (cases h; rfl) | cases h) (fun a => rfl) (lpgood_none (by kernel_rfl))
    (fun o r h => by unfold S_OutShape_dec at h; split at h <;> first | (cases h; rfl) | cases h) (S_OutShape_ev k)
def o_S_OutShape (k : Nat) : Orc := pureOrc [.agg [(.int .i64), (.int .i64), (.int .i64)], .agg [(.int .i64), (.int .i64), (.int .i64), (.int .i64), (.int .i64), (.int .i64), (.int .i64), (.sl (.int .i64)), (.sl (.int .i64))]] (S_OutShape_G k)
theorem o_S_OutShape_ok (k : Nat) : OrcOk Try.prog 133 (o_S_OutShape k) := pureOrc_ok (S_OutShape_ok k)
/-! ### 81 loop.example/g00778/spec.l04Shapes -/
noncomputable def E_S_l04Shapes (k : Nat) : Env := { P := Try.prog, tt := tt, orc := fun g => cond (Nat.beq g 82) (o_S_l01In k) (cond (Nat.beq g 132) (o_S_ShapeOk k) (cond (Nat.beq g 133) (o_S_OutShape k) (noOrc))) }
theorem E_S_l04Shapes_ok (k : Nat) : EnvOk (E_S_l04Shapes k) := fun g => (orc_cond (o_S_l01In_ok k) (orc_cond (o_S_ShapeOk_ok k) (orc_cond (o_S_OutShape_ok k) (noOrc_ok _ _))))
noncomputable def c_S_l04Shapes : Code := (Try.f81.body).getD .skip
noncomputable def b_S_l04Shapes_0 : Code := ((loopsIn 0 c_S_l04Shapes).getD 0 (0, .skip)).2
def S_l04Shapes_g0_keep : List Nat := [1, 4, 5]
def S_l04Shapes_g0_co : List (Where × Co) := []
def S_l04Shapes_g0_kx : Ex → List Nat
  | .exit j => cond (Nat.beq j 0) [4] []
  | .ret => [2, 3]
  | .normal => []
def S_l04Shapes_g0_cx : Ex → List (Where × Co)
  | .exit j => cond (Nat.beq j 0) [] []
  | .ret => []
  | .normal => []
def S_l04Shapes_g0_tm (pv : (Int × Int × Int × List Layer) × (Int × List Shape)) : St := { slots := [(1, .ptr 0 0 0), (4, .own 1), (5, .r [] (.int .i64 pv.2.1))], heap := [(0, .box [.r [] (.int .i64 pv.1.1), .r [] (.int .i64 pv.1.2.1), .r [] (.int .i64 pv.1.2.2.1), .r [] (.sl (.st .layer) pv.1.2.2.2)]), (1, .arr none (.st .shape) pv.2.2)], nid := 2, n := 49, gh := [] }
def S_l04Shapes_g0_dec (nf : NF) : Option ((Int × Int × Int × List Layer) × (Int × List Shape)) := match nf with
  | ([.ptr 0 0 0, .own 1, .r [] (.int .i64 w0)], [.box [.r [] (.int .i64 w1), .r [] (.int .i64 w2), .r [] (.int .i64 w3), .r [] (.sl (.st .layer) w4)], .arr none (.st .shape) w5], []) => some ((w1, w2, w3, w4), (w0, w5))
  | _ => none
theorem S_l04Shapes_g0_hd (nf : NF) (v : (Int × Int × Int × List Layer) × (Int × List Shape)) (h : S_l04Shapes_g0_dec nf = some v) : denorm S_l04Shapes_g0_keep 49 nf = S_l04Shapes_g0_tm v := by
  unfold S_l04Shapes_g0_dec at h
  split at h
  · cases h; rfl
  · cases h
def S_l04Shapes_g0_x0 (p : Int × Int × Int × List Layer) (x : List Shape) : St := { slots := [(4, .own 0)], heap := [(0, .arr none (.st .shape) x)], nid := 1, n := 49, gh := [] }
def S_l04Shapes_g0_xret (p : Int × Int × Int × List Layer) (x : Bool) : St := { slots := [(2, .nilS), (3, .r [] (.bool x))], heap := [], nid := 0, n := 49, gh := [] }
def LP_S_l04Shapes (ρ : Type) (k : Nat) : Nat → Ev ρ → Ev ρ := fun id f => cond (Nat.beq id 0) (loopOrc S_l04Shapes_g0_keep S_l04Shapes_g0_co (fun n nf => cond (Nat.beq n 49) (S_l04Shapes_g0_dec nf) none) fun pv K => iter (fun v next => S_l04Shapes_g0 k pv.1 v next (fun x => K (.exit 0) (S_l04Shapes_g0_x0 pv.1 x)) (fun x => K .ret (S_l04Shapes_g0_xret pv.1 x))) k pv.2) ((fun _ _ _ _ => none) id f)
theorem S_l04Shapes_g0_round {ρ : Type} (k : Nat) (p : Int × Int × Int × List Layer) (v : Int × List Shape) (K K1 : Ex → St → Option ρ) : ev (E_S_l04Shapes k) (LP_S_l04Shapes ρ k) 0 b_S_l04Shapes_0 (S_l04Shapes_g0_tm (p, v)) (fun e st' => match e with
    | .normal => (normC S_l04Shapes_g0_keep S_l04Shapes_g0_co st').bind fun nf => K1 .normal (denorm S_l04Shapes_g0_keep st'.n nf)
    | e => (normC (S_l04Shapes_g0_kx e) (S_l04Shapes_g0_cx e) st').bind fun nf => K e (denorm (S_l04Shapes_g0_kx e) st'.n nf)) = S_l04Shapes_g0 k p v (fun v' => K1 .normal (S_l04Shapes_g0_tm (p, v'))) (fun x => K (.exit 0) (S_l04Shapes_g0_x0 p x)) (fun x => K .ret (S_l04Shapes_g0_xret p x)) := by kernel_rfl
theorem S_l04Shapes_g0_ok {ρ : Type} (k : Nat) : Sound Try.prog (.loop b_S_l04Shapes_0) (LP_S_l04Shapes ρ k 0 fun st K => ev (E_S_l04Shapes k) (LP_S_l04Shapes ρ k) 0 b_S_l04Shapes_0 st K) :=
  loop_ok (ev_sound (E_S_l04Shapes_ok k) b_S_l04Shapes_0 0 (lpgood_none (by kernel_rfl))) S_l04Shapes_g0_kx S_l04Shapes_g0_cx k (g := fun p v next K => S_l04Shapes_g0 k p v next (fun x => K (.exit 0) (S_l04Shapes_g0_x0 p x)) (fun x => K .ret (S_l04Shapes_g0_xret p x))) (dec_at S_l04Shapes_g0_hd) (fun p v K K1 => S_l04Shapes_g0_round k p v K K1)
def S_l04Shapes_args (a : Model) : List Arg := [.agg [.int .i64 a.inp.h, .int .i64 a.inp.w, .int .i64 a.inp.c, .sl (.st .layer) a.layers]]
def S_l04Shapes_argD (l : List Arg) : Option (Model) := match l with
  | [.agg [.int .i64 b0_0, .int .i64 b0_1, .int .i64 b0_2, .sl (.st .layer) b0_3]] => some (⟨(⟨b0_0, b0_1, b0_2⟩ : Shape), b0_3⟩ : Model)
  | _ => none
def S_l04Shapes_enc (r : List Shape × Bool) : Out := (.tup [.own 0, .r [] (.bool r.2)], [.arr none (.st .shape) r.1])
def S_l04Shapes_dec (o : Out) : Option (List Shape × Bool) := match o with
  | (.tup [.own 0, .r [] (.bool z2)], [.arr none (.st .shape) z1]) => some (z1, z2)
  | _ => none
def S_l04Shapes_G (k : Nat) : PG := fun _ l K => (S_l04Shapes_argD l).bind fun a => (S_l04Shapes k a).bind fun r => K (S_l04Shapes_enc r)
theorem S_l04Shapes_ev (k : Nat) (a : Model) : ev (E_S_l04Shapes k) (LP_S_l04Shapes (List Shape × Bool) k) 0 c_S_l04Shapes (st0 Try.f81 (S_l04Shapes_args a)) (fin Try.prog Try.f81 (.tup [.own (.st .shape), .sc]) S_l04Shapes_dec) = S_l04Shapes k a := by kernel_rfl
theorem S_l04Shapes_ok (k : Nat) : PureOk Try.prog 81 (S_l04Shapes_G k) :=
  pureOk_of_ev (E_S_l04Shapes_ok k) Try.func81 (by kernel_rfl) (by kernel_rfl) S_l04Shapes_args S_l04Shapes_argD
    (fun l a h => by unfold S_l04Shapes_argD at h; split at h <;> first | (cases h; rfl) | cases h) (fun a => rfl) (lpgood_of (l := [(0, b_S_l04Shapes_0)]) (by kernel_rfl) ⟨S_l04Shapes_g0_ok k, trivial⟩)
    (fun o r h => by unfold S_l04Shapes_dec at h; split at h <;> first | (cases h; rfl) | cases h) (S_l04Shapes_ev k)
def o_S_l04Shapes (k : Nat) : Orc := pureOrc [.agg [(.int .i64), (.int .i64), (.int .i64), (.sl (.st .layer))]] (S_l04Shapes_G k)
theorem o_S_l04Shapes_ok (k : Nat) : OrcOk Try.prog 81 (o_S_l04Shapes k) := pureOrc_ok (S_l04Shapes_ok k)
/-! ### 139 loop.example/g00778/spec.TensorOk -/
noncomputable def E_S_TensorOk (k : Nat) : Env := { P := Try.prog, tt := tt, orc := fun g => cond (Nat.beq g 132) (o_S_ShapeOk k) (cond (Nat.beq g 154) (o_S_SizeOf k) (cond (Nat.beq g 159) (o_S_l02Int8 k) (noOrc))) }
theorem E_S_TensorOk_ok (k : Nat) : EnvOk (E_S_TensorOk k) := fun g => (orc_cond (o_S_ShapeOk_ok k) (orc_cond (o_S_SizeOf_ok k) (orc_cond (o_S_l02Int8_ok k) (noOrc_ok _ _))))
noncomputable def c_S_TensorOk : Code := (Try.f139.body).getD .skip
noncomputable def b_S_TensorOk_0 : Code := ((loopsIn 0 c_S_TensorOk).getD 0 (0, .skip)).2
def S_TensorOk_g0_keep : List Nat := [1, 3]
def S_TensorOk_g0_co : List (Where × Co) := []
def S_TensorOk_g0_kx : Ex → List Nat
  | .exit j => cond (Nat.beq j 0) [] []
  | .ret => [2]
  | .normal => []
def S_TensorOk_g0_cx : Ex → List (Where × Co)
  | .exit j => cond (Nat.beq j 0) [] []
  | .ret => []
  | .normal => []
def S_TensorOk_g0_tm (pv : (Int × Int × Int × List Int) × (Int)) : St := { slots := [(1, .ptr 0 0 0), (3, .r [] (.int .i64 pv.2))], heap := [(0, .box [.r [] (.int .i64 pv.1.1), .r [] (.int .i64 pv.1.2.1), .r [] (.int .i64 pv.1.2.2.1), .r [] (.sl (.int .i64) pv.1.2.2.2)])], nid := 1, n := 31, gh := [] }
def S_TensorOk_g0_dec (nf : NF) : Option ((Int × Int × Int × List Int) × (Int)) := match nf with
  | ([.ptr 0 0 0, .r [] (.int .i64 w0)], [.box [.r [] (.int .i64 w1), .r [] (.int .i64 w2), .r [] (.int .i64 w3), .r [] (.sl (.int .i64) w4)]], []) => some ((w1, w2, w3, w4), w0)
  | _ => none
theorem S_TensorOk_g0_hd (nf : NF) (v : (Int × Int × Int × List Int) × (Int)) (h : S_TensorOk_g0_dec nf = some v) : denorm S_TensorOk_g0_keep 31 nf = S_TensorOk_g0_tm v := by
  unfold S_TensorOk_g0_dec at h
  split at h
  · cases h; rfl
  · cases h
def S_TensorOk_g0_x0 (p : Int × Int × Int × List Int) (x : Unit) : St := { slots := [], heap := [], nid := 0, n := 31, gh := [] }
def S_TensorOk_g0_xret (p : Int × Int × Int × List Int) (x : Bool) : St := { slots := [(2, .r [] (.bool x))], heap := [], nid := 0, n := 31, gh := [] }
def LP_S_TensorOk (ρ : Type) (k : Nat) : Nat → Ev ρ → Ev ρ := fun id f => cond (Nat.beq id 0) (loopOrc S_TensorOk_g0_keep S_TensorOk_g0_co (fun n nf => cond (Nat.beq n 31) (S_TensorOk_g0_dec nf) none) fun pv K => iter (fun v next => S_TensorOk_g0 k pv.1 v next (fun x => K (.exit 0) (S_TensorOk_g0_x0 pv.1 x)) (fun x => K .ret (S_TensorOk_g0_xret pv.1 x))) k pv.2) ((fun _ _ _ _ => none) id f)
theorem S_TensorOk_g0_round {ρ : Type} (k : Nat) (p : Int × Int × Int × List Int) (v : Int) (K K1 : Ex → St → Option ρ) : ev (E_S_TensorOk k) (LP_S_TensorOk ρ k) 0 b_S_TensorOk_0 (S_TensorOk_g0_tm (p, v)) (fun e st' => match e with
    | .normal => (normC S_TensorOk_g0_keep S_TensorOk_g0_co st').bind fun nf => K1 .normal (denorm S_TensorOk_g0_keep st'.n nf)
    | e => (normC (S_TensorOk_g0_kx e) (S_TensorOk_g0_cx e) st').bind fun nf => K e (denorm (S_TensorOk_g0_kx e) st'.n nf)) = S_TensorOk_g0 k p v (fun v' => K1 .normal (S_TensorOk_g0_tm (p, v'))) (fun x => K (.exit 0) (S_TensorOk_g0_x0 p x)) (fun x => K .ret (S_TensorOk_g0_xret p x)) := by kernel_rfl
theorem S_TensorOk_g0_ok {ρ : Type} (k : Nat) : Sound Try.prog (.loop b_S_TensorOk_0) (LP_S_TensorOk ρ k 0 fun st K => ev (E_S_TensorOk k) (LP_S_TensorOk ρ k) 0 b_S_TensorOk_0 st K) :=
  loop_ok (ev_sound (E_S_TensorOk_ok k) b_S_TensorOk_0 0 (lpgood_none (by kernel_rfl))) S_TensorOk_g0_kx S_TensorOk_g0_cx k (g := fun p v next K => S_TensorOk_g0 k p v next (fun x => K (.exit 0) (S_TensorOk_g0_x0 p x)) (fun x => K .ret (S_TensorOk_g0_xret p x))) (dec_at S_TensorOk_g0_hd) (fun p v K K1 => S_TensorOk_g0_round k p v K K1)
def S_TensorOk_args (a : Tensor) : List Arg := [.agg [.int .i64 a.sh.h, .int .i64 a.sh.w, .int .i64 a.sh.c, .sl (.int .i64) a.data]]
def S_TensorOk_argD (l : List Arg) : Option (Tensor) := match l with
  | [.agg [.int .i64 b0_0, .int .i64 b0_1, .int .i64 b0_2, .sl (.int .i64) b0_3]] => some (⟨(⟨b0_0, b0_1, b0_2⟩ : Shape), b0_3⟩ : Tensor)
  | _ => none
def S_TensorOk_enc (r : Bool) : Out := (.r [] (.bool r), [])
def S_TensorOk_dec (o : Out) : Option (Bool) := match o with
  | (.r [] (.bool z1), []) => some z1
  | _ => none
def S_TensorOk_G (k : Nat) : PG := fun _ l K => (S_TensorOk_argD l).bind fun a => (S_TensorOk k a).bind fun r => K (S_TensorOk_enc r)
theorem S_TensorOk_ev (k : Nat) (a : Tensor) : ev (E_S_TensorOk k) (LP_S_TensorOk (Bool) k) 0 c_S_TensorOk (st0 Try.f139 (S_TensorOk_args a)) (fin Try.prog Try.f139 (.sc) S_TensorOk_dec) = S_TensorOk k a := by kernel_rfl
theorem S_TensorOk_ok (k : Nat) : PureOk Try.prog 139 (S_TensorOk_G k) :=
  pureOk_of_ev (E_S_TensorOk_ok k) Try.func139 (by kernel_rfl) (by kernel_rfl) S_TensorOk_args S_TensorOk_argD
    (fun l a h => by unfold S_TensorOk_argD at h; split at h <;> first | (cases h; rfl) | cases h) (fun a => rfl) (lpgood_of (l := [(0, b_S_TensorOk_0)]) (by kernel_rfl) ⟨S_TensorOk_g0_ok k, trivial⟩)
    (fun o r h => by unfold S_TensorOk_dec at h; split at h <;> first | (cases h; rfl) | cases h) (S_TensorOk_ev k)
def o_S_TensorOk (k : Nat) : Orc := pureOrc [.agg [(.int .i64), (.int .i64), (.int .i64), (.sl (.int .i64))]] (S_TensorOk_G k)
theorem o_S_TensorOk_ok (k : Nat) : OrcOk Try.prog 139 (o_S_TensorOk k) := pureOrc_ok (S_TensorOk_ok k)
/-! ### 151 loop.example/g00778/spec.CostOf -/
noncomputable def E_S_CostOf (k : Nat) : Env := { P := Try.prog, tt := tt, orc := fun g => cond (Nat.beq g 133) (o_S_OutShape k) (cond (Nat.beq g 154) (o_S_SizeOf k) (noOrc)) }
theorem E_S_CostOf_ok (k : Nat) : EnvOk (E_S_CostOf k) := fun g => (orc_cond (o_S_OutShape_ok k) (orc_cond (o_S_SizeOf_ok k) (noOrc_ok _ _)))
noncomputable def c_S_CostOf : Code := (Try.f151.body).getD .skip
def LP_S_CostOf (ρ : Type) (k : Nat) : Nat → Ev ρ → Ev ρ := fun _ _ _ _ => none
def S_CostOf_args (a : Shape × Layer) : List Arg := [.agg [.int .i64 a.1.h, .int .i64 a.1.w, .int .i64 a.1.c], .agg [.int .i64 a.2.kind, .int .i64 a.2.out, .int .i64 a.2.size, .int .i64 a.2.step, .int .i64 a.2.mult, .int .i64 a.2.shift, .int .i64 a.2.zero, .sl (.int .i64) a.2.weights, .sl (.int .i64) a.2.bias]]
def S_CostOf_argD (l : List Arg) : Option (Shape × Layer) := match l with
  | [.agg [.int .i64 b0_0, .int .i64 b0_1, .int .i64 b0_2], .agg [.int .i64 b1_0, .int .i64 b1_1, .int .i64 b1_2, .int .i64 b1_3, .int .i64 b1_4, .int .i64 b1_5, .int .i64 b1_6, .sl (.int .i64) b1_7, .sl (.int .i64) b1_8]] => some ((⟨b0_0, b0_1, b0_2⟩ : Shape), (⟨b1_0, b1_1, b1_2, b1_3, b1_4, b1_5, b1_6, b1_7, b1_8⟩ : Layer))
  | _ => none
def S_CostOf_enc (r : Int) : Out := (.r [] (.int .i64 r), [])
def S_CostOf_dec (o : Out) : Option (Int) := match o with
  | (.r [] (.int .i64 z1), []) => some z1
  | _ => none
def S_CostOf_G (k : Nat) : PG := fun _ l K => (S_CostOf_argD l).bind fun a => (S_CostOf k a.1 a.2).bind fun r => K (S_CostOf_enc r)
theorem S_CostOf_ev (k : Nat) (a : Shape × Layer) : ev (E_S_CostOf k) (LP_S_CostOf (Int) k) 0 c_S_CostOf (st0 Try.f151 (S_CostOf_args a)) (fin Try.prog Try.f151 (.sc) S_CostOf_dec) = S_CostOf k a.1 a.2 := by kernel_rfl
theorem S_CostOf_ok (k : Nat) : PureOk Try.prog 151 (S_CostOf_G k) :=
  pureOk_of_ev (E_S_CostOf_ok k) Try.func151 (by kernel_rfl) (by kernel_rfl) S_CostOf_args S_CostOf_argD
    (fun l a h => by unfold S_CostOf_argD at h; split at h <;> first | (cases h; rfl) | cases h) (fun a => rfl) (lpgood_none (by kernel_rfl))
    (fun o r h => by unfold S_CostOf_dec at h; split at h <;> first | (cases h; rfl) | cases h) (S_CostOf_ev k)
def o_S_CostOf (k : Nat) : Orc := pureOrc [.agg [(.int .i64), (.int .i64), (.int .i64)], .agg [(.int .i64), (.int .i64), (.int .i64), (.int .i64), (.int .i64), (.int .i64), (.int .i64), (.sl (.int .i64)), (.sl (.int .i64))]] (S_CostOf_G k)
theorem o_S_CostOf_ok (k : Nat) : OrcOk Try.prog 151 (o_S_CostOf k) := pureOrc_ok (S_CostOf_ok k)
/-! ### 127 loop.example/g00778/spec.CostsOf -/
noncomputable def E_S_CostsOf (k : Nat) : Env := { P := Try.prog, tt := tt, orc := fun g => cond (Nat.beq g 81) (o_S_l04Shapes k) (cond (Nat.beq g 151) (o_S_CostOf k) (noOrc)) }
theorem E_S_CostsOf_ok (k : Nat) : EnvOk (E_S_CostsOf k) := fun g => (orc_cond (o_S_l04Shapes_ok k) (orc_cond (o_S_CostOf_ok k) (noOrc_ok _ _)))
noncomputable def c_S_CostsOf : Code := (Try.f127.body).getD .skip
noncomputable def b_S_CostsOf_0 : Code := ((loopsIn 0 c_S_CostsOf).getD 0 (0, .skip)).2
def S_CostsOf_g0_keep : List Nat := [1, 3, 4, 6]
def S_CostsOf_g0_co : List (Where × Co) := []
def S_CostsOf_g0_kx : Ex → List Nat
  | .exit j => cond (Nat.beq j 0) [3] []
  | .ret => []
  | .normal => []
def S_CostsOf_g0_cx : Ex → List (Where × Co)
  | .exit j => cond (Nat.beq j 0) [] []
  | .ret => []
  | .normal => []
def S_CostsOf_g0_tm (pv : (Int × Int × Int × List Layer × List Shape) × (Int × List Int)) : St := { slots := [(1, .ptr 0 0 0), (3, .own 1), (4, .own 2), (6, .r [] (.int .i64 pv.2.1))], heap := [(0, .box [.r [] (.int .i64 pv.1.1), .r [] (.int .i64 pv.1.2.1), .r [] (.int .i64 pv.1.2.2.1), .r [] (.sl (.st .layer) pv.1.2.2.2.1)]), (1, .arr none (.int .i64) pv.2.2), (2, .arr none (.st .shape) pv.1.2.2.2.2)], nid := 3, n := 36, gh := [] }
def S_CostsOf_g0_dec (nf : NF) : Option ((Int × Int × Int × List Layer × List Shape) × (Int × List Int)) := match nf with
  | ([.ptr 0 0 0, .own 1, .own 2, .r [] (.int .i64 w0)], [.box [.r [] (.int .i64 w1), .r [] (.int .i64 w2), .r [] (.int .i64 w3), .r [] (.sl (.st .layer) w4)], .arr none (.int .i64) w5, .arr none (.st .shape) w6], []) => some ((w1, w2, w3, w4, w6), (w0, w5))
  | _ => none
theorem S_CostsOf_g0_hd (nf : NF) (v : (Int × Int × Int × List Layer × List Shape) × (Int × List Int)) (h : S_CostsOf_g0_dec nf = some v) : denorm S_CostsOf_g0_keep 36 nf = S_CostsOf_g0_tm v := by
  unfold S_CostsOf_g0_dec at h
  split at h
  · cases h; rfl
  · cases h
def S_CostsOf_g0_x0 (p : Int × Int × Int × List Layer × List Shape) (x : List Int) : St := { slots := [(3, .own 0)], heap := [(0, .arr none (.int .i64) x)], nid := 1, n := 36, gh := [] }
def LP_S_CostsOf (ρ : Type) (k : Nat) : Nat → Ev ρ → Ev ρ := fun id f => cond (Nat.beq id 0) (loopOrc S_CostsOf_g0_keep S_CostsOf_g0_co (fun n nf => cond (Nat.beq n 36) (S_CostsOf_g0_dec nf) none) fun pv K => iter (fun v next => S_CostsOf_g0 k pv.1 v next (fun x => K (.exit 0) (S_CostsOf_g0_x0 pv.1 x))) k pv.2) ((fun _ _ _ _ => none) id f)
theorem S_CostsOf_g0_round {ρ : Type} (k : Nat) (p : Int × Int × Int × List Layer × List Shape) (v : Int × List Int) (K K1 : Ex → St → Option ρ) : ev (E_S_CostsOf k) (LP_S_CostsOf ρ k) 0 b_S_CostsOf_0 (S_CostsOf_g0_tm (p, v)) (fun e st' => match e with
    | .normal => (normC S_CostsOf_g0_keep S_CostsOf_g0_co st').bind fun nf => K1 .normal (denorm S_CostsOf_g0_keep st'.n nf)
    | e => (normC (S_CostsOf_g0_kx e) (S_CostsOf_g0_cx e) st').bind fun nf => K e (denorm (S_CostsOf_g0_kx e) st'.n nf)) = S_CostsOf_g0 k p v (fun v' => K1 .normal (S_CostsOf_g0_tm (p, v'))) (fun x => K (.exit 0) (S_CostsOf_g0_x0 p x)) := by kernel_rfl
theorem S_CostsOf_g0_ok {ρ : Type} (k : Nat) : Sound Try.prog (.loop b_S_CostsOf_0) (LP_S_CostsOf ρ k 0 fun st K => ev (E_S_CostsOf k) (LP_S_CostsOf ρ k) 0 b_S_CostsOf_0 st K) :=
  loop_ok (ev_sound (E_S_CostsOf_ok k) b_S_CostsOf_0 0 (lpgood_none (by kernel_rfl))) S_CostsOf_g0_kx S_CostsOf_g0_cx k (g := fun p v next K => S_CostsOf_g0 k p v next (fun x => K (.exit 0) (S_CostsOf_g0_x0 p x))) (dec_at S_CostsOf_g0_hd) (fun p v K K1 => S_CostsOf_g0_round k p v K K1)
def S_CostsOf_args (a : Model) : List Arg := [.agg [.int .i64 a.inp.h, .int .i64 a.inp.w, .int .i64 a.inp.c, .sl (.st .layer) a.layers]]
def S_CostsOf_argD (l : List Arg) : Option (Model) := match l with
  | [.agg [.int .i64 b0_0, .int .i64 b0_1, .int .i64 b0_2, .sl (.st .layer) b0_3]] => some (⟨(⟨b0_0, b0_1, b0_2⟩ : Shape), b0_3⟩ : Model)
  | _ => none
def S_CostsOf_enc (r : List Int) : Out := (.own 0, [.arr none (.int .i64) r])
def S_CostsOf_dec (o : Out) : Option (List Int) := match o with
  | (.own 0, [.arr none (.int .i64) z1]) => some z1
  | _ => none
def S_CostsOf_G (k : Nat) : PG := fun _ l K => (S_CostsOf_argD l).bind fun a => (S_CostsOf k a).bind fun r => K (S_CostsOf_enc r)
theorem S_CostsOf_ev (k : Nat) (a : Model) : ev (E_S_CostsOf k) (LP_S_CostsOf (List Int) k) 0 c_S_CostsOf (st0 Try.f127 (S_CostsOf_args a)) (fin Try.prog Try.f127 (.own (.int .i64)) S_CostsOf_dec) = S_CostsOf k a := by kernel_rfl
theorem S_CostsOf_ok (k : Nat) : PureOk Try.prog 127 (S_CostsOf_G k) :=
  pureOk_of_ev (E_S_CostsOf_ok k) Try.func127 (by kernel_rfl) (by kernel_rfl) S_CostsOf_args S_CostsOf_argD
    (fun l a h => by unfold S_CostsOf_argD at h; split at h <;> first | (cases h; rfl) | cases h) (fun a => rfl) (lpgood_of (l := [(0, b_S_CostsOf_0)]) (by kernel_rfl) ⟨S_CostsOf_g0_ok k, trivial⟩)
    (fun o r h => by unfold S_CostsOf_dec at h; split at h <;> first | (cases h; rfl) | cases h) (S_CostsOf_ev k)
def o_S_CostsOf (k : Nat) : Orc := pureOrc [.agg [(.int .i64), (.int .i64), (.int .i64), (.sl (.st .layer))]] (S_CostsOf_G k)
theorem o_S_CostsOf_ok (k : Nat) : OrcOk Try.prog 127 (o_S_CostsOf k) := pureOrc_ok (S_CostsOf_ok k)
/-! ### 98 loop.example/g00778/spec.JobOk -/
noncomputable def E_S_JobOk (k : Nat) : Env := { P := Try.prog, tt := tt, orc := fun g => cond (Nat.beq g 81) (o_S_l04Shapes k) (cond (Nat.beq g 82) (o_S_l01In k) (cond (Nat.beq g 127) (o_S_CostsOf k) (cond (Nat.beq g 139) (o_S_TensorOk k) (noOrc)))) }
theorem E_S_JobOk_ok (k : Nat) : EnvOk (E_S_JobOk k) := fun g => (orc_cond (o_S_l04Shapes_ok k) (orc_cond (o_S_l01In_ok k) (orc_cond (o_S_CostsOf_ok k) (orc_cond (o_S_TensorOk_ok k) (noOrc_ok _ _)))))
noncomputable def c_S_JobOk : Code := (Try.f98.body).getD .skip
noncomputable def b_S_JobOk_0 : Code := ((loopsIn 0 c_S_JobOk).getD 0 (0, .skip)).2
def S_JobOk_g0_keep : List Nat := [1, 5, 6, 7]
def S_JobOk_g0_co : List (Where × Co) := []
def S_JobOk_g0_kx : Ex → List Nat
  | .exit j => cond (Nat.beq j 0) [1, 6] []
  | .ret => []
  | .normal => []
def S_JobOk_g0_cx : Ex → List (Where × Co)
  | .exit j => cond (Nat.beq j 0) [] []
  | .ret => []
  | .normal => []
def S_JobOk_g0_tm (pv : (Int × Int × Int × List Layer × Int × Int × Int × Int × List Int × Int × List Int) × (Int × Int)) : St := { slots := [(1, .ptr 0 0 0), (5, .own 1), (6, .r [] (.int .i64 pv.2.1)), (7, .r [] (.int .i64 pv.2.2))], heap := [(0, .box [.r [] (.int .i64 pv.1.1), .r [] (.int .i64 pv.1.2.1), .r [] (.int .i64 pv.1.2.2.1), .r [] (.sl (.st .layer) pv.1.2.2.2.1), .r [] (.int .i64 pv.1.2.2.2.2.1), .r [] (.int .i64 pv.1.2.2.2.2.2.1), .r [] (.int .i64 pv.1.2.2.2.2.2.2.1), .r [] (.int .i64 pv.1.2.2.2.2.2.2.2.1), .r [] (.sl (.int .i64) pv.1.2.2.2.2.2.2.2.2.1), .r [] (.int .i64 pv.1.2.2.2.2.2.2.2.2.2.1)]), (1, .arr none (.int .i64) pv.1.2.2.2.2.2.2.2.2.2.2)], nid := 2, n := 62, gh := [] }
def S_JobOk_g0_dec (nf : NF) : Option ((Int × Int × Int × List Layer × Int × Int × Int × Int × List Int × Int × List Int) × (Int × Int)) := match nf with
  | ([.ptr 0 0 0, .own 1, .r [] (.int .i64 w0), .r [] (.int .i64 w1)], [.box [.r [] (.int .i64 w2), .r [] (.int .i64 w3), .r [] (.int .i64 w4), .r [] (.sl (.st .layer) w5), .r [] (.int .i64 w6), .r [] (.int .i64 w7), .r [] (.int .i64 w8), .r [] (.int .i64 w9), .r [] (.sl (.int .i64) w10), .r [] (.int .i64 w11)], .arr none (.int .i64) w12], []) => some ((w2, w3, w4, w5, w6, w7, w8, w9, w10, w11, w12), (w0, w1))
  | _ => none
theorem S_JobOk_g0_hd (nf : NF) (v : (Int × Int × Int × List Layer × Int × Int × Int × Int × List Int × Int × List Int) × (Int × Int)) (h : S_JobOk_g0_dec nf = some v) : denorm S_JobOk_g0_keep 62 nf = S_JobOk_g0_tm v := by
  unfold S_JobOk_g0_dec at h
  split at h
  · cases h; rfl
  · cases h
def S_JobOk_g0_x0 (p : Int × Int × Int × List Layer × Int × Int × Int × Int × List Int × Int × List Int) (x : Int) : St := { slots := [(1, .ptr 0 0 0), (6, .r [] (.int .i64 x))], heap := [(0, .box [.r [] (.int .i64 p.1), .r [] (.int .i64 p.2.1), .r [] (.int .i64 p.2.2.1), .r [] (.sl (.st .layer) p.2.2.2.1), .r [] (.int .i64 p.2.2.2.2.1), .r [] (.int .i64 p.2.2.2.2.2.1), .r [] (.int .i64 p.2.2.2.2.2.2.1), .r [] (.int .i64 p.2.2.2.2.2.2.2.1), .r [] (.sl (.int .i64) p.2.2.2.2.2.2.2.2.1), .r [] (.int .i64 p.2.2.2.2.2.2.2.2.2.1)])], nid := 1, n := 62, gh := [] }
def LP_S_JobOk (ρ : Type) (k : Nat) : Nat → Ev ρ → Ev ρ := fun id f => cond (Nat.beq id 0) (loopOrc S_JobOk_g0_keep S_JobOk_g0_co (fun n nf => cond (Nat.beq n 62) (S_JobOk_g0_dec nf) none) fun pv K => iter (fun v next => S_JobOk_g0 k pv.1 v next (fun x => K (.exit 0) (S_JobOk_g0_x0 pv.1 x))) k pv.2) ((fun _ _ _ _ => none) id f)
theorem S_JobOk_g0_round {ρ : Type} (k : Nat) (p : Int × Int × Int × List Layer × Int × Int × Int × Int × List Int × Int × List Int) (v : Int × Int) (K K1 : Ex → St → Option ρ) : ev (E_S_JobOk k) (LP_S_JobOk ρ k) 0 b_S_JobOk_0 (S_JobOk_g0_tm (p, v)) (fun e st' => match e with
    | .normal => (normC S_JobOk_g0_keep S_JobOk_g0_co st').bind fun nf => K1 .normal (denorm S_JobOk_g0_keep st'.n nf)
    | e => (normC (S_JobOk_g0_kx e) (S_JobOk_g0_cx e) st').bind fun nf => K e (denorm (S_JobOk_g0_kx e) st'.n nf)) = S_JobOk_g0 k p v (fun v' => K1 .normal (S_JobOk_g0_tm (p, v'))) (fun x => K (.exit 0) (S_JobOk_g0_x0 p x)) := by kernel_rfl
theorem S_JobOk_g0_ok {ρ : Type} (k : Nat) : Sound Try.prog (.loop b_S_JobOk_0) (LP_S_JobOk ρ k 0 fun st K => ev (E_S_JobOk k) (LP_S_JobOk ρ k) 0 b_S_JobOk_0 st K) :=
  loop_ok (ev_sound (E_S_JobOk_ok k) b_S_JobOk_0 0 (lpgood_none (by kernel_rfl))) S_JobOk_g0_kx S_JobOk_g0_cx k (g := fun p v next K => S_JobOk_g0 k p v next (fun x => K (.exit 0) (S_JobOk_g0_x0 p x))) (dec_at S_JobOk_g0_hd) (fun p v K K1 => S_JobOk_g0_round k p v K K1)
def S_JobOk_args (a : Job) : List Arg := [.agg [.int .i64 a.model.inp.h, .int .i64 a.model.inp.w, .int .i64 a.model.inp.c, .sl (.st .layer) a.model.layers, .int .i64 a.at_, .int .i64 a.act.sh.h, .int .i64 a.act.sh.w, .int .i64 a.act.sh.c, .sl (.int .i64) a.act.data, .int .i64 a.spent]]
def S_JobOk_argD (l : List Arg) : Option (Job) := match l with
  | [.agg [.int .i64 b0_0, .int .i64 b0_1, .int .i64 b0_2, .sl (.st .layer) b0_3, .int .i64 b0_4, .int .i64 b0_5, .int .i64 b0_6, .int .i64 b0_7, .sl (.int .i64) b0_8, .int .i64 b0_9]] => some (⟨(⟨(⟨b0_0, b0_1, b0_2⟩ : Shape), b0_3⟩ : Model), b0_4, (⟨(⟨b0_5, b0_6, b0_7⟩ : Shape), b0_8⟩ : Tensor), b0_9⟩ : Job)
  | _ => none
def S_JobOk_enc (r : Bool) : Out := (.r [] (.bool r), [])
def S_JobOk_dec (o : Out) : Option (Bool) := match o with
  | (.r [] (.bool z1), []) => some z1
  | _ => none
def S_JobOk_G (k : Nat) : PG := fun _ l K => (S_JobOk_argD l).bind fun a => (S_JobOk k a).bind fun r => K (S_JobOk_enc r)
theorem S_JobOk_ev (k : Nat) (a : Job) : ev (E_S_JobOk k) (LP_S_JobOk (Bool) k) 0 c_S_JobOk (st0 Try.f98 (S_JobOk_args a)) (fin Try.prog Try.f98 (.sc) S_JobOk_dec) = S_JobOk k a := by kernel_rfl
theorem S_JobOk_ok (k : Nat) : PureOk Try.prog 98 (S_JobOk_G k) :=
  pureOk_of_ev (E_S_JobOk_ok k) Try.func98 (by kernel_rfl) (by kernel_rfl) S_JobOk_args S_JobOk_argD
    (fun l a h => by unfold S_JobOk_argD at h; split at h <;> first | (cases h; rfl) | cases h) (fun a => rfl) (lpgood_of (l := [(0, b_S_JobOk_0)]) (by kernel_rfl) ⟨S_JobOk_g0_ok k, trivial⟩)
    (fun o r h => by unfold S_JobOk_dec at h; split at h <;> first | (cases h; rfl) | cases h) (S_JobOk_ev k)
def o_S_JobOk (k : Nat) : Orc := pureOrc [.agg [(.int .i64), (.int .i64), (.int .i64), (.sl (.st .layer)), (.int .i64), (.int .i64), (.int .i64), (.int .i64), (.sl (.int .i64)), (.int .i64)]] (S_JobOk_G k)
theorem o_S_JobOk_ok (k : Nat) : OrcOk Try.prog 98 (o_S_JobOk k) := pureOrc_ok (S_JobOk_ok k)
/-! ### 35 loop.example/g00778/spec.StartJob -/
noncomputable def E_S_StartJob (k : Nat) : Env := { P := Try.prog, tt := tt, orc := fun g => cond (Nat.beq g 94) (o_S_l04Copy k) (cond (Nat.beq g 97) (o_S_l02Copy k) (cond (Nat.beq g 98) (o_S_JobOk k) (noOrc))) }
theorem E_S_StartJob_ok (k : Nat) : EnvOk (E_S_StartJob k) := fun g => (orc_cond (o_S_l04Copy_ok k) (orc_cond (o_S_l02Copy_ok k) (orc_cond (o_S_JobOk_ok k) (noOrc_ok _ _))))
noncomputable def c_S_StartJob : Code := (Try.f35.body).getD .skip
def LP_S_StartJob (ρ : Type) (k : Nat) : Nat → Ev ρ → Ev ρ := fun _ _ _ _ => none
def S_StartJob_args (a : Model × Tensor) : List Arg := [.agg [.int .i64 a.1.inp.h, .int .i64 a.1.inp.w, .int .i64 a.1.inp.c, .sl (.st .layer) a.1.layers], .agg [.int .i64 a.2.sh.h, .int .i64 a.2.sh.w, .int .i64 a.2.sh.c, .sl (.int .i64) a.2.data]]
def S_StartJob_argD (l : List Arg) : Option (Model × Tensor) := match l with
  | [.agg [.int .i64 b0_0, .int .i64 b0_1, .int .i64 b0_2, .sl (.st .layer) b0_3], .agg [.int .i64 b1_0, .int .i64 b1_1, .int .i64 b1_2, .sl (.int .i64) b1_3]] => some ((⟨(⟨b0_0, b0_1, b0_2⟩ : Shape), b0_3⟩ : Model), (⟨(⟨b1_0, b1_1, b1_2⟩ : Shape), b1_3⟩ : Tensor))
  | _ => none
def S_StartJob_enc (r : Job × Bool) : Out := (.tup [.agg [.r [] (.int .i64 r.1.model.inp.h), .r [] (.int .i64 r.1.model.inp.w), .r [] (.int .i64 r.1.model.inp.c), .own 0, .r [] (.int .i64 r.1.at_), .r [] (.int .i64 r.1.act.sh.h), .r [] (.int .i64 r.1.act.sh.w), .r [] (.int .i64 r.1.act.sh.c), .own 1, .r [] (.int .i64 r.1.spent)], .r [] (.bool r.2)], [.arr none (.st .layer) r.1.model.layers, .arr none (.int .i64) r.1.act.data])
def S_StartJob_dec (o : Out) : Option (Job × Bool) := match o with
  | (.tup [.agg [.r [] (.int .i64 z1), .r [] (.int .i64 z2), .r [] (.int .i64 z3), .own 0, .r [] (.int .i64 z5), .r [] (.int .i64 z6), .r [] (.int .i64 z7), .r [] (.int .i64 z8), .own 1, .r [] (.int .i64 z10)], .r [] (.bool z11)], [.arr none (.st .layer) z4, .arr none (.int .i64) z9]) => some ((⟨(⟨(⟨z1, z2, z3⟩ : Shape), z4⟩ : Model), z5, (⟨(⟨z6, z7, z8⟩ : Shape), z9⟩ : Tensor), z10⟩ : Job), z11)
  | _ => none
def S_StartJob_G (k : Nat) : PG := fun _ l K => (S_StartJob_argD l).bind fun a => (S_StartJob k a.1 a.2).bind fun r => K (S_StartJob_enc r)
theorem S_StartJob_ev (k : Nat) (a : Model × Tensor) : ev (E_S_StartJob k) (LP_S_StartJob (Job × Bool) k) 0 c_S_StartJob (st0 Try.f35 (S_StartJob_args a)) (fin Try.prog Try.f35 (.tup [.agg [.sc, .sc, .sc, .own (.st .layer), .sc, .sc, .sc, .sc, .own (.int .i64), .sc], .sc]) S_StartJob_dec) = S_StartJob k a.1 a.2 := by kernel_rfl
theorem S_StartJob_ok (k : Nat) : PureOk Try.prog 35 (S_StartJob_G k) :=
  pureOk_of_ev (E_S_StartJob_ok k) Try.func35 (by kernel_rfl) (by kernel_rfl) S_StartJob_args S_StartJob_argD
    (fun l a h => by unfold S_StartJob_argD at h; split at h <;> first | (cases h; rfl) | cases h) (fun a => rfl) (lpgood_none (by kernel_rfl))
    (fun o r h => by unfold S_StartJob_dec at h; split at h <;> first | (cases h; rfl) | cases h) (S_StartJob_ev k)
def o_S_StartJob (k : Nat) : Orc := pureOrc [.agg [(.int .i64), (.int .i64), (.int .i64), (.sl (.st .layer))], .agg [(.int .i64), (.int .i64), (.int .i64), (.sl (.int .i64))]] (S_StartJob_G k)
theorem o_S_StartJob_ok (k : Nat) : OrcOk Try.prog 35 (o_S_StartJob k) := pureOrc_ok (S_StartJob_ok k)
/-! ### 107 loop.example/g00778/impl.in -/
noncomputable def E_I_in (k : Nat) : Env := { P := Try.prog, tt := tt, orc := fun g => noOrc }
theorem E_I_in_ok (k : Nat) : EnvOk (E_I_in k) := fun g => (noOrc_ok _ _)
noncomputable def c_I_in : Code := (Try.f107.body).getD .skip
def LP_I_in (ρ : Type) (k : Nat) : Nat → Ev ρ → Ev ρ := fun _ _ _ _ => none
def I_in_args (a : Int × Int × Int) : List Arg := [.one (.int .i64 a.1), .one (.int .i64 a.2.1), .one (.int .i64 a.2.2)]
def I_in_argD (l : List Arg) : Option (Int × Int × Int) := match l with
  | [.one (.int .i64 b0), .one (.int .i64 b1), .one (.int .i64 b2)] => some (b0, b1, b2)
  | _ => none
def I_in_enc (r : Bool) : Out := (.r [] (.bool r), [])
def I_in_dec (o : Out) : Option (Bool) := match o with
  | (.r [] (.bool z1), []) => some z1
  | _ => none
def I_in_G (k : Nat) : PG := fun _ l K => (I_in_argD l).bind fun a => (I_in k a.1 a.2.1 a.2.2).bind fun r => K (I_in_enc r)
theorem I_in_ev (k : Nat) (a : Int × Int × Int) : ev (E_I_in k) (LP_I_in (Bool) k) 0 c_I_in (st0 Try.f107 (I_in_args a)) (fin Try.prog Try.f107 (.sc) I_in_dec) = I_in k a.1 a.2.1 a.2.2 := by kernel_rfl
theorem I_in_ok (k : Nat) : PureOk Try.prog 107 (I_in_G k) :=
  pureOk_of_ev (E_I_in_ok k) Try.func107 (by kernel_rfl) (by kernel_rfl) I_in_args I_in_argD
    (fun l a h => by unfold I_in_argD at h; split at h <;> first | (cases h; rfl) | cases h) (fun a => rfl) (lpgood_none (by kernel_rfl))
    (fun o r h => by unfold I_in_dec at h; split at h <;> first | (cases h; rfl) | cases h) (I_in_ev k)
def o_I_in (k : Nat) : Orc := pureOrc [.one (.int .i64), .one (.int .i64), .one (.int .i64)] (I_in_G k)
theorem o_I_in_ok (k : Nat) : OrcOk Try.prog 107 (o_I_in k) := pureOrc_ok (I_in_ok k)
/-! ### 160 loop.example/g00778/impl.ShapeOk -/
noncomputable def E_I_ShapeOk (k : Nat) : Env := { P := Try.prog, tt := tt, orc := fun g => cond (Nat.beq g 107) (o_I_in k) (noOrc) }
theorem E_I_ShapeOk_ok (k : Nat) : EnvOk (E_I_ShapeOk k) := fun g => (orc_cond (o_I_in_ok k) (noOrc_ok _ _))
noncomputable def c_I_ShapeOk : Code := (Try.f160.body).getD .skip
def LP_I_ShapeOk (ρ : Type) (k : Nat) : Nat → Ev ρ → Ev ρ := fun _ _ _ _ => none
def I_ShapeOk_args (a : Shape) : List Arg := [.agg [.int .i64 a.h, .int .i64 a.w, .int .i64 a.c]]
def I_ShapeOk_argD (l : List Arg) : Option (Shape) := match l with
  | [.agg [.int .i64 b0_0, .int .i64 b0_1, .int .i64 b0_2]] => some (⟨b0_0, b0_1, b0_2⟩ : Shape)
  | _ => none
def I_ShapeOk_enc (r : Bool) : Out := (.r [] (.bool r), [])
def I_ShapeOk_dec (o : Out) : Option (Bool) := match o with
  | (.r [] (.bool z1), []) => some z1
  | _ => none
def I_ShapeOk_G (k : Nat) : PG := fun _ l K => (I_ShapeOk_argD l).bind fun a => (I_ShapeOk k a).bind fun r => K (I_ShapeOk_enc r)
theorem I_ShapeOk_ev (k : Nat) (a : Shape) : ev (E_I_ShapeOk k) (LP_I_ShapeOk (Bool) k) 0 c_I_ShapeOk (st0 Try.f160 (I_ShapeOk_args a)) (fin Try.prog Try.f160 (.sc) I_ShapeOk_dec) = I_ShapeOk k a := by kernel_rfl
theorem I_ShapeOk_ok (k : Nat) : PureOk Try.prog 160 (I_ShapeOk_G k) :=
  pureOk_of_ev (E_I_ShapeOk_ok k) Try.func160 (by kernel_rfl) (by kernel_rfl) I_ShapeOk_args I_ShapeOk_argD
    (fun l a h => by unfold I_ShapeOk_argD at h; split at h <;> first | (cases h; rfl) | cases h) (fun a => rfl) (lpgood_none (by kernel_rfl))
    (fun o r h => by unfold I_ShapeOk_dec at h; split at h <;> first | (cases h; rfl) | cases h) (I_ShapeOk_ev k)
def o_I_ShapeOk (k : Nat) : Orc := pureOrc [.agg [(.int .i64), (.int .i64), (.int .i64)]] (I_ShapeOk_G k)
theorem o_I_ShapeOk_ok (k : Nat) : OrcOk Try.prog 160 (o_I_ShapeOk k) := pureOrc_ok (I_ShapeOk_ok k)
/-! ### 161 loop.example/g00778/impl.SizeOf -/
noncomputable def E_I_SizeOf (k : Nat) : Env := { P := Try.prog, tt := tt, orc := fun g => cond (Nat.beq g 160) (o_I_ShapeOk k) (noOrc) }
theorem E_I_SizeOf_ok (k : Nat) : EnvOk (E_I_SizeOf k) := fun g => (orc_cond (o_I_ShapeOk_ok k) (noOrc_ok _ _))
noncomputable def c_I_SizeOf : Code := (Try.f161.body).getD .skip
def LP_I_SizeOf (ρ : Type) (k : Nat) : Nat → Ev ρ → Ev ρ := fun _ _ _ _ => none
def I_SizeOf_args (a : Shape) : List Arg := [.agg [.int .i64 a.h, .int .i64 a.w, .int .i64 a.c]]
def I_SizeOf_argD (l : List Arg) : Option (Shape) := match l with
  | [.agg [.int .i64 b0_0, .int .i64 b0_1, .int .i64 b0_2]] => some (⟨b0_0, b0_1, b0_2⟩ : Shape)
  | _ => none
def I_SizeOf_enc (r : Int) : Out := (.r [] (.int .i64 r), [])
def I_SizeOf_dec (o : Out) : Option (Int) := match o with
  | (.r [] (.int .i64 z1), []) => some z1
  | _ => none
def I_SizeOf_G (k : Nat) : PG := fun _ l K => (I_SizeOf_argD l).bind fun a => (I_SizeOf k a).bind fun r => K (I_SizeOf_enc r)
theorem I_SizeOf_ev (k : Nat) (a : Shape) : ev (E_I_SizeOf k) (LP_I_SizeOf (Int) k) 0 c_I_SizeOf (st0 Try.f161 (I_SizeOf_args a)) (fin Try.prog Try.f161 (.sc) I_SizeOf_dec) = I_SizeOf k a := by kernel_rfl
theorem I_SizeOf_ok (k : Nat) : PureOk Try.prog 161 (I_SizeOf_G k) :=
  pureOk_of_ev (E_I_SizeOf_ok k) Try.func161 (by kernel_rfl) (by kernel_rfl) I_SizeOf_args I_SizeOf_argD
    (fun l a h => by unfold I_SizeOf_argD at h; split at h <;> first | (cases h; rfl) | cases h) (fun a => rfl) (lpgood_none (by kernel_rfl))
    (fun o r h => by unfold I_SizeOf_dec at h; split at h <;> first | (cases h; rfl) | cases h) (I_SizeOf_ev k)
def o_I_SizeOf (k : Nat) : Orc := pureOrc [.agg [(.int .i64), (.int .i64), (.int .i64)]] (I_SizeOf_G k)
theorem o_I_SizeOf_ok (k : Nat) : OrcOk Try.prog 161 (o_I_SizeOf k) := pureOrc_ok (I_SizeOf_ok k)
/-! ### 165 (loop.example/g00778/impl.Layer).hasNone -/
noncomputable def E_I_Layer_hasNone (k : Nat) : Env := { P := Try.prog, tt := tt, orc := fun g => noOrc }
theorem E_I_Layer_hasNone_ok (k : Nat) : EnvOk (E_I_Layer_hasNone k) := fun g => (noOrc_ok _ _)
noncomputable def c_I_Layer_hasNone : Code := (Try.f165.body).getD .skip
def LP_I_Layer_hasNone (ρ : Type) (k : Nat) : Nat → Ev ρ → Ev ρ := fun _ _ _ _ => none
def I_Layer_hasNone_args (a : Layer) : List Arg := [.agg [.int .i64 a.kind, .int .i64 a.out, .int .i64 a.size, .int .i64 a.step, .int .i64 a.mult, .int .i64 a.shift, .int .i64 a.zero, .sl (.int .i64) a.weights, .sl (.int .i64) a.bias]]
def I_Layer_hasNone_argD (l : List Arg) : Option (Layer) := match l with
  | [.agg [.int .i64 b0_0, .int .i64 b0_1, .int .i64 b0_2, .int .i64 b0_3, .int .i64 b0_4, .int .i64 b0_5, .int .i64 b0_6, .sl (.int .i64) b0_7, .sl (.int .i64) b0_8]] => some (⟨b0_0, b0_1, b0_2, b0_3, b0_4, b0_5, b0_6, b0_7, b0_8⟩ : Layer)
  | _ => none
def I_Layer_hasNone_enc (r : Bool) : Out := (.r [] (.bool r), [])
def I_Layer_hasNone_dec (o : Out) : Option (Bool) := match o with
  | (.r [] (.bool z1), []) => some z1
  | _ => none
def I_Layer_hasNone_G (k : Nat) : PG := fun _ l K => (I_Layer_hasNone_argD l).bind fun a => (I_Layer_hasNone k a).bind fun r => K (I_Layer_hasNone_enc r)
theorem I_Layer_hasNone_ev (k : Nat) (a : Layer) : ev (E_I_Layer_hasNone k) (LP_I_Layer_hasNone (Bool) k) 0 c_I_Layer_hasNone (st0 Try.f165 (I_Layer_hasNone_args a)) (fin Try.prog Try.f165 (.sc) I_Layer_hasNone_dec) = I_Layer_hasNone k a := by kernel_rfl
theorem I_Layer_hasNone_ok (k : Nat) : PureOk Try.prog 165 (I_Layer_hasNone_G k) :=
  pureOk_of_ev (E_I_Layer_hasNone_ok k) Try.func165 (by kernel_rfl) (by kernel_rfl) I_Layer_hasNone_args I_Layer_hasNone_argD
    (fun l a h => by unfold I_Layer_hasNone_argD at h; split at h <;> first | (cases h; rfl) | cases h) (fun a => rfl) (lpgood_none (by kernel_rfl))
    (fun o r h => by unfold I_Layer_hasNone_dec at h; split at h <;> first | (cases h; rfl) | cases h) (I_Layer_hasNone_ev k)
def o_I_Layer_hasNone (k : Nat) : Orc := pureOrc [.agg [(.int .i64), (.int .i64), (.int .i64), (.int .i64), (.int .i64), (.int .i64), (.int .i64), (.sl (.int .i64)), (.sl (.int .i64))]] (I_Layer_hasNone_G k)
theorem o_I_Layer_hasNone_ok (k : Nat) : OrcOk Try.prog 165 (o_I_Layer_hasNone k) := pureOrc_ok (I_Layer_hasNone_ok k)
/-! ### 174 loop.example/g00778/impl.areItems$1 -/
noncomputable def E_I_areItems_c1 (k : Nat) : Env := { P := Try.prog, tt := tt, orc := fun g => cond (Nat.beq g 107) (o_I_in k) (noOrc) }
theorem E_I_areItems_c1_ok (k : Nat) : EnvOk (E_I_areItems_c1 k) := fun g => (orc_cond (o_I_in_ok k) (noOrc_ok _ _))
noncomputable def c_I_areItems_c1 : Code := (Try.f174.body).getD .skip
def LP_I_areItems_c1 (ρ : Type) (k : Nat) : Nat → Ev ρ → Ev ρ := fun _ _ _ _ => none
def I_areItems_c1_args (a : Int) : List Arg := [.one (.int .i64 a)]
def I_areItems_c1_argD (l : List Arg) : Option (Int) := match l with
  | [.one (.int .i64 b0)] => some b0
  | _ => none
def I_areItems_c1_enc (r : Bool) : Out := (.r [] (.bool r), [])
def I_areItems_c1_dec (o : Out) : Option (Bool) := match o with
  | (.r [] (.bool z1), []) => some z1
  | _ => none
def I_areItems_c1_G (k : Nat) : PG := fun _ l K => (I_areItems_c1_argD l).bind fun a => (I_areItems_c1 k a).bind fun r => K (I_areItems_c1_enc r)
theorem I_areItems_c1_ev (k : Nat) (a : Int) : ev (E_I_areItems_c1 k) (LP_I_areItems_c1 (Bool) k) 0 c_I_areItems_c1 (st0 Try.f174 (I_areItems_c1_args a)) (fin Try.prog Try.f174 (.sc) I_areItems_c1_dec) = I_areItems_c1 k a := by kernel_rfl
theorem I_areItems_c1_ok (k : Nat) : PureOk Try.prog 174 (I_areItems_c1_G k) :=
  pureOk_of_ev (E_I_areItems_c1_ok k) Try.func174 (by kernel_rfl) (by kernel_rfl) I_areItems_c1_args I_areItems_c1_argD
    (fun l a h => by unfold I_areItems_c1_argD at h; split at h <;> first | (cases h; rfl) | cases h) (fun a => rfl) (lpgood_none (by kernel_rfl))
    (fun o r h => by unfold I_areItems_c1_dec at h; split at h <;> first | (cases h; rfl) | cases h) (I_areItems_c1_ev k)
def o_I_areItems_c1 (k : Nat) : Orc := pureOrc [.one (.int .i64)] (I_areItems_c1_G k)
theorem o_I_areItems_c1_ok (k : Nat) : OrcOk Try.prog 174 (o_I_areItems_c1 k) := pureOrc_ok (I_areItems_c1_ok k)
/-! ### 149 slices.IndexFunc[[]int,int] -/
noncomputable def E_slices_IndexFunc_lint_int__I_areItems_c1 (k : Nat) : Env := { P := Try.prog, tt := tt, orc := fun g => cond (Nat.beq g 174) (o_I_areItems_c1 k) (noOrc) }
theorem E_slices_IndexFunc_lint_int__I_areItems_c1_ok (k : Nat) : EnvOk (E_slices_IndexFunc_lint_int__I_areItems_c1 k) := fun g => (orc_cond (o_I_areItems_c1_ok k) (noOrc_ok _ _))
noncomputable def c_slices_IndexFunc_lint_int__I_areItems_c1 : Code := (Try.f149.body).getD .skip
noncomputable def b_slices_IndexFunc_lint_int__I_areItems_c1_0 : Code := ((loopsIn 0 c_slices_IndexFunc_lint_int__I_areItems_c1).getD 0 (0, .skip)).2
def slices_IndexFunc_lint_int__I_areItems_c1_g0_keep : List Nat := [0, 1, 7, 8]
def slices_IndexFunc_lint_int__I_areItems_c1_g0_co : List (Where × Co) := []
def slices_IndexFunc_lint_int__I_areItems_c1_g0_kx : Ex → List Nat
  | .exit j => cond (Nat.beq j 0) [] []
  | .ret => [4]
  | .normal => []
def slices_IndexFunc_lint_int__I_areItems_c1_g0_cx : Ex → List (Where × Co)
  | .exit j => cond (Nat.beq j 0) [] []
  | .ret => []
  | .normal => []
def slices_IndexFunc_lint_int__I_areItems_c1_g0_tm (pv : (List Int × Int) × (Int)) : St := { slots := [(0, .r [] (.sl (.int .i64) pv.1.1)), (1, .fn (.func 174) [] []), (7, .r [] (.int .i64 pv.1.2)), (8, .r [] (.int .i64 pv.2))], heap := [], nid := 0, n := 19, gh := [] }
def slices_IndexFunc_lint_int__I_areItems_c1_g0_dec (nf : NF) : Option ((List Int × Int) × (Int)) := match nf with
  | ([.r [] (.sl (.int .i64) w0), .fn (.func 174) [] [], .r [] (.int .i64 w1), .r [] (.int .i64 w2)], [], []) => some ((w0, w1), w2)
  | _ => none
theorem slices_IndexFunc_lint_int__I_areItems_c1_g0_hd (nf : NF) (v : (List Int × Int) × (Int)) (h : slices_IndexFunc_lint_int__I_areItems_c1_g0_dec nf = some v) : denorm slices_IndexFunc_lint_int__I_areItems_c1_g0_keep 19 nf = slices_IndexFunc_lint_int__I_areItems_c1_g0_tm v := by
  unfold slices_IndexFunc_lint_int__I_areItems_c1_g0_dec at h
  split at h
  · cases h; rfl
  · cases h
def slices_IndexFunc_lint_int__I_areItems_c1_g0_x0 (p : List Int × Int) (x : Unit) : St := { slots := [], heap := [], nid := 0, n := 19, gh := [] }
def slices_IndexFunc_lint_int__I_areItems_c1_g0_xret (p : List Int × Int) (x : Int) : St := { slots := [(4, .r [] (.int .i64 x))], heap := [], nid := 0, n := 19, gh := [] }
def LP_slices_IndexFunc_lint_int__I_areItems_c1 (ρ : Type) (k : Nat) : Nat → Ev ρ → Ev ρ := fun id f => cond (Nat.beq id 0) (loopOrc slices_IndexFunc_lint_int__I_areItems_c1_g0_keep slices_IndexFunc_lint_int__I_areItems_c1_g0_co (fun n nf => cond (Nat.beq n 19) (slices_IndexFunc_lint_int__I_areItems_c1_g0_dec nf) none) fun pv K => iter (fun v next => slices_IndexFunc_lint_int__I_areItems_c1_g0 k pv.1 v next (fun x => K (.exit 0) (slices_IndexFunc_lint_int__I_areItems_c1_g0_x0 pv.1 x)) (fun x => K .ret (slices_IndexFunc_lint_int__I_areItems_c1_g0_xret pv.1 x))) k pv.2) ((fun _ _ _ _ => none) id f)
theorem slices_IndexFunc_lint_int__I_areItems_c1_g0_round {ρ : Type} (k : Nat) (p : List Int × Int) (v : Int) (K K1 : Ex → St → Option ρ) : ev (E_slices_IndexFunc_lint_int__I_areItems_c1 k) (LP_slices_IndexFunc_lint_int__I_areItems_c1 ρ k) 0 b_slices_IndexFunc_lint_int__I_areItems_c1_0 (slices_IndexFunc_lint_int__I_areItems_c1_g0_tm (p, v)) (fun e st' => match e with
    | .normal => (normC slices_IndexFunc_lint_int__I_areItems_c1_g0_keep slices_IndexFunc_lint_int__I_areItems_c1_g0_co st').bind fun nf => K1 .normal (denorm slices_IndexFunc_lint_int__I_areItems_c1_g0_keep st'.n nf)
    | e => (normC (slices_IndexFunc_lint_int__I_areItems_c1_g0_kx e) (slices_IndexFunc_lint_int__I_areItems_c1_g0_cx e) st').bind fun nf => K e (denorm (slices_IndexFunc_lint_int__I_areItems_c1_g0_kx e) st'.n nf)) = slices_IndexFunc_lint_int__I_areItems_c1_g0 k p v (fun v' => K1 .normal (slices_IndexFunc_lint_int__I_areItems_c1_g0_tm (p, v'))) (fun x => K (.exit 0) (slices_IndexFunc_lint_int__I_areItems_c1_g0_x0 p x)) (fun x => K .ret (slices_IndexFunc_lint_int__I_areItems_c1_g0_xret p x)) := by kernel_rfl
theorem slices_IndexFunc_lint_int__I_areItems_c1_g0_ok {ρ : Type} (k : Nat) : Sound Try.prog (.loop b_slices_IndexFunc_lint_int__I_areItems_c1_0) (LP_slices_IndexFunc_lint_int__I_areItems_c1 ρ k 0 fun st K => ev (E_slices_IndexFunc_lint_int__I_areItems_c1 k) (LP_slices_IndexFunc_lint_int__I_areItems_c1 ρ k) 0 b_slices_IndexFunc_lint_int__I_areItems_c1_0 st K) :=
  loop_ok (ev_sound (E_slices_IndexFunc_lint_int__I_areItems_c1_ok k) b_slices_IndexFunc_lint_int__I_areItems_c1_0 0 (lpgood_none (by kernel_rfl))) slices_IndexFunc_lint_int__I_areItems_c1_g0_kx slices_IndexFunc_lint_int__I_areItems_c1_g0_cx k (g := fun p v next K => slices_IndexFunc_lint_int__I_areItems_c1_g0 k p v next (fun x => K (.exit 0) (slices_IndexFunc_lint_int__I_areItems_c1_g0_x0 p x)) (fun x => K .ret (slices_IndexFunc_lint_int__I_areItems_c1_g0_xret p x))) (dec_at slices_IndexFunc_lint_int__I_areItems_c1_g0_hd) (fun p v K K1 => slices_IndexFunc_lint_int__I_areItems_c1_g0_round k p v K K1)
def slices_IndexFunc_lint_int__I_areItems_c1_args (a : List Int) : List Arg := [.one (.sl (.int .i64) a), .fn (.func 174) [] []]
def slices_IndexFunc_lint_int__I_areItems_c1_argD (l : List Arg) : Option (List Int) := match l with
  | [.one (.sl (.int .i64) b0), .fn (.func 174) [] []] => some b0
  | _ => none
def slices_IndexFunc_lint_int__I_areItems_c1_enc (r : Int) : Out := (.r [] (.int .i64 r), [])
def slices_IndexFunc_lint_int__I_areItems_c1_dec (o : Out) : Option (Int) := match o with
  | (.r [] (.int .i64 z1), []) => some z1
  | _ => none
def slices_IndexFunc_lint_int__I_areItems_c1_G (k : Nat) : PG := fun _ l K => (slices_IndexFunc_lint_int__I_areItems_c1_argD l).bind fun a => (slices_IndexFunc_lint_int__I_areItems_c1 k a).bind fun r => K (slices_IndexFunc_lint_int__I_areItems_c1_enc r)
theorem slices_IndexFunc_lint_int__I_areItems_c1_ev (k : Nat) (a : List Int) : ev (E_slices_IndexFunc_lint_int__I_areItems_c1 k) (LP_slices_IndexFunc_lint_int__I_areItems_c1 (Int) k) 0 c_slices_IndexFunc_lint_int__I_areItems_c1 (st0 Try.f149 (slices_IndexFunc_lint_int__I_areItems_c1_args a)) (fin Try.prog Try.f149 (.sc) slices_IndexFunc_lint_int__I_areItems_c1_dec) = slices_IndexFunc_lint_int__I_areItems_c1 k a := by kernel_rfl
theorem slices_IndexFunc_lint_int__I_areItems_c1_ok (k : Nat) : PureOk Try.prog 149 (slices_IndexFunc_lint_int__I_areItems_c1_G k) :=
  pureOk_of_ev (E_slices_IndexFunc_lint_int__I_areItems_c1_ok k) Try.func149 (by kernel_rfl) (by kernel_rfl) slices_IndexFunc_lint_int__I_areItems_c1_args slices_IndexFunc_lint_int__I_areItems_c1_argD
    (fun l a h => by unfold slices_IndexFunc_lint_int__I_areItems_c1_argD at h; split at h <;> first | (cases h; rfl) | cases h) (fun a => rfl) (lpgood_of (l := [(0, b_slices_IndexFunc_lint_int__I_areItems_c1_0)]) (by kernel_rfl) ⟨slices_IndexFunc_lint_int__I_areItems_c1_g0_ok k, trivial⟩)
    (fun o r h => by unfold slices_IndexFunc_lint_int__I_areItems_c1_dec at h; split at h <;> first | (cases h; rfl) | cases h) (slices_IndexFunc_lint_int__I_areItems_c1_ev k)
def o_slices_IndexFunc_lint_int__I_areItems_c1 (k : Nat) : Orc := pureOrc [.one (.sl (.int .i64)), .fn] (slices_IndexFunc_lint_int__I_areItems_c1_G k)
theorem o_slices_IndexFunc_lint_int__I_areItems_c1_ok (k : Nat) : OrcOk Try.prog 149 (o_slices_IndexFunc_lint_int__I_areItems_c1 k) := pureOrc_ok (slices_IndexFunc_lint_int__I_areItems_c1_ok k)
/-! ### 118 slices.ContainsFunc[[]int,int] -/
noncomputable def E_slices_ContainsFunc_lint_int__I_areItems_c1 (k : Nat) : Env := { P := Try.prog, tt := tt, orc := fun g => cond (Nat.beq g 149) (o_slices_IndexFunc_lint_int__I_areItems_c1 k) (noOrc) }
theorem E_slices_ContainsFunc_lint_int__I_areItems_c1_ok (k : Nat) : EnvOk (E_slices_ContainsFunc_lint_int__I_areItems_c1 k) := fun g => (orc_cond (o_slices_IndexFunc_lint_int__I_areItems_c1_ok k) (noOrc_ok _ _))
noncomputable def c_slices_ContainsFunc_lint_int__I_areItems_c1 : Code := (Try.f118.body).getD .skip
def LP_slices_ContainsFunc_lint_int__I_areItems_c1 (ρ : Type) (k : Nat) : Nat → Ev ρ → Ev ρ := fun _ _ _ _ => none
def slices_ContainsFunc_lint_int__I_areItems_c1_args (a : List Int) : List Arg := [.one (.sl (.int .i64) a), .fn (.func 174) [] []]
def slices_ContainsFunc_lint_int__I_areItems_c1_argD (l : List Arg) : Option (List Int) := match l with
  | [.one (.sl (.int .i64) b0), .fn (.func 174) [] []] => some b0
  | _ => none
def slices_ContainsFunc_lint_int__I_areItems_c1_enc (r : Bool) : Out := (.r [] (.bool r), [])
def slices_ContainsFunc_lint_int__I_areItems_c1_dec (o : Out) : Option (Bool) := match o with
  | (.r [] (.bool z1), []) => some z1
  | _ => none
def slices_ContainsFunc_lint_int__I_areItems_c1_G (k : Nat) : PG := fun _ l K => (slices_ContainsFunc_lint_int__I_areItems_c1_argD l).bind fun a => (slices_ContainsFunc_lint_int__I_areItems_c1 k a).bind fun r => K (slices_ContainsFunc_lint_int__I_areItems_c1_enc r)
theorem slices_ContainsFunc_lint_int__I_areItems_c1_ev (k : Nat) (a : List Int) : ev (E_slices_ContainsFunc_lint_int__I_areItems_c1 k) (LP_slices_ContainsFunc_lint_int__I_areItems_c1 (Bool) k) 0 c_slices_ContainsFunc_lint_int__I_areItems_c1 (st0 Try.f118 (slices_ContainsFunc_lint_int__I_areItems_c1_args a)) (fin Try.prog Try.f118 (.sc) slices_ContainsFunc_lint_int__I_areItems_c1_dec) = slices_ContainsFunc_lint_int__I_areItems_c1 k a := by kernel_rfl
theorem slices_ContainsFunc_lint_int__I_areItems_c1_ok (k : Nat) : PureOk Try.prog 118 (slices_ContainsFunc_lint_int__I_areItems_c1_G k) :=
  pureOk_of_ev (E_slices_ContainsFunc_lint_int__I_areItems_c1_ok k) Try.func118 (by kernel_rfl) (by kernel_rfl) slices_ContainsFunc_lint_int__I_areItems_c1_args slices_ContainsFunc_lint_int__I_areItems_c1_argD
    (fun l a h => by unfold slices_ContainsFunc_lint_int__I_areItems_c1_argD at h; split at h <;> first | (cases h; rfl) | cases h) (fun a => rfl) (lpgood_none (by kernel_rfl))
    (fun o r h => by unfold slices_ContainsFunc_lint_int__I_areItems_c1_dec at h; split at h <;> first | (cases h; rfl) | cases h) (slices_ContainsFunc_lint_int__I_areItems_c1_ev k)
def o_slices_ContainsFunc_lint_int__I_areItems_c1 (k : Nat) : Orc := pureOrc [.one (.sl (.int .i64)), .fn] (slices_ContainsFunc_lint_int__I_areItems_c1_G k)
theorem o_slices_ContainsFunc_lint_int__I_areItems_c1_ok (k : Nat) : OrcOk Try.prog 118 (o_slices_ContainsFunc_lint_int__I_areItems_c1 k) := pureOrc_ok (slices_ContainsFunc_lint_int__I_areItems_c1_ok k)
/-! ### 162 loop.example/g00778/impl.areItems -/
noncomputable def E_I_areItems (k : Nat) : Env := { P := Try.prog, tt := tt, orc := fun g => cond (Nat.beq g 118) (o_slices_ContainsFunc_lint_int__I_areItems_c1 k) (noOrc) }
theorem E_I_areItems_ok (k : Nat) : EnvOk (E_I_areItems k) := fun g => (orc_cond (o_slices_ContainsFunc_lint_int__I_areItems_c1_ok k) (noOrc_ok _ _))
noncomputable def c_I_areItems : Code := (Try.f162.body).getD .skip
def LP_I_areItems (ρ : Type) (k : Nat) : Nat → Ev ρ → Ev ρ := fun _ _ _ _ => none
def I_areItems_args (a : List Int) : List Arg := [.one (.sl (.int .i64) a)]
def I_areItems_argD (l : List Arg) : Option (List Int) := match l with
  | [.one (.sl (.int .i64) b0)] => some b0
  | _ => none
def I_areItems_enc (r : Bool) : Out := (.r [] (.bool r), [])
def I_areItems_dec (o : Out) : Option (Bool) := match o with
  | (.r [] (.bool z1), []) => some z1
  | _ => none
def I_areItems_G (k : Nat) : PG := fun _ l K => (I_areItems_argD l).bind fun a => (I_areItems k a).bind fun r => K (I_areItems_enc r)
theorem I_areItems_ev (k : Nat) (a : List Int) : ev (E_I_areItems k) (LP_I_areItems (Bool) k) 0 c_I_areItems (st0 Try.f162 (I_areItems_args a)) (fin Try.prog Try.f162 (.sc) I_areItems_dec) = I_areItems k a := by kernel_rfl
theorem I_areItems_ok (k : Nat) : PureOk Try.prog 162 (I_areItems_G k) :=
  pureOk_of_ev (E_I_areItems_ok k) Try.func162 (by kernel_rfl) (by kernel_rfl) I_areItems_args I_areItems_argD
    (fun l a h => by unfold I_areItems_argD at h; split at h <;> first | (cases h; rfl) | cases h) (fun a => rfl) (lpgood_none (by kernel_rfl))
    (fun o r h => by unfold I_areItems_dec at h; split at h <;> first | (cases h; rfl) | cases h) (I_areItems_ev k)
def o_I_areItems (k : Nat) : Orc := pureOrc [.one (.sl (.int .i64))] (I_areItems_G k)
theorem o_I_areItems_ok (k : Nat) : OrcOk Try.prog 162 (o_I_areItems k) := pureOrc_ok (I_areItems_ok k)
/-! ### 185 (loop.example/g00778/impl.Layer).isScaled$1 -/
noncomputable def E_I_Layer_isScaled_c1 (k : Nat) : Env := { P := Try.prog, tt := tt, orc := fun g => cond (Nat.beq g 107) (o_I_in k) (noOrc) }
theorem E_I_Layer_isScaled_c1_ok (k : Nat) : EnvOk (E_I_Layer_isScaled_c1 k) := fun g => (orc_cond (o_I_in_ok k) (noOrc_ok _ _))
noncomputable def c_I_Layer_isScaled_c1 : Code := (Try.f185.body).getD .skip
def LP_I_Layer_isScaled_c1 (ρ : Type) (k : Nat) : Nat → Ev ρ → Ev ρ := fun _ _ _ _ => none
def I_Layer_isScaled_c1_args (a : Int) : List Arg := [.one (.int .i64 a)]
def I_Layer_isScaled_c1_argD (l : List Arg) : Option (Int) := match l with
  | [.one (.int .i64 b0)] => some b0
  | _ => none
def I_Layer_isScaled_c1_enc (r : Bool) : Out := (.r [] (.bool r), [])
def I_Layer_isScaled_c1_dec (o : Out) : Option (Bool) := match o with
  | (.r [] (.bool z1), []) => some z1
  | _ => none
def I_Layer_isScaled_c1_G (k : Nat) : PG := fun _ l K => (I_Layer_isScaled_c1_argD l).bind fun a => (I_Layer_isScaled_c1 k a).bind fun r => K (I_Layer_isScaled_c1_enc r)
theorem I_Layer_isScaled_c1_ev (k : Nat) (a : Int) : ev (E_I_Layer_isScaled_c1 k) (LP_I_Layer_isScaled_c1 (Bool) k) 0 c_I_Layer_isScaled_c1 (st0 Try.f185 (I_Layer_isScaled_c1_args a)) (fin Try.prog Try.f185 (.sc) I_Layer_isScaled_c1_dec) = I_Layer_isScaled_c1 k a := by kernel_rfl
theorem I_Layer_isScaled_c1_ok (k : Nat) : PureOk Try.prog 185 (I_Layer_isScaled_c1_G k) :=
  pureOk_of_ev (E_I_Layer_isScaled_c1_ok k) Try.func185 (by kernel_rfl) (by kernel_rfl) I_Layer_isScaled_c1_args I_Layer_isScaled_c1_argD
    (fun l a h => by unfold I_Layer_isScaled_c1_argD at h; split at h <;> first | (cases h; rfl) | cases h) (fun a => rfl) (lpgood_none (by kernel_rfl))
    (fun o r h => by unfold I_Layer_isScaled_c1_dec at h; split at h <;> first | (cases h; rfl) | cases h) (I_Layer_isScaled_c1_ev k)
def o_I_Layer_isScaled_c1 (k : Nat) : Orc := pureOrc [.one (.int .i64)] (I_Layer_isScaled_c1_G k)
theorem o_I_Layer_isScaled_c1_ok (k : Nat) : OrcOk Try.prog 185 (o_I_Layer_isScaled_c1 k) := pureOrc_ok (I_Layer_isScaled_c1_ok k)
/-! ### 149 slices.IndexFunc[[]int,int] -/
noncomputable def E_slices_IndexFunc_lint_int__I_Layer_isScaled_c1 (k : Nat) : Env := { P := Try.prog, tt := tt, orc := fun g => cond (Nat.beq g 185) (o_I_Layer_isScaled_c1 k) (noOrc) }
theorem E_slices_IndexFunc_lint_int__I_Layer_isScaled_c1_ok (k : Nat) : EnvOk (E_slices_IndexFunc_lint_int__I_Layer_isScaled_c1 k) := fun g => (orc_cond (o_I_Layer_isScaled_c1_ok k) (noOrc_ok _ _))
noncomputable def c_slices_IndexFunc_lint_int__I_Layer_isScaled_c1 : Code := (Try.f149.body).getD .skip
noncomputable def b_slices_IndexFunc_lint_int__I_Layer_isScaled_c1_0 : Code := ((loopsIn 0 c_slices_IndexFunc_lint_int__I_Layer_isScaled_c1).getD 0 (0, .skip)).2
def slices_IndexFunc_lint_int__I_Layer_isScaled_c1_g0_keep : List Nat := [0, 1, 7, 8]
def slices_IndexFunc_lint_int__I_Layer_isScaled_c1_g0_co : List (Where × Co) := []
def slices_IndexFunc_lint_int__I_Layer_isScaled_c1_g0_kx : Ex → List Nat
  | .exit j => cond (Nat.beq j 0) [] []
  | .ret => [4]
  | .normal => []
def slices_IndexFunc_lint_int__I_Layer_isScaled_c1_g0_cx : Ex → List (Where × Co)
  | .exit j => cond (Nat.beq j 0) [] []
  | .ret => []
  | .normal => []
def slices_IndexFunc_lint_int__I_Layer_isScaled_c1_g0_tm (pv : (List Int × Int) × (Int)) : St := { slots := [(0, .r [] (.sl (.int .i64) pv.1.1)), (1, .fn (.func 185) [] []), (7, .r [] (.int .i64 pv.1.2)), (8, .r [] (.int .i64 pv.2))], heap := [], nid := 0, n := 19, gh := [] }
def slices_IndexFunc_lint_int__I_Layer_isScaled_c1_g0_dec (nf : NF) : Option ((List Int × Int) × (Int)) := match nf with
  | ([.r [] (.sl (.int .i64) w0), .fn (.func 185) [] [], .r [] (.int .i64 w1), .r [] (.int .i64 w2)], [], []) => some ((w0, w1), w2)
  | _ => none
theorem slices_IndexFunc_lint_int__I_Layer_isScaled_c1_g0_hd (nf : NF) (v : (List Int × Int) × (Int)) (h : slices_IndexFunc_lint_int__I_Layer_isScaled_c1_g0_dec nf = some v) : denorm slices_IndexFunc_lint_int__I_Layer_isScaled_c1_g0_keep 19 nf = slices_IndexFunc_lint_int__I_Layer_isScaled_c1_g0_tm v := by
  unfold slices_IndexFunc_lint_int__I_Layer_isScaled_c1_g0_dec at h
  split at h
  · cases h; rfl
  · cases h
def slices_IndexFunc_lint_int__I_Layer_isScaled_c1_g0_x0 (p : List Int × Int) (x : Unit) : St := { slots := [], heap := [], nid := 0, n := 19, gh := [] }
def slices_IndexFunc_lint_int__I_Layer_isScaled_c1_g0_xret (p : List Int × Int) (x : Int) : St := { slots := [(4, .r [] (.int .i64 x))], heap := [], nid := 0, n := 19, gh := [] }
def LP_slices_IndexFunc_lint_int__I_Layer_isScaled_c1 (ρ : Type) (k : Nat) : Nat → Ev ρ → Ev ρ := fun id f => cond (Nat.beq id 0) (loopOrc slices_IndexFunc_lint_int__I_Layer_isScaled_c1_g0_keep slices_IndexFunc_lint_int__I_Layer_isScaled_c1_g0_co (fun n nf => cond (Nat.beq n 19) (slices_IndexFunc_lint_int__I_Layer_isScaled_c1_g0_dec nf) none) fun pv K => iter (fun v next => slices_IndexFunc_lint_int__I_Layer_isScaled_c1_g0 k pv.1 v next (fun x => K (.exit 0) (slices_IndexFunc_lint_int__I_Layer_isScaled_c1_g0_x0 pv.1 x)) (fun x => K .ret (slices_IndexFunc_lint_int__I_Layer_isScaled_c1_g0_xret pv.1 x))) k pv.2) ((fun _ _ _ _ => none) id f)
theorem slices_IndexFunc_lint_int__I_Layer_isScaled_c1_g0_round {ρ : Type} (k : Nat) (p : List Int × Int) (v : Int) (K K1 : Ex → St → Option ρ) : ev (E_slices_IndexFunc_lint_int__I_Layer_isScaled_c1 k) (LP_slices_IndexFunc_lint_int__I_Layer_isScaled_c1 ρ k) 0 b_slices_IndexFunc_lint_int__I_Layer_isScaled_c1_0 (slices_IndexFunc_lint_int__I_Layer_isScaled_c1_g0_tm (p, v)) (fun e st' => match e with
    | .normal => (normC slices_IndexFunc_lint_int__I_Layer_isScaled_c1_g0_keep slices_IndexFunc_lint_int__I_Layer_isScaled_c1_g0_co st').bind fun nf => K1 .normal (denorm slices_IndexFunc_lint_int__I_Layer_isScaled_c1_g0_keep st'.n nf)
    | e => (normC (slices_IndexFunc_lint_int__I_Layer_isScaled_c1_g0_kx e) (slices_IndexFunc_lint_int__I_Layer_isScaled_c1_g0_cx e) st').bind fun nf => K e (denorm (slices_IndexFunc_lint_int__I_Layer_isScaled_c1_g0_kx e) st'.n nf)) = slices_IndexFunc_lint_int__I_Layer_isScaled_c1_g0 k p v (fun v' => K1 .normal (slices_IndexFunc_lint_int__I_Layer_isScaled_c1_g0_tm (p, v'))) (fun x => K (.exit 0) (slices_IndexFunc_lint_int__I_Layer_isScaled_c1_g0_x0 p x)) (fun x => K .ret (slices_IndexFunc_lint_int__I_Layer_isScaled_c1_g0_xret p x)) := by kernel_rfl
theorem slices_IndexFunc_lint_int__I_Layer_isScaled_c1_g0_ok {ρ : Type} (k : Nat) : Sound Try.prog (.loop b_slices_IndexFunc_lint_int__I_Layer_isScaled_c1_0) (LP_slices_IndexFunc_lint_int__I_Layer_isScaled_c1 ρ k 0 fun st K => ev (E_slices_IndexFunc_lint_int__I_Layer_isScaled_c1 k) (LP_slices_IndexFunc_lint_int__I_Layer_isScaled_c1 ρ k) 0 b_slices_IndexFunc_lint_int__I_Layer_isScaled_c1_0 st K) :=
  loop_ok (ev_sound (E_slices_IndexFunc_lint_int__I_Layer_isScaled_c1_ok k) b_slices_IndexFunc_lint_int__I_Layer_isScaled_c1_0 0 (lpgood_none (by kernel_rfl))) slices_IndexFunc_lint_int__I_Layer_isScaled_c1_g0_kx slices_IndexFunc_lint_int__I_Layer_isScaled_c1_g0_cx k (g := fun p v next K => slices_IndexFunc_lint_int__I_Layer_isScaled_c1_g0 k p v next (fun x => K (.exit 0) (slices_IndexFunc_lint_int__I_Layer_isScaled_c1_g0_x0 p x)) (fun x => K .ret (slices_IndexFunc_lint_int__I_Layer_isScaled_c1_g0_xret p x))) (dec_at slices_IndexFunc_lint_int__I_Layer_isScaled_c1_g0_hd) (fun p v K K1 => slices_IndexFunc_lint_int__I_Layer_isScaled_c1_g0_round k p v K K1)
def slices_IndexFunc_lint_int__I_Layer_isScaled_c1_args (a : List Int) : List Arg := [.one (.sl (.int .i64) a), .fn (.func 185) [] []]
def slices_IndexFunc_lint_int__I_Layer_isScaled_c1_argD (l : List Arg) : Option (List Int) := match l with
  | [.one (.sl (.int .i64) b0), .fn (.func 185) [] []] => some b0
  | _ => none
def slices_IndexFunc_lint_int__I_Layer_isScaled_c1_enc (r : Int) : Out := (.r [] (.int .i64 r), [])
def slices_IndexFunc_lint_int__I_Layer_isScaled_c1_dec (o : Out) : Option (Int) := match o with
  | (.r [] (.int .i64 z1), []) => some z1
  | _ => none
def slices_IndexFunc_lint_int__I_Layer_isScaled_c1_G (k : Nat) : PG := fun _ l K => (slices_IndexFunc_lint_int__I_Layer_isScaled_c1_argD l).bind fun a => (slices_IndexFunc_lint_int__I_Layer_isScaled_c1 k a).bind fun r => K (slices_IndexFunc_lint_int__I_Layer_isScaled_c1_enc r)
theorem slices_IndexFunc_lint_int__I_Layer_isScaled_c1_ev (k : Nat) (a : List Int) : ev (E_slices_IndexFunc_lint_int__I_Layer_isScaled_c1 k) (LP_slices_IndexFunc_lint_int__I_Layer_isScaled_c1 (Int) k) 0 c_slices_IndexFunc_lint_int__I_Layer_isScaled_c1 (st0 Try.f149 (slices_IndexFunc_lint_int__I_Layer_isScaled_c1_args a)) (fin Try.prog Try.f149 (.sc) slices_IndexFunc_lint_int__I_Layer_isScaled_c1_dec) = slices_IndexFunc_lint_int__I_Layer_isScaled_c1 k a := by kernel_rfl
theorem slices_IndexFunc_lint_int__I_Layer_isScaled_c1_ok (k : Nat) : PureOk Try.prog 149 (slices_IndexFunc_lint_int__I_Layer_isScaled_c1_G k) :=
  pureOk_of_ev (E_slices_IndexFunc_lint_int__I_Layer_isScaled_c1_ok k) Try.func149 (by kernel_rfl) (by kernel_rfl) slices_IndexFunc_lint_int__I_Layer_isScaled_c1_args slices_IndexFunc_lint_int__I_Layer_isScaled_c1_argD
    (fun l a h => by unfold slices_IndexFunc_lint_int__I_Layer_isScaled_c1_argD at h; split at h <;> first | (cases h; rfl) | cases h) (fun a => rfl) (lpgood_of (l := [(0, b_slices_IndexFunc_lint_int__I_Layer_isScaled_c1_0)]) (by kernel_rfl) ⟨slices_IndexFunc_lint_int__I_Layer_isScaled_c1_g0_ok k, trivial⟩)
    (fun o r h => by unfold slices_IndexFunc_lint_int__I_Layer_isScaled_c1_dec at h; split at h <;> first | (cases h; rfl) | cases h) (slices_IndexFunc_lint_int__I_Layer_isScaled_c1_ev k)
def o_slices_IndexFunc_lint_int__I_Layer_isScaled_c1 (k : Nat) : Orc := pureOrc [.one (.sl (.int .i64)), .fn] (slices_IndexFunc_lint_int__I_Layer_isScaled_c1_G k)
theorem o_slices_IndexFunc_lint_int__I_Layer_isScaled_c1_ok (k : Nat) : OrcOk Try.prog 149 (o_slices_IndexFunc_lint_int__I_Layer_isScaled_c1 k) := pureOrc_ok (slices_IndexFunc_lint_int__I_Layer_isScaled_c1_ok k)
/-! ### 118 slices.ContainsFunc[[]int,int] -/
noncomputable def E_slices_ContainsFunc_lint_int__I_Layer_isScaled_c1 (k : Nat) : Env := { P := Try.prog, tt := tt, orc := fun g => cond (Nat.beq g 149) (o_slices_IndexFunc_lint_int__I_Layer_isScaled_c1 k) (noOrc) }
theorem E_slices_ContainsFunc_lint_int__I_Layer_isScaled_c1_ok (k : Nat) : EnvOk (E_slices_ContainsFunc_lint_int__I_Layer_isScaled_c1 k) := fun g => (orc_cond (o_slices_IndexFunc_lint_int__I_Layer_isScaled_c1_ok k) (noOrc_ok _ _))
noncomputable def c_slices_ContainsFunc_lint_int__I_Layer_isScaled_c1 : Code := (Try.f118.body).getD .skip
def LP_slices_ContainsFunc_lint_int__I_Layer_isScaled_c1 (ρ : Type) (k : Nat) : Nat → Ev ρ → Ev ρ := fun _ _ _ _ => none
def slices_ContainsFunc_lint_int__I_Layer_isScaled_c1_args (a : List Int) : List Arg := [.one (.sl (.int .i64) a), .fn (.func 185) [] []]
def slices_ContainsFunc_lint_int__I_Layer_isScaled_c1_argD (l : List Arg) : Option (List Int) := match l with
  | [.one (.sl (.int .i64) b0), .fn (.func 185) [] []] => some b0
  | _ => none
def slices_ContainsFunc_lint_int__I_Layer_isScaled_c1_enc (r : Bool) : Out := (.r [] (.bool r), [])
def slices_ContainsFunc_lint_int__I_Layer_isScaled_c1_dec (o : Out) : Option (Bool) := match o with
  | (.r [] (.bool z1), []) => some z1
  | _ => none
def slices_ContainsFunc_lint_int__I_Layer_isScaled_c1_G (k : Nat) : PG := fun _ l K => (slices_ContainsFunc_lint_int__I_Layer_isScaled_c1_argD l).bind fun a => (slices_ContainsFunc_lint_int__I_Layer_isScaled_c1 k a).bind fun r => K (slices_ContainsFunc_lint_int__I_Layer_isScaled_c1_enc r)
theorem slices_ContainsFunc_lint_int__I_Layer_isScaled_c1_ev (k : Nat) (a : List Int) : ev (E_slices_ContainsFunc_lint_int__I_Layer_isScaled_c1 k) (LP_slices_ContainsFunc_lint_int__I_Layer_isScaled_c1 (Bool) k) 0 c_slices_ContainsFunc_lint_int__I_Layer_isScaled_c1 (st0 Try.f118 (slices_ContainsFunc_lint_int__I_Layer_isScaled_c1_args a)) (fin Try.prog Try.f118 (.sc) slices_ContainsFunc_lint_int__I_Layer_isScaled_c1_dec) = slices_ContainsFunc_lint_int__I_Layer_isScaled_c1 k a := by kernel_rfl
theorem slices_ContainsFunc_lint_int__I_Layer_isScaled_c1_ok (k : Nat) : PureOk Try.prog 118 (slices_ContainsFunc_lint_int__I_Layer_isScaled_c1_G k) :=
  pureOk_of_ev (E_slices_ContainsFunc_lint_int__I_Layer_isScaled_c1_ok k) Try.func118 (by kernel_rfl) (by kernel_rfl) slices_ContainsFunc_lint_int__I_Layer_isScaled_c1_args slices_ContainsFunc_lint_int__I_Layer_isScaled_c1_argD
    (fun l a h => by unfold slices_ContainsFunc_lint_int__I_Layer_isScaled_c1_argD at h; split at h <;> first | (cases h; rfl) | cases h) (fun a => rfl) (lpgood_none (by kernel_rfl))
    (fun o r h => by unfold slices_ContainsFunc_lint_int__I_Layer_isScaled_c1_dec at h; split at h <;> first | (cases h; rfl) | cases h) (slices_ContainsFunc_lint_int__I_Layer_isScaled_c1_ev k)
def o_slices_ContainsFunc_lint_int__I_Layer_isScaled_c1 (k : Nat) : Orc := pureOrc [.one (.sl (.int .i64)), .fn] (slices_ContainsFunc_lint_int__I_Layer_isScaled_c1_G k)
theorem o_slices_ContainsFunc_lint_int__I_Layer_isScaled_c1_ok (k : Nat) : OrcOk Try.prog 118 (o_slices_ContainsFunc_lint_int__I_Layer_isScaled_c1 k) := pureOrc_ok (slices_ContainsFunc_lint_int__I_Layer_isScaled_c1_ok k)
/-! ### 166 (loop.example/g00778/impl.Layer).isScaled -/
noncomputable def E_I_Layer_isScaled (k : Nat) : Env := { P := Try.prog, tt := tt, orc := fun g => cond (Nat.beq g 107) (o_I_in k) (cond (Nat.beq g 118) (o_slices_ContainsFunc_lint_int__I_Layer_isScaled_c1 k) (cond (Nat.beq g 162) (o_I_areItems k) (noOrc))) }
theorem E_I_Layer_isScaled_ok (k : Nat) : EnvOk (E_I_Layer_isScaled k) := fun g => (orc_cond (o_I_in_ok k) (orc_cond (o_slices_ContainsFunc_lint_int__I_Layer_isScaled_c1_ok k) (orc_cond (o_I_areItems_ok k) (noOrc_ok _ _))))
noncomputable def c_I_Layer_isScaled : Code := (Try.f166.body).getD .skip
def LP_I_Layer_isScaled (ρ : Type) (k : Nat) : Nat → Ev ρ → Ev ρ := fun _ _ _ _ => none
def I_Layer_isScaled_args (a : Layer × Int) : List Arg := [.agg [.int .i64 a.1.kind, .int .i64 a.1.out, .int .i64 a.1.size, .int .i64 a.1.step, .int .i64 a.1.mult, .int .i64 a.1.shift, .int .i64 a.1.zero, .sl (.int .i64) a.1.weights, .sl (.int .i64) a.1.bias], .one (.int .i64 a.2)]
def I_Layer_isScaled_argD (l : List Arg) : Option (Layer × Int) := match l with
  | [.agg [.int .i64 b0_0, .int .i64 b0_1, .int .i64 b0_2, .int .i64 b0_3, .int .i64 b0_4, .int .i64 b0_5, .int .i64 b0_6, .sl (.int .i64) b0_7, .sl (.int .i64) b0_8], .one (.int .i64 b1)] => some ((⟨b0_0, b0_1, b0_2, b0_3, b0_4, b0_5, b0_6, b0_7, b0_8⟩ : Layer), b1)
  | _ => none
def I_Layer_isScaled_enc (r : Bool) : Out := (.r [] (.bool r), [])
def I_Layer_isScaled_dec (o : Out) : Option (Bool) := match o with
  | (.r [] (.bool z1), []) => some z1
  | _ => none
def I_Layer_isScaled_G (k : Nat) : PG := fun _ l K => (I_Layer_isScaled_argD l).bind fun a => (I_Layer_isScaled k a.1 a.2).bind fun r => K (I_Layer_isScaled_enc r)
theorem I_Layer_isScaled_ev (k : Nat) (a : Layer × Int) : ev (E_I_Layer_isScaled k) (LP_I_Layer_isScaled (Bool) k) 0 c_I_Layer_isScaled (st0 Try.f166 (I_Layer_isScaled_args a)) (fin Try.prog Try.f166 (.sc) I_Layer_isScaled_dec) = I_Layer_isScaled k a.1 a.2 := by kernel_rfl
theorem I_Layer_isScaled_ok (k : Nat) : PureOk Try.prog 166 (I_Layer_isScaled_G k) :=
  pureOk_of_ev (E_I_Layer_isScaled_ok k) Try.func166 (by kernel_rfl) (by kernel_rfl) I_Layer_isScaled_args I_Layer_isScaled_argD
    (fun l a h => by unfold I_Layer_isScaled_argD at h; split at h <;> first | (cases h; rfl) | cases h) (fun a => rfl) (lpgood_none (by kernel_rfl))
    (fun o r h => by unfold I_Layer_isScaled_dec at h; split at h <;> first | (cases h; rfl) | cases h) (I_Layer_isScaled_ev k)
def o_I_Layer_isScaled (k : Nat) : Orc := pureOrc [.agg [(.int .i64), (.int .i64), (.int .i64), (.int .i64), (.int .i64), (.int .i64), (.int .i64), (.sl (.int .i64)), (.sl (.int .i64))], .one (.int .i64)] (I_Layer_isScaled_G k)
theorem o_I_Layer_isScaled_ok (k : Nat) : OrcOk Try.prog 166 (o_I_Layer_isScaled k) := pureOrc_ok (I_Layer_isScaled_ok k)
/-! ### 167 (loop.example/g00778/impl.Layer).isWindow -/
noncomputable def E_I_Layer_isWindow (k : Nat) : Env := { P := Try.prog, tt := tt, orc := fun g => cond (Nat.beq g 107) (o_I_in k) (noOrc) }
theorem E_I_Layer_isWindow_ok (k : Nat) : EnvOk (E_I_Layer_isWindow k) := fun g => (orc_cond (o_I_in_ok k) (noOrc_ok _ _))
noncomputable def c_I_Layer_isWindow : Code := (Try.f167.body).getD .skip
def LP_I_Layer_isWindow (ρ : Type) (k : Nat) : Nat → Ev ρ → Ev ρ := fun _ _ _ _ => none
def I_Layer_isWindow_args (a : Layer × Shape) : List Arg := [.agg [.int .i64 a.1.kind, .int .i64 a.1.out, .int .i64 a.1.size, .int .i64 a.1.step, .int .i64 a.1.mult, .int .i64 a.1.shift, .int .i64 a.1.zero, .sl (.int .i64) a.1.weights, .sl (.int .i64) a.1.bias], .agg [.int .i64 a.2.h, .int .i64 a.2.w, .int .i64 a.2.c]]
def I_Layer_isWindow_argD (l : List Arg) : Option (Layer × Shape) := match l with
  | [.agg [.int .i64 b0_0, .int .i64 b0_1, .int .i64 b0_2, .int .i64 b0_3, .int .i64 b0_4, .int .i64 b0_5, .int .i64 b0_6, .sl (.int .i64) b0_7, .sl (.int .i64) b0_8], .agg [.int .i64 b1_0, .int .i64 b1_1, .int .i64 b1_2]] => some ((⟨b0_0, b0_1, b0_2, b0_3, b0_4, b0_5, b0_6, b0_7, b0_8⟩ : Layer), (⟨b1_0, b1_1, b1_2⟩ : Shape))
  | _ => none
def I_Layer_isWindow_enc (r : Bool) : Out := (.r [] (.bool r), [])
def I_Layer_isWindow_dec (o : Out) : Option (Bool) := match o with
  | (.r [] (.bool z1), []) => some z1
  | _ => none
def I_Layer_isWindow_G (k : Nat) : PG := fun _ l K => (I_Layer_isWindow_argD l).bind fun a => (I_Layer_isWindow k a.1 a.2).bind fun r => K (I_Layer_isWindow_enc r)
theorem I_Layer_isWindow_ev (k : Nat) (a : Layer × Shape) : ev (E_I_Layer_isWindow k) (LP_I_Layer_isWindow (Bool) k) 0 c_I_Layer_isWindow (st0 Try.f167 (I_Layer_isWindow_args a)) (fin Try.prog Try.f167 (.sc) I_Layer_isWindow_dec) = I_Layer_isWindow k a.1 a.2 := by kernel_rfl
theorem I_Layer_isWindow_ok (k : Nat) : PureOk Try.prog 167 (I_Layer_isWindow_G k) :=
  pureOk_of_ev (E_I_Layer_isWindow_ok k) Try.func167 (by kernel_rfl) (by kernel_rfl) I_Layer_isWindow_args I_Layer_isWindow_argD
    (fun l a h => by unfold I_Layer_isWindow_argD at h; split at h <;> first | (cases h; rfl) | cases h) (fun a => rfl) (lpgood_none (by kernel_rfl))
    (fun o r h => by unfold I_Layer_isWindow_dec at h; split at h <;> first | (cases h; rfl) | cases h) (I_Layer_isWindow_ev k)
def o_I_Layer_isWindow (k : Nat) : Orc := pureOrc [.agg [(.int .i64), (.int .i64), (.int .i64), (.int .i64), (.int .i64), (.int .i64), (.int .i64), (.sl (.int .i64)), (.sl (.int .i64))], .agg [(.int .i64), (.int .i64), (.int .i64)]] (I_Layer_isWindow_G k)
theorem o_I_Layer_isWindow_ok (k : Nat) : OrcOk Try.prog 167 (o_I_Layer_isWindow k) := pureOrc_ok (I_Layer_isWindow_ok k)
/-! ### 168 (loop.example/g00778/impl.Layer).windows -/
noncomputable def E_I_Layer_windows (k : Nat) : Env := { P := Try.prog, tt := tt, orc := fun g => noOrc }
theorem E_I_Layer_windows_ok (k : Nat) : EnvOk (E_I_Layer_windows k) := fun g => (noOrc_ok _ _)
noncomputable def c_I_Layer_windows : Code := (Try.f168.body).getD .skip
def LP_I_Layer_windows (ρ : Type) (k : Nat) : Nat → Ev ρ → Ev ρ := fun _ _ _ _ => none
def I_Layer_windows_args (a : Layer × Shape × Int) : List Arg := [.agg [.int .i64 a.1.kind, .int .i64 a.1.out, .int .i64 a.1.size, .int .i64 a.1.step, .int .i64 a.1.mult, .int .i64 a.1.shift, .int .i64 a.1.zero, .sl (.int .i64) a.1.weights, .sl (.int .i64) a.1.bias], .agg [.int .i64 a.2.1.h, .int .i64 a.2.1.w, .int .i64 a.2.1.c], .one (.int .i64 a.2.2)]
def I_Layer_windows_argD (l : List Arg) : Option (Layer × Shape × Int) := match l with
  | [.agg [.int .i64 b0_0, .int .i64 b0_1, .int .i64 b0_2, .int .i64 b0_3, .int .i64 b0_4, .int .i64 b0_5, .int .i64 b0_6, .sl (.int .i64) b0_7, .sl (.int .i64) b0_8], .agg [.int .i64 b1_0, .int .i64 b1_1, .int .i64 b1_2], .one (.int .i64 b2)] => some ((⟨b0_0, b0_1, b0_2, b0_3, b0_4, b0_5, b0_6, b0_7, b0_8⟩ : Layer), (⟨b1_0, b1_1, b1_2⟩ : Shape), b2)
  | _ => none
def I_Layer_windows_enc (r : Shape) : Out := (.agg [.r [] (.int .i64 r.h), .r [] (.int .i64 r.w), .r [] (.int .i64 r.c)], [])
def I_Layer_windows_dec (o : Out) : Option (Shape) := match o with
  | (.agg [.r [] (.int .i64 z1), .r [] (.int .i64 z2), .r [] (.int .i64 z3)], []) => some (⟨z1, z2, z3⟩ : Shape)
  | _ => none
def I_Layer_windows_G (k : Nat) : PG := fun _ l K => (I_Layer_windows_argD l).bind fun a => (I_Layer_windows k a.1 a.2.1 a.2.2).bind fun r => K (I_Layer_windows_enc r)
theorem I_Layer_windows_ev (k : Nat) (a : Layer × Shape × Int) : ev (E_I_Layer_windows k) (LP_I_Layer_windows (Shape) k) 0 c_I_Layer_windows (st0 Try.f168 (I_Layer_windows_args a)) (fin Try.prog Try.f168 (.agg [.sc, .sc, .sc]) I_Layer_windows_dec) = I_Layer_windows k a.1 a.2.1 a.2.2 := by kernel_rfl
theorem I_Layer_windows_ok (k : Nat) : PureOk Try.prog 168 (I_Layer_windows_G k) :=
  pureOk_of_ev (E_I_Layer_windows_ok k) Try.func168 (by kernel_rfl) (by kernel_rfl) I_Layer_windows_args I_Layer_windows_argD
    (fun l a h => by unfold I_Layer_windows_argD at h; split at h <;> first | (cases h; rfl) | cases h) (fun a => rfl) (lpgood_none (by kernel_rfl))
    (fun o r h => by unfold I_Layer_windows_dec at h; split at h <;> first | (cases h; rfl) | cases h) (I_Layer_windows_ev k)
def o_I_Layer_windows (k : Nat) : Orc := pureOrc [.agg [(.int .i64), (.int .i64), (.int .i64), (.int .i64), (.int .i64), (.int .i64), (.int .i64), (.sl (.int .i64)), (.sl (.int .i64))], .agg [(.int .i64), (.int .i64), (.int .i64)], .one (.int .i64)] (I_Layer_windows_G k)
theorem o_I_Layer_windows_ok (k : Nat) : OrcOk Try.prog 168 (o_I_Layer_windows k) := pureOrc_ok (I_Layer_windows_ok k)
/-! ### 169 (loop.example/g00778/impl.Layer).isBare -/
noncomputable def E_I_Layer_isBare (k : Nat) : Env := { P := Try.prog, tt := tt, orc := fun g => noOrc }
theorem E_I_Layer_isBare_ok (k : Nat) : EnvOk (E_I_Layer_isBare k) := fun g => (noOrc_ok _ _)
noncomputable def c_I_Layer_isBare : Code := (Try.f169.body).getD .skip
def LP_I_Layer_isBare (ρ : Type) (k : Nat) : Nat → Ev ρ → Ev ρ := fun _ _ _ _ => none
def I_Layer_isBare_args (a : Layer) : List Arg := [.agg [.int .i64 a.kind, .int .i64 a.out, .int .i64 a.size, .int .i64 a.step, .int .i64 a.mult, .int .i64 a.shift, .int .i64 a.zero, .sl (.int .i64) a.weights, .sl (.int .i64) a.bias]]
def I_Layer_isBare_argD (l : List Arg) : Option (Layer) := match l with
  | [.agg [.int .i64 b0_0, .int .i64 b0_1, .int .i64 b0_2, .int .i64 b0_3, .int .i64 b0_4, .int .i64 b0_5, .int .i64 b0_6, .sl (.int .i64) b0_7, .sl (.int .i64) b0_8]] => some (⟨b0_0, b0_1, b0_2, b0_3, b0_4, b0_5, b0_6, b0_7, b0_8⟩ : Layer)
  | _ => none
def I_Layer_isBare_enc (r : Bool) : Out := (.r [] (.bool r), [])
def I_Layer_isBare_dec (o : Out) : Option (Bool) := match o with
  | (.r [] (.bool z1), []) => some z1
  | _ => none
def I_Layer_isBare_G (k : Nat) : PG := fun _ l K => (I_Layer_isBare_argD l).bind fun a => (I_Layer_isBare k a).bind fun r => K (I_Layer_isBare_enc r)
theorem I_Layer_isBare_ev (k : Nat) (a : Layer) : ev (E_I_Layer_isBare k) (LP_I_Layer_isBare (Bool) k) 0 c_I_Layer_isBare (st0 Try.f169 (I_Layer_isBare_args a)) (fin Try.prog Try.f169 (.sc) I_Layer_isBare_dec) = I_Layer_isBare k a := by kernel_rfl
theorem I_Layer_isBare_ok (k : Nat) : PureOk Try.prog 169 (I_Layer_isBare_G k) :=
  pureOk_of_ev (E_I_Layer_isBare_ok k) Try.func169 (by kernel_rfl) (by kernel_rfl) I_Layer_isBare_args I_Layer_isBare_argD
    (fun l a h => by unfold I_Layer_isBare_argD at h; split at h <;> first | (cases h; rfl) | cases h) (fun a => rfl) (lpgood_none (by kernel_rfl))
    (fun o r h => by unfold I_Layer_isBare_dec at h; split at h <;> first | (cases h; rfl) | cases h) (I_Layer_isBare_ev k)
def o_I_Layer_isBare (k : Nat) : Orc := pureOrc [.agg [(.int .i64), (.int .i64), (.int .i64), (.int .i64), (.int .i64), (.int .i64), (.int .i64), (.sl (.int .i64)), (.sl (.int .i64))]] (I_Layer_isBare_G k)
theorem o_I_Layer_isBare_ok (k : Nat) : OrcOk Try.prog 169 (o_I_Layer_isBare k) := pureOrc_ok (I_Layer_isBare_ok k)
/-! ### 155 loop.example/g00778/impl.OutShape -/
noncomputable def E_I_OutShape (k : Nat) : Env := { P := Try.prog, tt := tt, orc := fun g => cond (Nat.beq g 107) (o_I_in k) (cond (Nat.beq g 160) (o_I_ShapeOk k) (cond (Nat.beq g 161) (o_I_SizeOf k) (cond (Nat.beq g 165) (o_I_Layer_hasNone k) (cond (Nat.beq g 166) (o_I_Layer_isScaled k) (cond (Nat.beq g 167) (o_I_Layer_isWindow k) (cond (Nat.beq g 168) (o_I_Layer_windows k) (cond (Nat.beq g 169) (o_I_Layer_isBare k) (noOrc)))))))) }
theorem E_I_OutShape_ok (k : Nat) : EnvOk (E_I_OutShape k) := fun g => (orc_cond (o_I_in_ok k) (orc_cond (o_I_ShapeOk_ok k) (orc_cond (o_I_SizeOf_ok k) (orc_cond (o_I_Layer_hasNone_ok k) (orc_cond (o_I_Layer_isScaled_ok k) (orc_cond (o_I_Layer_isWindow_ok k) (orc_cond (o_I_Layer_windows_ok k) (orc_cond (o_I_Layer_isBare_ok k) (noOrc_ok _ _)))))))))
noncomputable def c_I_OutShape : Code := (Try.f155.body).getD .skip
def LP_I_OutShape (ρ : Type) (k : Nat) : Nat → Ev ρ → Ev ρ := fun _ _ _ _ => none
def I_OutShape_args (a : Shape × Layer) : List Arg := [.agg [.int .i64 a.1.h, .int .i64 a.1.w, .int .i64 a.1.c], .agg [.int .i64 a.2.kind, .int .i64 a.2.out, .int .i64 a.2.size, .int .i64 a.2.step, .int .i64 a.2.mult, .int .i64 a.2.shift, .int .i64 a.2.zero, .sl (.int .i64) a.2.weights, .sl (.int .i64) a.2.bias]]
def I_OutShape_argD (l : List Arg) : Option (Shape × Layer) := match l with
  | [.agg [.int .i64 b0_0, .int .i64 b0_1, .int .i64 b0_2], .agg [.int .i64 b1_0, .int .i64 b1_1, .int .i64 b1_2, .int .i64 b1_3, .int .i64 b1_4, .int .i64 b1_5, .int .i64 b1_6, .sl (.int .i64) b1_7, .sl (.int .i64) b1_8]] => some ((⟨b0_0, b0_1, b0_2⟩ : Shape), (⟨b1_0, b1_1, b1_2, b1_3, b1_4, b1_5, b1_6, b1_7, b1_8⟩ : Layer))
  | _ => none
def I_OutShape_enc (r : Shape × Bool) : Out := (.tup [.agg [.r [] (.int .i64 r.1.h), .r [] (.int .i64 r.1.w), .r [] (.int .i64 r.1.c)], .r [] (.bool r.2)], [])
def I_OutShape_dec (o : Out) : Option (Shape × Bool) := match o with
  | (.tup [.agg [.r [] (.int .i64 z1), .r [] (.int .i64 z2), .r [] (.int .i64 z3)], .r [] (.bool z4)], []) => some ((⟨z1, z2, z3⟩ : Shape), z4)
  | _ => none
def I_OutShape_G (k : Nat) : PG := fun _ l K => (I_OutShape_argD l).bind fun a => (I_OutShape k a.1 a.2).bind fun r => K (I_OutShape_enc r)
theorem I_OutShape_ev (k : Nat) (a : Shape × Layer) : ev (E_I_OutShape k) (LP_I_OutShape (Shape × Bool) k) 0 c_I_OutShape (st0 Try.f155 (I_OutShape_args a)) (fin Try.prog Try.f155 (.tup [.agg [.sc, .sc, .sc], .sc]) I_OutShape_dec) = I_OutShape k a.1 a.2 := by kernel_rfl
theorem I_OutShape_ok (k : Nat) : PureOk Try.prog 155 (I_OutShape_G k) :=
  pureOk_of_ev (E_I_OutShape_ok k) Try.func155 (by kernel_rfl) (by kernel_rfl) I_OutShape_args I_OutShape_argD
    (fun l a h => by unfold I_OutShape_argD at h; split at h <;> first | (cases h; rfl) | cases h) (fun a => rfl) (lpgood_none (by kernel_rfl))
    (fun o r h => by unfold I_OutShape_dec at h; split at h <;> first | (cases h; rfl) | cases h) (I_OutShape_ev k)
def o_I_OutShape (k : Nat) : Orc := pureOrc [.agg [(.int .i64), (.int .i64), (.int .i64)], .agg [(.int .i64), (.int .i64), (.int .i64), (.int .i64), (.int .i64), (.int .i64), (.int .i64), (.sl (.int .i64)), (.sl (.int .i64))]] (I_OutShape_G k)
theorem o_I_OutShape_ok (k : Nat) : OrcOk Try.prog 155 (o_I_OutShape k) := pureOrc_ok (I_OutShape_ok k)
/-! ### 134 (loop.example/g00778/impl.Model).shapes -/
noncomputable def E_I_Model_shapes (k : Nat) : Env := { P := Try.prog, tt := tt, orc := fun g => cond (Nat.beq g 155) (o_I_OutShape k) (noOrc) }
theorem E_I_Model_shapes_ok (k : Nat) : EnvOk (E_I_Model_shapes k) := fun g => (orc_cond (o_I_OutShape_ok k) (noOrc_ok _ _))
noncomputable def c_I_Model_shapes : Code := (Try.f134.body).getD .skip
noncomputable def b_I_Model_shapes_0 : Code := ((loopsIn 0 c_I_Model_shapes).getD 0 (0, .skip)).2
def I_Model_shapes_g0_keep : List Nat := [4, 5, 16, 17, 18]
def I_Model_shapes_g0_co : List (Where × Co) := []
def I_Model_shapes_g0_kx : Ex → List Nat
  | .exit j => cond (Nat.beq j 0) [4] []
  | .ret => [2, 3]
  | .normal => []
def I_Model_shapes_g0_cx : Ex → List (Where × Co)
  | .exit j => cond (Nat.beq j 0) [] []
  | .ret => []
  | .normal => []
def I_Model_shapes_g0_tm (pv : (List Layer × Int) × (Int × List Shape × Int × Int × Int)) : St := { slots := [(4, .own 0), (5, .ptr 1 0 0), (16, .r [] (.sl (.st .layer) pv.1.1)), (17, .r [] (.int .i64 pv.1.2)), (18, .r [] (.int .i64 pv.2.1))], heap := [(0, .arr none (.st .shape) pv.2.2.1), (1, .box [.r [] (.int .i64 pv.2.2.2.1), .r [] (.int .i64 pv.2.2.2.2.1), .r [] (.int .i64 pv.2.2.2.2.2)])], nid := 2, n := 37, gh := [] }
def I_Model_shapes_g0_dec (nf : NF) : Option ((List Layer × Int) × (Int × List Shape × Int × Int × Int)) := match nf with
  | ([.own 0, .ptr 1 0 0, .r [] (.sl (.st .layer) w0), .r [] (.int .i64 w1), .r [] (.int .i64 w2)], [.arr none (.st .shape) w3, .box [.r [] (.int .i64 w4), .r [] (.int .i64 w5), .r [] (.int .i64 w6)]], []) => some ((w0, w1), (w2, w3, w4, w5, w6))
  | _ => none
theorem I_Model_shapes_g0_hd (nf : NF) (v : (List Layer × Int) × (Int × List Shape × Int × Int × Int)) (h : I_Model_shapes_g0_dec nf = some v) : denorm I_Model_shapes_g0_keep 37 nf = I_Model_shapes_g0_tm v := by
  unfold I_Model_shapes_g0_dec at h
  split at h
  · cases h; rfl
  · cases h
def I_Model_shapes_g0_x0 (p : List Layer × Int) (x : List Shape) : St := { slots := [(4, .own 0)], heap := [(0, .arr none (.st .shape) x)], nid := 1, n := 37, gh := [] }
def I_Model_shapes_g0_xret (p : List Layer × Int) (x : Bool) : St := { slots := [(2, .nilS), (3, .r [] (.bool x))], heap := [], nid := 0, n := 37, gh := [] }
def LP_I_Model_shapes (ρ : Type) (k : Nat) : Nat → Ev ρ → Ev ρ := fun id f => cond (Nat.beq id 0) (loopOrc I_Model_shapes_g0_keep I_Model_shapes_g0_co (fun n nf => cond (Nat.beq n 37) (I_Model_shapes_g0_dec nf) none) fun pv K => iter (fun v next => I_Model_shapes_g0 k pv.1 v next (fun x => K (.exit 0) (I_Model_shapes_g0_x0 pv.1 x)) (fun x => K .ret (I_Model_shapes_g0_xret pv.1 x))) k pv.2) ((fun _ _ _ _ => none) id f)
theorem I_Model_shapes_g0_round {ρ : Type} (k : Nat) (p : List Layer × Int) (v : Int × List Shape × Int × Int × Int) (K K1 : Ex → St → Option ρ) : ev (E_I_Model_shapes k) (LP_I_Model_shapes ρ k) 0 b_I_Model_shapes_0 (I_Model_shapes_g0_tm (p, v)) (fun e st' => match e with
    | .normal => (normC I_Model_shapes_g0_keep I_Model_shapes_g0_co st').bind fun nf => K1 .normal (denorm I_Model_shapes_g0_keep st'.n nf)
    | e => (normC (I_Model_shapes_g0_kx e) (I_Model_shapes_g0_cx e) st').bind fun nf => K e (denorm (I_Model_shapes_g0_kx e) st'.n nf)) = I_Model_shapes_g0 k p v (fun v' => K1 .normal (I_Model_shapes_g0_tm (p, v'))) (fun x => K (.exit 0) (I_Model_shapes_g0_x0 p x)) (fun x => K .ret (I_Model_shapes_g0_xret p x)) := by kernel_rfl
theorem I_Model_shapes_g0_ok {ρ : Type} (k : Nat) : Sound Try.prog (.loop b_I_Model_shapes_0) (LP_I_Model_shapes ρ k 0 fun st K => ev (E_I_Model_shapes k) (LP_I_Model_shapes ρ k) 0 b_I_Model_shapes_0 st K) :=
  loop_ok (ev_sound (E_I_Model_shapes_ok k) b_I_Model_shapes_0 0 (lpgood_none (by kernel_rfl))) I_Model_shapes_g0_kx I_Model_shapes_g0_cx k (g := fun p v next K => I_Model_shapes_g0 k p v next (fun x => K (.exit 0) (I_Model_shapes_g0_x0 p x)) (fun x => K .ret (I_Model_shapes_g0_xret p x))) (dec_at I_Model_shapes_g0_hd) (fun p v K K1 => I_Model_shapes_g0_round k p v K K1)
def I_Model_shapes_args (a : Model) : List Arg := [.agg [.int .i64 a.inp.h, .int .i64 a.inp.w, .int .i64 a.inp.c, .sl (.st .layer) a.layers]]
def I_Model_shapes_argD (l : List Arg) : Option (Model) := match l with
  | [.agg [.int .i64 b0_0, .int .i64 b0_1, .int .i64 b0_2, .sl (.st .layer) b0_3]] => some (⟨(⟨b0_0, b0_1, b0_2⟩ : Shape), b0_3⟩ : Model)
  | _ => none
def I_Model_shapes_enc (r : List Shape × Bool) : Out := (.tup [.own 0, .r [] (.bool r.2)], [.arr none (.st .shape) r.1])
def I_Model_shapes_dec (o : Out) : Option (List Shape × Bool) := match o with
  | (.tup [.own 0, .r [] (.bool z2)], [.arr none (.st .shape) z1]) => some (z1, z2)
  | _ => none
def I_Model_shapes_G (k : Nat) : PG := fun _ l K => (I_Model_shapes_argD l).bind fun a => (I_Model_shapes k a).bind fun r => K (I_Model_shapes_enc r)
theorem I_Model_shapes_ev (k : Nat) (a : Model) : ev (E_I_Model_shapes k) (LP_I_Model_shapes (List Shape × Bool) k) 0 c_I_Model_shapes (st0 Try.f134 (I_Model_shapes_args a)) (fin Try.prog Try.f134 (.tup [.own (.st .shape), .sc]) I_Model_shapes_dec) = I_Model_shapes k a := by kernel_rfl
theorem I_Model_shapes_ok (k : Nat) : PureOk Try.prog 134 (I_Model_shapes_G k) :=
  pureOk_of_ev (E_I_Model_shapes_ok k) Try.func134 (by kernel_rfl) (by kernel_rfl) I_Model_shapes_args I_Model_shapes_argD
    (fun l a h => by unfold I_Model_shapes_argD at h; split at h <;> first | (cases h; rfl) | cases h) (fun a => rfl) (lpgood_of (l := [(0, b_I_Model_shapes_0)]) (by kernel_rfl) ⟨I_Model_shapes_g0_ok k, trivial⟩)
    (fun o r h => by unfold I_Model_shapes_dec at h; split at h <;> first | (cases h; rfl) | cases h) (I_Model_shapes_ev k)
def o_I_Model_shapes (k : Nat) : Orc := pureOrc [.agg [(.int .i64), (.int .i64), (.int .i64), (.sl (.st .layer))]] (I_Model_shapes_G k)
theorem o_I_Model_shapes_ok (k : Nat) : OrcOk Try.prog 134 (o_I_Model_shapes k) := pureOrc_ok (I_Model_shapes_ok k)
/-! ### 84 loop.example/g00778/impl.ModelOk -/
noncomputable def E_I_ModelOk (k : Nat) : Env := { P := Try.prog, tt := tt, orc := fun g => cond (Nat.beq g 107) (o_I_in k) (cond (Nat.beq g 134) (o_I_Model_shapes k) (noOrc)) }
theorem E_I_ModelOk_ok (k : Nat) : EnvOk (E_I_ModelOk k) := fun g => (orc_cond (o_I_in_ok k) (orc_cond (o_I_Model_shapes_ok k) (noOrc_ok _ _)))
noncomputable def c_I_ModelOk : Code := (Try.f84.body).getD .skip
def LP_I_ModelOk (ρ : Type) (k : Nat) : Nat → Ev ρ → Ev ρ := fun _ _ _ _ => none
def I_ModelOk_args (a : Model) : List Arg := [.agg [.int .i64 a.inp.h, .int .i64 a.inp.w, .int .i64 a.inp.c, .sl (.st .layer) a.layers]]
def I_ModelOk_argD (l : List Arg) : Option (Model) := match l with
  | [.agg [.int .i64 b0_0, .int .i64 b0_1, .int .i64 b0_2, .sl (.st .layer) b0_3]] => some (⟨(⟨b0_0, b0_1, b0_2⟩ : Shape), b0_3⟩ : Model)
  | _ => none
def I_ModelOk_enc (r : Bool) : Out := (.r [] (.bool r), [])
def I_ModelOk_dec (o : Out) : Option (Bool) := match o with
  | (.r [] (.bool z1), []) => some z1
  | _ => none
def I_ModelOk_G (k : Nat) : PG := fun _ l K => (I_ModelOk_argD l).bind fun a => (I_ModelOk k a).bind fun r => K (I_ModelOk_enc r)
theorem I_ModelOk_ev (k : Nat) (a : Model) : ev (E_I_ModelOk k) (LP_I_ModelOk (Bool) k) 0 c_I_ModelOk (st0 Try.f84 (I_ModelOk_args a)) (fin Try.prog Try.f84 (.sc) I_ModelOk_dec) = I_ModelOk k a := by kernel_rfl
theorem I_ModelOk_ok (k : Nat) : PureOk Try.prog 84 (I_ModelOk_G k) :=
  pureOk_of_ev (E_I_ModelOk_ok k) Try.func84 (by kernel_rfl) (by kernel_rfl) I_ModelOk_args I_ModelOk_argD
    (fun l a h => by unfold I_ModelOk_argD at h; split at h <;> first | (cases h; rfl) | cases h) (fun a => rfl) (lpgood_none (by kernel_rfl))
    (fun o r h => by unfold I_ModelOk_dec at h; split at h <;> first | (cases h; rfl) | cases h) (I_ModelOk_ev k)
def o_I_ModelOk (k : Nat) : Orc := pureOrc [.agg [(.int .i64), (.int .i64), (.int .i64), (.sl (.st .layer))]] (I_ModelOk_G k)
theorem o_I_ModelOk_ok (k : Nat) : OrcOk Try.prog 84 (o_I_ModelOk k) := pureOrc_ok (I_ModelOk_ok k)
/-! ### 140 loop.example/g00778/impl.TensorOk -/
noncomputable def E_I_TensorOk (k : Nat) : Env := { P := Try.prog, tt := tt, orc := fun g => cond (Nat.beq g 160) (o_I_ShapeOk k) (cond (Nat.beq g 161) (o_I_SizeOf k) (cond (Nat.beq g 162) (o_I_areItems k) (noOrc))) }
theorem E_I_TensorOk_ok (k : Nat) : EnvOk (E_I_TensorOk k) := fun g => (orc_cond (o_I_ShapeOk_ok k) (orc_cond (o_I_SizeOf_ok k) (orc_cond (o_I_areItems_ok k) (noOrc_ok _ _))))
noncomputable def c_I_TensorOk : Code := (Try.f140.body).getD .skip
def LP_I_TensorOk (ρ : Type) (k : Nat) : Nat → Ev ρ → Ev ρ := fun _ _ _ _ => none
def I_TensorOk_args (a : Tensor) : List Arg := [.agg [.int .i64 a.sh.h, .int .i64 a.sh.w, .int .i64 a.sh.c, .sl (.int .i64) a.data]]
def I_TensorOk_argD (l : List Arg) : Option (Tensor) := match l with
  | [.agg [.int .i64 b0_0, .int .i64 b0_1, .int .i64 b0_2, .sl (.int .i64) b0_3]] => some (⟨(⟨b0_0, b0_1, b0_2⟩ : Shape), b0_3⟩ : Tensor)
  | _ => none
def I_TensorOk_enc (r : Bool) : Out := (.r [] (.bool r), [])
def I_TensorOk_dec (o : Out) : Option (Bool) := match o with
  | (.r [] (.bool z1), []) => some z1
  | _ => none
def I_TensorOk_G (k : Nat) : PG := fun _ l K => (I_TensorOk_argD l).bind fun a => (I_TensorOk k a).bind fun r => K (I_TensorOk_enc r)
theorem I_TensorOk_ev (k : Nat) (a : Tensor) : ev (E_I_TensorOk k) (LP_I_TensorOk (Bool) k) 0 c_I_TensorOk (st0 Try.f140 (I_TensorOk_args a)) (fin Try.prog Try.f140 (.sc) I_TensorOk_dec) = I_TensorOk k a := by kernel_rfl
theorem I_TensorOk_ok (k : Nat) : PureOk Try.prog 140 (I_TensorOk_G k) :=
  pureOk_of_ev (E_I_TensorOk_ok k) Try.func140 (by kernel_rfl) (by kernel_rfl) I_TensorOk_args I_TensorOk_argD
    (fun l a h => by unfold I_TensorOk_argD at h; split at h <;> first | (cases h; rfl) | cases h) (fun a => rfl) (lpgood_none (by kernel_rfl))
    (fun o r h => by unfold I_TensorOk_dec at h; split at h <;> first | (cases h; rfl) | cases h) (I_TensorOk_ev k)
def o_I_TensorOk (k : Nat) : Orc := pureOrc [.agg [(.int .i64), (.int .i64), (.int .i64), (.sl (.int .i64))]] (I_TensorOk_G k)
theorem o_I_TensorOk_ok (k : Nat) : OrcOk Try.prog 140 (o_I_TensorOk k) := pureOrc_ok (I_TensorOk_ok k)
/-! ### 85 loop.example/g00778/impl.ShapesOf -/
noncomputable def E_I_ShapesOf (k : Nat) : Env := { P := Try.prog, tt := tt, orc := fun g => cond (Nat.beq g 84) (o_I_ModelOk k) (cond (Nat.beq g 134) (o_I_Model_shapes k) (noOrc)) }
theorem E_I_ShapesOf_ok (k : Nat) : EnvOk (E_I_ShapesOf k) := fun g => (orc_cond (o_I_ModelOk_ok k) (orc_cond (o_I_Model_shapes_ok k) (noOrc_ok _ _)))
noncomputable def c_I_ShapesOf : Code := (Try.f85.body).getD .skip
def LP_I_ShapesOf (ρ : Type) (k : Nat) : Nat → Ev ρ → Ev ρ := fun _ _ _ _ => none
def I_ShapesOf_args (a : Model) : List Arg := [.agg [.int .i64 a.inp.h, .int .i64 a.inp.w, .int .i64 a.inp.c, .sl (.st .layer) a.layers]]
def I_ShapesOf_argD (l : List Arg) : Option (Model) := match l with
  | [.agg [.int .i64 b0_0, .int .i64 b0_1, .int .i64 b0_2, .sl (.st .layer) b0_3]] => some (⟨(⟨b0_0, b0_1, b0_2⟩ : Shape), b0_3⟩ : Model)
  | _ => none
def I_ShapesOf_enc (r : List Shape) : Out := (.own 0, [.arr none (.st .shape) r])
def I_ShapesOf_dec (o : Out) : Option (List Shape) := match o with
  | (.own 0, [.arr none (.st .shape) z1]) => some z1
  | _ => none
def I_ShapesOf_G (k : Nat) : PG := fun _ l K => (I_ShapesOf_argD l).bind fun a => (I_ShapesOf k a).bind fun r => K (I_ShapesOf_enc r)
theorem I_ShapesOf_ev (k : Nat) (a : Model) : ev (E_I_ShapesOf k) (LP_I_ShapesOf (List Shape) k) 0 c_I_ShapesOf (st0 Try.f85 (I_ShapesOf_args a)) (fin Try.prog Try.f85 (.own (.st .shape)) I_ShapesOf_dec) = I_ShapesOf k a := by kernel_rfl
theorem I_ShapesOf_ok (k : Nat) : PureOk Try.prog 85 (I_ShapesOf_G k) :=
  pureOk_of_ev (E_I_ShapesOf_ok k) Try.func85 (by kernel_rfl) (by kernel_rfl) I_ShapesOf_args I_ShapesOf_argD
    (fun l a h => by unfold I_ShapesOf_argD at h; split at h <;> first | (cases h; rfl) | cases h) (fun a => rfl) (lpgood_none (by kernel_rfl))
    (fun o r h => by unfold I_ShapesOf_dec at h; split at h <;> first | (cases h; rfl) | cases h) (I_ShapesOf_ev k)
def o_I_ShapesOf (k : Nat) : Orc := pureOrc [.agg [(.int .i64), (.int .i64), (.int .i64), (.sl (.st .layer))]] (I_ShapesOf_G k)
theorem o_I_ShapesOf_ok (k : Nat) : OrcOk Try.prog 85 (o_I_ShapesOf k) := pureOrc_ok (I_ShapesOf_ok k)
/-! ### 152 loop.example/g00778/impl.CostOf -/
noncomputable def E_I_CostOf (k : Nat) : Env := { P := Try.prog, tt := tt, orc := fun g => cond (Nat.beq g 155) (o_I_OutShape k) (cond (Nat.beq g 161) (o_I_SizeOf k) (noOrc)) }
theorem E_I_CostOf_ok (k : Nat) : EnvOk (E_I_CostOf k) := fun g => (orc_cond (o_I_OutShape_ok k) (orc_cond (o_I_SizeOf_ok k) (noOrc_ok _ _)))
noncomputable def c_I_CostOf : Code := (Try.f152.body).getD .skip
def LP_I_CostOf (ρ : Type) (k : Nat) : Nat → Ev ρ → Ev ρ := fun _ _ _ _ => none
def I_CostOf_args (a : Shape × Layer) : List Arg := [.agg [.int .i64 a.1.h, .int .i64 a.1.w, .int .i64 a.1.c], .agg [.int .i64 a.2.kind, .int .i64 a.2.out, .int .i64 a.2.size, .int .i64 a.2.step, .int .i64 a.2.mult, .int .i64 a.2.shift, .int .i64 a.2.zero, .sl (.int .i64) a.2.weights, .sl (.int .i64) a.2.bias]]
def I_CostOf_argD (l : List Arg) : Option (Shape × Layer) := match l with
  | [.agg [.int .i64 b0_0, .int .i64 b0_1, .int .i64 b0_2], .agg [.int .i64 b1_0, .int .i64 b1_1, .int .i64 b1_2, .int .i64 b1_3, .int .i64 b1_4, .int .i64 b1_5, .int .i64 b1_6, .sl (.int .i64) b1_7, .sl (.int .i64) b1_8]] => some ((⟨b0_0, b0_1, b0_2⟩ : Shape), (⟨b1_0, b1_1, b1_2, b1_3, b1_4, b1_5, b1_6, b1_7, b1_8⟩ : Layer))
  | _ => none
def I_CostOf_enc (r : Int) : Out := (.r [] (.int .i64 r), [])
def I_CostOf_dec (o : Out) : Option (Int) := match o with
  | (.r [] (.int .i64 z1), []) => some z1
  | _ => none
def I_CostOf_G (k : Nat) : PG := fun _ l K => (I_CostOf_argD l).bind fun a => (I_CostOf k a.1 a.2).bind fun r => K (I_CostOf_enc r)
theorem I_CostOf_ev (k : Nat) (a : Shape × Layer) : ev (E_I_CostOf k) (LP_I_CostOf (Int) k) 0 c_I_CostOf (st0 Try.f152 (I_CostOf_args a)) (fin Try.prog Try.f152 (.sc) I_CostOf_dec) = I_CostOf k a.1 a.2 := by kernel_rfl
theorem I_CostOf_ok (k : Nat) : PureOk Try.prog 152 (I_CostOf_G k) :=
  pureOk_of_ev (E_I_CostOf_ok k) Try.func152 (by kernel_rfl) (by kernel_rfl) I_CostOf_args I_CostOf_argD
    (fun l a h => by unfold I_CostOf_argD at h; split at h <;> first | (cases h; rfl) | cases h) (fun a => rfl) (lpgood_none (by kernel_rfl))
    (fun o r h => by unfold I_CostOf_dec at h; split at h <;> first | (cases h; rfl) | cases h) (I_CostOf_ev k)
def o_I_CostOf (k : Nat) : Orc := pureOrc [.agg [(.int .i64), (.int .i64), (.int .i64)], .agg [(.int .i64), (.int .i64), (.int .i64), (.int .i64), (.int .i64), (.int .i64), (.int .i64), (.sl (.int .i64)), (.sl (.int .i64))]] (I_CostOf_G k)
theorem o_I_CostOf_ok (k : Nat) : OrcOk Try.prog 152 (o_I_CostOf k) := pureOrc_ok (I_CostOf_ok k)
/-! ### 130 loop.example/g00778/impl.CostsOf -/
noncomputable def E_I_CostsOf (k : Nat) : Env := { P := Try.prog, tt := tt, orc := fun g => cond (Nat.beq g 85) (o_I_ShapesOf k) (cond (Nat.beq g 152) (o_I_CostOf k) (noOrc)) }
theorem E_I_CostsOf_ok (k : Nat) : EnvOk (E_I_CostsOf k) := fun g => (orc_cond (o_I_ShapesOf_ok k) (orc_cond (o_I_CostOf_ok k) (noOrc_ok _ _)))
noncomputable def c_I_CostsOf : Code := (Try.f130.body).getD .skip
noncomputable def b_I_CostsOf_0 : Code := ((loopsIn 0 c_I_CostsOf).getD 0 (0, .skip)).2
def I_CostsOf_g0_keep : List Nat := [1, 3, 8, 9, 10]
def I_CostsOf_g0_co : List (Where × Co) := []
def I_CostsOf_g0_kx : Ex → List Nat
  | .exit j => cond (Nat.beq j 0) [3] []
  | .ret => []
  | .normal => []
def I_CostsOf_g0_cx : Ex → List (Where × Co)
  | .exit j => cond (Nat.beq j 0) [] []
  | .ret => []
  | .normal => []
def I_CostsOf_g0_tm (pv : (Int × Int × Int × Int × List Layer × List Shape) × (Int × List Int)) : St := { slots := [(1, .ptr 0 0 0), (3, .own 1), (8, .own 2), (9, .r [] (.int .i64 pv.1.1)), (10, .r [] (.int .i64 pv.2.1))], heap := [(0, .box [.r [] (.int .i64 pv.1.2.1), .r [] (.int .i64 pv.1.2.2.1), .r [] (.int .i64 pv.1.2.2.2.1), .r [] (.sl (.st .layer) pv.1.2.2.2.2.1)]), (1, .arr none (.int .i64) pv.2.2), (2, .arr none (.st .shape) pv.1.2.2.2.2.2)], nid := 3, n := 32, gh := [] }
def I_CostsOf_g0_dec (nf : NF) : Option ((Int × Int × Int × Int × List Layer × List Shape) × (Int × List Int)) := match nf with
  | ([.ptr 0 0 0, .own 1, .own 2, .r [] (.int .i64 w0), .r [] (.int .i64 w1)], [.box [.r [] (.int .i64 w2), .r [] (.int .i64 w3), .r [] (.int .i64 w4), .r [] (.sl (.st .layer) w5)], .arr none (.int .i64) w6, .arr none (.st .shape) w7], []) => some ((w0, w2, w3, w4, w5, w7), (w1, w6))
  | _ => none
theorem I_CostsOf_g0_hd (nf : NF) (v : (Int × Int × Int × Int × List Layer × List Shape) × (Int × List Int)) (h : I_CostsOf_g0_dec nf = some v) : denorm I_CostsOf_g0_keep 32 nf = I_CostsOf_g0_tm v := by
  unfold I_CostsOf_g0_dec at h
  split at h
  · cases h; rfl
  · cases h
def I_CostsOf_g0_x0 (p : Int × Int × Int × Int × List Layer × List Shape) (x : List Int) : St := { slots := [(3, .own 0)], heap := [(0, .arr none (.int .i64) x)], nid := 1, n := 32, gh := [] }
def LP_I_CostsOf (ρ : Type) (k : Nat) : Nat → Ev ρ → Ev ρ := fun id f => cond (Nat.beq id 0) (loopOrc I_CostsOf_g0_keep I_CostsOf_g0_co (fun n nf => cond (Nat.beq n 32) (I_CostsOf_g0_dec nf) none) fun pv K => iter (fun v next => I_CostsOf_g0 k pv.1 v next (fun x => K (.exit 0) (I_CostsOf_g0_x0 pv.1 x))) k pv.2) ((fun _ _ _ _ => none) id f)
theorem I_CostsOf_g0_round {ρ : Type} (k : Nat) (p : Int × Int × Int × Int × List Layer × List Shape) (v : Int × List Int) (K K1 : Ex → St → Option ρ) : ev (E_I_CostsOf k) (LP_I_CostsOf ρ k) 0 b_I_CostsOf_0 (I_CostsOf_g0_tm (p, v)) (fun e st' => match e with
    | .normal => (normC I_CostsOf_g0_keep I_CostsOf_g0_co st').bind fun nf => K1 .normal (denorm I_CostsOf_g0_keep st'.n nf)
    | e => (normC (I_CostsOf_g0_kx e) (I_CostsOf_g0_cx e) st').bind fun nf => K e (denorm (I_CostsOf_g0_kx e) st'.n nf)) = I_CostsOf_g0 k p v (fun v' => K1 .normal (I_CostsOf_g0_tm (p, v'))) (fun x => K (.exit 0) (I_CostsOf_g0_x0 p x)) := by kernel_rfl
theorem I_CostsOf_g0_ok {ρ : Type} (k : Nat) : Sound Try.prog (.loop b_I_CostsOf_0) (LP_I_CostsOf ρ k 0 fun st K => ev (E_I_CostsOf k) (LP_I_CostsOf ρ k) 0 b_I_CostsOf_0 st K) :=
  loop_ok (ev_sound (E_I_CostsOf_ok k) b_I_CostsOf_0 0 (lpgood_none (by kernel_rfl))) I_CostsOf_g0_kx I_CostsOf_g0_cx k (g := fun p v next K => I_CostsOf_g0 k p v next (fun x => K (.exit 0) (I_CostsOf_g0_x0 p x))) (dec_at I_CostsOf_g0_hd) (fun p v K K1 => I_CostsOf_g0_round k p v K K1)
def I_CostsOf_args (a : Model) : List Arg := [.agg [.int .i64 a.inp.h, .int .i64 a.inp.w, .int .i64 a.inp.c, .sl (.st .layer) a.layers]]
def I_CostsOf_argD (l : List Arg) : Option (Model) := match l with
  | [.agg [.int .i64 b0_0, .int .i64 b0_1, .int .i64 b0_2, .sl (.st .layer) b0_3]] => some (⟨(⟨b0_0, b0_1, b0_2⟩ : Shape), b0_3⟩ : Model)
  | _ => none
def I_CostsOf_enc (r : List Int) : Out := (.own 0, [.arr none (.int .i64) r])
def I_CostsOf_dec (o : Out) : Option (List Int) := match o with
  | (.own 0, [.arr none (.int .i64) z1]) => some z1
  | _ => none
def I_CostsOf_G (k : Nat) : PG := fun _ l K => (I_CostsOf_argD l).bind fun a => (I_CostsOf k a).bind fun r => K (I_CostsOf_enc r)
theorem I_CostsOf_ev (k : Nat) (a : Model) : ev (E_I_CostsOf k) (LP_I_CostsOf (List Int) k) 0 c_I_CostsOf (st0 Try.f130 (I_CostsOf_args a)) (fin Try.prog Try.f130 (.own (.int .i64)) I_CostsOf_dec) = I_CostsOf k a := by kernel_rfl
theorem I_CostsOf_ok (k : Nat) : PureOk Try.prog 130 (I_CostsOf_G k) :=
  pureOk_of_ev (E_I_CostsOf_ok k) Try.func130 (by kernel_rfl) (by kernel_rfl) I_CostsOf_args I_CostsOf_argD
    (fun l a h => by unfold I_CostsOf_argD at h; split at h <;> first | (cases h; rfl) | cases h) (fun a => rfl) (lpgood_of (l := [(0, b_I_CostsOf_0)]) (by kernel_rfl) ⟨I_CostsOf_g0_ok k, trivial⟩)
    (fun o r h => by unfold I_CostsOf_dec at h; split at h <;> first | (cases h; rfl) | cases h) (I_CostsOf_ev k)
def o_I_CostsOf (k : Nat) : Orc := pureOrc [.agg [(.int .i64), (.int .i64), (.int .i64), (.sl (.st .layer))]] (I_CostsOf_G k)
theorem o_I_CostsOf_ok (k : Nat) : OrcOk Try.prog 130 (o_I_CostsOf k) := pureOrc_ok (I_CostsOf_ok k)
/-! ### 129 loop.example/g00778/impl.sum -/
noncomputable def E_I_sum (k : Nat) : Env := { P := Try.prog, tt := tt, orc := fun g => noOrc }
theorem E_I_sum_ok (k : Nat) : EnvOk (E_I_sum k) := fun g => (noOrc_ok _ _)
noncomputable def c_I_sum : Code := (Try.f129.body).getD .skip
noncomputable def b_I_sum_0 : Code := ((loopsIn 0 c_I_sum).getD 0 (0, .skip)).2
def I_sum_g0_keep : List Nat := [3, 6, 7, 8]
def I_sum_g0_co : List (Where × Co) := []
def I_sum_g0_kx : Ex → List Nat
  | .exit j => cond (Nat.beq j 0) [3] []
  | .ret => []
  | .normal => []
def I_sum_g0_cx : Ex → List (Where × Co)
  | .exit j => cond (Nat.beq j 0) [] []
  | .ret => []
  | .normal => []
def I_sum_g0_tm (pv : (List Int × Int) × (Int × Int)) : St := { slots := [(3, .r [] (.int .i64 pv.2.1)), (6, .r [] (.sl (.int .i64) pv.1.1)), (7, .r [] (.int .i64 pv.1.2)), (8, .r [] (.int .i64 pv.2.2))], heap := [], nid := 0, n := 17, gh := [] }
def I_sum_g0_dec (nf : NF) : Option ((List Int × Int) × (Int × Int)) := match nf with
  | ([.r [] (.int .i64 w0), .r [] (.sl (.int .i64) w1), .r [] (.int .i64 w2), .r [] (.int .i64 w3)], [], []) => some ((w1, w2), (w0, w3))
  | _ => none
theorem I_sum_g0_hd (nf : NF) (v : (List Int × Int) × (Int × Int)) (h : I_sum_g0_dec nf = some v) : denorm I_sum_g0_keep 17 nf = I_sum_g0_tm v := by
  unfold I_sum_g0_dec at h
  split at h
  · cases h; rfl
  · cases h
def I_sum_g0_x0 (p : List Int × Int) (x : Int) : St := { slots := [(3, .r [] (.int .i64 x))], heap := [], nid := 0, n := 17, gh := [] }
def LP_I_sum (ρ : Type) (k : Nat) : Nat → Ev ρ → Ev ρ := fun id f => cond (Nat.beq id 0) (loopOrc I_sum_g0_keep I_sum_g0_co (fun n nf => cond (Nat.beq n 17) (I_sum_g0_dec nf) none) fun pv K => iter (fun v next => I_sum_g0 k pv.1 v next (fun x => K (.exit 0) (I_sum_g0_x0 pv.1 x))) k pv.2) ((fun _ _ _ _ => none) id f)
theorem I_sum_g0_round {ρ : Type} (k : Nat) (p : List Int × Int) (v : Int × Int) (K K1 : Ex → St → Option ρ) : ev (E_I_sum k) (LP_I_sum ρ k) 0 b_I_sum_0 (I_sum_g0_tm (p, v)) (fun e st' => match e with
    | .normal => (normC I_sum_g0_keep I_sum_g0_co st').bind fun nf => K1 .normal (denorm I_sum_g0_keep st'.n nf)
    | e => (normC (I_sum_g0_kx e) (I_sum_g0_cx e) st').bind fun nf => K e (denorm (I_sum_g0_kx e) st'.n nf)) = I_sum_g0 k p v (fun v' => K1 .normal (I_sum_g0_tm (p, v'))) (fun x => K (.exit 0) (I_sum_g0_x0 p x)) := by kernel_rfl
theorem I_sum_g0_ok {ρ : Type} (k : Nat) : Sound Try.prog (.loop b_I_sum_0) (LP_I_sum ρ k 0 fun st K => ev (E_I_sum k) (LP_I_sum ρ k) 0 b_I_sum_0 st K) :=
  loop_ok (ev_sound (E_I_sum_ok k) b_I_sum_0 0 (lpgood_none (by kernel_rfl))) I_sum_g0_kx I_sum_g0_cx k (g := fun p v next K => I_sum_g0 k p v next (fun x => K (.exit 0) (I_sum_g0_x0 p x))) (dec_at I_sum_g0_hd) (fun p v K K1 => I_sum_g0_round k p v K K1)
def I_sum_args (a : List Int) : List Arg := [.one (.sl (.int .i64) a)]
def I_sum_argD (l : List Arg) : Option (List Int) := match l with
  | [.one (.sl (.int .i64) b0)] => some b0
  | _ => none
def I_sum_enc (r : Int) : Out := (.r [] (.int .i64 r), [])
def I_sum_dec (o : Out) : Option (Int) := match o with
  | (.r [] (.int .i64 z1), []) => some z1
  | _ => none
def I_sum_G (k : Nat) : PG := fun _ l K => (I_sum_argD l).bind fun a => (I_sum k a).bind fun r => K (I_sum_enc r)
theorem I_sum_ev (k : Nat) (a : List Int) : ev (E_I_sum k) (LP_I_sum (Int) k) 0 c_I_sum (st0 Try.f129 (I_sum_args a)) (fin Try.prog Try.f129 (.sc) I_sum_dec) = I_sum k a := by kernel_rfl
theorem I_sum_ok (k : Nat) : PureOk Try.prog 129 (I_sum_G k) :=
  pureOk_of_ev (E_I_sum_ok k) Try.func129 (by kernel_rfl) (by kernel_rfl) I_sum_args I_sum_argD
    (fun l a h => by unfold I_sum_argD at h; split at h <;> first | (cases h; rfl) | cases h) (fun a => rfl) (lpgood_of (l := [(0, b_I_sum_0)]) (by kernel_rfl) ⟨I_sum_g0_ok k, trivial⟩)
    (fun o r h => by unfold I_sum_dec at h; split at h <;> first | (cases h; rfl) | cases h) (I_sum_ev k)
def o_I_sum (k : Nat) : Orc := pureOrc [.one (.sl (.int .i64))] (I_sum_G k)
theorem o_I_sum_ok (k : Nat) : OrcOk Try.prog 129 (o_I_sum k) := pureOrc_ok (I_sum_ok k)
/-! ### 99 loop.example/g00778/impl.JobOk -/
noncomputable def E_I_JobOk (k : Nat) : Env := { P := Try.prog, tt := tt, orc := fun g => cond (Nat.beq g 84) (o_I_ModelOk k) (cond (Nat.beq g 85) (o_I_ShapesOf k) (cond (Nat.beq g 107) (o_I_in k) (cond (Nat.beq g 129) (o_I_sum k) (cond (Nat.beq g 130) (o_I_CostsOf k) (cond (Nat.beq g 140) (o_I_TensorOk k) (noOrc)))))) }
theorem E_I_JobOk_ok (k : Nat) : EnvOk (E_I_JobOk k) := fun g => (orc_cond (o_I_ModelOk_ok k) (orc_cond (o_I_ShapesOf_ok k) (orc_cond (o_I_in_ok k) (orc_cond (o_I_sum_ok k) (orc_cond (o_I_CostsOf_ok k) (orc_cond (o_I_TensorOk_ok k) (noOrc_ok _ _)))))))
noncomputable def c_I_JobOk : Code := (Try.f99.body).getD .skip
def LP_I_JobOk (ρ : Type) (k : Nat) : Nat → Ev ρ → Ev ρ := fun _ _ _ _ => none
def I_JobOk_args (a : Job) : List Arg := [.agg [.int .i64 a.model.inp.h, .int .i64 a.model.inp.w, .int .i64 a.model.inp.c, .sl (.st .layer) a.model.layers, .int .i64 a.at_, .int .i64 a.act.sh.h, .int .i64 a.act.sh.w, .int .i64 a.act.sh.c, .sl (.int .i64) a.act.data, .int .i64 a.spent]]
def I_JobOk_argD (l : List Arg) : Option (Job) := match l with
  | [.agg [.int .i64 b0_0, .int .i64 b0_1, .int .i64 b0_2, .sl (.st .layer) b0_3, .int .i64 b0_4, .int .i64 b0_5, .int .i64 b0_6, .int .i64 b0_7, .sl (.int .i64) b0_8, .int .i64 b0_9]] => some (⟨(⟨(⟨b0_0, b0_1, b0_2⟩ : Shape), b0_3⟩ : Model), b0_4, (⟨(⟨b0_5, b0_6, b0_7⟩ : Shape), b0_8⟩ : Tensor), b0_9⟩ : Job)
  | _ => none
def I_JobOk_enc (r : Bool) : Out := (.r [] (.bool r), [])
def I_JobOk_dec (o : Out) : Option (Bool) := match o with
  | (.r [] (.bool z1), []) => some z1
  | _ => none
def I_JobOk_G (k : Nat) : PG := fun _ l K => (I_JobOk_argD l).bind fun a => (I_JobOk k a).bind fun r => K (I_JobOk_enc r)
theorem I_JobOk_ev (k : Nat) (a : Job) : ev (E_I_JobOk k) (LP_I_JobOk (Bool) k) 0 c_I_JobOk (st0 Try.f99 (I_JobOk_args a)) (fin Try.prog Try.f99 (.sc) I_JobOk_dec) = I_JobOk k a := by kernel_rfl
theorem I_JobOk_ok (k : Nat) : PureOk Try.prog 99 (I_JobOk_G k) :=
  pureOk_of_ev (E_I_JobOk_ok k) Try.func99 (by kernel_rfl) (by kernel_rfl) I_JobOk_args I_JobOk_argD
    (fun l a h => by unfold I_JobOk_argD at h; split at h <;> first | (cases h; rfl) | cases h) (fun a => rfl) (lpgood_none (by kernel_rfl))
    (fun o r h => by unfold I_JobOk_dec at h; split at h <;> first | (cases h; rfl) | cases h) (I_JobOk_ev k)
def o_I_JobOk (k : Nat) : Orc := pureOrc [.agg [(.int .i64), (.int .i64), (.int .i64), (.sl (.st .layer)), (.int .i64), (.int .i64), (.int .i64), (.int .i64), (.sl (.int .i64)), (.int .i64)]] (I_JobOk_G k)
theorem o_I_JobOk_ok (k : Nat) : OrcOk Try.prog 99 (o_I_JobOk k) := pureOrc_ok (I_JobOk_ok k)
/-! ### 64 slices.Clone[[]int,int] -/
noncomputable def E_slices_Clone_lint_int (k : Nat) : Env := { P := Try.prog, tt := tt, orc := fun g => noOrc }
theorem E_slices_Clone_lint_int_ok (k : Nat) : EnvOk (E_slices_Clone_lint_int k) := fun g => (noOrc_ok _ _)
noncomputable def c_slices_Clone_lint_int : Code := (Try.f64.body).getD .skip
def LP_slices_Clone_lint_int (ρ : Type) (k : Nat) : Nat → Ev ρ → Ev ρ := fun _ _ _ _ => none
def slices_Clone_lint_int_args (a : List Int) : List Arg := [.one (.sl (.int .i64) a)]
def slices_Clone_lint_int_argD (l : List Arg) : Option (List Int) := match l with
  | [.one (.sl (.int .i64) b0)] => some b0
  | _ => none
def slices_Clone_lint_int_enc (r : List Int) : Out := (.own 0, [.arr none (.int .i64) r])
def slices_Clone_lint_int_dec (o : Out) : Option (List Int) := match o with
  | (.own 0, [.arr none (.int .i64) z1]) => some z1
  | _ => none
def slices_Clone_lint_int_G (k : Nat) : PG := fun _ l K => (slices_Clone_lint_int_argD l).bind fun a => (slices_Clone_lint_int k a).bind fun r => K (slices_Clone_lint_int_enc r)
theorem slices_Clone_lint_int_ev (k : Nat) (a : List Int) : ev (E_slices_Clone_lint_int k) (LP_slices_Clone_lint_int (List Int) k) 0 c_slices_Clone_lint_int (st0 Try.f64 (slices_Clone_lint_int_args a)) (fin Try.prog Try.f64 (.own (.int .i64)) slices_Clone_lint_int_dec) = slices_Clone_lint_int k a := by kernel_rfl
theorem slices_Clone_lint_int_ok (k : Nat) : PureOk Try.prog 64 (slices_Clone_lint_int_G k) :=
  pureOk_of_ev (E_slices_Clone_lint_int_ok k) Try.func64 (by kernel_rfl) (by kernel_rfl) slices_Clone_lint_int_args slices_Clone_lint_int_argD
    (fun l a h => by unfold slices_Clone_lint_int_argD at h; split at h <;> first | (cases h; rfl) | cases h) (fun a => rfl) (lpgood_none (by kernel_rfl))
    (fun o r h => by unfold slices_Clone_lint_int_dec at h; split at h <;> first | (cases h; rfl) | cases h) (slices_Clone_lint_int_ev k)
def o_slices_Clone_lint_int (k : Nat) : Orc := pureOrc [.one (.sl (.int .i64))] (slices_Clone_lint_int_G k)
theorem o_slices_Clone_lint_int_ok (k : Nat) : OrcOk Try.prog 64 (o_slices_Clone_lint_int k) := pureOrc_ok (slices_Clone_lint_int_ok k)
/-! ### 135 (loop.example/g00778/impl.Layer).copied -/
noncomputable def E_I_Layer_copied (k : Nat) : Env := { P := Try.prog, tt := tt, orc := fun g => cond (Nat.beq g 64) (o_slices_Clone_lint_int k) (noOrc) }
theorem E_I_Layer_copied_ok (k : Nat) : EnvOk (E_I_Layer_copied k) := fun g => (orc_cond (o_slices_Clone_lint_int_ok k) (noOrc_ok _ _))
noncomputable def c_I_Layer_copied : Code := (Try.f135.body).getD .skip
def LP_I_Layer_copied (ρ : Type) (k : Nat) : Nat → Ev ρ → Ev ρ := fun _ _ _ _ => none
def I_Layer_copied_args (a : Layer) : List Arg := [.agg [.int .i64 a.kind, .int .i64 a.out, .int .i64 a.size, .int .i64 a.step, .int .i64 a.mult, .int .i64 a.shift, .int .i64 a.zero, .sl (.int .i64) a.weights, .sl (.int .i64) a.bias]]
def I_Layer_copied_argD (l : List Arg) : Option (Layer) := match l with
  | [.agg [.int .i64 b0_0, .int .i64 b0_1, .int .i64 b0_2, .int .i64 b0_3, .int .i64 b0_4, .int .i64 b0_5, .int .i64 b0_6, .sl (.int .i64) b0_7, .sl (.int .i64) b0_8]] => some (⟨b0_0, b0_1, b0_2, b0_3, b0_4, b0_5, b0_6, b0_7, b0_8⟩ : Layer)
  | _ => none
def I_Layer_copied_enc (r : Layer) : Out := (.agg [.r [] (.int .i64 r.kind), .r [] (.int .i64 r.out), .r [] (.int .i64 r.size), .r [] (.int .i64 r.step), .r [] (.int .i64 r.mult), .r [] (.int .i64 r.shift), .r [] (.int .i64 r.zero), .own 0, .own 1], [.arr none (.int .i64) r.weights, .arr none (.int .i64) r.bias])
def I_Layer_copied_dec (o : Out) : Option (Layer) := match o with
  | (.agg [.r [] (.int .i64 z1), .r [] (.int .i64 z2), .r [] (.int .i64 z3), .r [] (.int .i64 z4), .r [] (.int .i64 z5), .r [] (.int .i64 z6), .r [] (.int .i64 z7), .own 0, .own 1], [.arr none (.int .i64) z8, .arr none (.int .i64) z9]) => some (⟨z1, z2, z3, z4, z5, z6, z7, z8, z9⟩ : Layer)
  | _ => none
def I_Layer_copied_G (k : Nat) : PG := fun _ l K => (I_Layer_copied_argD l).bind fun a => (I_Layer_copied k a).bind fun r => K (I_Layer_copied_enc r)
theorem I_Layer_copied_ev (k : Nat) (a : Layer) : ev (E_I_Layer_copied k) (LP_I_Layer_copied (Layer) k) 0 c_I_Layer_copied (st0 Try.f135 (I_Layer_copied_args a)) (fin Try.prog Try.f135 (.agg [.sc, .sc, .sc, .sc, .sc, .sc, .sc, .own (.int .i64), .own (.int .i64)]) I_Layer_copied_dec) = I_Layer_copied k a := by kernel_rfl
theorem I_Layer_copied_ok (k : Nat) : PureOk Try.prog 135 (I_Layer_copied_G k) :=
  pureOk_of_ev (E_I_Layer_copied_ok k) Try.func135 (by kernel_rfl) (by kernel_rfl) I_Layer_copied_args I_Layer_copied_argD
    (fun l a h => by unfold I_Layer_copied_argD at h; split at h <;> first | (cases h; rfl) | cases h) (fun a => rfl) (lpgood_none (by kernel_rfl))
    (fun o r h => by unfold I_Layer_copied_dec at h; split at h <;> first | (cases h; rfl) | cases h) (I_Layer_copied_ev k)
def o_I_Layer_copied (k : Nat) : Orc := pureOrc [.agg [(.int .i64), (.int .i64), (.int .i64), (.int .i64), (.int .i64), (.int .i64), (.int .i64), (.sl (.int .i64)), (.sl (.int .i64))]] (I_Layer_copied_G k)
theorem o_I_Layer_copied_ok (k : Nat) : OrcOk Try.prog 135 (o_I_Layer_copied k) := pureOrc_ok (I_Layer_copied_ok k)
/-! ### 86 loop.example/g00778/impl.copiedLayers -/
noncomputable def E_I_copiedLayers (k : Nat) : Env := { P := Try.prog, tt := tt, orc := fun g => cond (Nat.beq g 135) (o_I_Layer_copied k) (noOrc) }
theorem E_I_copiedLayers_ok (k : Nat) : EnvOk (E_I_copiedLayers k) := fun g => (orc_cond (o_I_Layer_copied_ok k) (noOrc_ok _ _))
noncomputable def c_I_copiedLayers : Code := (Try.f86.body).getD .skip
noncomputable def b_I_copiedLayers_0 : Code := ((loopsIn 0 c_I_copiedLayers).getD 0 (0, .skip)).2
def I_copiedLayers_g0_keep : List Nat := [3, 7, 8, 9]
def I_copiedLayers_g0_co : List (Where × Co) := []
def I_copiedLayers_g0_kx : Ex → List Nat
  | .exit j => cond (Nat.beq j 0) [3] []
  | .ret => []
  | .normal => []
def I_copiedLayers_g0_cx : Ex → List (Where × Co)
  | .exit j => cond (Nat.beq j 0) [] []
  | .ret => []
  | .normal => []
def I_copiedLayers_g0_tm (pv : (List Layer × Int) × (Int × List Layer)) : St := { slots := [(3, .own 0), (7, .r [] (.sl (.st .layer) pv.1.1)), (8, .r [] (.int .i64 pv.1.2)), (9, .r [] (.int .i64 pv.2.1))], heap := [(0, .arr none (.st .layer) pv.2.2)], nid := 1, n := 20, gh := [] }
def I_copiedLayers_g0_dec (nf : NF) : Option ((List Layer × Int) × (Int × List Layer)) := match nf with
  | ([.own 0, .r [] (.sl (.st .layer) w0), .r [] (.int .i64 w1), .r [] (.int .i64 w2)], [.arr none (.st .layer) w3], []) => some ((w0, w1), (w2, w3))
  | _ => none
theorem I_copiedLayers_g0_hd (nf : NF) (v : (List Layer × Int) × (Int × List Layer)) (h : I_copiedLayers_g0_dec nf = some v) : denorm I_copiedLayers_g0_keep 20 nf = I_copiedLayers_g0_tm v := by
  unfold I_copiedLayers_g0_dec at h
  split at h
  · cases h; rfl
  · cases h
def I_copiedLayers_g0_x0 (p : List Layer × Int) (x : List Layer) : St := { slots := [(3, .own 0)], heap := [(0, .arr none (.st .layer) x)], nid := 1, n := 20, gh := [] }
def LP_I_copiedLayers (ρ : Type) (k : Nat) : Nat → Ev ρ → Ev ρ := fun id f => cond (Nat.beq id 0) (loopOrc I_copiedLayers_g0_keep I_copiedLayers_g0_co (fun n nf => cond (Nat.beq n 20) (I_copiedLayers_g0_dec nf) none) fun pv K => iter (fun v next => I_copiedLayers_g0 k pv.1 v next (fun x => K (.exit 0) (I_copiedLayers_g0_x0 pv.1 x))) k pv.2) ((fun _ _ _ _ => none) id f)
theorem I_copiedLayers_g0_round {ρ : Type} (k : Nat) (p : List Layer × Int) (v : Int × List Layer) (K K1 : Ex → St → Option ρ) : ev (E_I_copiedLayers k) (LP_I_copiedLayers ρ k) 0 b_I_copiedLayers_0 (I_copiedLayers_g0_tm (p, v)) (fun e st' => match e with
    | .normal => (normC I_copiedLayers_g0_keep I_copiedLayers_g0_co st').bind fun nf => K1 .normal (denorm I_copiedLayers_g0_keep st'.n nf)
    | e => (normC (I_copiedLayers_g0_kx e) (I_copiedLayers_g0_cx e) st').bind fun nf => K e (denorm (I_copiedLayers_g0_kx e) st'.n nf)) = I_copiedLayers_g0 k p v (fun v' => K1 .normal (I_copiedLayers_g0_tm (p, v'))) (fun x => K (.exit 0) (I_copiedLayers_g0_x0 p x)) := by kernel_rfl
theorem I_copiedLayers_g0_ok {ρ : Type} (k : Nat) : Sound Try.prog (.loop b_I_copiedLayers_0) (LP_I_copiedLayers ρ k 0 fun st K => ev (E_I_copiedLayers k) (LP_I_copiedLayers ρ k) 0 b_I_copiedLayers_0 st K) :=
  loop_ok (ev_sound (E_I_copiedLayers_ok k) b_I_copiedLayers_0 0 (lpgood_none (by kernel_rfl))) I_copiedLayers_g0_kx I_copiedLayers_g0_cx k (g := fun p v next K => I_copiedLayers_g0 k p v next (fun x => K (.exit 0) (I_copiedLayers_g0_x0 p x))) (dec_at I_copiedLayers_g0_hd) (fun p v K K1 => I_copiedLayers_g0_round k p v K K1)
def I_copiedLayers_args (a : List Layer) : List Arg := [.one (.sl (.st .layer) a)]
def I_copiedLayers_argD (l : List Arg) : Option (List Layer) := match l with
  | [.one (.sl (.st .layer) b0)] => some b0
  | _ => none
def I_copiedLayers_enc (r : List Layer) : Out := (.own 0, [.arr none (.st .layer) r])
def I_copiedLayers_dec (o : Out) : Option (List Layer) := match o with
  | (.own 0, [.arr none (.st .layer) z1]) => some z1
  | _ => none
def I_copiedLayers_G (k : Nat) : PG := fun _ l K => (I_copiedLayers_argD l).bind fun a => (I_copiedLayers k a).bind fun r => K (I_copiedLayers_enc r)
theorem I_copiedLayers_ev (k : Nat) (a : List Layer) : ev (E_I_copiedLayers k) (LP_I_copiedLayers (List Layer) k) 0 c_I_copiedLayers (st0 Try.f86 (I_copiedLayers_args a)) (fin Try.prog Try.f86 (.own (.st .layer)) I_copiedLayers_dec) = I_copiedLayers k a := by kernel_rfl
theorem I_copiedLayers_ok (k : Nat) : PureOk Try.prog 86 (I_copiedLayers_G k) :=
  pureOk_of_ev (E_I_copiedLayers_ok k) Try.func86 (by kernel_rfl) (by kernel_rfl) I_copiedLayers_args I_copiedLayers_argD
    (fun l a h => by unfold I_copiedLayers_argD at h; split at h <;> first | (cases h; rfl) | cases h) (fun a => rfl) (lpgood_of (l := [(0, b_I_copiedLayers_0)]) (by kernel_rfl) ⟨I_copiedLayers_g0_ok k, trivial⟩)
    (fun o r h => by unfold I_copiedLayers_dec at h; split at h <;> first | (cases h; rfl) | cases h) (I_copiedLayers_ev k)
def o_I_copiedLayers (k : Nat) : Orc := pureOrc [.one (.sl (.st .layer))] (I_copiedLayers_G k)
theorem o_I_copiedLayers_ok (k : Nat) : OrcOk Try.prog 86 (o_I_copiedLayers k) := pureOrc_ok (I_copiedLayers_ok k)
/-! ### 141 (loop.example/g00778/impl.Model).copied -/
noncomputable def E_I_Model_copied (k : Nat) : Env := { P := Try.prog, tt := tt, orc := fun g => cond (Nat.beq g 86) (o_I_copiedLayers k) (noOrc) }
theorem E_I_Model_copied_ok (k : Nat) : EnvOk (E_I_Model_copied k) := fun g => (orc_cond (o_I_copiedLayers_ok k) (noOrc_ok _ _))
noncomputable def c_I_Model_copied : Code := (Try.f141.body).getD .skip
def LP_I_Model_copied (ρ : Type) (k : Nat) : Nat → Ev ρ → Ev ρ := fun _ _ _ _ => none
def I_Model_copied_args (a : Model) : List Arg := [.agg [.int .i64 a.inp.h, .int .i64 a.inp.w, .int .i64 a.inp.c, .sl (.st .layer) a.layers]]
def I_Model_copied_argD (l : List Arg) : Option (Model) := match l with
  | [.agg [.int .i64 b0_0, .int .i64 b0_1, .int .i64 b0_2, .sl (.st .layer) b0_3]] => some (⟨(⟨b0_0, b0_1, b0_2⟩ : Shape), b0_3⟩ : Model)
  | _ => none
def I_Model_copied_enc (r : Model) : Out := (.agg [.r [] (.int .i64 r.inp.h), .r [] (.int .i64 r.inp.w), .r [] (.int .i64 r.inp.c), .own 0], [.arr none (.st .layer) r.layers])
def I_Model_copied_dec (o : Out) : Option (Model) := match o with
  | (.agg [.r [] (.int .i64 z1), .r [] (.int .i64 z2), .r [] (.int .i64 z3), .own 0], [.arr none (.st .layer) z4]) => some (⟨(⟨z1, z2, z3⟩ : Shape), z4⟩ : Model)
  | _ => none
def I_Model_copied_G (k : Nat) : PG := fun _ l K => (I_Model_copied_argD l).bind fun a => (I_Model_copied k a).bind fun r => K (I_Model_copied_enc r)
theorem I_Model_copied_ev (k : Nat) (a : Model) : ev (E_I_Model_copied k) (LP_I_Model_copied (Model) k) 0 c_I_Model_copied (st0 Try.f141 (I_Model_copied_args a)) (fin Try.prog Try.f141 (.agg [.sc, .sc, .sc, .own (.st .layer)]) I_Model_copied_dec) = I_Model_copied k a := by kernel_rfl
theorem I_Model_copied_ok (k : Nat) : PureOk Try.prog 141 (I_Model_copied_G k) :=
  pureOk_of_ev (E_I_Model_copied_ok k) Try.func141 (by kernel_rfl) (by kernel_rfl) I_Model_copied_args I_Model_copied_argD
    (fun l a h => by unfold I_Model_copied_argD at h; split at h <;> first | (cases h; rfl) | cases h) (fun a => rfl) (lpgood_none (by kernel_rfl))
    (fun o r h => by unfold I_Model_copied_dec at h; split at h <;> first | (cases h; rfl) | cases h) (I_Model_copied_ev k)
def o_I_Model_copied (k : Nat) : Orc := pureOrc [.agg [(.int .i64), (.int .i64), (.int .i64), (.sl (.st .layer))]] (I_Model_copied_G k)
theorem o_I_Model_copied_ok (k : Nat) : OrcOk Try.prog 141 (o_I_Model_copied k) := pureOrc_ok (I_Model_copied_ok k)
/-! ### 142 (loop.example/g00778/impl.Tensor).copied -/
noncomputable def E_I_Tensor_copied (k : Nat) : Env := { P := Try.prog, tt := tt, orc := fun g => cond (Nat.beq g 64) (o_slices_Clone_lint_int k) (noOrc) }
theorem E_I_Tensor_copied_ok (k : Nat) : EnvOk (E_I_Tensor_copied k) := fun g => (orc_cond (o_slices_Clone_lint_int_ok k) (noOrc_ok _ _))
noncomputable def c_I_Tensor_copied : Code := (Try.f142.body).getD .skip
def LP_I_Tensor_copied (ρ : Type) (k : Nat) : Nat → Ev ρ → Ev ρ := fun _ _ _ _ => none
def I_Tensor_copied_args (a : Tensor) : List Arg := [.agg [.int .i64 a.sh.h, .int .i64 a.sh.w, .int .i64 a.sh.c, .sl (.int .i64) a.data]]
def I_Tensor_copied_argD (l : List Arg) : Option (Tensor) := match l with
  | [.agg [.int .i64 b0_0, .int .i64 b0_1, .int .i64 b0_2, .sl (.int .i64) b0_3]] => some (⟨(⟨b0_0, b0_1, b0_2⟩ : Shape), b0_3⟩ : Tensor)
  | _ => none
def I_Tensor_copied_enc (r : Tensor) : Out := (.agg [.r [] (.int .i64 r.sh.h), .r [] (.int .i64 r.sh.w), .r [] (.int .i64 r.sh.c), .own 0], [.arr none (.int .i64) r.data])
def I_Tensor_copied_dec (o : Out) : Option (Tensor) := match o with
  | (.agg [.r [] (.int .i64 z1), .r [] (.int .i64 z2), .r [] (.int .i64 z3), .own 0], [.arr none (.int .i64) z4]) => some (⟨(⟨z1, z2, z3⟩ : Shape), z4⟩ : Tensor)
  | _ => none
def I_Tensor_copied_G (k : Nat) : PG := fun _ l K => (I_Tensor_copied_argD l).bind fun a => (I_Tensor_copied k a).bind fun r => K (I_Tensor_copied_enc r)
theorem I_Tensor_copied_ev (k : Nat) (a : Tensor) : ev (E_I_Tensor_copied k) (LP_I_Tensor_copied (Tensor) k) 0 c_I_Tensor_copied (st0 Try.f142 (I_Tensor_copied_args a)) (fin Try.prog Try.f142 (.agg [.sc, .sc, .sc, .own (.int .i64)]) I_Tensor_copied_dec) = I_Tensor_copied k a := by kernel_rfl
theorem I_Tensor_copied_ok (k : Nat) : PureOk Try.prog 142 (I_Tensor_copied_G k) :=
  pureOk_of_ev (E_I_Tensor_copied_ok k) Try.func142 (by kernel_rfl) (by kernel_rfl) I_Tensor_copied_args I_Tensor_copied_argD
    (fun l a h => by unfold I_Tensor_copied_argD at h; split at h <;> first | (cases h; rfl) | cases h) (fun a => rfl) (lpgood_none (by kernel_rfl))
    (fun o r h => by unfold I_Tensor_copied_dec at h; split at h <;> first | (cases h; rfl) | cases h) (I_Tensor_copied_ev k)
def o_I_Tensor_copied (k : Nat) : Orc := pureOrc [.agg [(.int .i64), (.int .i64), (.int .i64), (.sl (.int .i64))]] (I_Tensor_copied_G k)
theorem o_I_Tensor_copied_ok (k : Nat) : OrcOk Try.prog 142 (o_I_Tensor_copied k) := pureOrc_ok (I_Tensor_copied_ok k)
/-! ### 100 (loop.example/g00778/impl.Job).copied -/
noncomputable def E_I_Job_copied (k : Nat) : Env := { P := Try.prog, tt := tt, orc := fun g => cond (Nat.beq g 141) (o_I_Model_copied k) (cond (Nat.beq g 142) (o_I_Tensor_copied k) (noOrc)) }
theorem E_I_Job_copied_ok (k : Nat) : EnvOk (E_I_Job_copied k) := fun g => (orc_cond (o_I_Model_copied_ok k) (orc_cond (o_I_Tensor_copied_ok k) (noOrc_ok _ _)))
noncomputable def c_I_Job_copied : Code := (Try.f100.body).getD .skip
def LP_I_Job_copied (ρ : Type) (k : Nat) : Nat → Ev ρ → Ev ρ := fun _ _ _ _ => none
def I_Job_copied_args (a : Job) : List Arg := [.agg [.int .i64 a.model.inp.h, .int .i64 a.model.inp.w, .int .i64 a.model.inp.c, .sl (.st .layer) a.model.layers, .int .i64 a.at_, .int .i64 a.act.sh.h, .int .i64 a.act.sh.w, .int .i64 a.act.sh.c, .sl (.int .i64) a.act.data, .int .i64 a.spent]]
def I_Job_copied_argD (l : List Arg) : Option (Job) := match l with
  | [.agg [.int .i64 b0_0, .int .i64 b0_1, .int .i64 b0_2, .sl (.st .layer) b0_3, .int .i64 b0_4, .int .i64 b0_5, .int .i64 b0_6, .int .i64 b0_7, .sl (.int .i64) b0_8, .int .i64 b0_9]] => some (⟨(⟨(⟨b0_0, b0_1, b0_2⟩ : Shape), b0_3⟩ : Model), b0_4, (⟨(⟨b0_5, b0_6, b0_7⟩ : Shape), b0_8⟩ : Tensor), b0_9⟩ : Job)
  | _ => none
def I_Job_copied_enc (r : Job) : Out := (.agg [.r [] (.int .i64 r.model.inp.h), .r [] (.int .i64 r.model.inp.w), .r [] (.int .i64 r.model.inp.c), .own 0, .r [] (.int .i64 r.at_), .r [] (.int .i64 r.act.sh.h), .r [] (.int .i64 r.act.sh.w), .r [] (.int .i64 r.act.sh.c), .own 1, .r [] (.int .i64 r.spent)], [.arr none (.st .layer) r.model.layers, .arr none (.int .i64) r.act.data])
def I_Job_copied_dec (o : Out) : Option (Job) := match o with
  | (.agg [.r [] (.int .i64 z1), .r [] (.int .i64 z2), .r [] (.int .i64 z3), .own 0, .r [] (.int .i64 z5), .r [] (.int .i64 z6), .r [] (.int .i64 z7), .r [] (.int .i64 z8), .own 1, .r [] (.int .i64 z10)], [.arr none (.st .layer) z4, .arr none (.int .i64) z9]) => some (⟨(⟨(⟨z1, z2, z3⟩ : Shape), z4⟩ : Model), z5, (⟨(⟨z6, z7, z8⟩ : Shape), z9⟩ : Tensor), z10⟩ : Job)
  | _ => none
def I_Job_copied_G (k : Nat) : PG := fun _ l K => (I_Job_copied_argD l).bind fun a => (I_Job_copied k a).bind fun r => K (I_Job_copied_enc r)
theorem I_Job_copied_ev (k : Nat) (a : Job) : ev (E_I_Job_copied k) (LP_I_Job_copied (Job) k) 0 c_I_Job_copied (st0 Try.f100 (I_Job_copied_args a)) (fin Try.prog Try.f100 (.agg [.sc, .sc, .sc, .own (.st .layer), .sc, .sc, .sc, .sc, .own (.int .i64), .sc]) I_Job_copied_dec) = I_Job_copied k a := by kernel_rfl
theorem I_Job_copied_ok (k : Nat) : PureOk Try.prog 100 (I_Job_copied_G k) :=
  pureOk_of_ev (E_I_Job_copied_ok k) Try.func100 (by kernel_rfl) (by kernel_rfl) I_Job_copied_args I_Job_copied_argD
    (fun l a h => by unfold I_Job_copied_argD at h; split at h <;> first | (cases h; rfl) | cases h) (fun a => rfl) (lpgood_none (by kernel_rfl))
    (fun o r h => by unfold I_Job_copied_dec at h; split at h <;> first | (cases h; rfl) | cases h) (I_Job_copied_ev k)
def o_I_Job_copied (k : Nat) : Orc := pureOrc [.agg [(.int .i64), (.int .i64), (.int .i64), (.sl (.st .layer)), (.int .i64), (.int .i64), (.int .i64), (.int .i64), (.sl (.int .i64)), (.int .i64)]] (I_Job_copied_G k)
theorem o_I_Job_copied_ok (k : Nat) : OrcOk Try.prog 100 (o_I_Job_copied k) := pureOrc_ok (I_Job_copied_ok k)
/-! ### 37 loop.example/g00778/impl.StartJob -/
noncomputable def E_I_StartJob (k : Nat) : Env := { P := Try.prog, tt := tt, orc := fun g => cond (Nat.beq g 99) (o_I_JobOk k) (cond (Nat.beq g 100) (o_I_Job_copied k) (noOrc)) }
theorem E_I_StartJob_ok (k : Nat) : EnvOk (E_I_StartJob k) := fun g => (orc_cond (o_I_JobOk_ok k) (orc_cond (o_I_Job_copied_ok k) (noOrc_ok _ _)))
noncomputable def c_I_StartJob : Code := (Try.f37.body).getD .skip
def LP_I_StartJob (ρ : Type) (k : Nat) : Nat → Ev ρ → Ev ρ := fun _ _ _ _ => none
def I_StartJob_args (a : Model × Tensor) : List Arg := [.agg [.int .i64 a.1.inp.h, .int .i64 a.1.inp.w, .int .i64 a.1.inp.c, .sl (.st .layer) a.1.layers], .agg [.int .i64 a.2.sh.h, .int .i64 a.2.sh.w, .int .i64 a.2.sh.c, .sl (.int .i64) a.2.data]]
def I_StartJob_argD (l : List Arg) : Option (Model × Tensor) := match l with
  | [.agg [.int .i64 b0_0, .int .i64 b0_1, .int .i64 b0_2, .sl (.st .layer) b0_3], .agg [.int .i64 b1_0, .int .i64 b1_1, .int .i64 b1_2, .sl (.int .i64) b1_3]] => some ((⟨(⟨b0_0, b0_1, b0_2⟩ : Shape), b0_3⟩ : Model), (⟨(⟨b1_0, b1_1, b1_2⟩ : Shape), b1_3⟩ : Tensor))
  | _ => none
def I_StartJob_enc (r : Job × Bool) : Out := (.tup [.agg [.r [] (.int .i64 r.1.model.inp.h), .r [] (.int .i64 r.1.model.inp.w), .r [] (.int .i64 r.1.model.inp.c), .own 0, .r [] (.int .i64 r.1.at_), .r [] (.int .i64 r.1.act.sh.h), .r [] (.int .i64 r.1.act.sh.w), .r [] (.int .i64 r.1.act.sh.c), .own 1, .r [] (.int .i64 r.1.spent)], .r [] (.bool r.2)], [.arr none (.st .layer) r.1.model.layers, .arr none (.int .i64) r.1.act.data])
def I_StartJob_dec (o : Out) : Option (Job × Bool) := match o with
  | (.tup [.agg [.r [] (.int .i64 z1), .r [] (.int .i64 z2), .r [] (.int .i64 z3), .own 0, .r [] (.int .i64 z5), .r [] (.int .i64 z6), .r [] (.int .i64 z7), .r [] (.int .i64 z8), .own 1, .r [] (.int .i64 z10)], .r [] (.bool z11)], [.arr none (.st .layer) z4, .arr none (.int .i64) z9]) => some ((⟨(⟨(⟨z1, z2, z3⟩ : Shape), z4⟩ : Model), z5, (⟨(⟨z6, z7, z8⟩ : Shape), z9⟩ : Tensor), z10⟩ : Job), z11)
  | _ => none
def I_StartJob_G (k : Nat) : PG := fun _ l K => (I_StartJob_argD l).bind fun a => (I_StartJob k a.1 a.2).bind fun r => K (I_StartJob_enc r)
theorem I_StartJob_ev (k : Nat) (a : Model × Tensor) : ev (E_I_StartJob k) (LP_I_StartJob (Job × Bool) k) 0 c_I_StartJob (st0 Try.f37 (I_StartJob_args a)) (fin Try.prog Try.f37 (.tup [.agg [.sc, .sc, .sc, .own (.st .layer), .sc, .sc, .sc, .sc, .own (.int .i64), .sc], .sc]) I_StartJob_dec) = I_StartJob k a.1 a.2 := by kernel_rfl
theorem I_StartJob_ok (k : Nat) : PureOk Try.prog 37 (I_StartJob_G k) :=
  pureOk_of_ev (E_I_StartJob_ok k) Try.func37 (by kernel_rfl) (by kernel_rfl) I_StartJob_args I_StartJob_argD
    (fun l a h => by unfold I_StartJob_argD at h; split at h <;> first | (cases h; rfl) | cases h) (fun a => rfl) (lpgood_none (by kernel_rfl))
    (fun o r h => by unfold I_StartJob_dec at h; split at h <;> first | (cases h; rfl) | cases h) (I_StartJob_ev k)
def o_I_StartJob (k : Nat) : Orc := pureOrc [.agg [(.int .i64), (.int .i64), (.int .i64), (.sl (.st .layer))], .agg [(.int .i64), (.int .i64), (.int .i64), (.sl (.int .i64))]] (I_StartJob_G k)
theorem o_I_StartJob_ok (k : Nat) : OrcOk Try.prog 37 (o_I_StartJob k) := pureOrc_ok (I_StartJob_ok k)
/-! ### 79 loop.example/g00778/laws.eqShape -/
noncomputable def E_L_eqShape (k : Nat) : Env := { P := Try.prog, tt := tt, orc := fun g => noOrc }
theorem E_L_eqShape_ok (k : Nat) : EnvOk (E_L_eqShape k) := fun g => (noOrc_ok _ _)
noncomputable def c_L_eqShape : Code := (Try.f79.body).getD .skip
def LP_L_eqShape (ρ : Type) (k : Nat) : Nat → Ev ρ → Ev ρ := fun _ _ _ _ => none
def L_eqShape_args (a : Shape × Shape) : List Arg := [.agg [.int .i64 a.1.h, .int .i64 a.1.w, .int .i64 a.1.c], .agg [.int .i64 a.2.h, .int .i64 a.2.w, .int .i64 a.2.c]]
def L_eqShape_argD (l : List Arg) : Option (Shape × Shape) := match l with
  | [.agg [.int .i64 b0_0, .int .i64 b0_1, .int .i64 b0_2], .agg [.int .i64 b1_0, .int .i64 b1_1, .int .i64 b1_2]] => some ((⟨b0_0, b0_1, b0_2⟩ : Shape), (⟨b1_0, b1_1, b1_2⟩ : Shape))
  | _ => none
def L_eqShape_enc (r : Bool) : Out := (.r [] (.bool r), [])
def L_eqShape_dec (o : Out) : Option (Bool) := match o with
  | (.r [] (.bool z1), []) => some z1
  | _ => none
def L_eqShape_G (k : Nat) : PG := fun _ l K => (L_eqShape_argD l).bind fun a => (L_eqShape k a.1 a.2).bind fun r => K (L_eqShape_enc r)
theorem L_eqShape_ev (k : Nat) (a : Shape × Shape) : ev (E_L_eqShape k) (LP_L_eqShape (Bool) k) 0 c_L_eqShape (st0 Try.f79 (L_eqShape_args a)) (fin Try.prog Try.f79 (.sc) L_eqShape_dec) = L_eqShape k a.1 a.2 := by kernel_rfl
theorem L_eqShape_ok (k : Nat) : PureOk Try.prog 79 (L_eqShape_G k) :=
  pureOk_of_ev (E_L_eqShape_ok k) Try.func79 (by kernel_rfl) (by kernel_rfl) L_eqShape_args L_eqShape_argD
    (fun l a h => by unfold L_eqShape_argD at h; split at h <;> first | (cases h; rfl) | cases h) (fun a => rfl) (lpgood_none (by kernel_rfl))
    (fun o r h => by unfold L_eqShape_dec at h; split at h <;> first | (cases h; rfl) | cases h) (L_eqShape_ev k)
def o_L_eqShape (k : Nat) : Orc := pureOrc [.agg [(.int .i64), (.int .i64), (.int .i64)], .agg [(.int .i64), (.int .i64), (.int .i64)]] (L_eqShape_G k)
theorem o_L_eqShape_ok (k : Nat) : OrcOk Try.prog 79 (o_L_eqShape k) := pureOrc_ok (L_eqShape_ok k)
/-! ### 17 loop.example/g00778/laws.eqIntS -/
noncomputable def E_L_eqIntS (k : Nat) : Env := { P := Try.prog, tt := tt, orc := fun g => noOrc }
theorem E_L_eqIntS_ok (k : Nat) : EnvOk (E_L_eqIntS k) := fun g => (noOrc_ok _ _)
noncomputable def c_L_eqIntS : Code := (Try.f17.body).getD .skip
noncomputable def b_L_eqIntS_0 : Code := ((loopsIn 0 c_L_eqIntS).getD 0 (0, .skip)).2
def L_eqIntS_g0_keep : List Nat := [0, 1, 5]
def L_eqIntS_g0_co : List (Where × Co) := []
def L_eqIntS_g0_kx : Ex → List Nat
  | .exit j => cond (Nat.beq j 0) [] []
  | .ret => [4]
  | .normal => []
def L_eqIntS_g0_cx : Ex → List (Where × Co)
  | .exit j => cond (Nat.beq j 0) [] []
  | .ret => []
  | .normal => []
def L_eqIntS_g0_tm (pv : (List Int × List Int) × (Int)) : St := { slots := [(0, .r [] (.sl (.int .i64) pv.1.1)), (1, .r [] (.sl (.int .i64) pv.1.2)), (5, .r [] (.int .i64 pv.2))], heap := [], nid := 0, n := 26, gh := [] }
def L_eqIntS_g0_dec (nf : NF) : Option ((List Int × List Int) × (Int)) := match nf with
  | ([.r [] (.sl (.int .i64) w0), .r [] (.sl (.int .i64) w1), .r [] (.int .i64 w2)], [], []) => some ((w0, w1), w2)
  | _ => none
theorem L_eqIntS_g0_hd (nf : NF) (v : (List Int × List Int) × (Int)) (h : L_eqIntS_g0_dec nf = some v) : denorm L_eqIntS_g0_keep 26 nf = L_eqIntS_g0_tm v := by
  unfold L_eqIntS_g0_dec at h
  split at h
  · cases h; rfl
  · cases h
def L_eqIntS_g0_x0 (p : List Int × List Int) (x : Unit) : St := { slots := [], heap := [], nid := 0, n := 26, gh := [] }
def L_eqIntS_g0_xret (p : List Int × List Int) (x : Bool) : St := { slots := [(4, .r [] (.bool x))], heap := [], nid := 0, n := 26, gh := [] }
def LP_L_eqIntS (ρ : Type) (k : Nat) : Nat → Ev ρ → Ev ρ := fun id f => cond (Nat.beq id 0) (loopOrc L_eqIntS_g0_keep L_eqIntS_g0_co (fun n nf => cond (Nat.beq n 26) (L_eqIntS_g0_dec nf) none) fun pv K => iter (fun v next => L_eqIntS_g0 k pv.1 v next (fun x => K (.exit 0) (L_eqIntS_g0_x0 pv.1 x)) (fun x => K .ret (L_eqIntS_g0_xret pv.1 x))) k pv.2) ((fun _ _ _ _ => none) id f)
theorem L_eqIntS_g0_round {ρ : Type} (k : Nat) (p : List Int × List Int) (v : Int) (K K1 : Ex → St → Option ρ) : ev (E_L_eqIntS k) (LP_L_eqIntS ρ k) 0 b_L_eqIntS_0 (L_eqIntS_g0_tm (p, v)) (fun e st' => match e with
    | .normal => (normC L_eqIntS_g0_keep L_eqIntS_g0_co st').bind fun nf => K1 .normal (denorm L_eqIntS_g0_keep st'.n nf)
    | e => (normC (L_eqIntS_g0_kx e) (L_eqIntS_g0_cx e) st').bind fun nf => K e (denorm (L_eqIntS_g0_kx e) st'.n nf)) = L_eqIntS_g0 k p v (fun v' => K1 .normal (L_eqIntS_g0_tm (p, v'))) (fun x => K (.exit 0) (L_eqIntS_g0_x0 p x)) (fun x => K .ret (L_eqIntS_g0_xret p x)) := by kernel_rfl
theorem L_eqIntS_g0_ok {ρ : Type} (k : Nat) : Sound Try.prog (.loop b_L_eqIntS_0) (LP_L_eqIntS ρ k 0 fun st K => ev (E_L_eqIntS k) (LP_L_eqIntS ρ k) 0 b_L_eqIntS_0 st K) :=
  loop_ok (ev_sound (E_L_eqIntS_ok k) b_L_eqIntS_0 0 (lpgood_none (by kernel_rfl))) L_eqIntS_g0_kx L_eqIntS_g0_cx k (g := fun p v next K => L_eqIntS_g0 k p v next (fun x => K (.exit 0) (L_eqIntS_g0_x0 p x)) (fun x => K .ret (L_eqIntS_g0_xret p x))) (dec_at L_eqIntS_g0_hd) (fun p v K K1 => L_eqIntS_g0_round k p v K K1)
def L_eqIntS_args (a : List Int × List Int) : List Arg := [.one (.sl (.int .i64) a.1), .one (.sl (.int .i64) a.2)]
def L_eqIntS_argD (l : List Arg) : Option (List Int × List Int) := match l with
  | [.one (.sl (.int .i64) b0), .one (.sl (.int .i64) b1)] => some (b0, b1)
  | _ => none
def L_eqIntS_enc (r : Bool) : Out := (.r [] (.bool r), [])
def L_eqIntS_dec (o : Out) : Option (Bool) := match o with
  | (.r [] (.bool z1), []) => some z1
  | _ => none
def L_eqIntS_G (k : Nat) : PG := fun _ l K => (L_eqIntS_argD l).bind fun a => (L_eqIntS k a.1 a.2).bind fun r => K (L_eqIntS_enc r)
theorem L_eqIntS_ev (k : Nat) (a : List Int × List Int) : ev (E_L_eqIntS k) (LP_L_eqIntS (Bool) k) 0 c_L_eqIntS (st0 Try.f17 (L_eqIntS_args a)) (fin Try.prog Try.f17 (.sc) L_eqIntS_dec) = L_eqIntS k a.1 a.2 := by kernel_rfl
theorem L_eqIntS_ok (k : Nat) : PureOk Try.prog 17 (L_eqIntS_G k) :=
  pureOk_of_ev (E_L_eqIntS_ok k) Try.func17 (by kernel_rfl) (by kernel_rfl) L_eqIntS_args L_eqIntS_argD
    (fun l a h => by unfold L_eqIntS_argD at h; split at h <;> first | (cases h; rfl) | cases h) (fun a => rfl) (lpgood_of (l := [(0, b_L_eqIntS_0)]) (by kernel_rfl) ⟨L_eqIntS_g0_ok k, trivial⟩)
    (fun o r h => by unfold L_eqIntS_dec at h; split at h <;> first | (cases h; rfl) | cases h) (L_eqIntS_ev k)
def o_L_eqIntS (k : Nat) : Orc := pureOrc [.one (.sl (.int .i64)), .one (.sl (.int .i64))] (L_eqIntS_G k)
theorem o_L_eqIntS_ok (k : Nat) : OrcOk Try.prog 17 (o_L_eqIntS k) := pureOrc_ok (L_eqIntS_ok k)
/-! ### 131 loop.example/g00778/laws.eqLayer -/
noncomputable def E_L_eqLayer (k : Nat) : Env := { P := Try.prog, tt := tt, orc := fun g => cond (Nat.beq g 17) (o_L_eqIntS k) (noOrc) }
theorem E_L_eqLayer_ok (k : Nat) : EnvOk (E_L_eqLayer k) := fun g => (orc_cond (o_L_eqIntS_ok k) (noOrc_ok _ _))
noncomputable def c_L_eqLayer : Code := (Try.f131.body).getD .skip
def LP_L_eqLayer (ρ : Type) (k : Nat) : Nat → Ev ρ → Ev ρ := fun _ _ _ _ => none
def L_eqLayer_args (a : Layer × Layer) : List Arg := [.agg [.int .i64 a.1.kind, .int .i64 a.1.out, .int .i64 a.1.size, .int .i64 a.1.step, .int .i64 a.1.mult, .int .i64 a.1.shift, .int .i64 a.1.zero, .sl (.int .i64) a.1.weights, .sl (.int .i64) a.1.bias], .agg [.int .i64 a.2.kind, .int .i64 a.2.out, .int .i64 a.2.size, .int .i64 a.2.step, .int .i64 a.2.mult, .int .i64 a.2.shift, .int .i64 a.2.zero, .sl (.int .i64) a.2.weights, .sl (.int .i64) a.2.bias]]
def L_eqLayer_argD (l : List Arg) : Option (Layer × Layer) := match l with
  | [.agg [.int .i64 b0_0, .int .i64 b0_1, .int .i64 b0_2, .int .i64 b0_3, .int .i64 b0_4, .int .i64 b0_5, .int .i64 b0_6, .sl (.int .i64) b0_7, .sl (.int .i64) b0_8], .agg [.int .i64 b1_0, .int .i64 b1_1, .int .i64 b1_2, .int .i64 b1_3, .int .i64 b1_4, .int .i64 b1_5, .int .i64 b1_6, .sl (.int .i64) b1_7, .sl (.int .i64) b1_8]] => some ((⟨b0_0, b0_1, b0_2, b0_3, b0_4, b0_5, b0_6, b0_7, b0_8⟩ : Layer), (⟨b1_0, b1_1, b1_2, b1_3, b1_4, b1_5, b1_6, b1_7, b1_8⟩ : Layer))
  | _ => none
def L_eqLayer_enc (r : Bool) : Out := (.r [] (.bool r), [])
def L_eqLayer_dec (o : Out) : Option (Bool) := match o with
  | (.r [] (.bool z1), []) => some z1
  | _ => none
def L_eqLayer_G (k : Nat) : PG := fun _ l K => (L_eqLayer_argD l).bind fun a => (L_eqLayer k a.1 a.2).bind fun r => K (L_eqLayer_enc r)
theorem L_eqLayer_ev (k : Nat) (a : Layer × Layer) : ev (E_L_eqLayer k) (LP_L_eqLayer (Bool) k) 0 c_L_eqLayer (st0 Try.f131 (L_eqLayer_args a)) (fin Try.prog Try.f131 (.sc) L_eqLayer_dec) = L_eqLayer k a.1 a.2 := by kernel_rfl
theorem L_eqLayer_ok (k : Nat) : PureOk Try.prog 131 (L_eqLayer_G k) :=
  pureOk_of_ev (E_L_eqLayer_ok k) Try.func131 (by kernel_rfl) (by kernel_rfl) L_eqLayer_args L_eqLayer_argD
    (fun l a h => by unfold L_eqLayer_argD at h; split at h <;> first | (cases h; rfl) | cases h) (fun a => rfl) (lpgood_none (by kernel_rfl))
    (fun o r h => by unfold L_eqLayer_dec at h; split at h <;> first | (cases h; rfl) | cases h) (L_eqLayer_ev k)
def o_L_eqLayer (k : Nat) : Orc := pureOrc [.agg [(.int .i64), (.int .i64), (.int .i64), (.int .i64), (.int .i64), (.int .i64), (.int .i64), (.sl (.int .i64)), (.sl (.int .i64))], .agg [(.int .i64), (.int .i64), (.int .i64), (.int .i64), (.int .i64), (.int .i64), (.int .i64), (.sl (.int .i64)), (.sl (.int .i64))]] (L_eqLayer_G k)
theorem o_L_eqLayer_ok (k : Nat) : OrcOk Try.prog 131 (o_L_eqLayer k) := pureOrc_ok (L_eqLayer_ok k)
/-! ### 80 loop.example/g00778/laws.eqLayerS -/
noncomputable def E_L_eqLayerS (k : Nat) : Env := { P := Try.prog, tt := tt, orc := fun g => cond (Nat.beq g 131) (o_L_eqLayer k) (noOrc) }
theorem E_L_eqLayerS_ok (k : Nat) : EnvOk (E_L_eqLayerS k) := fun g => (orc_cond (o_L_eqLayer_ok k) (noOrc_ok _ _))
noncomputable def c_L_eqLayerS : Code := (Try.f80.body).getD .skip
noncomputable def b_L_eqLayerS_0 : Code := ((loopsIn 0 c_L_eqLayerS).getD 0 (0, .skip)).2
def L_eqLayerS_g0_keep : List Nat := [0, 1, 5]
def L_eqLayerS_g0_co : List (Where × Co) := []
def L_eqLayerS_g0_kx : Ex → List Nat
  | .exit j => cond (Nat.beq j 0) [] []
  | .ret => [4]
  | .normal => []
def L_eqLayerS_g0_cx : Ex → List (Where × Co)
  | .exit j => cond (Nat.beq j 0) [] []
  | .ret => []
  | .normal => []
def L_eqLayerS_g0_tm (pv : (List Layer × List Layer) × (Int)) : St := { slots := [(0, .r [] (.sl (.st .layer) pv.1.1)), (1, .r [] (.sl (.st .layer) pv.1.2)), (5, .r [] (.int .i64 pv.2))], heap := [], nid := 0, n := 27, gh := [] }
def L_eqLayerS_g0_dec (nf : NF) : Option ((List Layer × List Layer) × (Int)) := match nf with
  | ([.r [] (.sl (.st .layer) w0), .r [] (.sl (.st .layer) w1), .r [] (.int .i64 w2)], [], []) => some ((w0, w1), w2)
  | _ => none
theorem L_eqLayerS_g0_hd (nf : NF) (v : (List Layer × List Layer) × (Int)) (h : L_eqLayerS_g0_dec nf = some v) : denorm L_eqLayerS_g0_keep 27 nf = L_eqLayerS_g0_tm v := by
  unfold L_eqLayerS_g0_dec at h
  split at h
  · cases h; rfl
  · cases h
def L_eqLayerS_g0_x0 (p : List Layer × List Layer) (x : Unit) : St := { slots := [], heap := [], nid := 0, n := 27, gh := [] }
def L_eqLayerS_g0_xret (p : List Layer × List Layer) (x : Bool) : St := { slots := [(4, .r [] (.bool x))], heap := [], nid := 0, n := 27, gh := [] }
def LP_L_eqLayerS (ρ : Type) (k : Nat) : Nat → Ev ρ → Ev ρ := fun id f => cond (Nat.beq id 0) (loopOrc L_eqLayerS_g0_keep L_eqLayerS_g0_co (fun n nf => cond (Nat.beq n 27) (L_eqLayerS_g0_dec nf) none) fun pv K => iter (fun v next => L_eqLayerS_g0 k pv.1 v next (fun x => K (.exit 0) (L_eqLayerS_g0_x0 pv.1 x)) (fun x => K .ret (L_eqLayerS_g0_xret pv.1 x))) k pv.2) ((fun _ _ _ _ => none) id f)
theorem L_eqLayerS_g0_round {ρ : Type} (k : Nat) (p : List Layer × List Layer) (v : Int) (K K1 : Ex → St → Option ρ) : ev (E_L_eqLayerS k) (LP_L_eqLayerS ρ k) 0 b_L_eqLayerS_0 (L_eqLayerS_g0_tm (p, v)) (fun e st' => match e with
    | .normal => (normC L_eqLayerS_g0_keep L_eqLayerS_g0_co st').bind fun nf => K1 .normal (denorm L_eqLayerS_g0_keep st'.n nf)
    | e => (normC (L_eqLayerS_g0_kx e) (L_eqLayerS_g0_cx e) st').bind fun nf => K e (denorm (L_eqLayerS_g0_kx e) st'.n nf)) = L_eqLayerS_g0 k p v (fun v' => K1 .normal (L_eqLayerS_g0_tm (p, v'))) (fun x => K (.exit 0) (L_eqLayerS_g0_x0 p x)) (fun x => K .ret (L_eqLayerS_g0_xret p x)) := by kernel_rfl
theorem L_eqLayerS_g0_ok {ρ : Type} (k : Nat) : Sound Try.prog (.loop b_L_eqLayerS_0) (LP_L_eqLayerS ρ k 0 fun st K => ev (E_L_eqLayerS k) (LP_L_eqLayerS ρ k) 0 b_L_eqLayerS_0 st K) :=
  loop_ok (ev_sound (E_L_eqLayerS_ok k) b_L_eqLayerS_0 0 (lpgood_none (by kernel_rfl))) L_eqLayerS_g0_kx L_eqLayerS_g0_cx k (g := fun p v next K => L_eqLayerS_g0 k p v next (fun x => K (.exit 0) (L_eqLayerS_g0_x0 p x)) (fun x => K .ret (L_eqLayerS_g0_xret p x))) (dec_at L_eqLayerS_g0_hd) (fun p v K K1 => L_eqLayerS_g0_round k p v K K1)
def L_eqLayerS_args (a : List Layer × List Layer) : List Arg := [.one (.sl (.st .layer) a.1), .one (.sl (.st .layer) a.2)]
def L_eqLayerS_argD (l : List Arg) : Option (List Layer × List Layer) := match l with
  | [.one (.sl (.st .layer) b0), .one (.sl (.st .layer) b1)] => some (b0, b1)
  | _ => none
def L_eqLayerS_enc (r : Bool) : Out := (.r [] (.bool r), [])
def L_eqLayerS_dec (o : Out) : Option (Bool) := match o with
  | (.r [] (.bool z1), []) => some z1
  | _ => none
def L_eqLayerS_G (k : Nat) : PG := fun _ l K => (L_eqLayerS_argD l).bind fun a => (L_eqLayerS k a.1 a.2).bind fun r => K (L_eqLayerS_enc r)
theorem L_eqLayerS_ev (k : Nat) (a : List Layer × List Layer) : ev (E_L_eqLayerS k) (LP_L_eqLayerS (Bool) k) 0 c_L_eqLayerS (st0 Try.f80 (L_eqLayerS_args a)) (fin Try.prog Try.f80 (.sc) L_eqLayerS_dec) = L_eqLayerS k a.1 a.2 := by kernel_rfl
theorem L_eqLayerS_ok (k : Nat) : PureOk Try.prog 80 (L_eqLayerS_G k) :=
  pureOk_of_ev (E_L_eqLayerS_ok k) Try.func80 (by kernel_rfl) (by kernel_rfl) L_eqLayerS_args L_eqLayerS_argD
    (fun l a h => by unfold L_eqLayerS_argD at h; split at h <;> first | (cases h; rfl) | cases h) (fun a => rfl) (lpgood_of (l := [(0, b_L_eqLayerS_0)]) (by kernel_rfl) ⟨L_eqLayerS_g0_ok k, trivial⟩)
    (fun o r h => by unfold L_eqLayerS_dec at h; split at h <;> first | (cases h; rfl) | cases h) (L_eqLayerS_ev k)
def o_L_eqLayerS (k : Nat) : Orc := pureOrc [.one (.sl (.st .layer)), .one (.sl (.st .layer))] (L_eqLayerS_G k)
theorem o_L_eqLayerS_ok (k : Nat) : OrcOk Try.prog 80 (o_L_eqLayerS k) := pureOrc_ok (L_eqLayerS_ok k)
/-! ### 25 loop.example/g00778/laws.eqModel -/
noncomputable def E_L_eqModel (k : Nat) : Env := { P := Try.prog, tt := tt, orc := fun g => cond (Nat.beq g 79) (o_L_eqShape k) (cond (Nat.beq g 80) (o_L_eqLayerS k) (noOrc)) }
theorem E_L_eqModel_ok (k : Nat) : EnvOk (E_L_eqModel k) := fun g => (orc_cond (o_L_eqShape_ok k) (orc_cond (o_L_eqLayerS_ok k) (noOrc_ok _ _)))
noncomputable def c_L_eqModel : Code := (Try.f25.body).getD .skip
def LP_L_eqModel (ρ : Type) (k : Nat) : Nat → Ev ρ → Ev ρ := fun _ _ _ _ => none
def L_eqModel_args (a : Model × Model) : List Arg := [.agg [.int .i64 a.1.inp.h, .int .i64 a.1.inp.w, .int .i64 a.1.inp.c, .sl (.st .layer) a.1.layers], .agg [.int .i64 a.2.inp.h, .int .i64 a.2.inp.w, .int .i64 a.2.inp.c, .sl (.st .layer) a.2.layers]]
def L_eqModel_argD (l : List Arg) : Option (Model × Model) := match l with
  | [.agg [.int .i64 b0_0, .int .i64 b0_1, .int .i64 b0_2, .sl (.st .layer) b0_3], .agg [.int .i64 b1_0, .int .i64 b1_1, .int .i64 b1_2, .sl (.st .layer) b1_3]] => some ((⟨(⟨b0_0, b0_1, b0_2⟩ : Shape), b0_3⟩ : Model), (⟨(⟨b1_0, b1_1, b1_2⟩ : Shape), b1_3⟩ : Model))
  | _ => none
def L_eqModel_enc (r : Bool) : Out := (.r [] (.bool r), [])
def L_eqModel_dec (o : Out) : Option (Bool) := match o with
  | (.r [] (.bool z1), []) => some z1
  | _ => none
def L_eqModel_G (k : Nat) : PG := fun _ l K => (L_eqModel_argD l).bind fun a => (L_eqModel k a.1 a.2).bind fun r => K (L_eqModel_enc r)
theorem L_eqModel_ev (k : Nat) (a : Model × Model) : ev (E_L_eqModel k) (LP_L_eqModel (Bool) k) 0 c_L_eqModel (st0 Try.f25 (L_eqModel_args a)) (fin Try.prog Try.f25 (.sc) L_eqModel_dec) = L_eqModel k a.1 a.2 := by kernel_rfl
theorem L_eqModel_ok (k : Nat) : PureOk Try.prog 25 (L_eqModel_G k) :=
  pureOk_of_ev (E_L_eqModel_ok k) Try.func25 (by kernel_rfl) (by kernel_rfl) L_eqModel_args L_eqModel_argD
    (fun l a h => by unfold L_eqModel_argD at h; split at h <;> first | (cases h; rfl) | cases h) (fun a => rfl) (lpgood_none (by kernel_rfl))
    (fun o r h => by unfold L_eqModel_dec at h; split at h <;> first | (cases h; rfl) | cases h) (L_eqModel_ev k)
def o_L_eqModel (k : Nat) : Orc := pureOrc [.agg [(.int .i64), (.int .i64), (.int .i64), (.sl (.st .layer))], .agg [(.int .i64), (.int .i64), (.int .i64), (.sl (.st .layer))]] (L_eqModel_G k)
theorem o_L_eqModel_ok (k : Nat) : OrcOk Try.prog 25 (o_L_eqModel k) := pureOrc_ok (L_eqModel_ok k)
/-! ### 39 loop.example/g00778/laws.eqTensor -/
noncomputable def E_L_eqTensor (k : Nat) : Env := { P := Try.prog, tt := tt, orc := fun g => cond (Nat.beq g 17) (o_L_eqIntS k) (cond (Nat.beq g 79) (o_L_eqShape k) (noOrc)) }
theorem E_L_eqTensor_ok (k : Nat) : EnvOk (E_L_eqTensor k) := fun g => (orc_cond (o_L_eqIntS_ok k) (orc_cond (o_L_eqShape_ok k) (noOrc_ok _ _)))
noncomputable def c_L_eqTensor : Code := (Try.f39.body).getD .skip
def LP_L_eqTensor (ρ : Type) (k : Nat) : Nat → Ev ρ → Ev ρ := fun _ _ _ _ => none
def L_eqTensor_args (a : Tensor × Tensor) : List Arg := [.agg [.int .i64 a.1.sh.h, .int .i64 a.1.sh.w, .int .i64 a.1.sh.c, .sl (.int .i64) a.1.data], .agg [.int .i64 a.2.sh.h, .int .i64 a.2.sh.w, .int .i64 a.2.sh.c, .sl (.int .i64) a.2.data]]
def L_eqTensor_argD (l : List Arg) : Option (Tensor × Tensor) := match l with
  | [.agg [.int .i64 b0_0, .int .i64 b0_1, .int .i64 b0_2, .sl (.int .i64) b0_3], .agg [.int .i64 b1_0, .int .i64 b1_1, .int .i64 b1_2, .sl (.int .i64) b1_3]] => some ((⟨(⟨b0_0, b0_1, b0_2⟩ : Shape), b0_3⟩ : Tensor), (⟨(⟨b1_0, b1_1, b1_2⟩ : Shape), b1_3⟩ : Tensor))
  | _ => none
def L_eqTensor_enc (r : Bool) : Out := (.r [] (.bool r), [])
def L_eqTensor_dec (o : Out) : Option (Bool) := match o with
  | (.r [] (.bool z1), []) => some z1
  | _ => none
def L_eqTensor_G (k : Nat) : PG := fun _ l K => (L_eqTensor_argD l).bind fun a => (L_eqTensor k a.1 a.2).bind fun r => K (L_eqTensor_enc r)
theorem L_eqTensor_ev (k : Nat) (a : Tensor × Tensor) : ev (E_L_eqTensor k) (LP_L_eqTensor (Bool) k) 0 c_L_eqTensor (st0 Try.f39 (L_eqTensor_args a)) (fin Try.prog Try.f39 (.sc) L_eqTensor_dec) = L_eqTensor k a.1 a.2 := by kernel_rfl
theorem L_eqTensor_ok (k : Nat) : PureOk Try.prog 39 (L_eqTensor_G k) :=
  pureOk_of_ev (E_L_eqTensor_ok k) Try.func39 (by kernel_rfl) (by kernel_rfl) L_eqTensor_args L_eqTensor_argD
    (fun l a h => by unfold L_eqTensor_argD at h; split at h <;> first | (cases h; rfl) | cases h) (fun a => rfl) (lpgood_none (by kernel_rfl))
    (fun o r h => by unfold L_eqTensor_dec at h; split at h <;> first | (cases h; rfl) | cases h) (L_eqTensor_ev k)
def o_L_eqTensor (k : Nat) : Orc := pureOrc [.agg [(.int .i64), (.int .i64), (.int .i64), (.sl (.int .i64))], .agg [(.int .i64), (.int .i64), (.int .i64), (.sl (.int .i64))]] (L_eqTensor_G k)
theorem o_L_eqTensor_ok (k : Nat) : OrcOk Try.prog 39 (o_L_eqTensor k) := pureOrc_ok (L_eqTensor_ok k)
/-! ### 38 loop.example/g00778/laws.eqJob -/
noncomputable def E_L_eqJob (k : Nat) : Env := { P := Try.prog, tt := tt, orc := fun g => cond (Nat.beq g 25) (o_L_eqModel k) (cond (Nat.beq g 39) (o_L_eqTensor k) (noOrc)) }
theorem E_L_eqJob_ok (k : Nat) : EnvOk (E_L_eqJob k) := fun g => (orc_cond (o_L_eqModel_ok k) (orc_cond (o_L_eqTensor_ok k) (noOrc_ok _ _)))
noncomputable def c_L_eqJob : Code := (Try.f38.body).getD .skip
def LP_L_eqJob (ρ : Type) (k : Nat) : Nat → Ev ρ → Ev ρ := fun _ _ _ _ => none
def L_eqJob_args (a : Job × Job) : List Arg := [.agg [.int .i64 a.1.model.inp.h, .int .i64 a.1.model.inp.w, .int .i64 a.1.model.inp.c, .sl (.st .layer) a.1.model.layers, .int .i64 a.1.at_, .int .i64 a.1.act.sh.h, .int .i64 a.1.act.sh.w, .int .i64 a.1.act.sh.c, .sl (.int .i64) a.1.act.data, .int .i64 a.1.spent], .agg [.int .i64 a.2.model.inp.h, .int .i64 a.2.model.inp.w, .int .i64 a.2.model.inp.c, .sl (.st .layer) a.2.model.layers, .int .i64 a.2.at_, .int .i64 a.2.act.sh.h, .int .i64 a.2.act.sh.w, .int .i64 a.2.act.sh.c, .sl (.int .i64) a.2.act.data, .int .i64 a.2.spent]]
def L_eqJob_argD (l : List Arg) : Option (Job × Job) := match l with
  | [.agg [.int .i64 b0_0, .int .i64 b0_1, .int .i64 b0_2, .sl (.st .layer) b0_3, .int .i64 b0_4, .int .i64 b0_5, .int .i64 b0_6, .int .i64 b0_7, .sl (.int .i64) b0_8, .int .i64 b0_9], .agg [.int .i64 b1_0, .int .i64 b1_1, .int .i64 b1_2, .sl (.st .layer) b1_3, .int .i64 b1_4, .int .i64 b1_5, .int .i64 b1_6, .int .i64 b1_7, .sl (.int .i64) b1_8, .int .i64 b1_9]] => some ((⟨(⟨(⟨b0_0, b0_1, b0_2⟩ : Shape), b0_3⟩ : Model), b0_4, (⟨(⟨b0_5, b0_6, b0_7⟩ : Shape), b0_8⟩ : Tensor), b0_9⟩ : Job), (⟨(⟨(⟨b1_0, b1_1, b1_2⟩ : Shape), b1_3⟩ : Model), b1_4, (⟨(⟨b1_5, b1_6, b1_7⟩ : Shape), b1_8⟩ : Tensor), b1_9⟩ : Job))
  | _ => none
def L_eqJob_enc (r : Bool) : Out := (.r [] (.bool r), [])
def L_eqJob_dec (o : Out) : Option (Bool) := match o with
  | (.r [] (.bool z1), []) => some z1
  | _ => none
def L_eqJob_G (k : Nat) : PG := fun _ l K => (L_eqJob_argD l).bind fun a => (L_eqJob k a.1 a.2).bind fun r => K (L_eqJob_enc r)
theorem L_eqJob_ev (k : Nat) (a : Job × Job) : ev (E_L_eqJob k) (LP_L_eqJob (Bool) k) 0 c_L_eqJob (st0 Try.f38 (L_eqJob_args a)) (fin Try.prog Try.f38 (.sc) L_eqJob_dec) = L_eqJob k a.1 a.2 := by kernel_rfl
theorem L_eqJob_ok (k : Nat) : PureOk Try.prog 38 (L_eqJob_G k) :=
  pureOk_of_ev (E_L_eqJob_ok k) Try.func38 (by kernel_rfl) (by kernel_rfl) L_eqJob_args L_eqJob_argD
    (fun l a h => by unfold L_eqJob_argD at h; split at h <;> first | (cases h; rfl) | cases h) (fun a => rfl) (lpgood_none (by kernel_rfl))
    (fun o r h => by unfold L_eqJob_dec at h; split at h <;> first | (cases h; rfl) | cases h) (L_eqJob_ev k)
def o_L_eqJob (k : Nat) : Orc := pureOrc [.agg [(.int .i64), (.int .i64), (.int .i64), (.sl (.st .layer)), (.int .i64), (.int .i64), (.int .i64), (.int .i64), (.sl (.int .i64)), (.int .i64)], .agg [(.int .i64), (.int .i64), (.int .i64), (.sl (.st .layer)), (.int .i64), (.int .i64), (.int .i64), (.int .i64), (.sl (.int .i64)), (.int .i64)]] (L_eqJob_G k)
theorem o_L_eqJob_ok (k : Nat) : OrcOk Try.prog 38 (o_L_eqJob k) := pureOrc_ok (L_eqJob_ok k)
/-! ### 19 loop.example/g00778/laws.markIntS -/
noncomputable def E_L_markIntS_m3 (k : Nat) : Env := { P := Try.prog, tt := tt, orc := fun g => noOrc }
theorem E_L_markIntS_m3_ok (k : Nat) : EnvOk (E_L_markIntS_m3 k) := fun g => (noOrc_ok _ _)
noncomputable def c_L_markIntS_m3 : Code := (Try.f19.body).getD .skip
noncomputable def b_L_markIntS_m3_0 : Code := ((loopsIn 0 c_L_markIntS_m3).getD 0 (0, .skip)).2
def L_markIntS_m3_g0_keep : List Nat := [0, 1, 5]
def L_markIntS_m3_g0_co : List (Where × Co) := []
def L_markIntS_m3_g0_kx : Ex → List Nat
  | .exit j => cond (Nat.beq j 0) [1] []
  | .ret => []
  | .normal => []
def L_markIntS_m3_g0_cx : Ex → List (Where × Co)
  | .exit j => cond (Nat.beq j 0) [] []
  | .ret => []
  | .normal => []
def L_markIntS_m3_g0_tm (pv : (Unit) × (Int × Int × List Int)) : St := { slots := [(0, .own 0), (1, .r [] (.int .i64 pv.2.1)), (5, .r [] (.int .i64 pv.2.2.1))], heap := [(0, .arr none (.int .i64) pv.2.2.2)], nid := 1, n := 19, gh := [some 0] }
def L_markIntS_m3_g0_dec (nf : NF) : Option ((Unit) × (Int × Int × List Int)) := match nf with
  | ([.own 0, .r [] (.int .i64 w0), .r [] (.int .i64 w1)], [.arr none (.int .i64) w2], [some 0]) => some ((), (w0, w1, w2))
  | _ => none
theorem L_markIntS_m3_g0_hd (nf : NF) (v : (Unit) × (Int × Int × List Int)) (h : L_markIntS_m3_g0_dec nf = some v) : denorm L_markIntS_m3_g0_keep 19 nf = L_markIntS_m3_g0_tm v := by
  unfold L_markIntS_m3_g0_dec at h
  split at h
  · cases h; rfl
  · cases h
def L_markIntS_m3_g0_x0 (p : Unit) (x : Int × List Int) : St := { slots := [(1, .r [] (.int .i64 x.1))], heap := [(0, .arr none (.int .i64) x.2)], nid := 1, n := 19, gh := [some 0] }
def LP_L_markIntS_m3 (ρ : Type) (k : Nat) : Nat → Ev ρ → Ev ρ := fun id f => cond (Nat.beq id 0) (loopOrc L_markIntS_m3_g0_keep L_markIntS_m3_g0_co (fun n nf => cond (Nat.beq n 19) (L_markIntS_m3_g0_dec nf) none) fun pv K => iter (fun v next => L_markIntS_m3_g0 k pv.1 v next (fun x => K (.exit 0) (L_markIntS_m3_g0_x0 pv.1 x))) k pv.2) ((fun _ _ _ _ => none) id f)
theorem L_markIntS_m3_g0_round {ρ : Type} (k : Nat) (p : Unit) (v : Int × Int × List Int) (K K1 : Ex → St → Option ρ) : ev (E_L_markIntS_m3 k) (LP_L_markIntS_m3 ρ k) 0 b_L_markIntS_m3_0 (L_markIntS_m3_g0_tm (p, v)) (fun e st' => match e with
    | .normal => (normC L_markIntS_m3_g0_keep L_markIntS_m3_g0_co st').bind fun nf => K1 .normal (denorm L_markIntS_m3_g0_keep st'.n nf)
    | e => (normC (L_markIntS_m3_g0_kx e) (L_markIntS_m3_g0_cx e) st').bind fun nf => K e (denorm (L_markIntS_m3_g0_kx e) st'.n nf)) = L_markIntS_m3_g0 k p v (fun v' => K1 .normal (L_markIntS_m3_g0_tm (p, v'))) (fun x => K (.exit 0) (L_markIntS_m3_g0_x0 p x)) := by kernel_rfl
theorem L_markIntS_m3_g0_ok {ρ : Type} (k : Nat) : Sound Try.prog (.loop b_L_markIntS_m3_0) (LP_L_markIntS_m3 ρ k 0 fun st K => ev (E_L_markIntS_m3 k) (LP_L_markIntS_m3 ρ k) 0 b_L_markIntS_m3_0 st K) :=
  loop_ok (ev_sound (E_L_markIntS_m3_ok k) b_L_markIntS_m3_0 0 (lpgood_none (by kernel_rfl))) L_markIntS_m3_g0_kx L_markIntS_m3_g0_cx k (g := fun p v next K => L_markIntS_m3_g0 k p v next (fun x => K (.exit 0) (L_markIntS_m3_g0_x0 p x))) (dec_at L_markIntS_m3_g0_hd) (fun p v K K1 => L_markIntS_m3_g0_round k p v K K1)
def L_markIntS_m3_args (a : List Int × Int) : List SV := [.own 0, .r [] (.int .i64 a.2)]
def L_markIntS_m3_blks (a : List Int × Int) : List Blk := [.arr none (.int .i64) a.1]
def L_markIntS_m3_argD (l : List SV) (b : List Blk) : Option (List Int × Int) := match l, b with
  | [.own 0, .r [] (.int .i64 w0)], [.arr none (.int .i64) w1] => some (w1, w0)
  | _, _ => none
def L_markIntS_m3_enc (a : List Int × Int) (r : Int × List Int) : MOut := ⟨.r [] (.int .i64 r.1), [some (.arr none (.int .i64) r.2)], []⟩
def L_markIntS_m3_dec (a : List Int × Int) (o : MOut) : Option (Int × List Int) := match o with
  | ⟨.r [] (.int .i64 z1), [some (.arr none (.int .i64) z2)], []⟩ => some (z1, z2)
  | _ => none
def L_markIntS_m3_G (k : Nat) : MG := fun _ l b K => (L_markIntS_m3_argD l b).bind fun a => (L_markIntS_m3 k a.1 a.2).bind fun r => K (L_markIntS_m3_enc a r)
theorem L_markIntS_m3_ev (k : Nat) (a : List Int × Int) : ev (E_L_markIntS_m3 k) (LP_L_markIntS_m3 (Int × List Int) k) 0 c_L_markIntS_m3 (st0M Try.f19 (L_markIntS_m3_args a) (L_markIntS_m3_blks a)) (finM Try.prog Try.f19 (.sc) [.arr] (L_markIntS_m3_dec a)) = L_markIntS_m3 k a.1 a.2 := by kernel_rfl
theorem L_markIntS_m3_ok (k : Nat) : MutOk Try.prog 19 (L_markIntS_m3_G k) :=
  mutOk_of_ev (E_L_markIntS_m3_ok k) Try.func19 (by kernel_rfl) (by kernel_rfl) L_markIntS_m3_args L_markIntS_m3_blks L_markIntS_m3_argD
    (fun l b a h => by unfold L_markIntS_m3_argD at h; split at h <;> first | (cases h; exact ⟨rfl, rfl⟩) | cases h) (fun a => rfl) (lpgood_of (l := [(0, b_L_markIntS_m3_0)]) (by kernel_rfl) ⟨L_markIntS_m3_g0_ok k, trivial⟩) (fun a r => rfl)
    (fun a o r h => by unfold L_markIntS_m3_dec at h; split at h <;> first | (skip; cases h; rfl) | cases h) (L_markIntS_m3_ev k)
def o_L_markIntS_m3 (k : Nat) : Orc := mutOrc [.keep, .keep] (L_markIntS_m3_G k)
theorem o_L_markIntS_m3_ok (k : Nat) : OrcOk Try.prog 19 (o_L_markIntS_m3 k) := mutOrc_ok (L_markIntS_m3_ok k)
/-! ### 87 loop.example/g00778/laws.markLayerS -/
noncomputable def E_L_markLayerS_m3 (k : Nat) : Env := { P := Try.prog, tt := tt, orc := fun g => cond (Nat.beq g 19) (innOrc (o_L_markIntS_m3 k)) (noOrc), wr := fun g => mem g [19], wt := true, inn := true }
theorem E_L_markLayerS_m3_ok (k : Nat) : EnvOk (E_L_markLayerS_m3 k) := fun g => (orc_cond (innOrc_ok (o_L_markIntS_m3_ok k)) (noOrc_ok _ _))
noncomputable def c_L_markLayerS_m3 : Code := (Try.f87.body).getD .skip
noncomputable def b_L_markLayerS_m3_0 : Code := ((loopsIn 0 c_L_markLayerS_m3).getD 0 (0, .skip)).2
def L_markLayerS_m3_g0_keep : List Nat := [0, 1, 5]
def L_markLayerS_m3_g0_co : List (Where × Co) := []
def L_markLayerS_m3_g0_kx : Ex → List Nat
  | .exit j => cond (Nat.beq j 0) [1] []
  | .ret => []
  | .normal => []
def L_markLayerS_m3_g0_cx : Ex → List (Where × Co)
  | .exit j => cond (Nat.beq j 0) [] []
  | .ret => []
  | .normal => []
def L_markLayerS_m3_g0_tm (pv : (Unit) × (Int × Int × List Layer)) : St := { slots := [(0, .own 0), (1, .r [] (.int .i64 pv.2.1)), (5, .r [] (.int .i64 pv.2.2.1))], heap := [(0, .arr none (.st .layer) pv.2.2.2)], nid := 1, n := 76, gh := [some 0] }
def L_markLayerS_m3_g0_dec (nf : NF) : Option ((Unit) × (Int × Int × List Layer)) := match nf with
  | ([.own 0, .r [] (.int .i64 w0), .r [] (.int .i64 w1)], [.arr none (.st .layer) w2], [some 0]) => some ((), (w0, w1, w2))
  | _ => none
theorem L_markLayerS_m3_g0_hd (nf : NF) (v : (Unit) × (Int × Int × List Layer)) (h : L_markLayerS_m3_g0_dec nf = some v) : denorm L_markLayerS_m3_g0_keep 76 nf = L_markLayerS_m3_g0_tm v := by
  unfold L_markLayerS_m3_g0_dec at h
  split at h
  · cases h; rfl
  · cases h
def L_markLayerS_m3_g0_x0 (p : Unit) (x : Int × List Layer) : St := { slots := [(1, .r [] (.int .i64 x.1))], heap := [(0, .arr none (.st .layer) x.2)], nid := 1, n := 76, gh := [some 0] }
def LP_L_markLayerS_m3 (ρ : Type) (k : Nat) : Nat → Ev ρ → Ev ρ := fun id f => cond (Nat.beq id 0) (loopOrc L_markLayerS_m3_g0_keep L_markLayerS_m3_g0_co (fun n nf => cond (Nat.beq n 76) (L_markLayerS_m3_g0_dec nf) none) fun pv K => iter (fun v next => L_markLayerS_m3_g0 k pv.1 v next (fun x => K (.exit 0) (L_markLayerS_m3_g0_x0 pv.1 x))) k pv.2) ((fun _ _ _ _ => none) id f)
theorem L_markLayerS_m3_g0_round {ρ : Type} (k : Nat) (p : Unit) (v : Int × Int × List Layer) (K K1 : Ex → St → Option ρ) : ev (E_L_markLayerS_m3 k) (LP_L_markLayerS_m3 ρ k) 0 b_L_markLayerS_m3_0 (L_markLayerS_m3_g0_tm (p, v)) (fun e st' => match e with
    | .normal => (normC L_markLayerS_m3_g0_keep L_markLayerS_m3_g0_co st').bind fun nf => K1 .normal (denorm L_markLayerS_m3_g0_keep st'.n nf)
    | e => (normC (L_markLayerS_m3_g0_kx e) (L_markLayerS_m3_g0_cx e) st').bind fun nf => K e (denorm (L_markLayerS_m3_g0_kx e) st'.n nf)) = L_markLayerS_m3_g0 k p v (fun v' => K1 .normal (L_markLayerS_m3_g0_tm (p, v'))) (fun x => K (.exit 0) (L_markLayerS_m3_g0_x0 p x)) := by kernel_rfl
theorem L_markLayerS_m3_g0_ok {ρ : Type} (k : Nat) : Sound Try.prog (.loop b_L_markLayerS_m3_0) (LP_L_markLayerS_m3 ρ k 0 fun st K => ev (E_L_markLayerS_m3 k) (LP_L_markLayerS_m3 ρ k) 0 b_L_markLayerS_m3_0 st K) :=
  loop_ok (ev_sound (E_L_markLayerS_m3_ok k) b_L_markLayerS_m3_0 0 (lpgood_none (by kernel_rfl))) L_markLayerS_m3_g0_kx L_markLayerS_m3_g0_cx k (g := fun p v next K => L_markLayerS_m3_g0 k p v next (fun x => K (.exit 0) (L_markLayerS_m3_g0_x0 p x))) (dec_at L_markLayerS_m3_g0_hd) (fun p v K K1 => L_markLayerS_m3_g0_round k p v K K1)
def L_markLayerS_m3_args (a : List Layer × Int) : List SV := [.own 0, .r [] (.int .i64 a.2)]
def L_markLayerS_m3_blks (a : List Layer × Int) : List Blk := [.arr none (.st .layer) a.1]
def L_markLayerS_m3_argD (l : List SV) (b : List Blk) : Option (List Layer × Int) := match l, b with
  | [.own 0, .r [] (.int .i64 w0)], [.arr none (.st .layer) w1] => some (w1, w0)
  | _, _ => none
def L_markLayerS_m3_enc (a : List Layer × Int) (r : Int × List Layer) : MOut := ⟨.r [] (.int .i64 r.1), [some (.arr none (.st .layer) r.2)], []⟩
def L_markLayerS_m3_dec (a : List Layer × Int) (o : MOut) : Option (Int × List Layer) := match o with
  | ⟨.r [] (.int .i64 z1), [some (.arr none (.st .layer) z2)], []⟩ => some (z1, z2)
  | _ => none
def L_markLayerS_m3_G (k : Nat) : MG := fun _ l b K => (L_markLayerS_m3_argD l b).bind fun a => (L_markLayerS_m3 k a.1 a.2).bind fun r => K (L_markLayerS_m3_enc a r)
theorem L_markLayerS_m3_ev (k : Nat) (a : List Layer × Int) : ev (E_L_markLayerS_m3 k) (LP_L_markLayerS_m3 (Int × List Layer) k) 0 c_L_markLayerS_m3 (st0M Try.f87 (L_markLayerS_m3_args a) (L_markLayerS_m3_blks a)) (finM Try.prog Try.f87 (.sc) [.arr] (L_markLayerS_m3_dec a)) = L_markLayerS_m3 k a.1 a.2 := by kernel_rfl
theorem L_markLayerS_m3_ok (k : Nat) : MutOk Try.prog 87 (L_markLayerS_m3_G k) :=
  mutOk_of_ev (E_L_markLayerS_m3_ok k) Try.func87 (by kernel_rfl) (by kernel_rfl) L_markLayerS_m3_args L_markLayerS_m3_blks L_markLayerS_m3_argD
    (fun l b a h => by unfold L_markLayerS_m3_argD at h; split at h <;> first | (cases h; exact ⟨rfl, rfl⟩) | cases h) (fun a => rfl) (lpgood_of (l := [(0, b_L_markLayerS_m3_0)]) (by kernel_rfl) ⟨L_markLayerS_m3_g0_ok k, trivial⟩) (fun a r => rfl)
    (fun a o r h => by unfold L_markLayerS_m3_dec at h; split at h <;> first | (skip; cases h; rfl) | cases h) (L_markLayerS_m3_ev k)
def o_L_markLayerS_m3 (k : Nat) : Orc := mutOrc [.keep, .keep] (L_markLayerS_m3_G k)
theorem o_L_markLayerS_m3_ok (k : Nat) : OrcOk Try.prog 87 (o_L_markLayerS_m3 k) := mutOrc_ok (L_markLayerS_m3_ok k)
/-! ### 28 loop.example/g00778/laws.markModel -/
noncomputable def E_L_markModel_m2 (k : Nat) : Env := { P := Try.prog, tt := tt, orc := fun g => cond (Nat.beq g 87) (o_L_markLayerS_m3 k) (noOrc), wr := fun g => mem g [87], wt := true }
theorem E_L_markModel_m2_ok (k : Nat) : EnvOk (E_L_markModel_m2 k) := fun g => (orc_cond (o_L_markLayerS_m3_ok k) (noOrc_ok _ _))
noncomputable def c_L_markModel_m2 : Code := (Try.f28.body).getD .skip
def LP_L_markModel_m2 (ρ : Type) (k : Nat) : Nat → Ev ρ → Ev ρ := fun _ _ _ _ => none
def L_markModel_m2_args (a : Model × Int) : List SV := [.agg [.r [] (.int .i64 a.1.inp.h), .r [] (.int .i64 a.1.inp.w), .r [] (.int .i64 a.1.inp.c), .own 0], .r [] (.int .i64 a.2)]
def L_markModel_m2_blks (a : Model × Int) : List Blk := [.arr none (.st .layer) a.1.layers]
def L_markModel_m2_argD (l : List SV) (b : List Blk) : Option (Model × Int) := match l, b with
  | [.agg [.r [] (.int .i64 w0), .r [] (.int .i64 w1), .r [] (.int .i64 w2), .own 0], .r [] (.int .i64 w3)], [.arr none (.st .layer) w4] => some ((⟨(⟨w0, w1, w2⟩ : Shape), w4⟩ : Model), w3)
  | _, _ => none
def L_markModel_m2_enc (a : Model × Int) (r : Int × List Layer) : MOut := ⟨.r [] (.int .i64 r.1), [some (.arr none (.st .layer) r.2)], []⟩
def L_markModel_m2_dec (a : Model × Int) (o : MOut) : Option (Int × List Layer) := match o with
  | ⟨.r [] (.int .i64 z1), [some (.arr none (.st .layer) z2)], []⟩ => some (z1, z2)
  | _ => none
def L_markModel_m2_G (k : Nat) : MG := fun _ l b K => (L_markModel_m2_argD l b).bind fun a => (L_markModel_m2 k a.1 a.2).bind fun r => K (L_markModel_m2_enc a r)
theorem L_markModel_m2_ev (k : Nat) (a : Model × Int) : ev (E_L_markModel_m2 k) (LP_L_markModel_m2 (Int × List Layer) k) 0 c_L_markModel_m2 (st0M Try.f28 (L_markModel_m2_args a) (L_markModel_m2_blks a)) (finM Try.prog Try.f28 (.sc) [.arr] (L_markModel_m2_dec a)) = L_markModel_m2 k a.1 a.2 := by kernel_rfl
theorem L_markModel_m2_ok (k : Nat) : MutOk Try.prog 28 (L_markModel_m2_G k) :=
  mutOk_of_ev (E_L_markModel_m2_ok k) Try.func28 (by kernel_rfl) (by kernel_rfl) L_markModel_m2_args L_markModel_m2_blks L_markModel_m2_argD
    (fun l b a h => by unfold L_markModel_m2_argD at h; split at h <;> first | (cases h; exact ⟨rfl, rfl⟩) | cases h) (fun a => rfl) (lpgood_none (by kernel_rfl)) (fun a r => rfl)
    (fun a o r h => by unfold L_markModel_m2_dec at h; split at h <;> first | (skip; cases h; rfl) | cases h) (L_markModel_m2_ev k)
def o_L_markModel_m2 (k : Nat) : Orc := mutOrc [.keep, .keep] (L_markModel_m2_G k)
theorem o_L_markModel_m2_ok (k : Nat) : OrcOk Try.prog 28 (o_L_markModel_m2 k) := mutOrc_ok (L_markModel_m2_ok k)
/-! ### 40 loop.example/g00778/laws.markTensor -/
noncomputable def E_L_markTensor_m2 (k : Nat) : Env := { P := Try.prog, tt := tt, orc := fun g => cond (Nat.beq g 19) (o_L_markIntS_m3 k) (noOrc), wr := fun g => mem g [19], wt := true }
theorem E_L_markTensor_m2_ok (k : Nat) : EnvOk (E_L_markTensor_m2 k) := fun g => (orc_cond (o_L_markIntS_m3_ok k) (noOrc_ok _ _))
noncomputable def c_L_markTensor_m2 : Code := (Try.f40.body).getD .skip
def LP_L_markTensor_m2 (ρ : Type) (k : Nat) : Nat → Ev ρ → Ev ρ := fun _ _ _ _ => none
def L_markTensor_m2_args (a : Tensor × Int) : List SV := [.agg [.r [] (.int .i64 a.1.sh.h), .r [] (.int .i64 a.1.sh.w), .r [] (.int .i64 a.1.sh.c), .own 0], .r [] (.int .i64 a.2)]
def L_markTensor_m2_blks (a : Tensor × Int) : List Blk := [.arr none (.int .i64) a.1.data]
def L_markTensor_m2_argD (l : List SV) (b : List Blk) : Option (Tensor × Int) := match l, b with
  | [.agg [.r [] (.int .i64 w0), .r [] (.int .i64 w1), .r [] (.int .i64 w2), .own 0], .r [] (.int .i64 w3)], [.arr none (.int .i64) w4] => some ((⟨(⟨w0, w1, w2⟩ : Shape), w4⟩ : Tensor), w3)
  | _, _ => none
def L_markTensor_m2_enc (a : Tensor × Int) (r : Int × List Int) : MOut := ⟨.r [] (.int .i64 r.1), [some (.arr none (.int .i64) r.2)], []⟩
def L_markTensor_m2_dec (a : Tensor × Int) (o : MOut) : Option (Int × List Int) := match o with
  | ⟨.r [] (.int .i64 z1), [some (.arr none (.int .i64) z2)], []⟩ => some (z1, z2)
  | _ => none
def L_markTensor_m2_G (k : Nat) : MG := fun _ l b K => (L_markTensor_m2_argD l b).bind fun a => (L_markTensor_m2 k a.1 a.2).bind fun r => K (L_markTensor_m2_enc a r)
theorem L_markTensor_m2_ev (k : Nat) (a : Tensor × Int) : ev (E_L_markTensor_m2 k) (LP_L_markTensor_m2 (Int × List Int) k) 0 c_L_markTensor_m2 (st0M Try.f40 (L_markTensor_m2_args a) (L_markTensor_m2_blks a)) (finM Try.prog Try.f40 (.sc) [.arr] (L_markTensor_m2_dec a)) = L_markTensor_m2 k a.1 a.2 := by kernel_rfl
theorem L_markTensor_m2_ok (k : Nat) : MutOk Try.prog 40 (L_markTensor_m2_G k) :=
  mutOk_of_ev (E_L_markTensor_m2_ok k) Try.func40 (by kernel_rfl) (by kernel_rfl) L_markTensor_m2_args L_markTensor_m2_blks L_markTensor_m2_argD
    (fun l b a h => by unfold L_markTensor_m2_argD at h; split at h <;> first | (cases h; exact ⟨rfl, rfl⟩) | cases h) (fun a => rfl) (lpgood_none (by kernel_rfl)) (fun a r => rfl)
    (fun a o r h => by unfold L_markTensor_m2_dec at h; split at h <;> first | (skip; cases h; rfl) | cases h) (L_markTensor_m2_ev k)
def o_L_markTensor_m2 (k : Nat) : Orc := mutOrc [.keep, .keep] (L_markTensor_m2_G k)
theorem o_L_markTensor_m2_ok (k : Nat) : OrcOk Try.prog 40 (o_L_markTensor_m2 k) := mutOrc_ok (L_markTensor_m2_ok k)
/-! ### 41 loop.example/g00778/laws.markJob -/
noncomputable def E_L_markJob_m2 (k : Nat) : Env := { P := Try.prog, tt := tt, orc := fun g => cond (Nat.beq g 28) (o_L_markModel_m2 k) (cond (Nat.beq g 40) (o_L_markTensor_m2 k) (noOrc)), wr := fun g => mem g [28, 40], wt := true }
theorem E_L_markJob_m2_ok (k : Nat) : EnvOk (E_L_markJob_m2 k) := fun g => (orc_cond (o_L_markModel_m2_ok k) (orc_cond (o_L_markTensor_m2_ok k) (noOrc_ok _ _)))
noncomputable def c_L_markJob_m2 : Code := (Try.f41.body).getD .skip
def LP_L_markJob_m2 (ρ : Type) (k : Nat) : Nat → Ev ρ → Ev ρ := fun _ _ _ _ => none
def L_markJob_m2_args (a : Job × Int) : List SV := [.agg [.r [] (.int .i64 a.1.model.inp.h), .r [] (.int .i64 a.1.model.inp.w), .r [] (.int .i64 a.1.model.inp.c), .own 0, .r [] (.int .i64 a.1.at_), .r [] (.int .i64 a.1.act.sh.h), .r [] (.int .i64 a.1.act.sh.w), .r [] (.int .i64 a.1.act.sh.c), .own 1, .r [] (.int .i64 a.1.spent)], .r [] (.int .i64 a.2)]
def L_markJob_m2_blks (a : Job × Int) : List Blk := [.arr none (.st .layer) a.1.model.layers, .arr none (.int .i64) a.1.act.data]
def L_markJob_m2_argD (l : List SV) (b : List Blk) : Option (Job × Int) := match l, b with
  | [.agg [.r [] (.int .i64 w0), .r [] (.int .i64 w1), .r [] (.int .i64 w2), .own 0, .r [] (.int .i64 w3), .r [] (.int .i64 w4), .r [] (.int .i64 w5), .r [] (.int .i64 w6), .own 1, .r [] (.int .i64 w7)], .r [] (.int .i64 w8)], [.arr none (.st .layer) w9, .arr none (.int .i64) w10] => some ((⟨(⟨(⟨w0, w1, w2⟩ : Shape), w9⟩ : Model), w3, (⟨(⟨w4, w5, w6⟩ : Shape), w10⟩ : Tensor), w7⟩ : Job), w8)
  | _, _ => none
def L_markJob_m2_enc (a : Job × Int) (r : Int × List Layer × List Int) : MOut := ⟨.r [] (.int .i64 r.1), [some (.arr none (.st .layer) r.2.1), some (.arr none (.int .i64) r.2.2)], []⟩
def L_markJob_m2_dec (a : Job × Int) (o : MOut) : Option (Int × List Layer × List Int) := match o with
  | ⟨.r [] (.int .i64 z1), [some (.arr none (.st .layer) z2), some (.arr none (.int .i64) z3)], []⟩ => some (z1, z2, z3)
  | _ => none
def L_markJob_m2_G (k : Nat) : MG := fun _ l b K => (L_markJob_m2_argD l b).bind fun a => (L_markJob_m2 k a.1 a.2).bind fun r => K (L_markJob_m2_enc a r)
theorem L_markJob_m2_ev (k : Nat) (a : Job × Int) : ev (E_L_markJob_m2 k) (LP_L_markJob_m2 (Int × List Layer × List Int) k) 0 c_L_markJob_m2 (st0M Try.f41 (L_markJob_m2_args a) (L_markJob_m2_blks a)) (finM Try.prog Try.f41 (.sc) [.arr, .arr] (L_markJob_m2_dec a)) = L_markJob_m2 k a.1 a.2 := by kernel_rfl
theorem L_markJob_m2_ok (k : Nat) : MutOk Try.prog 41 (L_markJob_m2_G k) :=
  mutOk_of_ev (E_L_markJob_m2_ok k) Try.func41 (by kernel_rfl) (by kernel_rfl) L_markJob_m2_args L_markJob_m2_blks L_markJob_m2_argD
    (fun l b a h => by unfold L_markJob_m2_argD at h; split at h <;> first | (cases h; exact ⟨rfl, rfl⟩) | cases h) (fun a => rfl) (lpgood_none (by kernel_rfl)) (fun a r => rfl)
    (fun a o r h => by unfold L_markJob_m2_dec at h; split at h <;> first | (skip; cases h; rfl) | cases h) (L_markJob_m2_ev k)
def o_L_markJob_m2 (k : Nat) : Orc := mutOrc [.keep, .keep] (L_markJob_m2_G k)
theorem o_L_markJob_m2_ok (k : Nat) : OrcOk Try.prog 41 (o_L_markJob_m2 k) := mutOrc_ok (L_markJob_m2_ok k)
/-! ### 49 loop.example/g00778/laws.heldIntS -/
noncomputable def E_L_heldIntS (k : Nat) : Env := { P := Try.prog, tt := tt, orc := fun g => noOrc }
theorem E_L_heldIntS_ok (k : Nat) : EnvOk (E_L_heldIntS k) := fun g => (noOrc_ok _ _)
noncomputable def c_L_heldIntS : Code := (Try.f49.body).getD .skip
noncomputable def b_L_heldIntS_0 : Code := ((loopsIn 0 c_L_heldIntS).getD 0 (0, .skip)).2
def L_heldIntS_g0_keep : List Nat := [0, 1, 5]
def L_heldIntS_g0_co : List (Where × Co) := []
def L_heldIntS_g0_kx : Ex → List Nat
  | .exit j => cond (Nat.beq j 0) [1] []
  | .ret => [4]
  | .normal => []
def L_heldIntS_g0_cx : Ex → List (Where × Co)
  | .exit j => cond (Nat.beq j 0) [] []
  | .ret => []
  | .normal => []
def L_heldIntS_g0_tm (pv : (List Int) × (Int × Int)) : St := { slots := [(0, .r [] (.sl (.int .i64) pv.1)), (1, .r [] (.int .i64 pv.2.1)), (5, .r [] (.int .i64 pv.2.2))], heap := [], nid := 0, n := 21, gh := [] }
def L_heldIntS_g0_dec (nf : NF) : Option ((List Int) × (Int × Int)) := match nf with
  | ([.r [] (.sl (.int .i64) w0), .r [] (.int .i64 w1), .r [] (.int .i64 w2)], [], []) => some (w0, (w1, w2))
  | _ => none
theorem L_heldIntS_g0_hd (nf : NF) (v : (List Int) × (Int × Int)) (h : L_heldIntS_g0_dec nf = some v) : denorm L_heldIntS_g0_keep 21 nf = L_heldIntS_g0_tm v := by
  unfold L_heldIntS_g0_dec at h
  split at h
  · cases h; rfl
  · cases h
def L_heldIntS_g0_x0 (p : List Int) (x : Int) : St := { slots := [(1, .r [] (.int .i64 x))], heap := [], nid := 0, n := 21, gh := [] }
def L_heldIntS_g0_xret (p : List Int) (x : Int) : St := { slots := [(4, .r [] (.int .i64 x))], heap := [], nid := 0, n := 21, gh := [] }
def LP_L_heldIntS (ρ : Type) (k : Nat) : Nat → Ev ρ → Ev ρ := fun id f => cond (Nat.beq id 0) (loopOrc L_heldIntS_g0_keep L_heldIntS_g0_co (fun n nf => cond (Nat.beq n 21) (L_heldIntS_g0_dec nf) none) fun pv K => iter (fun v next => L_heldIntS_g0 k pv.1 v next (fun x => K (.exit 0) (L_heldIntS_g0_x0 pv.1 x)) (fun x => K .ret (L_heldIntS_g0_xret pv.1 x))) k pv.2) ((fun _ _ _ _ => none) id f)
theorem L_heldIntS_g0_round {ρ : Type} (k : Nat) (p : List Int) (v : Int × Int) (K K1 : Ex → St → Option ρ) : ev (E_L_heldIntS k) (LP_L_heldIntS ρ k) 0 b_L_heldIntS_0 (L_heldIntS_g0_tm (p, v)) (fun e st' => match e with
    | .normal => (normC L_heldIntS_g0_keep L_heldIntS_g0_co st').bind fun nf => K1 .normal (denorm L_heldIntS_g0_keep st'.n nf)
    | e => (normC (L_heldIntS_g0_kx e) (L_heldIntS_g0_cx e) st').bind fun nf => K e (denorm (L_heldIntS_g0_kx e) st'.n nf)) = L_heldIntS_g0 k p v (fun v' => K1 .normal (L_heldIntS_g0_tm (p, v'))) (fun x => K (.exit 0) (L_heldIntS_g0_x0 p x)) (fun x => K .ret (L_heldIntS_g0_xret p x)) := by kernel_rfl
theorem L_heldIntS_g0_ok {ρ : Type} (k : Nat) : Sound Try.prog (.loop b_L_heldIntS_0) (LP_L_heldIntS ρ k 0 fun st K => ev (E_L_heldIntS k) (LP_L_heldIntS ρ k) 0 b_L_heldIntS_0 st K) :=
  loop_ok (ev_sound (E_L_heldIntS_ok k) b_L_heldIntS_0 0 (lpgood_none (by kernel_rfl))) L_heldIntS_g0_kx L_heldIntS_g0_cx k (g := fun p v next K => L_heldIntS_g0 k p v next (fun x => K (.exit 0) (L_heldIntS_g0_x0 p x)) (fun x => K .ret (L_heldIntS_g0_xret p x))) (dec_at L_heldIntS_g0_hd) (fun p v K K1 => L_heldIntS_g0_round k p v K K1)
def L_heldIntS_args (a : List Int × Int) : List Arg := [.one (.sl (.int .i64) a.1), .one (.int .i64 a.2)]
def L_heldIntS_argD (l : List Arg) : Option (List Int × Int) := match l with
  | [.one (.sl (.int .i64) b0), .one (.int .i64 b1)] => some (b0, b1)
  | _ => none
def L_heldIntS_enc (r : Int) : Out := (.r [] (.int .i64 r), [])
def L_heldIntS_dec (o : Out) : Option (Int) := match o with
  | (.r [] (.int .i64 z1), []) => some z1
  | _ => none
def L_heldIntS_G (k : Nat) : PG := fun _ l K => (L_heldIntS_argD l).bind fun a => (L_heldIntS k a.1 a.2).bind fun r => K (L_heldIntS_enc r)
theorem L_heldIntS_ev (k : Nat) (a : List Int × Int) : ev (E_L_heldIntS k) (LP_L_heldIntS (Int) k) 0 c_L_heldIntS (st0 Try.f49 (L_heldIntS_args a)) (fin Try.prog Try.f49 (.sc) L_heldIntS_dec) = L_heldIntS k a.1 a.2 := by kernel_rfl
theorem L_heldIntS_ok (k : Nat) : PureOk Try.prog 49 (L_heldIntS_G k) :=
  pureOk_of_ev (E_L_heldIntS_ok k) Try.func49 (by kernel_rfl) (by kernel_rfl) L_heldIntS_args L_heldIntS_argD
    (fun l a h => by unfold L_heldIntS_argD at h; split at h <;> first | (cases h; rfl) | cases h) (fun a => rfl) (lpgood_of (l := [(0, b_L_heldIntS_0)]) (by kernel_rfl) ⟨L_heldIntS_g0_ok k, trivial⟩)
    (fun o r h => by unfold L_heldIntS_dec at h; split at h <;> first | (cases h; rfl) | cases h) (L_heldIntS_ev k)
def o_L_heldIntS (k : Nat) : Orc := pureOrc [.one (.sl (.int .i64)), .one (.int .i64)] (L_heldIntS_G k)
theorem o_L_heldIntS_ok (k : Nat) : OrcOk Try.prog 49 (o_L_heldIntS k) := pureOrc_ok (L_heldIntS_ok k)
/-! ### 88 loop.example/g00778/laws.heldLayerS -/
noncomputable def E_L_heldLayerS (k : Nat) : Env := { P := Try.prog, tt := tt, orc := fun g => cond (Nat.beq g 49) (o_L_heldIntS k) (noOrc) }
theorem E_L_heldLayerS_ok (k : Nat) : EnvOk (E_L_heldLayerS k) := fun g => (orc_cond (o_L_heldIntS_ok k) (noOrc_ok _ _))
noncomputable def c_L_heldLayerS : Code := (Try.f88.body).getD .skip
noncomputable def b_L_heldLayerS_0 : Code := ((loopsIn 0 c_L_heldLayerS).getD 0 (0, .skip)).2
def L_heldLayerS_g0_keep : List Nat := [0, 1, 5]
def L_heldLayerS_g0_co : List (Where × Co) := []
def L_heldLayerS_g0_kx : Ex → List Nat
  | .exit j => cond (Nat.beq j 0) [1] []
  | .ret => [4]
  | .normal => []
def L_heldLayerS_g0_cx : Ex → List (Where × Co)
  | .exit j => cond (Nat.beq j 0) [] []
  | .ret => []
  | .normal => []
def L_heldLayerS_g0_tm (pv : (List Layer) × (Int × Int)) : St := { slots := [(0, .r [] (.sl (.st .layer) pv.1)), (1, .r [] (.int .i64 pv.2.1)), (5, .r [] (.int .i64 pv.2.2))], heap := [], nid := 0, n := 94, gh := [] }
def L_heldLayerS_g0_dec (nf : NF) : Option ((List Layer) × (Int × Int)) := match nf with
  | ([.r [] (.sl (.st .layer) w0), .r [] (.int .i64 w1), .r [] (.int .i64 w2)], [], []) => some (w0, (w1, w2))
  | _ => none
theorem L_heldLayerS_g0_hd (nf : NF) (v : (List Layer) × (Int × Int)) (h : L_heldLayerS_g0_dec nf = some v) : denorm L_heldLayerS_g0_keep 94 nf = L_heldLayerS_g0_tm v := by
  unfold L_heldLayerS_g0_dec at h
  split at h
  · cases h; rfl
  · cases h
def L_heldLayerS_g0_x0 (p : List Layer) (x : Int) : St := { slots := [(1, .r [] (.int .i64 x))], heap := [], nid := 0, n := 94, gh := [] }
def L_heldLayerS_g0_xret (p : List Layer) (x : Int) : St := { slots := [(4, .r [] (.int .i64 x))], heap := [], nid := 0, n := 94, gh := [] }
def LP_L_heldLayerS (ρ : Type) (k : Nat) : Nat → Ev ρ → Ev ρ := fun id f => cond (Nat.beq id 0) (loopOrc L_heldLayerS_g0_keep L_heldLayerS_g0_co (fun n nf => cond (Nat.beq n 94) (L_heldLayerS_g0_dec nf) none) fun pv K => iter (fun v next => L_heldLayerS_g0 k pv.1 v next (fun x => K (.exit 0) (L_heldLayerS_g0_x0 pv.1 x)) (fun x => K .ret (L_heldLayerS_g0_xret pv.1 x))) k pv.2) ((fun _ _ _ _ => none) id f)
theorem L_heldLayerS_g0_round {ρ : Type} (k : Nat) (p : List Layer) (v : Int × Int) (K K1 : Ex → St → Option ρ) : ev (E_L_heldLayerS k) (LP_L_heldLayerS ρ k) 0 b_L_heldLayerS_0 (L_heldLayerS_g0_tm (p, v)) (fun e st' => match e with
    | .normal => (normC L_heldLayerS_g0_keep L_heldLayerS_g0_co st').bind fun nf => K1 .normal (denorm L_heldLayerS_g0_keep st'.n nf)
    | e => (normC (L_heldLayerS_g0_kx e) (L_heldLayerS_g0_cx e) st').bind fun nf => K e (denorm (L_heldLayerS_g0_kx e) st'.n nf)) = L_heldLayerS_g0 k p v (fun v' => K1 .normal (L_heldLayerS_g0_tm (p, v'))) (fun x => K (.exit 0) (L_heldLayerS_g0_x0 p x)) (fun x => K .ret (L_heldLayerS_g0_xret p x)) := by kernel_rfl
theorem L_heldLayerS_g0_ok {ρ : Type} (k : Nat) : Sound Try.prog (.loop b_L_heldLayerS_0) (LP_L_heldLayerS ρ k 0 fun st K => ev (E_L_heldLayerS k) (LP_L_heldLayerS ρ k) 0 b_L_heldLayerS_0 st K) :=
  loop_ok (ev_sound (E_L_heldLayerS_ok k) b_L_heldLayerS_0 0 (lpgood_none (by kernel_rfl))) L_heldLayerS_g0_kx L_heldLayerS_g0_cx k (g := fun p v next K => L_heldLayerS_g0 k p v next (fun x => K (.exit 0) (L_heldLayerS_g0_x0 p x)) (fun x => K .ret (L_heldLayerS_g0_xret p x))) (dec_at L_heldLayerS_g0_hd) (fun p v K K1 => L_heldLayerS_g0_round k p v K K1)
def L_heldLayerS_args (a : List Layer × Int) : List Arg := [.one (.sl (.st .layer) a.1), .one (.int .i64 a.2)]
def L_heldLayerS_argD (l : List Arg) : Option (List Layer × Int) := match l with
  | [.one (.sl (.st .layer) b0), .one (.int .i64 b1)] => some (b0, b1)
  | _ => none
def L_heldLayerS_enc (r : Int) : Out := (.r [] (.int .i64 r), [])
def L_heldLayerS_dec (o : Out) : Option (Int) := match o with
  | (.r [] (.int .i64 z1), []) => some z1
  | _ => none
def L_heldLayerS_G (k : Nat) : PG := fun _ l K => (L_heldLayerS_argD l).bind fun a => (L_heldLayerS k a.1 a.2).bind fun r => K (L_heldLayerS_enc r)
theorem L_heldLayerS_ev (k : Nat) (a : List Layer × Int) : ev (E_L_heldLayerS k) (LP_L_heldLayerS (Int) k) 0 c_L_heldLayerS (st0 Try.f88 (L_heldLayerS_args a)) (fin Try.prog Try.f88 (.sc) L_heldLayerS_dec) = L_heldLayerS k a.1 a.2 := by kernel_rfl
theorem L_heldLayerS_ok (k : Nat) : PureOk Try.prog 88 (L_heldLayerS_G k) :=
  pureOk_of_ev (E_L_heldLayerS_ok k) Try.func88 (by kernel_rfl) (by kernel_rfl) L_heldLayerS_args L_heldLayerS_argD
    (fun l a h => by unfold L_heldLayerS_argD at h; split at h <;> first | (cases h; rfl) | cases h) (fun a => rfl) (lpgood_of (l := [(0, b_L_heldLayerS_0)]) (by kernel_rfl) ⟨L_heldLayerS_g0_ok k, trivial⟩)
    (fun o r h => by unfold L_heldLayerS_dec at h; split at h <;> first | (cases h; rfl) | cases h) (L_heldLayerS_ev k)
def o_L_heldLayerS (k : Nat) : Orc := pureOrc [.one (.sl (.st .layer)), .one (.int .i64)] (L_heldLayerS_G k)
theorem o_L_heldLayerS_ok (k : Nat) : OrcOk Try.prog 88 (o_L_heldLayerS k) := pureOrc_ok (L_heldLayerS_ok k)
/-! ### 29 loop.example/g00778/laws.heldModel -/
noncomputable def E_L_heldModel (k : Nat) : Env := { P := Try.prog, tt := tt, orc := fun g => cond (Nat.beq g 88) (o_L_heldLayerS k) (noOrc) }
theorem E_L_heldModel_ok (k : Nat) : EnvOk (E_L_heldModel k) := fun g => (orc_cond (o_L_heldLayerS_ok k) (noOrc_ok _ _))
noncomputable def c_L_heldModel : Code := (Try.f29.body).getD .skip
def LP_L_heldModel (ρ : Type) (k : Nat) : Nat → Ev ρ → Ev ρ := fun _ _ _ _ => none
def L_heldModel_args (a : Model × Int) : List Arg := [.agg [.int .i64 a.1.inp.h, .int .i64 a.1.inp.w, .int .i64 a.1.inp.c, .sl (.st .layer) a.1.layers], .one (.int .i64 a.2)]
def L_heldModel_argD (l : List Arg) : Option (Model × Int) := match l with
  | [.agg [.int .i64 b0_0, .int .i64 b0_1, .int .i64 b0_2, .sl (.st .layer) b0_3], .one (.int .i64 b1)] => some ((⟨(⟨b0_0, b0_1, b0_2⟩ : Shape), b0_3⟩ : Model), b1)
  | _ => none
def L_heldModel_enc (r : Int) : Out := (.r [] (.int .i64 r), [])
def L_heldModel_dec (o : Out) : Option (Int) := match o with
  | (.r [] (.int .i64 z1), []) => some z1
  | _ => none
def L_heldModel_G (k : Nat) : PG := fun _ l K => (L_heldModel_argD l).bind fun a => (L_heldModel k a.1 a.2).bind fun r => K (L_heldModel_enc r)
theorem L_heldModel_ev (k : Nat) (a : Model × Int) : ev (E_L_heldModel k) (LP_L_heldModel (Int) k) 0 c_L_heldModel (st0 Try.f29 (L_heldModel_args a)) (fin Try.prog Try.f29 (.sc) L_heldModel_dec) = L_heldModel k a.1 a.2 := by kernel_rfl
theorem L_heldModel_ok (k : Nat) : PureOk Try.prog 29 (L_heldModel_G k) :=
  pureOk_of_ev (E_L_heldModel_ok k) Try.func29 (by kernel_rfl) (by kernel_rfl) L_heldModel_args L_heldModel_argD
    (fun l a h => by unfold L_heldModel_argD at h; split at h <;> first | (cases h; rfl) | cases h) (fun a => rfl) (lpgood_none (by kernel_rfl))
    (fun o r h => by unfold L_heldModel_dec at h; split at h <;> first | (cases h; rfl) | cases h) (L_heldModel_ev k)
def o_L_heldModel (k : Nat) : Orc := pureOrc [.agg [(.int .i64), (.int .i64), (.int .i64), (.sl (.st .layer))], .one (.int .i64)] (L_heldModel_G k)
theorem o_L_heldModel_ok (k : Nat) : OrcOk Try.prog 29 (o_L_heldModel k) := pureOrc_ok (L_heldModel_ok k)
/-! ### 101 loop.example/g00778/laws.heldTensor -/
noncomputable def E_L_heldTensor (k : Nat) : Env := { P := Try.prog, tt := tt, orc := fun g => cond (Nat.beq g 49) (o_L_heldIntS k) (noOrc) }
theorem E_L_heldTensor_ok (k : Nat) : EnvOk (E_L_heldTensor k) := fun g => (orc_cond (o_L_heldIntS_ok k) (noOrc_ok _ _))
noncomputable def c_L_heldTensor : Code := (Try.f101.body).getD .skip
def LP_L_heldTensor (ρ : Type) (k : Nat) : Nat → Ev ρ → Ev ρ := fun _ _ _ _ => none
def L_heldTensor_args (a : Tensor × Int) : List Arg := [.agg [.int .i64 a.1.sh.h, .int .i64 a.1.sh.w, .int .i64 a.1.sh.c, .sl (.int .i64) a.1.data], .one (.int .i64 a.2)]
def L_heldTensor_argD (l : List Arg) : Option (Tensor × Int) := match l with
  | [.agg [.int .i64 b0_0, .int .i64 b0_1, .int .i64 b0_2, .sl (.int .i64) b0_3], .one (.int .i64 b1)] => some ((⟨(⟨b0_0, b0_1, b0_2⟩ : Shape), b0_3⟩ : Tensor), b1)
  | _ => none
def L_heldTensor_enc (r : Int) : Out := (.r [] (.int .i64 r), [])
def L_heldTensor_dec (o : Out) : Option (Int) := match o with
  | (.r [] (.int .i64 z1), []) => some z1
  | _ => none
def L_heldTensor_G (k : Nat) : PG := fun _ l K => (L_heldTensor_argD l).bind fun a => (L_heldTensor k a.1 a.2).bind fun r => K (L_heldTensor_enc r)
theorem L_heldTensor_ev (k : Nat) (a : Tensor × Int) : ev (E_L_heldTensor k) (LP_L_heldTensor (Int) k) 0 c_L_heldTensor (st0 Try.f101 (L_heldTensor_args a)) (fin Try.prog Try.f101 (.sc) L_heldTensor_dec) = L_heldTensor k a.1 a.2 := by kernel_rfl
theorem L_heldTensor_ok (k : Nat) : PureOk Try.prog 101 (L_heldTensor_G k) :=
  pureOk_of_ev (E_L_heldTensor_ok k) Try.func101 (by kernel_rfl) (by kernel_rfl) L_heldTensor_args L_heldTensor_argD
    (fun l a h => by unfold L_heldTensor_argD at h; split at h <;> first | (cases h; rfl) | cases h) (fun a => rfl) (lpgood_none (by kernel_rfl))
    (fun o r h => by unfold L_heldTensor_dec at h; split at h <;> first | (cases h; rfl) | cases h) (L_heldTensor_ev k)
def o_L_heldTensor (k : Nat) : Orc := pureOrc [.agg [(.int .i64), (.int .i64), (.int .i64), (.sl (.int .i64))], .one (.int .i64)] (L_heldTensor_G k)
theorem o_L_heldTensor_ok (k : Nat) : OrcOk Try.prog 101 (o_L_heldTensor k) := pureOrc_ok (L_heldTensor_ok k)
/-! ### 42 loop.example/g00778/laws.heldJob -/
noncomputable def E_L_heldJob (k : Nat) : Env := { P := Try.prog, tt := tt, orc := fun g => cond (Nat.beq g 29) (o_L_heldModel k) (cond (Nat.beq g 101) (o_L_heldTensor k) (noOrc)) }
theorem E_L_heldJob_ok (k : Nat) : EnvOk (E_L_heldJob k) := fun g => (orc_cond (o_L_heldModel_ok k) (orc_cond (o_L_heldTensor_ok k) (noOrc_ok _ _)))
noncomputable def c_L_heldJob : Code := (Try.f42.body).getD .skip
def LP_L_heldJob (ρ : Type) (k : Nat) : Nat → Ev ρ → Ev ρ := fun _ _ _ _ => none
def L_heldJob_args (a : Job × Int) : List Arg := [.agg [.int .i64 a.1.model.inp.h, .int .i64 a.1.model.inp.w, .int .i64 a.1.model.inp.c, .sl (.st .layer) a.1.model.layers, .int .i64 a.1.at_, .int .i64 a.1.act.sh.h, .int .i64 a.1.act.sh.w, .int .i64 a.1.act.sh.c, .sl (.int .i64) a.1.act.data, .int .i64 a.1.spent], .one (.int .i64 a.2)]
def L_heldJob_argD (l : List Arg) : Option (Job × Int) := match l with
  | [.agg [.int .i64 b0_0, .int .i64 b0_1, .int .i64 b0_2, .sl (.st .layer) b0_3, .int .i64 b0_4, .int .i64 b0_5, .int .i64 b0_6, .int .i64 b0_7, .sl (.int .i64) b0_8, .int .i64 b0_9], .one (.int .i64 b1)] => some ((⟨(⟨(⟨b0_0, b0_1, b0_2⟩ : Shape), b0_3⟩ : Model), b0_4, (⟨(⟨b0_5, b0_6, b0_7⟩ : Shape), b0_8⟩ : Tensor), b0_9⟩ : Job), b1)
  | _ => none
def L_heldJob_enc (r : Int) : Out := (.r [] (.int .i64 r), [])
def L_heldJob_dec (o : Out) : Option (Int) := match o with
  | (.r [] (.int .i64 z1), []) => some z1
  | _ => none
def L_heldJob_G (k : Nat) : PG := fun _ l K => (L_heldJob_argD l).bind fun a => (L_heldJob k a.1 a.2).bind fun r => K (L_heldJob_enc r)
theorem L_heldJob_ev (k : Nat) (a : Job × Int) : ev (E_L_heldJob k) (LP_L_heldJob (Int) k) 0 c_L_heldJob (st0 Try.f42 (L_heldJob_args a)) (fin Try.prog Try.f42 (.sc) L_heldJob_dec) = L_heldJob k a.1 a.2 := by kernel_rfl
theorem L_heldJob_ok (k : Nat) : PureOk Try.prog 42 (L_heldJob_G k) :=
  pureOk_of_ev (E_L_heldJob_ok k) Try.func42 (by kernel_rfl) (by kernel_rfl) L_heldJob_args L_heldJob_argD
    (fun l a h => by unfold L_heldJob_argD at h; split at h <;> first | (cases h; rfl) | cases h) (fun a => rfl) (lpgood_none (by kernel_rfl))
    (fun o r h => by unfold L_heldJob_dec at h; split at h <;> first | (cases h; rfl) | cases h) (L_heldJob_ev k)
def o_L_heldJob (k : Nat) : Orc := pureOrc [.agg [(.int .i64), (.int .i64), (.int .i64), (.sl (.st .layer)), (.int .i64), (.int .i64), (.int .i64), (.int .i64), (.sl (.int .i64)), (.int .i64)], .one (.int .i64)] (L_heldJob_G k)
theorem o_L_heldJob_ok (k : Nat) : OrcOk Try.prog 42 (o_L_heldJob k) := pureOrc_ok (L_heldJob_ok k)
/-! ### 8 loop.example/g00778/laws.FnExactStartJob -/
noncomputable def E_L_FnExactStartJob (k : Nat) : Env := { P := Try.prog, tt := tt, orc := fun g => cond (Nat.beq g 21) (o_L_szModel k) (cond (Nat.beq g 23) (o_L_toModel k) (cond (Nat.beq g 25) (o_L_eqModel k) (cond (Nat.beq g 28) (o_L_markModel_m2 k) (cond (Nat.beq g 34) (o_L_szTensor k) (cond (Nat.beq g 35) (o_S_StartJob k) (cond (Nat.beq g 36) (o_L_toTensor k) (cond (Nat.beq g 37) (o_I_StartJob k) (cond (Nat.beq g 38) (o_L_eqJob k) (cond (Nat.beq g 39) (o_L_eqTensor k) (cond (Nat.beq g 40) (o_L_markTensor_m2 k) (cond (Nat.beq g 41) (o_L_markJob_m2 k) (cond (Nat.beq g 42) (o_L_heldJob k) (noOrc))))))))))))), wr := fun g => mem g [28, 40, 41], wt := true }
theorem E_L_FnExactStartJob_ok (k : Nat) : EnvOk (E_L_FnExactStartJob k) := fun g => (orc_cond (o_L_szModel_ok k) (orc_cond (o_L_toModel_ok k) (orc_cond (o_L_eqModel_ok k) (orc_cond (o_L_markModel_m2_ok k) (orc_cond (o_L_szTensor_ok k) (orc_cond (o_S_StartJob_ok k) (orc_cond (o_L_toTensor_ok k) (orc_cond (o_I_StartJob_ok k) (orc_cond (o_L_eqJob_ok k) (orc_cond (o_L_eqTensor_ok k) (orc_cond (o_L_markTensor_m2_ok k) (orc_cond (o_L_markJob_m2_ok k) (orc_cond (o_L_heldJob_ok k) (noOrc_ok _ _))))))))))))))
noncomputable def c_L_FnExactStartJob : Code := (Try.f8.body).getD .skip
def LP_L_FnExactStartJob (ρ : Type) (k : Nat) : Nat → Ev ρ → Ev ρ := fun _ _ _ _ => none
def L_FnExactStartJob_args (a : Model × Tensor) : List Arg := [.agg [.int .i64 a.1.inp.h, .int .i64 a.1.inp.w, .int .i64 a.1.inp.c, .sl (.st .layer) a.1.layers], .agg [.int .i64 a.2.sh.h, .int .i64 a.2.sh.w, .int .i64 a.2.sh.c, .sl (.int .i64) a.2.data]]
def L_FnExactStartJob_argD (l : List Arg) : Option (Model × Tensor) := match l with
  | [.agg [.int .i64 b0_0, .int .i64 b0_1, .int .i64 b0_2, .sl (.st .layer) b0_3], .agg [.int .i64 b1_0, .int .i64 b1_1, .int .i64 b1_2, .sl (.int .i64) b1_3]] => some ((⟨(⟨b0_0, b0_1, b0_2⟩ : Shape), b0_3⟩ : Model), (⟨(⟨b1_0, b1_1, b1_2⟩ : Shape), b1_3⟩ : Tensor))
  | _ => none
def L_FnExactStartJob_enc (r : Bool) : Out := (.r [] (.bool r), [])
def L_FnExactStartJob_dec (o : Out) : Option (Bool) := match o with
  | (.r [] (.bool z1), []) => some z1
  | _ => none
def L_FnExactStartJob_G (k : Nat) : PG := fun _ l K => (L_FnExactStartJob_argD l).bind fun a => (L_FnExactStartJob k a.1 a.2).bind fun r => K (L_FnExactStartJob_enc r)
theorem L_FnExactStartJob_ev (k : Nat) (a : Model × Tensor) : ev (E_L_FnExactStartJob k) (LP_L_FnExactStartJob (Bool) k) 0 c_L_FnExactStartJob (st0 Try.f8 (L_FnExactStartJob_args a)) (fin Try.prog Try.f8 (.sc) L_FnExactStartJob_dec) = L_FnExactStartJob k a.1 a.2 := by kernel_rfl
theorem L_FnExactStartJob_ok (k : Nat) : PureOk Try.prog 8 (L_FnExactStartJob_G k) :=
  pureOk_of_ev (E_L_FnExactStartJob_ok k) Try.func8 (by kernel_rfl) (by kernel_rfl) L_FnExactStartJob_args L_FnExactStartJob_argD
    (fun l a h => by unfold L_FnExactStartJob_argD at h; split at h <;> first | (cases h; rfl) | cases h) (fun a => rfl) (lpgood_none (by kernel_rfl))
    (fun o r h => by unfold L_FnExactStartJob_dec at h; split at h <;> first | (cases h; rfl) | cases h) (L_FnExactStartJob_ev k)
def o_L_FnExactStartJob (k : Nat) : Orc := pureOrc [.agg [(.int .i64), (.int .i64), (.int .i64), (.sl (.st .layer))], .agg [(.int .i64), (.int .i64), (.int .i64), (.sl (.int .i64))]] (L_FnExactStartJob_G k)
theorem o_L_FnExactStartJob_ok (k : Nat) : OrcOk Try.prog 8 (o_L_FnExactStartJob k) := pureOrc_ok (L_FnExactStartJob_ok k)
end
end Go.Proofs.Ev
