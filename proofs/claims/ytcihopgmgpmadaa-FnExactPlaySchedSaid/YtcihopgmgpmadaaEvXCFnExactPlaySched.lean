/- Text of this claim. -/
import Derived.Test.YtcihopgmgpmadaaEvK5
import Derived.Test.YtcihopgmgpmadaaProg
import Derived.Test.YtcihopgmgpmadaaEvD1
import Derived.Test.YtcihopgmgpmadaaEvD3
import Derived.Test.YtcihopgmgpmadaaEvD6
import Derived.Test.YtcihopgmgpmadaaEvD7
import Derived.Test.YtcihopgmgpmadaaEvD8
set_option linter.unusedVariables false
set_option linter.unusedSimpArgs false
set_option linter.unusedVariables false
set_option linter.unusedSimpArgs false
set_option maxRecDepth 100000
namespace Go.Proofs.Ev
noncomputable section
variable [Tok]
set_option linter.unusedSectionVars false
def tt : TT := look [(2, (.int .i64)), (3, (.int .i64)), (4, .bool), (5, (.int .u8)), (6, (.int .u8)), (9, .str), (10, .str), (11, .str), (12, (.int .u64)), (21, (.int .i32)), (22, (.sl (.int .u8))), (24, (.st .shape)), (25, (.sl (.int .i64))), (27, (.st .tensor)), (29, (.st .step)), (38, (.sl (.st .step))), (44, (.st .shape)), (46, (.st .tensor)), (48, (.st .step)), (54, (.sl (.st .step))), (59, (.sl (.st .task))), (63, (.sl (.st .task))), (81, (.sl (.sl (.int .i64)))), (89, (.sl (.st .tensor))), (98, (.sl (.st .wish))), (102, (.sl (.st .wish))), (135, (.st .task)), (155, (.st .wish)), (157, (.st .wish)), (177, (.int .u64)), (180, (.st .task)), (216, (.int .u32)), (217, (.int .u8)), (218, (.int .u8)), (221, (.int .i32)), (222, (.int .i32))]
def ttTask : TT := look [(2, (.int .i64)), (3, (.int .i64)), (4, .bool), (5, (.int .u8)), (6, (.int .u8)), (9, .str), (10, .str), (11, .str), (12, (.int .u64)), (21, (.int .i32)), (22, (.sl (.int .u8))), (24, (.st .shape)), (25, (.sl (.int .i64))), (27, (.st .tensor)), (29, (.st .step)), (38, (.sl (.st .step))), (44, (.st .shape)), (46, (.st .tensor)), (48, (.st .step)), (54, (.sl (.st .step))), (59, (.sl (.st .taskK))), (63, (.sl (.st .taskK))), (81, (.sl (.sl (.int .i64)))), (89, (.sl (.st .tensor))), (98, (.sl (.st .wish))), (102, (.sl (.st .wish))), (135, (.st .taskK)), (155, (.st .wish)), (157, (.st .wish)), (177, (.int .u64)), (180, (.st .taskK)), (216, (.int .u32)), (217, (.int .u8)), (218, (.int .u8)), (221, (.int .i32)), (222, (.int .i32))]
def ttRequest : TT := look [(2, (.int .i64)), (3, (.int .i64)), (4, .bool), (5, (.int .u8)), (6, (.int .u8)), (9, .str), (10, .str), (11, .str), (12, (.int .u64)), (21, (.int .i32)), (22, (.sl (.int .u8))), (24, (.st .shape)), (25, (.sl (.int .i64))), (27, (.st .tensor)), (29, (.st .step)), (38, (.sl (.st .step))), (44, (.st .shape)), (46, (.st .tensor)), (48, (.st .step)), (54, (.sl (.st .step))), (59, (.sl (.st .task))), (63, (.sl (.st .task))), (81, (.sl (.sl (.int .i64)))), (89, (.sl (.st .tensor))), (98, (.sl (.st .wish))), (102, (.sl (.st .wish))), (135, (.st .task)), (155, (.st .wish)), (157, (.st .wish)), (177, (.int .u64)), (180, (.st .task)), (216, (.int .u32)), (217, (.int .u8)), (218, (.int .u8)), (221, (.int .i32)), (222, (.int .i32))]
/-! ### 121 loop.example/g00778/laws.szIntS -/
noncomputable def E_L_szIntS (k : Nat) : Env := { P := Try.prog, tt := tt, orc := fun g => noOrc }
theorem E_L_szIntS_ok (k : Nat) : EnvOk (E_L_szIntS k) := fun g => (noOrc_ok _ _)
noncomputable def c_L_szIntS : Code := (Try.f121.body).getD .skip
def LP_L_szIntS (ρ : Type) (k : Nat) : Nat → Ev ρ → Ev ρ := fun _ _ _ _ => none
def L_szIntS_args (a : List Int × Int) : List Arg := [.one (.sl (.int .i64) a.1), .one (.int .i64 a.2)]
def L_szIntS_argD (l : List Arg) : Option (List Int × Int) := match l with
  | [.one (.sl (.int .i64) b0), .one (.int .i64 b1)] => some (b0, b1)
  | _ => none
def L_szIntS_enc (r : Int) : Out := (.r [] (.int .i64 r), [])
def L_szIntS_dec (o : Out) : Option (Int) := match o with
  | (.r [] (.int .i64 z1), []) => some z1
  | _ => none
def L_szIntS_G (k : Nat) : PG := fun _ l K => (L_szIntS_argD l).bind fun a => (L_szIntS k a.1 a.2).bind fun r => K (L_szIntS_enc r)
theorem L_szIntS_ev (k : Nat) (a : List Int × Int) : ev (E_L_szIntS k) (LP_L_szIntS (Int) k) 0 c_L_szIntS (st0 Try.f121 (L_szIntS_args a)) (fin Try.prog Try.f121 (.sc) L_szIntS_dec) = L_szIntS k a.1 a.2 := by kernel_rfl
theorem L_szIntS_ok (k : Nat) : PureOk Try.prog 121 (L_szIntS_G k) :=
  pureOk_of_ev (E_L_szIntS_ok k) Try.func121 (by kernel_rfl) (by kernel_rfl) L_szIntS_args L_szIntS_argD
    (fun l a h => by unfold L_szIntS_argD at h; split at h <;> first | (cases h; rfl) | cases h) (fun a => rfl) (lpgood_none (by kernel_rfl))
    (fun o r h => by unfold L_szIntS_dec at h; split at h <;> first | (cases h; rfl) | cases h) (L_szIntS_ev k)
def o_L_szIntS (k : Nat) : Orc := pureOrc [.one (.sl (.int .i64)), .one (.int .i64)] (L_szIntS_G k)
theorem o_L_szIntS_ok (k : Nat) : OrcOk Try.prog 121 (o_L_szIntS k) := pureOrc_ok (L_szIntS_ok k)
/-! ### 51 loop.example/g00778/laws.szIntSS -/
noncomputable def E_L_szIntSS (k : Nat) : Env := { P := Try.prog, tt := tt, orc := fun g => cond (Nat.beq g 121) (o_L_szIntS k) (noOrc) }
theorem E_L_szIntSS_ok (k : Nat) : EnvOk (E_L_szIntSS k) := fun g => (orc_cond (o_L_szIntS_ok k) (noOrc_ok _ _))
noncomputable def c_L_szIntSS : Code := (Try.f51.body).getD .skip
noncomputable def b_L_szIntSS_0 : Code := ((loopsIn 0 c_L_szIntSS).getD 0 (0, .skip)).2
def L_szIntSS_g0_keep : List Nat := [0, 1, 5]
def L_szIntSS_g0_co : List (Where × Co) := []
def L_szIntSS_g0_kx : Ex → List Nat
  | .exit j => cond (Nat.beq j 0) [1] []
  | .ret => [4]
  | .normal => []
def L_szIntSS_g0_cx : Ex → List (Where × Co)
  | .exit j => cond (Nat.beq j 0) [] []
  | .ret => []
  | .normal => []
def L_szIntSS_g0_tm (pv : (List (List Int)) × (Int × Int)) : St := { slots := [(0, .r [] (.sl (.sl (.int .i64)) pv.1)), (1, .r [] (.int .i64 pv.2.1)), (5, .r [] (.int .i64 pv.2.2))], heap := [], nid := 0, n := 27, gh := [] }
def L_szIntSS_g0_dec (nf : NF) : Option ((List (List Int)) × (Int × Int)) := match nf with
  | ([.r [] (.sl (.sl (.int .i64)) w0), .r [] (.int .i64 w1), .r [] (.int .i64 w2)], [], []) => some (w0, (w1, w2))
  | _ => none
theorem L_szIntSS_g0_hd (nf : NF) (v : (List (List Int)) × (Int × Int)) (h : L_szIntSS_g0_dec nf = some v) : denorm L_szIntSS_g0_keep 27 nf = L_szIntSS_g0_tm v := by
  unfold L_szIntSS_g0_dec at h
  split at h
  · cases h; rfl
  · cases h
def L_szIntSS_g0_x0 (p : List (List Int)) (x : Int) : St := { slots := [(1, .r [] (.int .i64 x))], heap := [], nid := 0, n := 27, gh := [] }
def L_szIntSS_g0_xret (p : List (List Int)) (x : Int) : St := { slots := [(4, .r [] (.int .i64 x))], heap := [], nid := 0, n := 27, gh := [] }
def LP_L_szIntSS (ρ : Type) (k : Nat) : Nat → Ev ρ → Ev ρ := fun id f => cond (Nat.beq id 0) (loopOrc L_szIntSS_g0_keep L_szIntSS_g0_co (fun n nf => cond (Nat.beq n 27) (L_szIntSS_g0_dec nf) none) fun pv K => iter (fun v next => L_szIntSS_g0 k pv.1 v next (fun x => K (.exit 0) (L_szIntSS_g0_x0 pv.1 x)) (fun x => K .ret (L_szIntSS_g0_xret pv.1 x))) k pv.2) ((fun _ _ _ _ => none) id f)
theorem L_szIntSS_g0_round {ρ : Type} (k : Nat) (p : List (List Int)) (v : Int × Int) (K K1 : Ex → St → Option ρ) : ev (E_L_szIntSS k) (LP_L_szIntSS ρ k) 0 b_L_szIntSS_0 (L_szIntSS_g0_tm (p, v)) (fun e st' => match e with
    | .normal => (normC L_szIntSS_g0_keep L_szIntSS_g0_co st').bind fun nf => K1 .normal (denorm L_szIntSS_g0_keep st'.n nf)
    | e => (normC (L_szIntSS_g0_kx e) (L_szIntSS_g0_cx e) st').bind fun nf => K e (denorm (L_szIntSS_g0_kx e) st'.n nf)) = L_szIntSS_g0 k p v (fun v' => K1 .normal (L_szIntSS_g0_tm (p, v'))) (fun x => K (.exit 0) (L_szIntSS_g0_x0 p x)) (fun x => K .ret (L_szIntSS_g0_xret p x)) := by kernel_rfl
theorem L_szIntSS_g0_ok {ρ : Type} (k : Nat) : Sound Try.prog (.loop b_L_szIntSS_0) (LP_L_szIntSS ρ k 0 fun st K => ev (E_L_szIntSS k) (LP_L_szIntSS ρ k) 0 b_L_szIntSS_0 st K) :=
  loop_ok (ev_sound (E_L_szIntSS_ok k) b_L_szIntSS_0 0 (lpgood_none (by kernel_rfl))) L_szIntSS_g0_kx L_szIntSS_g0_cx k (g := fun p v next K => L_szIntSS_g0 k p v next (fun x => K (.exit 0) (L_szIntSS_g0_x0 p x)) (fun x => K .ret (L_szIntSS_g0_xret p x))) (dec_at L_szIntSS_g0_hd) (fun p v K K1 => L_szIntSS_g0_round k p v K K1)
def L_szIntSS_args (a : List (List Int) × Int) : List Arg := [.one (.sl (.sl (.int .i64)) a.1), .one (.int .i64 a.2)]
def L_szIntSS_argD (l : List Arg) : Option (List (List Int) × Int) := match l with
  | [.one (.sl (.sl (.int .i64)) b0), .one (.int .i64 b1)] => some (b0, b1)
  | _ => none
def L_szIntSS_enc (r : Int) : Out := (.r [] (.int .i64 r), [])
def L_szIntSS_dec (o : Out) : Option (Int) := match o with
  | (.r [] (.int .i64 z1), []) => some z1
  | _ => none
def L_szIntSS_G (k : Nat) : PG := fun _ l K => (L_szIntSS_argD l).bind fun a => (L_szIntSS k a.1 a.2).bind fun r => K (L_szIntSS_enc r)
theorem L_szIntSS_ev (k : Nat) (a : List (List Int) × Int) : ev (E_L_szIntSS k) (LP_L_szIntSS (Int) k) 0 c_L_szIntSS (st0 Try.f51 (L_szIntSS_args a)) (fin Try.prog Try.f51 (.sc) L_szIntSS_dec) = L_szIntSS k a.1 a.2 := by kernel_rfl
theorem L_szIntSS_ok (k : Nat) : PureOk Try.prog 51 (L_szIntSS_G k) :=
  pureOk_of_ev (E_L_szIntSS_ok k) Try.func51 (by kernel_rfl) (by kernel_rfl) L_szIntSS_args L_szIntSS_argD
    (fun l a h => by unfold L_szIntSS_argD at h; split at h <;> first | (cases h; rfl) | cases h) (fun a => rfl) (lpgood_of (l := [(0, b_L_szIntSS_0)]) (by kernel_rfl) ⟨L_szIntSS_g0_ok k, trivial⟩)
    (fun o r h => by unfold L_szIntSS_dec at h; split at h <;> first | (cases h; rfl) | cases h) (L_szIntSS_ev k)
def o_L_szIntSS (k : Nat) : Orc := pureOrc [.one (.sl (.sl (.int .i64))), .one (.int .i64)] (L_szIntSS_G k)
theorem o_L_szIntSS_ok (k : Nat) : OrcOk Try.prog 51 (o_L_szIntSS k) := pureOrc_ok (L_szIntSS_ok k)
/-! ### 40 loop.example/g00778/laws.toIntS -/
noncomputable def E_L_toIntS (k : Nat) : Env := { P := Try.prog, tt := tt, orc := fun g => noOrc }
theorem E_L_toIntS_ok (k : Nat) : EnvOk (E_L_toIntS k) := fun g => (noOrc_ok _ _)
noncomputable def c_L_toIntS : Code := (Try.f40.body).getD .skip
noncomputable def b_L_toIntS_0 : Code := ((loopsIn 0 c_L_toIntS).getD 0 (0, .skip)).2
def L_toIntS_g0_keep : List Nat := [0, 3, 4]
def L_toIntS_g0_co : List (Where × Co) := []
def L_toIntS_g0_kx : Ex → List Nat
  | .exit j => cond (Nat.beq j 0) [3] []
  | .ret => []
  | .normal => []
def L_toIntS_g0_cx : Ex → List (Where × Co)
  | .exit j => cond (Nat.beq j 0) [] []
  | .ret => []
  | .normal => []
def L_toIntS_g0_tm (pv : (List Int) × (Int × List Int)) : St := { slots := [(0, .r [] (.sl (.int .i64) pv.1)), (3, .own 0), (4, .r [] (.int .i64 pv.2.1))], heap := [(0, .arr none (.int .i64) pv.2.2)], nid := 1, n := 22, gh := [] }
def L_toIntS_g0_dec (nf : NF) : Option ((List Int) × (Int × List Int)) := match nf with
  | ([.r [] (.sl (.int .i64) w0), .own 0, .r [] (.int .i64 w1)], [.arr none (.int .i64) w2], []) => some (w0, (w1, w2))
  | _ => none
theorem L_toIntS_g0_hd (nf : NF) (v : (List Int) × (Int × List Int)) (h : L_toIntS_g0_dec nf = some v) : denorm L_toIntS_g0_keep 22 nf = L_toIntS_g0_tm v := by
  unfold L_toIntS_g0_dec at h
  split at h
  · cases h; rfl
  · cases h
def L_toIntS_g0_x0 (p : List Int) (x : List Int) : St := { slots := [(3, .own 0)], heap := [(0, .arr none (.int .i64) x)], nid := 1, n := 22, gh := [] }
def LP_L_toIntS (ρ : Type) (k : Nat) : Nat → Ev ρ → Ev ρ := fun id f => cond (Nat.beq id 0) (loopOrc L_toIntS_g0_keep L_toIntS_g0_co (fun n nf => cond (Nat.beq n 22) (L_toIntS_g0_dec nf) none) fun pv K => iter (fun v next => L_toIntS_g0 k pv.1 v next (fun x => K (.exit 0) (L_toIntS_g0_x0 pv.1 x))) k pv.2) ((fun _ _ _ _ => none) id f)
theorem L_toIntS_g0_round {ρ : Type} (k : Nat) (p : List Int) (v : Int × List Int) (K K1 : Ex → St → Option ρ) : ev (E_L_toIntS k) (LP_L_toIntS ρ k) 0 b_L_toIntS_0 (L_toIntS_g0_tm (p, v)) (fun e st' => match e with
    | .normal => (normC L_toIntS_g0_keep L_toIntS_g0_co st').bind fun nf => K1 .normal (denorm L_toIntS_g0_keep st'.n nf)
    | e => (normC (L_toIntS_g0_kx e) (L_toIntS_g0_cx e) st').bind fun nf => K e (denorm (L_toIntS_g0_kx e) st'.n nf)) = L_toIntS_g0 k p v (fun v' => K1 .normal (L_toIntS_g0_tm (p, v'))) (fun x => K (.exit 0) (L_toIntS_g0_x0 p x)) := by kernel_rfl
theorem L_toIntS_g0_ok {ρ : Type} (k : Nat) : Sound Try.prog (.loop b_L_toIntS_0) (LP_L_toIntS ρ k 0 fun st K => ev (E_L_toIntS k) (LP_L_toIntS ρ k) 0 b_L_toIntS_0 st K) :=
  loop_ok (ev_sound (E_L_toIntS_ok k) b_L_toIntS_0 0 (lpgood_none (by kernel_rfl))) L_toIntS_g0_kx L_toIntS_g0_cx k (g := fun p v next K => L_toIntS_g0 k p v next (fun x => K (.exit 0) (L_toIntS_g0_x0 p x))) (dec_at L_toIntS_g0_hd) (fun p v K K1 => L_toIntS_g0_round k p v K K1)
def L_toIntS_args (a : List Int) : List Arg := [.one (.sl (.int .i64) a)]
def L_toIntS_argD (l : List Arg) : Option (List Int) := match l with
  | [.one (.sl (.int .i64) b0)] => some b0
  | _ => none
def L_toIntS_enc (r : List Int) : Out := (.own 0, [.arr none (.int .i64) r])
def L_toIntS_dec (o : Out) : Option (List Int) := match o with
  | (.own 0, [.arr none (.int .i64) z1]) => some z1
  | _ => none
def L_toIntS_G (k : Nat) : PG := fun _ l K => (L_toIntS_argD l).bind fun a => (L_toIntS k a).bind fun r => K (L_toIntS_enc r)
theorem L_toIntS_ev (k : Nat) (a : List Int) : ev (E_L_toIntS k) (LP_L_toIntS (List Int) k) 0 c_L_toIntS (st0 Try.f40 (L_toIntS_args a)) (fin Try.prog Try.f40 (.own (.int .i64)) L_toIntS_dec) = L_toIntS k a := by kernel_rfl
theorem L_toIntS_ok (k : Nat) : PureOk Try.prog 40 (L_toIntS_G k) :=
  pureOk_of_ev (E_L_toIntS_ok k) Try.func40 (by kernel_rfl) (by kernel_rfl) L_toIntS_args L_toIntS_argD
    (fun l a h => by unfold L_toIntS_argD at h; split at h <;> first | (cases h; rfl) | cases h) (fun a => rfl) (lpgood_of (l := [(0, b_L_toIntS_0)]) (by kernel_rfl) ⟨L_toIntS_g0_ok k, trivial⟩)
    (fun o r h => by unfold L_toIntS_dec at h; split at h <;> first | (cases h; rfl) | cases h) (L_toIntS_ev k)
def o_L_toIntS (k : Nat) : Orc := pureOrc [.one (.sl (.int .i64))] (L_toIntS_G k)
theorem o_L_toIntS_ok (k : Nat) : OrcOk Try.prog 40 (o_L_toIntS k) := pureOrc_ok (L_toIntS_ok k)
/-! ### 53 loop.example/g00778/laws.toIntSS -/
noncomputable def E_L_toIntSS (k : Nat) : Env := { P := Try.prog, tt := tt, orc := fun g => cond (Nat.beq g 40) (o_L_toIntS k) (noOrc) }
theorem E_L_toIntSS_ok (k : Nat) : EnvOk (E_L_toIntSS k) := fun g => (orc_cond (o_L_toIntS_ok k) (noOrc_ok _ _))
noncomputable def c_L_toIntSS : Code := (Try.f53.body).getD .skip
noncomputable def b_L_toIntSS_0 : Code := ((loopsIn 0 c_L_toIntSS).getD 0 (0, .skip)).2
def L_toIntSS_g0_keep : List Nat := [0, 3, 4]
def L_toIntSS_g0_co : List (Where × Co) := []
def L_toIntSS_g0_kx : Ex → List Nat
  | .exit j => cond (Nat.beq j 0) [3] []
  | .ret => []
  | .normal => []
def L_toIntSS_g0_cx : Ex → List (Where × Co)
  | .exit j => cond (Nat.beq j 0) [] []
  | .ret => []
  | .normal => []
def L_toIntSS_g0_tm (pv : (List (List Int)) × (Int × List (List Int))) : St := { slots := [(0, .r [] (.sl (.sl (.int .i64)) pv.1)), (3, .own 0), (4, .r [] (.int .i64 pv.2.1))], heap := [(0, .arr none (.sl (.int .i64)) pv.2.2)], nid := 1, n := 23, gh := [] }
def L_toIntSS_g0_dec (nf : NF) : Option ((List (List Int)) × (Int × List (List Int))) := match nf with
  | ([.r [] (.sl (.sl (.int .i64)) w0), .own 0, .r [] (.int .i64 w1)], [.arr none (.sl (.int .i64)) w2], []) => some (w0, (w1, w2))
  | _ => none
theorem L_toIntSS_g0_hd (nf : NF) (v : (List (List Int)) × (Int × List (List Int))) (h : L_toIntSS_g0_dec nf = some v) : denorm L_toIntSS_g0_keep 23 nf = L_toIntSS_g0_tm v := by
  unfold L_toIntSS_g0_dec at h
  split at h
  · cases h; rfl
  · cases h
def L_toIntSS_g0_x0 (p : List (List Int)) (x : List (List Int)) : St := { slots := [(3, .own 0)], heap := [(0, .arr none (.sl (.int .i64)) x)], nid := 1, n := 23, gh := [] }
def LP_L_toIntSS (ρ : Type) (k : Nat) : Nat → Ev ρ → Ev ρ := fun id f => cond (Nat.beq id 0) (loopOrc L_toIntSS_g0_keep L_toIntSS_g0_co (fun n nf => cond (Nat.beq n 23) (L_toIntSS_g0_dec nf) none) fun pv K => iter (fun v next => L_toIntSS_g0 k pv.1 v next (fun x => K (.exit 0) (L_toIntSS_g0_x0 pv.1 x))) k pv.2) ((fun _ _ _ _ => none) id f)
theorem L_toIntSS_g0_round {ρ : Type} (k : Nat) (p : List (List Int)) (v : Int × List (List Int)) (K K1 : Ex → St → Option ρ) : ev (E_L_toIntSS k) (LP_L_toIntSS ρ k) 0 b_L_toIntSS_0 (L_toIntSS_g0_tm (p, v)) (fun e st' => match e with
    | .normal => (normC L_toIntSS_g0_keep L_toIntSS_g0_co st').bind fun nf => K1 .normal (denorm L_toIntSS_g0_keep st'.n nf)
    | e => (normC (L_toIntSS_g0_kx e) (L_toIntSS_g0_cx e) st').bind fun nf => K e (denorm (L_toIntSS_g0_kx e) st'.n nf)) = L_toIntSS_g0 k p v (fun v' => K1 .normal (L_toIntSS_g0_tm (p, v'))) (fun x => K (.exit 0) (L_toIntSS_g0_x0 p x)) := by kernel_rfl
theorem L_toIntSS_g0_ok {ρ : Type} (k : Nat) : Sound Try.prog (.loop b_L_toIntSS_0) (LP_L_toIntSS ρ k 0 fun st K => ev (E_L_toIntSS k) (LP_L_toIntSS ρ k) 0 b_L_toIntSS_0 st K) :=
  loop_ok (ev_sound (E_L_toIntSS_ok k) b_L_toIntSS_0 0 (lpgood_none (by kernel_rfl))) L_toIntSS_g0_kx L_toIntSS_g0_cx k (g := fun p v next K => L_toIntSS_g0 k p v next (fun x => K (.exit 0) (L_toIntSS_g0_x0 p x))) (dec_at L_toIntSS_g0_hd) (fun p v K K1 => L_toIntSS_g0_round k p v K K1)
def L_toIntSS_args (a : List (List Int)) : List Arg := [.one (.sl (.sl (.int .i64)) a)]
def L_toIntSS_argD (l : List Arg) : Option (List (List Int)) := match l with
  | [.one (.sl (.sl (.int .i64)) b0)] => some b0
  | _ => none
def L_toIntSS_enc (r : List (List Int)) : Out := (.own 0, [.arr none (.sl (.int .i64)) r])
def L_toIntSS_dec (o : Out) : Option (List (List Int)) := match o with
  | (.own 0, [.arr none (.sl (.int .i64)) z1]) => some z1
  | _ => none
def L_toIntSS_G (k : Nat) : PG := fun _ l K => (L_toIntSS_argD l).bind fun a => (L_toIntSS k a).bind fun r => K (L_toIntSS_enc r)
theorem L_toIntSS_ev (k : Nat) (a : List (List Int)) : ev (E_L_toIntSS k) (LP_L_toIntSS (List (List Int)) k) 0 c_L_toIntSS (st0 Try.f53 (L_toIntSS_args a)) (fin Try.prog Try.f53 (.own (.sl (.int .i64))) L_toIntSS_dec) = L_toIntSS k a := by kernel_rfl
theorem L_toIntSS_ok (k : Nat) : PureOk Try.prog 53 (L_toIntSS_G k) :=
  pureOk_of_ev (E_L_toIntSS_ok k) Try.func53 (by kernel_rfl) (by kernel_rfl) L_toIntSS_args L_toIntSS_argD
    (fun l a h => by unfold L_toIntSS_argD at h; split at h <;> first | (cases h; rfl) | cases h) (fun a => rfl) (lpgood_of (l := [(0, b_L_toIntSS_0)]) (by kernel_rfl) ⟨L_toIntSS_g0_ok k, trivial⟩)
    (fun o r h => by unfold L_toIntSS_dec at h; split at h <;> first | (cases h; rfl) | cases h) (L_toIntSS_ev k)
def o_L_toIntSS (k : Nat) : Orc := pureOrc [.one (.sl (.sl (.int .i64)))] (L_toIntSS_G k)
theorem o_L_toIntSS_ok (k : Nat) : OrcOk Try.prog 53 (o_L_toIntSS k) := pureOrc_ok (L_toIntSS_ok k)
/-! ### 82 loop.example/g00778/spec.l01In -/
noncomputable def E_S_l01In (k : Nat) : Env := { P := Try.prog, tt := tt, orc := fun g => noOrc }
theorem E_S_l01In_ok (k : Nat) : EnvOk (E_S_l01In k) := fun g => (noOrc_ok _ _)
noncomputable def c_S_l01In : Code := (Try.f82.body).getD .skip
def LP_S_l01In (ρ : Type) (k : Nat) : Nat → Ev ρ → Ev ρ := fun _ _ _ _ => none
def S_l01In_args (a : Int × Int × Int) : List Arg := [.one (.int .i64 a.1), .one (.int .i64 a.2.1), .one (.int .i64 a.2.2)]
def S_l01In_argD (l : List Arg) : Option (Int × Int × Int) := match l with
  | [.one (.int .i64 b0), .one (.int .i64 b1), .one (.int .i64 b2)] => some (b0, b1, b2)
  | _ => none
def S_l01In_enc (r : Bool) : Out := (.r [] (.bool r), [])
def S_l01In_dec (o : Out) : Option (Bool) := match o with
  | (.r [] (.bool z1), []) => some z1
  | _ => none
def S_l01In_G (k : Nat) : PG := fun _ l K => (S_l01In_argD l).bind fun a => (S_l01In k a.1 a.2.1 a.2.2).bind fun r => K (S_l01In_enc r)
theorem S_l01In_ev (k : Nat) (a : Int × Int × Int) : ev (E_S_l01In k) (LP_S_l01In (Bool) k) 0 c_S_l01In (st0 Try.f82 (S_l01In_args a)) (fin Try.prog Try.f82 (.sc) S_l01In_dec) = S_l01In k a.1 a.2.1 a.2.2 := by kernel_rfl
theorem S_l01In_ok (k : Nat) : PureOk Try.prog 82 (S_l01In_G k) :=
  pureOk_of_ev (E_S_l01In_ok k) Try.func82 (by kernel_rfl) (by kernel_rfl) S_l01In_args S_l01In_argD
    (fun l a h => by unfold S_l01In_argD at h; split at h <;> first | (cases h; rfl) | cases h) (fun a => rfl) (lpgood_none (by kernel_rfl))
    (fun o r h => by unfold S_l01In_dec at h; split at h <;> first | (cases h; rfl) | cases h) (S_l01In_ev k)
def o_S_l01In (k : Nat) : Orc := pureOrc [.one (.int .i64), .one (.int .i64), .one (.int .i64)] (S_l01In_G k)
theorem o_S_l01In_ok (k : Nat) : OrcOk Try.prog 82 (o_S_l01In k) := pureOrc_ok (S_l01In_ok k)
/-! ### 158 loop.example/g00778/spec.l07Tick -/
noncomputable def E_S_l07Tick (k : Nat) : Env := { P := Try.prog, tt := tt, orc := fun g => cond (Nat.beq g 82) (o_S_l01In k) (noOrc) }
theorem E_S_l07Tick_ok (k : Nat) : EnvOk (E_S_l07Tick k) := fun g => (orc_cond (o_S_l01In_ok k) (noOrc_ok _ _))
noncomputable def c_S_l07Tick : Code := (Try.f158.body).getD .skip
def LP_S_l07Tick (ρ : Type) (k : Nat) : Nat → Ev ρ → Ev ρ := fun _ _ _ _ => none
def S_l07Tick_args (a : Int) : List Arg := [.one (.int .i64 a)]
def S_l07Tick_argD (l : List Arg) : Option (Int) := match l with
  | [.one (.int .i64 b0)] => some b0
  | _ => none
def S_l07Tick_enc (r : Bool) : Out := (.r [] (.bool r), [])
def S_l07Tick_dec (o : Out) : Option (Bool) := match o with
  | (.r [] (.bool z1), []) => some z1
  | _ => none
def S_l07Tick_G (k : Nat) : PG := fun _ l K => (S_l07Tick_argD l).bind fun a => (S_l07Tick k a).bind fun r => K (S_l07Tick_enc r)
theorem S_l07Tick_ev (k : Nat) (a : Int) : ev (E_S_l07Tick k) (LP_S_l07Tick (Bool) k) 0 c_S_l07Tick (st0 Try.f158 (S_l07Tick_args a)) (fin Try.prog Try.f158 (.sc) S_l07Tick_dec) = S_l07Tick k a := by kernel_rfl
theorem S_l07Tick_ok (k : Nat) : PureOk Try.prog 158 (S_l07Tick_G k) :=
  pureOk_of_ev (E_S_l07Tick_ok k) Try.func158 (by kernel_rfl) (by kernel_rfl) S_l07Tick_args S_l07Tick_argD
    (fun l a h => by unfold S_l07Tick_argD at h; split at h <;> first | (cases h; rfl) | cases h) (fun a => rfl) (lpgood_none (by kernel_rfl))
    (fun o r h => by unfold S_l07Tick_dec at h; split at h <;> first | (cases h; rfl) | cases h) (S_l07Tick_ev k)
def o_S_l07Tick (k : Nat) : Orc := pureOrc [.one (.int .i64)] (S_l07Tick_G k)
theorem o_S_l07Tick_ok (k : Nat) : OrcOk Try.prog 158 (o_S_l07Tick k) := pureOrc_ok (S_l07Tick_ok k)
/-! ### 105 loop.example/g00778/spec.TaskOk -/
noncomputable def E_S_TaskOk (k : Nat) : Env := { P := Try.prog, tt := tt, orc := fun g => cond (Nat.beq g 82) (o_S_l01In k) (cond (Nat.beq g 158) (o_S_l07Tick k) (noOrc)) }
theorem E_S_TaskOk_ok (k : Nat) : EnvOk (E_S_TaskOk k) := fun g => (orc_cond (o_S_l01In_ok k) (orc_cond (o_S_l07Tick_ok k) (noOrc_ok _ _)))
noncomputable def c_S_TaskOk : Code := (Try.f105.body).getD .skip
noncomputable def b_S_TaskOk_0 : Code := ((loopsIn 0 c_S_TaskOk).getD 0 (0, .skip)).2
def S_TaskOk_g0_keep : List Nat := [1, 3]
def S_TaskOk_g0_co : List (Where × Co) := []
def S_TaskOk_g0_kx : Ex → List Nat
  | .exit j => cond (Nat.beq j 0) [] []
  | .ret => [2]
  | .normal => []
def S_TaskOk_g0_cx : Ex → List (Where × Co)
  | .exit j => cond (Nat.beq j 0) [] []
  | .ret => []
  | .normal => []
def S_TaskOk_g0_tm (pv : (Int × List Int × Int × Int × Int) × (Int)) : St := { slots := [(1, .ptr 0 0 0), (3, .r [] (.int .i64 pv.2))], heap := [(0, .box [.r [] (.int .i64 pv.1.1), .r [] (.sl (.int .i64) pv.1.2.1), .r [] (.int .i64 pv.1.2.2.1), .r [] (.int .i64 pv.1.2.2.2.1), .r [] (.int .i64 pv.1.2.2.2.2)])], nid := 1, n := 51, gh := [] }
def S_TaskOk_g0_dec (nf : NF) : Option ((Int × List Int × Int × Int × Int) × (Int)) := match nf with
  | ([.ptr 0 0 0, .r [] (.int .i64 w0)], [.box [.r [] (.int .i64 w1), .r [] (.sl (.int .i64) w2), .r [] (.int .i64 w3), .r [] (.int .i64 w4), .r [] (.int .i64 w5)]], []) => some ((w1, w2, w3, w4, w5), w0)
  | _ => none
theorem S_TaskOk_g0_hd (nf : NF) (v : (Int × List Int × Int × Int × Int) × (Int)) (h : S_TaskOk_g0_dec nf = some v) : denorm S_TaskOk_g0_keep 51 nf = S_TaskOk_g0_tm v := by
  unfold S_TaskOk_g0_dec at h
  split at h
  · cases h; rfl
  · cases h
def S_TaskOk_g0_x0 (p : Int × List Int × Int × Int × Int) (x : Unit) : St := { slots := [], heap := [], nid := 0, n := 51, gh := [] }
def S_TaskOk_g0_xret (p : Int × List Int × Int × Int × Int) (x : Bool) : St := { slots := [(2, .r [] (.bool x))], heap := [], nid := 0, n := 51, gh := [] }
def LP_S_TaskOk (ρ : Type) (k : Nat) : Nat → Ev ρ → Ev ρ := fun id f => cond (Nat.beq id 0) (loopOrc S_TaskOk_g0_keep S_TaskOk_g0_co (fun n nf => cond (Nat.beq n 51) (S_TaskOk_g0_dec nf) none) fun pv K => iter (fun v next => S_TaskOk_g0 k pv.1 v next (fun x => K (.exit 0) (S_TaskOk_g0_x0 pv.1 x)) (fun x => K .ret (S_TaskOk_g0_xret pv.1 x))) k pv.2) ((fun _ _ _ _ => none) id f)
theorem S_TaskOk_g0_round {ρ : Type} (k : Nat) (p : Int × List Int × Int × Int × Int) (v : Int) (K K1 : Ex → St → Option ρ) : ev (E_S_TaskOk k) (LP_S_TaskOk ρ k) 0 b_S_TaskOk_0 (S_TaskOk_g0_tm (p, v)) (fun e st' => match e with
    | .normal => (normC S_TaskOk_g0_keep S_TaskOk_g0_co st').bind fun nf => K1 .normal (denorm S_TaskOk_g0_keep st'.n nf)
    | e => (normC (S_TaskOk_g0_kx e) (S_TaskOk_g0_cx e) st').bind fun nf => K e (denorm (S_TaskOk_g0_kx e) st'.n nf)) = S_TaskOk_g0 k p v (fun v' => K1 .normal (S_TaskOk_g0_tm (p, v'))) (fun x => K (.exit 0) (S_TaskOk_g0_x0 p x)) (fun x => K .ret (S_TaskOk_g0_xret p x)) := by kernel_rfl
theorem S_TaskOk_g0_ok {ρ : Type} (k : Nat) : Sound Try.prog (.loop b_S_TaskOk_0) (LP_S_TaskOk ρ k 0 fun st K => ev (E_S_TaskOk k) (LP_S_TaskOk ρ k) 0 b_S_TaskOk_0 st K) :=
  loop_ok (ev_sound (E_S_TaskOk_ok k) b_S_TaskOk_0 0 (lpgood_none (by kernel_rfl))) S_TaskOk_g0_kx S_TaskOk_g0_cx k (g := fun p v next K => S_TaskOk_g0 k p v next (fun x => K (.exit 0) (S_TaskOk_g0_x0 p x)) (fun x => K .ret (S_TaskOk_g0_xret p x))) (dec_at S_TaskOk_g0_hd) (fun p v K K1 => S_TaskOk_g0_round k p v K K1)
def S_TaskOk_args (a : Task) : List Arg := [.agg [.int .i64 a.id, .sl (.int .i64) a.costs, .int .i64 a.at_, .int .i64 a.due, .int .i64 a.born]]
def S_TaskOk_argD (l : List Arg) : Option (Task) := match l with
  | [.agg [.int .i64 b0_0, .sl (.int .i64) b0_1, .int .i64 b0_2, .int .i64 b0_3, .int .i64 b0_4]] => some (⟨b0_0, b0_1, b0_2, b0_3, b0_4⟩ : Task)
  | _ => none
def S_TaskOk_enc (r : Bool) : Out := (.r [] (.bool r), [])
def S_TaskOk_dec (o : Out) : Option (Bool) := match o with
  | (.r [] (.bool z1), []) => some z1
  | _ => none
def S_TaskOk_G (k : Nat) : PG := fun _ l K => (S_TaskOk_argD l).bind fun a => (S_TaskOk k a).bind fun r => K (S_TaskOk_enc r)
theorem S_TaskOk_ev (k : Nat) (a : Task) : ev (E_S_TaskOk k) (LP_S_TaskOk (Bool) k) 0 c_S_TaskOk (st0 Try.f105 (S_TaskOk_args a)) (fin Try.prog Try.f105 (.sc) S_TaskOk_dec) = S_TaskOk k a := by kernel_rfl
theorem S_TaskOk_ok (k : Nat) : PureOk Try.prog 105 (S_TaskOk_G k) :=
  pureOk_of_ev (E_S_TaskOk_ok k) Try.func105 (by kernel_rfl) (by kernel_rfl) S_TaskOk_args S_TaskOk_argD
    (fun l a h => by unfold S_TaskOk_argD at h; split at h <;> first | (cases h; rfl) | cases h) (fun a => rfl) (lpgood_of (l := [(0, b_S_TaskOk_0)]) (by kernel_rfl) ⟨S_TaskOk_g0_ok k, trivial⟩)
    (fun o r h => by unfold S_TaskOk_dec at h; split at h <;> first | (cases h; rfl) | cases h) (S_TaskOk_ev k)
def o_S_TaskOk (k : Nat) : Orc := pureOrc [.agg [(.int .i64), (.sl (.int .i64)), (.int .i64), (.int .i64), (.int .i64)]] (S_TaskOk_G k)
theorem o_S_TaskOk_ok (k : Nat) : OrcOk Try.prog 105 (o_S_TaskOk k) := pureOrc_ok (S_TaskOk_ok k)
/-! ### 115 loop.example/g00778/spec.l07At -/
noncomputable def E_S_l07At (k : Nat) : Env := { P := Try.prog, tt := tt, orc := fun g => noOrc }
theorem E_S_l07At_ok (k : Nat) : EnvOk (E_S_l07At k) := fun g => (noOrc_ok _ _)
noncomputable def c_S_l07At : Code := (Try.f115.body).getD .skip
noncomputable def b_S_l07At_0 : Code := ((loopsIn 0 c_S_l07At).getD 0 (0, .skip)).2
def S_l07At_g0_keep : List Nat := [1, 2, 5]
def S_l07At_g0_co : List (Where × Co) := []
def S_l07At_g0_kx : Ex → List Nat
  | .exit j => cond (Nat.beq j 0) [] []
  | .ret => [4]
  | .normal => []
def S_l07At_g0_cx : Ex → List (Where × Co)
  | .exit j => cond (Nat.beq j 0) [] []
  | .ret => []
  | .normal => []
def S_l07At_g0_tm (pv : (Int × Int × Int × Int × List Task × Int × Int × Int × Int) × (Int)) : St := { slots := [(1, .r [] (.int .i64 pv.1.1)), (2, .ptr 0 0 0), (5, .r [] (.int .i64 pv.2))], heap := [(0, .box [.r [] (.int .i64 pv.1.2.1), .r [] (.int .i64 pv.1.2.2.1), .r [] (.int .i64 pv.1.2.2.2.1), .r [] (.sl (.st .task) pv.1.2.2.2.2.1), .r [] (.int .i64 pv.1.2.2.2.2.2.1), .r [] (.int .i64 pv.1.2.2.2.2.2.2.1), .r [] (.int .i64 pv.1.2.2.2.2.2.2.2.1), .r [] (.int .i64 pv.1.2.2.2.2.2.2.2.2)])], nid := 1, n := 22, gh := [] }
def S_l07At_g0_dec (nf : NF) : Option ((Int × Int × Int × Int × List Task × Int × Int × Int × Int) × (Int)) := match nf with
  | ([.r [] (.int .i64 w0), .ptr 0 0 0, .r [] (.int .i64 w1)], [.box [.r [] (.int .i64 w2), .r [] (.int .i64 w3), .r [] (.int .i64 w4), .r [] (.sl (.st .task) w5), .r [] (.int .i64 w6), .r [] (.int .i64 w7), .r [] (.int .i64 w8), .r [] (.int .i64 w9)]], []) => some ((w0, w2, w3, w4, w5, w6, w7, w8, w9), w1)
  | _ => none
theorem S_l07At_g0_hd (nf : NF) (v : (Int × Int × Int × Int × List Task × Int × Int × Int × Int) × (Int)) (h : S_l07At_g0_dec nf = some v) : denorm S_l07At_g0_keep 22 nf = S_l07At_g0_tm v := by
  unfold S_l07At_g0_dec at h
  split at h
  · cases h; rfl
  · cases h
def S_l07At_g0_x0 (p : Int × Int × Int × Int × List Task × Int × Int × Int × Int) (x : Unit) : St := { slots := [], heap := [], nid := 0, n := 22, gh := [] }
def S_l07At_g0_xret (p : Int × Int × Int × Int × List Task × Int × Int × Int × Int) (x : Int) : St := { slots := [(4, .r [] (.int .i64 x))], heap := [], nid := 0, n := 22, gh := [] }
def LP_S_l07At (ρ : Type) (k : Nat) : Nat → Ev ρ → Ev ρ := fun id f => cond (Nat.beq id 0) (loopOrc S_l07At_g0_keep S_l07At_g0_co (fun n nf => cond (Nat.beq n 22) (S_l07At_g0_dec nf) none) fun pv K => iter (fun v next => S_l07At_g0 k pv.1 v next (fun x => K (.exit 0) (S_l07At_g0_x0 pv.1 x)) (fun x => K .ret (S_l07At_g0_xret pv.1 x))) k pv.2) ((fun _ _ _ _ => none) id f)
theorem S_l07At_g0_round {ρ : Type} (k : Nat) (p : Int × Int × Int × Int × List Task × Int × Int × Int × Int) (v : Int) (K K1 : Ex → St → Option ρ) : ev (E_S_l07At k) (LP_S_l07At ρ k) 0 b_S_l07At_0 (S_l07At_g0_tm (p, v)) (fun e st' => match e with
    | .normal => (normC S_l07At_g0_keep S_l07At_g0_co st').bind fun nf => K1 .normal (denorm S_l07At_g0_keep st'.n nf)
    | e => (normC (S_l07At_g0_kx e) (S_l07At_g0_cx e) st').bind fun nf => K e (denorm (S_l07At_g0_kx e) st'.n nf)) = S_l07At_g0 k p v (fun v' => K1 .normal (S_l07At_g0_tm (p, v'))) (fun x => K (.exit 0) (S_l07At_g0_x0 p x)) (fun x => K .ret (S_l07At_g0_xret p x)) := by kernel_rfl
theorem S_l07At_g0_ok {ρ : Type} (k : Nat) : Sound Try.prog (.loop b_S_l07At_0) (LP_S_l07At ρ k 0 fun st K => ev (E_S_l07At k) (LP_S_l07At ρ k) 0 b_S_l07At_0 st K) :=
  loop_ok (ev_sound (E_S_l07At_ok k) b_S_l07At_0 0 (lpgood_none (by kernel_rfl))) S_l07At_g0_kx S_l07At_g0_cx k (g := fun p v next K => S_l07At_g0 k p v next (fun x => K (.exit 0) (S_l07At_g0_x0 p x)) (fun x => K .ret (S_l07At_g0_xret p x))) (dec_at S_l07At_g0_hd) (fun p v K K1 => S_l07At_g0_round k p v K K1)
def S_l07At_args (a : Sched × Int) : List Arg := [.agg [.int .i64 a.1.now, .int .i64 a.1.slack, .int .i64 a.1.age, .sl (.st .task) a.1.tasks, .int .i64 a.1.run, .int .i64 a.1.left, .int .i64 a.1.turns, .int .i64 a.1.next], .one (.int .i64 a.2)]
def S_l07At_argD (l : List Arg) : Option (Sched × Int) := match l with
  | [.agg [.int .i64 b0_0, .int .i64 b0_1, .int .i64 b0_2, .sl (.st .task) b0_3, .int .i64 b0_4, .int .i64 b0_5, .int .i64 b0_6, .int .i64 b0_7], .one (.int .i64 b1)] => some ((⟨b0_0, b0_1, b0_2, b0_3, b0_4, b0_5, b0_6, b0_7⟩ : Sched), b1)
  | _ => none
def S_l07At_enc (r : Int) : Out := (.r [] (.int .i64 r), [])
def S_l07At_dec (o : Out) : Option (Int) := match o with
  | (.r [] (.int .i64 z1), []) => some z1
  | _ => none
def S_l07At_G (k : Nat) : PG := fun _ l K => (S_l07At_argD l).bind fun a => (S_l07At k a.1 a.2).bind fun r => K (S_l07At_enc r)
theorem S_l07At_ev (k : Nat) (a : Sched × Int) : ev (E_S_l07At k) (LP_S_l07At (Int) k) 0 c_S_l07At (st0 Try.f115 (S_l07At_args a)) (fin Try.prog Try.f115 (.sc) S_l07At_dec) = S_l07At k a.1 a.2 := by kernel_rfl
theorem S_l07At_ok (k : Nat) : PureOk Try.prog 115 (S_l07At_G k) :=
  pureOk_of_ev (E_S_l07At_ok k) Try.func115 (by kernel_rfl) (by kernel_rfl) S_l07At_args S_l07At_argD
    (fun l a h => by unfold S_l07At_argD at h; split at h <;> first | (cases h; rfl) | cases h) (fun a => rfl) (lpgood_of (l := [(0, b_S_l07At_0)]) (by kernel_rfl) ⟨S_l07At_g0_ok k, trivial⟩)
    (fun o r h => by unfold S_l07At_dec at h; split at h <;> first | (cases h; rfl) | cases h) (S_l07At_ev k)
def o_S_l07At (k : Nat) : Orc := pureOrc [.agg [(.int .i64), (.int .i64), (.int .i64), (.sl (.st .task)), (.int .i64), (.int .i64), (.int .i64), (.int .i64)], .one (.int .i64)] (S_l07At_G k)
theorem o_S_l07At_ok (k : Nat) : OrcOk Try.prog 115 (o_S_l07At k) := pureOrc_ok (S_l07At_ok k)
/-! ### 104 loop.example/g00778/spec.SchedOk -/
noncomputable def E_S_SchedOk (k : Nat) : Env := { P := Try.prog, tt := tt, orc := fun g => cond (Nat.beq g 82) (o_S_l01In k) (cond (Nat.beq g 105) (o_S_TaskOk k) (cond (Nat.beq g 115) (o_S_l07At k) (cond (Nat.beq g 158) (o_S_l07Tick k) (noOrc)))) }
theorem E_S_SchedOk_ok (k : Nat) : EnvOk (E_S_SchedOk k) := fun g => (orc_cond (o_S_l01In_ok k) (orc_cond (o_S_TaskOk_ok k) (orc_cond (o_S_l07At_ok k) (orc_cond (o_S_l07Tick_ok k) (noOrc_ok _ _)))))
noncomputable def c_S_SchedOk : Code := (Try.f104.body).getD .skip
noncomputable def b_S_SchedOk_0 : Code := ((loopsIn 0 c_S_SchedOk).getD 0 (0, .skip)).2
def S_SchedOk_g0_keep : List Nat := [1, 3]
def S_SchedOk_g0_co : List (Where × Co) := []
def S_SchedOk_g0_kx : Ex → List Nat
  | .exit j => cond (Nat.beq j 0) [1] []
  | .ret => [2]
  | .normal => []
def S_SchedOk_g0_cx : Ex → List (Where × Co)
  | .exit j => cond (Nat.beq j 0) [] []
  | .ret => []
  | .normal => []
def S_SchedOk_g0_tm (pv : (Int × Int × Int × List Task × Int × Int × Int × Int) × (Int)) : St := { slots := [(1, .ptr 0 0 0), (3, .r [] (.int .i64 pv.2))], heap := [(0, .box [.r [] (.int .i64 pv.1.1), .r [] (.int .i64 pv.1.2.1), .r [] (.int .i64 pv.1.2.2.1), .r [] (.sl (.st .task) pv.1.2.2.2.1), .r [] (.int .i64 pv.1.2.2.2.2.1), .r [] (.int .i64 pv.1.2.2.2.2.2.1), .r [] (.int .i64 pv.1.2.2.2.2.2.2.1), .r [] (.int .i64 pv.1.2.2.2.2.2.2.2)])], nid := 1, n := 116, gh := [] }
def S_SchedOk_g0_dec (nf : NF) : Option ((Int × Int × Int × List Task × Int × Int × Int × Int) × (Int)) := match nf with
  | ([.ptr 0 0 0, .r [] (.int .i64 w0)], [.box [.r [] (.int .i64 w1), .r [] (.int .i64 w2), .r [] (.int .i64 w3), .r [] (.sl (.st .task) w4), .r [] (.int .i64 w5), .r [] (.int .i64 w6), .r [] (.int .i64 w7), .r [] (.int .i64 w8)]], []) => some ((w1, w2, w3, w4, w5, w6, w7, w8), w0)
  | _ => none
theorem S_SchedOk_g0_hd (nf : NF) (v : (Int × Int × Int × List Task × Int × Int × Int × Int) × (Int)) (h : S_SchedOk_g0_dec nf = some v) : denorm S_SchedOk_g0_keep 116 nf = S_SchedOk_g0_tm v := by
  unfold S_SchedOk_g0_dec at h
  split at h
  · cases h; rfl
  · cases h
def S_SchedOk_g0_x0 (p : Int × Int × Int × List Task × Int × Int × Int × Int) (x : Unit) : St := { slots := [(1, .ptr 0 0 0)], heap := [(0, .box [.r [] (.int .i64 p.1), .r [] (.int .i64 p.2.1), .r [] (.int .i64 p.2.2.1), .r [] (.sl (.st .task) p.2.2.2.1), .r [] (.int .i64 p.2.2.2.2.1), .r [] (.int .i64 p.2.2.2.2.2.1), .r [] (.int .i64 p.2.2.2.2.2.2.1), .r [] (.int .i64 p.2.2.2.2.2.2.2)])], nid := 1, n := 116, gh := [] }
def S_SchedOk_g0_xret (p : Int × Int × Int × List Task × Int × Int × Int × Int) (x : Bool) : St := { slots := [(2, .r [] (.bool x))], heap := [], nid := 0, n := 116, gh := [] }
def LP_S_SchedOk (ρ : Type) (k : Nat) : Nat → Ev ρ → Ev ρ := fun id f => cond (Nat.beq id 0) (loopOrc S_SchedOk_g0_keep S_SchedOk_g0_co (fun n nf => cond (Nat.beq n 116) (S_SchedOk_g0_dec nf) none) fun pv K => iter (fun v next => S_SchedOk_g0 k pv.1 v next (fun x => K (.exit 0) (S_SchedOk_g0_x0 pv.1 x)) (fun x => K .ret (S_SchedOk_g0_xret pv.1 x))) k pv.2) ((fun _ _ _ _ => none) id f)
theorem S_SchedOk_g0_round {ρ : Type} (k : Nat) (p : Int × Int × Int × List Task × Int × Int × Int × Int) (v : Int) (K K1 : Ex → St → Option ρ) : ev (E_S_SchedOk k) (LP_S_SchedOk ρ k) 0 b_S_SchedOk_0 (S_SchedOk_g0_tm (p, v)) (fun e st' => match e with
    | .normal => (normC S_SchedOk_g0_keep S_SchedOk_g0_co st').bind fun nf => K1 .normal (denorm S_SchedOk_g0_keep st'.n nf)
    | e => (normC (S_SchedOk_g0_kx e) (S_SchedOk_g0_cx e) st').bind fun nf => K e (denorm (S_SchedOk_g0_kx e) st'.n nf)) = S_SchedOk_g0 k p v (fun v' => K1 .normal (S_SchedOk_g0_tm (p, v'))) (fun x => K (.exit 0) (S_SchedOk_g0_x0 p x)) (fun x => K .ret (S_SchedOk_g0_xret p x)) := by kernel_rfl
theorem S_SchedOk_g0_ok {ρ : Type} (k : Nat) : Sound Try.prog (.loop b_S_SchedOk_0) (LP_S_SchedOk ρ k 0 fun st K => ev (E_S_SchedOk k) (LP_S_SchedOk ρ k) 0 b_S_SchedOk_0 st K) :=
  loop_ok (ev_sound (E_S_SchedOk_ok k) b_S_SchedOk_0 0 (lpgood_none (by kernel_rfl))) S_SchedOk_g0_kx S_SchedOk_g0_cx k (g := fun p v next K => S_SchedOk_g0 k p v next (fun x => K (.exit 0) (S_SchedOk_g0_x0 p x)) (fun x => K .ret (S_SchedOk_g0_xret p x))) (dec_at S_SchedOk_g0_hd) (fun p v K K1 => S_SchedOk_g0_round k p v K K1)
def S_SchedOk_args (a : Sched) : List Arg := [.agg [.int .i64 a.now, .int .i64 a.slack, .int .i64 a.age, .sl (.st .task) a.tasks, .int .i64 a.run, .int .i64 a.left, .int .i64 a.turns, .int .i64 a.next]]
def S_SchedOk_argD (l : List Arg) : Option (Sched) := match l with
  | [.agg [.int .i64 b0_0, .int .i64 b0_1, .int .i64 b0_2, .sl (.st .task) b0_3, .int .i64 b0_4, .int .i64 b0_5, .int .i64 b0_6, .int .i64 b0_7]] => some (⟨b0_0, b0_1, b0_2, b0_3, b0_4, b0_5, b0_6, b0_7⟩ : Sched)
  | _ => none
def S_SchedOk_enc (r : Bool) : Out := (.r [] (.bool r), [])
def S_SchedOk_dec (o : Out) : Option (Bool) := match o with
  | (.r [] (.bool z1), []) => some z1
  | _ => none
def S_SchedOk_G (k : Nat) : PG := fun _ l K => (S_SchedOk_argD l).bind fun a => (S_SchedOk k a).bind fun r => K (S_SchedOk_enc r)
theorem S_SchedOk_ev (k : Nat) (a : Sched) : ev (E_S_SchedOk k) (LP_S_SchedOk (Bool) k) 0 c_S_SchedOk (st0 Try.f104 (S_SchedOk_args a)) (fin Try.prog Try.f104 (.sc) S_SchedOk_dec) = S_SchedOk k a := by kernel_rfl
theorem S_SchedOk_ok (k : Nat) : PureOk Try.prog 104 (S_SchedOk_G k) :=
  pureOk_of_ev (E_S_SchedOk_ok k) Try.func104 (by kernel_rfl) (by kernel_rfl) S_SchedOk_args S_SchedOk_argD
    (fun l a h => by unfold S_SchedOk_argD at h; split at h <;> first | (cases h; rfl) | cases h) (fun a => rfl) (lpgood_of (l := [(0, b_S_SchedOk_0)]) (by kernel_rfl) ⟨S_SchedOk_g0_ok k, trivial⟩)
    (fun o r h => by unfold S_SchedOk_dec at h; split at h <;> first | (cases h; rfl) | cases h) (S_SchedOk_ev k)
def o_S_SchedOk (k : Nat) : Orc := pureOrc [.agg [(.int .i64), (.int .i64), (.int .i64), (.sl (.st .task)), (.int .i64), (.int .i64), (.int .i64), (.int .i64)]] (S_SchedOk_G k)
theorem o_S_SchedOk_ok (k : Nat) : OrcOk Try.prog 104 (o_S_SchedOk k) := pureOrc_ok (S_SchedOk_ok k)
/-! ### 122 loop.example/g00778/spec.NewSched -/
noncomputable def E_S_NewSched (k : Nat) : Env := { P := Try.prog, tt := tt, orc := fun g => cond (Nat.beq g 104) (o_S_SchedOk k) (noOrc) }
theorem E_S_NewSched_ok (k : Nat) : EnvOk (E_S_NewSched k) := fun g => (orc_cond (o_S_SchedOk_ok k) (noOrc_ok _ _))
noncomputable def c_S_NewSched : Code := (Try.f122.body).getD .skip
def LP_S_NewSched (ρ : Type) (k : Nat) : Nat → Ev ρ → Ev ρ := fun _ _ _ _ => none
def S_NewSched_args (a : Int × Int) : List Arg := [.one (.int .i64 a.1), .one (.int .i64 a.2)]
def S_NewSched_argD (l : List Arg) : Option (Int × Int) := match l with
  | [.one (.int .i64 b0), .one (.int .i64 b1)] => some (b0, b1)
  | _ => none
def S_NewSched_enc (r : Sched × Bool) : Out := (.tup [.agg [.r [] (.int .i64 r.1.now), .r [] (.int .i64 r.1.slack), .r [] (.int .i64 r.1.age), .own 0, .r [] (.int .i64 r.1.run), .r [] (.int .i64 r.1.left), .r [] (.int .i64 r.1.turns), .r [] (.int .i64 r.1.next)], .r [] (.bool r.2)], [.arr none (.st .task) r.1.tasks])
def S_NewSched_dec (o : Out) : Option (Sched × Bool) := match o with
  | (.tup [.agg [.r [] (.int .i64 z1), .r [] (.int .i64 z2), .r [] (.int .i64 z3), .own 0, .r [] (.int .i64 z5), .r [] (.int .i64 z6), .r [] (.int .i64 z7), .r [] (.int .i64 z8)], .r [] (.bool z9)], [.arr none (.st .task) z4]) => some ((⟨z1, z2, z3, z4, z5, z6, z7, z8⟩ : Sched), z9)
  | _ => none
def S_NewSched_G (k : Nat) : PG := fun _ l K => (S_NewSched_argD l).bind fun a => (S_NewSched k a.1 a.2).bind fun r => K (S_NewSched_enc r)
theorem S_NewSched_ev (k : Nat) (a : Int × Int) : ev (E_S_NewSched k) (LP_S_NewSched (Sched × Bool) k) 0 c_S_NewSched (st0 Try.f122 (S_NewSched_args a)) (fin Try.prog Try.f122 (.tup [.agg [.sc, .sc, .sc, .own (.st .task), .sc, .sc, .sc, .sc], .sc]) S_NewSched_dec) = S_NewSched k a.1 a.2 := by kernel_rfl
theorem S_NewSched_ok (k : Nat) : PureOk Try.prog 122 (S_NewSched_G k) :=
  pureOk_of_ev (E_S_NewSched_ok k) Try.func122 (by kernel_rfl) (by kernel_rfl) S_NewSched_args S_NewSched_argD
    (fun l a h => by unfold S_NewSched_argD at h; split at h <;> first | (cases h; rfl) | cases h) (fun a => rfl) (lpgood_none (by kernel_rfl))
    (fun o r h => by unfold S_NewSched_dec at h; split at h <;> first | (cases h; rfl) | cases h) (S_NewSched_ev k)
def o_S_NewSched (k : Nat) : Orc := pureOrc [.one (.int .i64), .one (.int .i64)] (S_NewSched_G k)
theorem o_S_NewSched_ok (k : Nat) : OrcOk Try.prog 122 (o_S_NewSched k) := pureOrc_ok (S_NewSched_ok k)
/-! ### 103 loop.example/g00778/spec.l01Copy -/
noncomputable def E_S_l01Copy (k : Nat) : Env := { P := Try.prog, tt := tt, orc := fun g => noOrc }
theorem E_S_l01Copy_ok (k : Nat) : EnvOk (E_S_l01Copy k) := fun g => (noOrc_ok _ _)
noncomputable def c_S_l01Copy : Code := (Try.f103.body).getD .skip
noncomputable def b_S_l01Copy_0 : Code := ((loopsIn 0 c_S_l01Copy).getD 0 (0, .skip)).2
def S_l01Copy_g0_keep : List Nat := [0, 3, 4]
def S_l01Copy_g0_co : List (Where × Co) := []
def S_l01Copy_g0_kx : Ex → List Nat
  | .exit j => cond (Nat.beq j 0) [3] []
  | .ret => []
  | .normal => []
def S_l01Copy_g0_cx : Ex → List (Where × Co)
  | .exit j => cond (Nat.beq j 0) [] []
  | .ret => []
  | .normal => []
def S_l01Copy_g0_tm (pv : (List Int) × (Int × List Int)) : St := { slots := [(0, .r [] (.sl (.int .i64) pv.1)), (3, .own 0), (4, .r [] (.int .i64 pv.2.1))], heap := [(0, .arr none (.int .i64) pv.2.2)], nid := 1, n := 20, gh := [] }
def S_l01Copy_g0_dec (nf : NF) : Option ((List Int) × (Int × List Int)) := match nf with
  | ([.r [] (.sl (.int .i64) w0), .own 0, .r [] (.int .i64 w1)], [.arr none (.int .i64) w2], []) => some (w0, (w1, w2))
  | _ => none
theorem S_l01Copy_g0_hd (nf : NF) (v : (List Int) × (Int × List Int)) (h : S_l01Copy_g0_dec nf = some v) : denorm S_l01Copy_g0_keep 20 nf = S_l01Copy_g0_tm v := by
  unfold S_l01Copy_g0_dec at h
  split at h
  · cases h; rfl
  · cases h
def S_l01Copy_g0_x0 (p : List Int) (x : List Int) : St := { slots := [(3, .own 0)], heap := [(0, .arr none (.int .i64) x)], nid := 1, n := 20, gh := [] }
def LP_S_l01Copy (ρ : Type) (k : Nat) : Nat → Ev ρ → Ev ρ := fun id f => cond (Nat.beq id 0) (loopOrc S_l01Copy_g0_keep S_l01Copy_g0_co (fun n nf => cond (Nat.beq n 20) (S_l01Copy_g0_dec nf) none) fun pv K => iter (fun v next => S_l01Copy_g0 k pv.1 v next (fun x => K (.exit 0) (S_l01Copy_g0_x0 pv.1 x))) k pv.2) ((fun _ _ _ _ => none) id f)
theorem S_l01Copy_g0_round {ρ : Type} (k : Nat) (p : List Int) (v : Int × List Int) (K K1 : Ex → St → Option ρ) : ev (E_S_l01Copy k) (LP_S_l01Copy ρ k) 0 b_S_l01Copy_0 (S_l01Copy_g0_tm (p, v)) (fun e st' => match e with
    | .normal => (normC S_l01Copy_g0_keep S_l01Copy_g0_co st').bind fun nf => K1 .normal (denorm S_l01Copy_g0_keep st'.n nf)
    | e => (normC (S_l01Copy_g0_kx e) (S_l01Copy_g0_cx e) st').bind fun nf => K e (denorm (S_l01Copy_g0_kx e) st'.n nf)) = S_l01Copy_g0 k p v (fun v' => K1 .normal (S_l01Copy_g0_tm (p, v'))) (fun x => K (.exit 0) (S_l01Copy_g0_x0 p x)) := by kernel_rfl
theorem S_l01Copy_g0_ok {ρ : Type} (k : Nat) : Sound Try.prog (.loop b_S_l01Copy_0) (LP_S_l01Copy ρ k 0 fun st K => ev (E_S_l01Copy k) (LP_S_l01Copy ρ k) 0 b_S_l01Copy_0 st K) :=
  loop_ok (ev_sound (E_S_l01Copy_ok k) b_S_l01Copy_0 0 (lpgood_none (by kernel_rfl))) S_l01Copy_g0_kx S_l01Copy_g0_cx k (g := fun p v next K => S_l01Copy_g0 k p v next (fun x => K (.exit 0) (S_l01Copy_g0_x0 p x))) (dec_at S_l01Copy_g0_hd) (fun p v K K1 => S_l01Copy_g0_round k p v K K1)
def S_l01Copy_args (a : List Int) : List Arg := [.one (.sl (.int .i64) a)]
def S_l01Copy_argD (l : List Arg) : Option (List Int) := match l with
  | [.one (.sl (.int .i64) b0)] => some b0
  | _ => none
def S_l01Copy_enc (r : List Int) : Out := (.own 0, [.arr none (.int .i64) r])
def S_l01Copy_dec (o : Out) : Option (List Int) := match o with
  | (.own 0, [.arr none (.int .i64) z1]) => some z1
  | _ => none
def S_l01Copy_G (k : Nat) : PG := fun _ l K => (S_l01Copy_argD l).bind fun a => (S_l01Copy k a).bind fun r => K (S_l01Copy_enc r)
theorem S_l01Copy_ev (k : Nat) (a : List Int) : ev (E_S_l01Copy k) (LP_S_l01Copy (List Int) k) 0 c_S_l01Copy (st0 Try.f103 (S_l01Copy_args a)) (fin Try.prog Try.f103 (.own (.int .i64)) S_l01Copy_dec) = S_l01Copy k a := by kernel_rfl
theorem S_l01Copy_ok (k : Nat) : PureOk Try.prog 103 (S_l01Copy_G k) :=
  pureOk_of_ev (E_S_l01Copy_ok k) Try.func103 (by kernel_rfl) (by kernel_rfl) S_l01Copy_args S_l01Copy_argD
    (fun l a h => by unfold S_l01Copy_argD at h; split at h <;> first | (cases h; rfl) | cases h) (fun a => rfl) (lpgood_of (l := [(0, b_S_l01Copy_0)]) (by kernel_rfl) ⟨S_l01Copy_g0_ok k, trivial⟩)
    (fun o r h => by unfold S_l01Copy_dec at h; split at h <;> first | (cases h; rfl) | cases h) (S_l01Copy_ev k)
def o_S_l01Copy (k : Nat) : Orc := pureOrc [.one (.sl (.int .i64))] (S_l01Copy_G k)
theorem o_S_l01Copy_ok (k : Nat) : OrcOk Try.prog 103 (o_S_l01Copy k) := pureOrc_ok (S_l01Copy_ok k)
/-! ### 102 loop.example/g00778/spec.l07Copy -/
noncomputable def E_S_l07Copy (k : Nat) : Env := { P := Try.prog, tt := tt, orc := fun g => cond (Nat.beq g 103) (o_S_l01Copy k) (noOrc) }
theorem E_S_l07Copy_ok (k : Nat) : EnvOk (E_S_l07Copy k) := fun g => (orc_cond (o_S_l01Copy_ok k) (noOrc_ok _ _))
noncomputable def c_S_l07Copy : Code := (Try.f102.body).getD .skip
noncomputable def b_S_l07Copy_0 : Code := ((loopsIn 0 c_S_l07Copy).getD 0 (0, .skip)).2
def S_l07Copy_g0_keep : List Nat := [1, 2, 3, 4]
def S_l07Copy_g0_co : List (Where × Co) := [((.pbox 3 3), (.nilOwn false (.st .task)))]
def S_l07Copy_g0_kx : Ex → List Nat
  | .exit j => cond (Nat.beq j 0) [2, 3] []
  | .ret => []
  | .normal => []
def S_l07Copy_g0_cx : Ex → List (Where × Co)
  | .exit j => cond (Nat.beq j 0) [] []
  | .ret => []
  | .normal => []
def S_l07Copy_g0_tm (pv : (Int × Int × Int × List Task × Int × Int × Int × Int × Int × Int × Int × Int × Int × Int × Int × Int × Int × Int × Int × Int × Int × Int) × (Int × List Task)) : St := { slots := [(1, .ptr 0 0 0), (2, .ptr 1 0 0), (3, .ptr 2 0 0), (4, .r [] (.int .i64 pv.2.1))], heap := [(0, .box [.r [] (.int .i64 pv.1.1), .r [] (.int .i64 pv.1.2.1), .r [] (.int .i64 pv.1.2.2.1), .r [] (.sl (.st .task) pv.1.2.2.2.1), .r [] (.int .i64 pv.1.2.2.2.2.1), .r [] (.int .i64 pv.1.2.2.2.2.2.1), .r [] (.int .i64 pv.1.2.2.2.2.2.2.1), .r [] (.int .i64 pv.1.2.2.2.2.2.2.2.1)]), (1, .box [.r [] (.int .i64 pv.1.2.2.2.2.2.2.2.2.1), .r [] (.int .i64 pv.1.2.2.2.2.2.2.2.2.2.1), .r [] (.int .i64 pv.1.2.2.2.2.2.2.2.2.2.2.1), .nilS, .r [] (.int .i64 pv.1.2.2.2.2.2.2.2.2.2.2.2.1), .r [] (.int .i64 pv.1.2.2.2.2.2.2.2.2.2.2.2.2.1), .r [] (.int .i64 pv.1.2.2.2.2.2.2.2.2.2.2.2.2.2.1), .r [] (.int .i64 pv.1.2.2.2.2.2.2.2.2.2.2.2.2.2.2.1)]), (2, .box [.r [] (.int .i64 pv.1.2.2.2.2.2.2.2.2.2.2.2.2.2.2.2.1), .r [] (.int .i64 pv.1.2.2.2.2.2.2.2.2.2.2.2.2.2.2.2.2.1), .r [] (.int .i64 pv.1.2.2.2.2.2.2.2.2.2.2.2.2.2.2.2.2.2.1), .own 3, .r [] (.int .i64 pv.1.2.2.2.2.2.2.2.2.2.2.2.2.2.2.2.2.2.2.1), .r [] (.int .i64 pv.1.2.2.2.2.2.2.2.2.2.2.2.2.2.2.2.2.2.2.2.1), .r [] (.int .i64 pv.1.2.2.2.2.2.2.2.2.2.2.2.2.2.2.2.2.2.2.2.2.1), .r [] (.int .i64 pv.1.2.2.2.2.2.2.2.2.2.2.2.2.2.2.2.2.2.2.2.2.2)]), (3, .arr none (.st .task) pv.2.2)], nid := 4, n := 31, gh := [] }
def S_l07Copy_g0_dec (nf : NF) : Option ((Int × Int × Int × List Task × Int × Int × Int × Int × Int × Int × Int × Int × Int × Int × Int × Int × Int × Int × Int × Int × Int × Int) × (Int × List Task)) := match nf with
  | ([.ptr 0 0 0, .ptr 1 0 0, .ptr 2 0 0, .r [] (.int .i64 w0)], [.box [.r [] (.int .i64 w1), .r [] (.int .i64 w2), .r [] (.int .i64 w3), .r [] (.sl (.st .task) w4), .r [] (.int .i64 w5), .r [] (.int .i64 w6), .r [] (.int .i64 w7), .r [] (.int .i64 w8)], .box [.r [] (.int .i64 w9), .r [] (.int .i64 w10), .r [] (.int .i64 w11), .nilS, .r [] (.int .i64 w12), .r [] (.int .i64 w13), .r [] (.int .i64 w14), .r [] (.int .i64 w15)], .box [.r [] (.int .i64 w16), .r [] (.int .i64 w17), .r [] (.int .i64 w18), .own 3, .r [] (.int .i64 w19), .r [] (.int .i64 w20), .r [] (.int .i64 w21), .r [] (.int .i64 w22)], .arr none (.st .task) w23], []) => some ((w1, w2, w3, w4, w5, w6, w7, w8, w9, w10, w11, w12, w13, w14, w15, w16, w17, w18, w19, w20, w21, w22), (w0, w23))
  | _ => none
theorem S_l07Copy_g0_hd (nf : NF) (v : (Int × Int × Int × List Task × Int × Int × Int × Int × Int × Int × Int × Int × Int × Int × Int × Int × Int × Int × Int × Int × Int × Int) × (Int × List Task)) (h : S_l07Copy_g0_dec nf = some v) : denorm S_l07Copy_g0_keep 31 nf = S_l07Copy_g0_tm v := by
  unfold S_l07Copy_g0_dec at h
  split at h
  · cases h; rfl
  · cases h
def S_l07Copy_g0_x0 (p : Int × Int × Int × List Task × Int × Int × Int × Int × Int × Int × Int × Int × Int × Int × Int × Int × Int × Int × Int × Int × Int × Int) (x : List Task) : St := { slots := [(2, .ptr 0 0 0), (3, .ptr 1 0 0)], heap := [(0, .box [.r [] (.int .i64 p.2.2.2.2.2.2.2.2.1), .r [] (.int .i64 p.2.2.2.2.2.2.2.2.2.1), .r [] (.int .i64 p.2.2.2.2.2.2.2.2.2.2.1), .nilS, .r [] (.int .i64 p.2.2.2.2.2.2.2.2.2.2.2.1), .r [] (.int .i64 p.2.2.2.2.2.2.2.2.2.2.2.2.1), .r [] (.int .i64 p.2.2.2.2.2.2.2.2.2.2.2.2.2.1), .r [] (.int .i64 p.2.2.2.2.2.2.2.2.2.2.2.2.2.2.1)]), (1, .box [.r [] (.int .i64 p.2.2.2.2.2.2.2.2.2.2.2.2.2.2.2.1), .r [] (.int .i64 p.2.2.2.2.2.2.2.2.2.2.2.2.2.2.2.2.1), .r [] (.int .i64 p.2.2.2.2.2.2.2.2.2.2.2.2.2.2.2.2.2.1), .own 2, .r [] (.int .i64 p.2.2.2.2.2.2.2.2.2.2.2.2.2.2.2.2.2.2.1), .r [] (.int .i64 p.2.2.2.2.2.2.2.2.2.2.2.2.2.2.2.2.2.2.2.1), .r [] (.int .i64 p.2.2.2.2.2.2.2.2.2.2.2.2.2.2.2.2.2.2.2.2.1), .r [] (.int .i64 p.2.2.2.2.2.2.2.2.2.2.2.2.2.2.2.2.2.2.2.2.2)]), (2, .arr none (.st .task) x)], nid := 3, n := 31, gh := [] }
def LP_S_l07Copy (ρ : Type) (k : Nat) : Nat → Ev ρ → Ev ρ := fun id f => cond (Nat.beq id 0) (loopOrc S_l07Copy_g0_keep S_l07Copy_g0_co (fun n nf => cond (Nat.beq n 31) (S_l07Copy_g0_dec nf) none) fun pv K => iter (fun v next => S_l07Copy_g0 k pv.1 v next (fun x => K (.exit 0) (S_l07Copy_g0_x0 pv.1 x))) k pv.2) ((fun _ _ _ _ => none) id f)
theorem S_l07Copy_g0_round {ρ : Type} (k : Nat) (p : Int × Int × Int × List Task × Int × Int × Int × Int × Int × Int × Int × Int × Int × Int × Int × Int × Int × Int × Int × Int × Int × Int) (v : Int × List Task) (K K1 : Ex → St → Option ρ) : ev (E_S_l07Copy k) (LP_S_l07Copy ρ k) 0 b_S_l07Copy_0 (S_l07Copy_g0_tm (p, v)) (fun e st' => match e with
    | .normal => (normC S_l07Copy_g0_keep S_l07Copy_g0_co st').bind fun nf => K1 .normal (denorm S_l07Copy_g0_keep st'.n nf)
    | e => (normC (S_l07Copy_g0_kx e) (S_l07Copy_g0_cx e) st').bind fun nf => K e (denorm (S_l07Copy_g0_kx e) st'.n nf)) = S_l07Copy_g0 k p v (fun v' => K1 .normal (S_l07Copy_g0_tm (p, v'))) (fun x => K (.exit 0) (S_l07Copy_g0_x0 p x)) := by kernel_rfl
theorem S_l07Copy_g0_ok {ρ : Type} (k : Nat) : Sound Try.prog (.loop b_S_l07Copy_0) (LP_S_l07Copy ρ k 0 fun st K => ev (E_S_l07Copy k) (LP_S_l07Copy ρ k) 0 b_S_l07Copy_0 st K) :=
  loop_ok (ev_sound (E_S_l07Copy_ok k) b_S_l07Copy_0 0 (lpgood_none (by kernel_rfl))) S_l07Copy_g0_kx S_l07Copy_g0_cx k (g := fun p v next K => S_l07Copy_g0 k p v next (fun x => K (.exit 0) (S_l07Copy_g0_x0 p x))) (dec_at S_l07Copy_g0_hd) (fun p v K K1 => S_l07Copy_g0_round k p v K K1)
def S_l07Copy_args (a : Sched) : List Arg := [.agg [.int .i64 a.now, .int .i64 a.slack, .int .i64 a.age, .sl (.st .task) a.tasks, .int .i64 a.run, .int .i64 a.left, .int .i64 a.turns, .int .i64 a.next]]
def S_l07Copy_argD (l : List Arg) : Option (Sched) := match l with
  | [.agg [.int .i64 b0_0, .int .i64 b0_1, .int .i64 b0_2, .sl (.st .task) b0_3, .int .i64 b0_4, .int .i64 b0_5, .int .i64 b0_6, .int .i64 b0_7]] => some (⟨b0_0, b0_1, b0_2, b0_3, b0_4, b0_5, b0_6, b0_7⟩ : Sched)
  | _ => none
def S_l07Copy_enc (r : Sched) : Out := (.agg [.r [] (.int .i64 r.now), .r [] (.int .i64 r.slack), .r [] (.int .i64 r.age), .own 0, .r [] (.int .i64 r.run), .r [] (.int .i64 r.left), .r [] (.int .i64 r.turns), .r [] (.int .i64 r.next)], [.arr none (.st .task) r.tasks])
def S_l07Copy_dec (o : Out) : Option (Sched) := match o with
  | (.agg [.r [] (.int .i64 z1), .r [] (.int .i64 z2), .r [] (.int .i64 z3), .own 0, .r [] (.int .i64 z5), .r [] (.int .i64 z6), .r [] (.int .i64 z7), .r [] (.int .i64 z8)], [.arr none (.st .task) z4]) => some (⟨z1, z2, z3, z4, z5, z6, z7, z8⟩ : Sched)
  | _ => none
def S_l07Copy_G (k : Nat) : PG := fun _ l K => (S_l07Copy_argD l).bind fun a => (S_l07Copy k a).bind fun r => K (S_l07Copy_enc r)
theorem S_l07Copy_ev (k : Nat) (a : Sched) : ev (E_S_l07Copy k) (LP_S_l07Copy (Sched) k) 0 c_S_l07Copy (st0 Try.f102 (S_l07Copy_args a)) (fin Try.prog Try.f102 (.agg [.sc, .sc, .sc, .own (.st .task), .sc, .sc, .sc, .sc]) S_l07Copy_dec) = S_l07Copy k a := by kernel_rfl
theorem S_l07Copy_ok (k : Nat) : PureOk Try.prog 102 (S_l07Copy_G k) :=
  pureOk_of_ev (E_S_l07Copy_ok k) Try.func102 (by kernel_rfl) (by kernel_rfl) S_l07Copy_args S_l07Copy_argD
    (fun l a h => by unfold S_l07Copy_argD at h; split at h <;> first | (cases h; rfl) | cases h) (fun a => rfl) (lpgood_of (l := [(0, b_S_l07Copy_0)]) (by kernel_rfl) ⟨S_l07Copy_g0_ok k, trivial⟩)
    (fun o r h => by unfold S_l07Copy_dec at h; split at h <;> first | (cases h; rfl) | cases h) (S_l07Copy_ev k)
def o_S_l07Copy (k : Nat) : Orc := pureOrc [.agg [(.int .i64), (.int .i64), (.int .i64), (.sl (.st .task)), (.int .i64), (.int .i64), (.int .i64), (.int .i64)]] (S_l07Copy_G k)
theorem o_S_l07Copy_ok (k : Nat) : OrcOk Try.prog 102 (o_S_l07Copy k) := pureOrc_ok (S_l07Copy_ok k)
/-! ### 159 loop.example/g00778/spec.LateOf -/
noncomputable def E_S_LateOf (k : Nat) : Env := { P := Try.prog, tt := tt, orc := fun g => cond (Nat.beq g 104) (o_S_SchedOk k) (noOrc) }
theorem E_S_LateOf_ok (k : Nat) : EnvOk (E_S_LateOf k) := fun g => (orc_cond (o_S_SchedOk_ok k) (noOrc_ok _ _))
noncomputable def c_S_LateOf : Code := (Try.f159.body).getD .skip
noncomputable def b_S_LateOf_0 : Code := ((loopsIn 0 c_S_LateOf).getD 0 (0, .skip)).2
def S_LateOf_g0_keep : List Nat := [1, 3, 4]
def S_LateOf_g0_co : List (Where × Co) := []
def S_LateOf_g0_kx : Ex → List Nat
  | .exit j => cond (Nat.beq j 0) [3] []
  | .ret => []
  | .normal => []
def S_LateOf_g0_cx : Ex → List (Where × Co)
  | .exit j => cond (Nat.beq j 0) [] []
  | .ret => []
  | .normal => []
def S_LateOf_g0_tm (pv : (Int × Int × Int × List Task × Int × Int × Int × Int) × (Int × List Int)) : St := { slots := [(1, .ptr 0 0 0), (3, .own 1), (4, .r [] (.int .i64 pv.2.1))], heap := [(0, .box [.r [] (.int .i64 pv.1.1), .r [] (.int .i64 pv.1.2.1), .r [] (.int .i64 pv.1.2.2.1), .r [] (.sl (.st .task) pv.1.2.2.2.1), .r [] (.int .i64 pv.1.2.2.2.2.1), .r [] (.int .i64 pv.1.2.2.2.2.2.1), .r [] (.int .i64 pv.1.2.2.2.2.2.2.1), .r [] (.int .i64 pv.1.2.2.2.2.2.2.2)]), (1, .arr none (.int .i64) pv.2.2)], nid := 2, n := 35, gh := [] }
def S_LateOf_g0_dec (nf : NF) : Option ((Int × Int × Int × List Task × Int × Int × Int × Int) × (Int × List Int)) := match nf with
  | ([.ptr 0 0 0, .own 1, .r [] (.int .i64 w0)], [.box [.r [] (.int .i64 w1), .r [] (.int .i64 w2), .r [] (.int .i64 w3), .r [] (.sl (.st .task) w4), .r [] (.int .i64 w5), .r [] (.int .i64 w6), .r [] (.int .i64 w7), .r [] (.int .i64 w8)], .arr none (.int .i64) w9], []) => some ((w1, w2, w3, w4, w5, w6, w7, w8), (w0, w9))
  | _ => none
theorem S_LateOf_g0_hd (nf : NF) (v : (Int × Int × Int × List Task × Int × Int × Int × Int) × (Int × List Int)) (h : S_LateOf_g0_dec nf = some v) : denorm S_LateOf_g0_keep 35 nf = S_LateOf_g0_tm v := by
  unfold S_LateOf_g0_dec at h
  split at h
  · cases h; rfl
  · cases h
def S_LateOf_g0_x0 (p : Int × Int × Int × List Task × Int × Int × Int × Int) (x : List Int) : St := { slots := [(3, .own 0)], heap := [(0, .arr none (.int .i64) x)], nid := 1, n := 35, gh := [] }
def LP_S_LateOf (ρ : Type) (k : Nat) : Nat → Ev ρ → Ev ρ := fun id f => cond (Nat.beq id 0) (loopOrc S_LateOf_g0_keep S_LateOf_g0_co (fun n nf => cond (Nat.beq n 35) (S_LateOf_g0_dec nf) none) fun pv K => iter (fun v next => S_LateOf_g0 k pv.1 v next (fun x => K (.exit 0) (S_LateOf_g0_x0 pv.1 x))) k pv.2) ((fun _ _ _ _ => none) id f)
theorem S_LateOf_g0_round {ρ : Type} (k : Nat) (p : Int × Int × Int × List Task × Int × Int × Int × Int) (v : Int × List Int) (K K1 : Ex → St → Option ρ) : ev (E_S_LateOf k) (LP_S_LateOf ρ k) 0 b_S_LateOf_0 (S_LateOf_g0_tm (p, v)) (fun e st' => match e with
    | .normal => (normC S_LateOf_g0_keep S_LateOf_g0_co st').bind fun nf => K1 .normal (denorm S_LateOf_g0_keep st'.n nf)
    | e => (normC (S_LateOf_g0_kx e) (S_LateOf_g0_cx e) st').bind fun nf => K e (denorm (S_LateOf_g0_kx e) st'.n nf)) = S_LateOf_g0 k p v (fun v' => K1 .normal (S_LateOf_g0_tm (p, v'))) (fun x => K (.exit 0) (S_LateOf_g0_x0 p x)) := by kernel_rfl
theorem S_LateOf_g0_ok {ρ : Type} (k : Nat) : Sound Try.prog (.loop b_S_LateOf_0) (LP_S_LateOf ρ k 0 fun st K => ev (E_S_LateOf k) (LP_S_LateOf ρ k) 0 b_S_LateOf_0 st K) :=
  loop_ok (ev_sound (E_S_LateOf_ok k) b_S_LateOf_0 0 (lpgood_none (by kernel_rfl))) S_LateOf_g0_kx S_LateOf_g0_cx k (g := fun p v next K => S_LateOf_g0 k p v next (fun x => K (.exit 0) (S_LateOf_g0_x0 p x))) (dec_at S_LateOf_g0_hd) (fun p v K K1 => S_LateOf_g0_round k p v K K1)
def S_LateOf_args (a : Sched) : List Arg := [.agg [.int .i64 a.now, .int .i64 a.slack, .int .i64 a.age, .sl (.st .task) a.tasks, .int .i64 a.run, .int .i64 a.left, .int .i64 a.turns, .int .i64 a.next]]
def S_LateOf_argD (l : List Arg) : Option (Sched) := match l with
  | [.agg [.int .i64 b0_0, .int .i64 b0_1, .int .i64 b0_2, .sl (.st .task) b0_3, .int .i64 b0_4, .int .i64 b0_5, .int .i64 b0_6, .int .i64 b0_7]] => some (⟨b0_0, b0_1, b0_2, b0_3, b0_4, b0_5, b0_6, b0_7⟩ : Sched)
  | _ => none
def S_LateOf_enc (r : List Int) : Out := (.own 0, [.arr none (.int .i64) r])
def S_LateOf_dec (o : Out) : Option (List Int) := match o with
  | (.own 0, [.arr none (.int .i64) z1]) => some z1
  | _ => none
def S_LateOf_G (k : Nat) : PG := fun _ l K => (S_LateOf_argD l).bind fun a => (S_LateOf k a).bind fun r => K (S_LateOf_enc r)
theorem S_LateOf_ev (k : Nat) (a : Sched) : ev (E_S_LateOf k) (LP_S_LateOf (List Int) k) 0 c_S_LateOf (st0 Try.f159 (S_LateOf_args a)) (fin Try.prog Try.f159 (.own (.int .i64)) S_LateOf_dec) = S_LateOf k a := by kernel_rfl
theorem S_LateOf_ok (k : Nat) : PureOk Try.prog 159 (S_LateOf_G k) :=
  pureOk_of_ev (E_S_LateOf_ok k) Try.func159 (by kernel_rfl) (by kernel_rfl) S_LateOf_args S_LateOf_argD
    (fun l a h => by unfold S_LateOf_argD at h; split at h <;> first | (cases h; rfl) | cases h) (fun a => rfl) (lpgood_of (l := [(0, b_S_LateOf_0)]) (by kernel_rfl) ⟨S_LateOf_g0_ok k, trivial⟩)
    (fun o r h => by unfold S_LateOf_dec at h; split at h <;> first | (cases h; rfl) | cases h) (S_LateOf_ev k)
def o_S_LateOf (k : Nat) : Orc := pureOrc [.agg [(.int .i64), (.int .i64), (.int .i64), (.sl (.st .task)), (.int .i64), (.int .i64), (.int .i64), (.int .i64)]] (S_LateOf_G k)
theorem o_S_LateOf_ok (k : Nat) : OrcOk Try.prog 159 (o_S_LateOf k) := pureOrc_ok (S_LateOf_ok k)
/-! ### 189 loop.example/g00778/spec.RemainOf -/
noncomputable def E_S_RemainOf (k : Nat) : Env := { P := Try.prog, tt := tt, orc := fun g => cond (Nat.beq g 104) (o_S_SchedOk k) (cond (Nat.beq g 115) (o_S_l07At k) (noOrc)) }
theorem E_S_RemainOf_ok (k : Nat) : EnvOk (E_S_RemainOf k) := fun g => (orc_cond (o_S_SchedOk_ok k) (orc_cond (o_S_l07At_ok k) (noOrc_ok _ _)))
noncomputable def c_S_RemainOf : Code := (Try.f189.body).getD .skip
noncomputable def b_S_RemainOf_0 : Code := ((loopsIn 0 c_S_RemainOf).getD 0 (0, .skip)).2
def S_RemainOf_g0_keep : List Nat := [1, 2, 6, 7, 8]
def S_RemainOf_g0_co : List (Where × Co) := []
def S_RemainOf_g0_kx : Ex → List Nat
  | .exit j => cond (Nat.beq j 0) [1, 2, 6, 7] []
  | .ret => []
  | .normal => []
def S_RemainOf_g0_cx : Ex → List (Where × Co)
  | .exit j => cond (Nat.beq j 0) [] []
  | .ret => []
  | .normal => []
def S_RemainOf_g0_tm (pv : (Int × Int × Int × Int × List Task × Int × Int × Int × Int × Int × List Int × Int × Int × Int) × (Int × Int)) : St := { slots := [(1, .r [] (.int .i64 pv.1.1)), (2, .ptr 0 0 0), (6, .ptr 1 0 0), (7, .r [] (.int .i64 pv.2.1)), (8, .r [] (.int .i64 pv.2.2))], heap := [(0, .box [.r [] (.int .i64 pv.1.2.1), .r [] (.int .i64 pv.1.2.2.1), .r [] (.int .i64 pv.1.2.2.2.1), .r [] (.sl (.st .task) pv.1.2.2.2.2.1), .r [] (.int .i64 pv.1.2.2.2.2.2.1), .r [] (.int .i64 pv.1.2.2.2.2.2.2.1), .r [] (.int .i64 pv.1.2.2.2.2.2.2.2.1), .r [] (.int .i64 pv.1.2.2.2.2.2.2.2.2.1)]), (1, .box [.r [] (.int .i64 pv.1.2.2.2.2.2.2.2.2.2.1), .r [] (.sl (.int .i64) pv.1.2.2.2.2.2.2.2.2.2.2.1), .r [] (.int .i64 pv.1.2.2.2.2.2.2.2.2.2.2.2.1), .r [] (.int .i64 pv.1.2.2.2.2.2.2.2.2.2.2.2.2.1), .r [] (.int .i64 pv.1.2.2.2.2.2.2.2.2.2.2.2.2.2)])], nid := 2, n := 56, gh := [] }
def S_RemainOf_g0_dec (nf : NF) : Option ((Int × Int × Int × Int × List Task × Int × Int × Int × Int × Int × List Int × Int × Int × Int) × (Int × Int)) := match nf with
  | ([.r [] (.int .i64 w0), .ptr 0 0 0, .ptr 1 0 0, .r [] (.int .i64 w1), .r [] (.int .i64 w2)], [.box [.r [] (.int .i64 w3), .r [] (.int .i64 w4), .r [] (.int .i64 w5), .r [] (.sl (.st .task) w6), .r [] (.int .i64 w7), .r [] (.int .i64 w8), .r [] (.int .i64 w9), .r [] (.int .i64 w10)], .box [.r [] (.int .i64 w11), .r [] (.sl (.int .i64) w12), .r [] (.int .i64 w13), .r [] (.int .i64 w14), .r [] (.int .i64 w15)]], []) => some ((w0, w3, w4, w5, w6, w7, w8, w9, w10, w11, w12, w13, w14, w15), (w1, w2))
  | _ => none
theorem S_RemainOf_g0_hd (nf : NF) (v : (Int × Int × Int × Int × List Task × Int × Int × Int × Int × Int × List Int × Int × Int × Int) × (Int × Int)) (h : S_RemainOf_g0_dec nf = some v) : denorm S_RemainOf_g0_keep 56 nf = S_RemainOf_g0_tm v := by
  unfold S_RemainOf_g0_dec at h
  split at h
  · cases h; rfl
  · cases h
def S_RemainOf_g0_x0 (p : Int × Int × Int × Int × List Task × Int × Int × Int × Int × Int × List Int × Int × Int × Int) (x : Int) : St := { slots := [(1, .r [] (.int .i64 p.1)), (2, .ptr 0 0 0), (6, .ptr 1 0 0), (7, .r [] (.int .i64 x))], heap := [(0, .box [.r [] (.int .i64 p.2.1), .r [] (.int .i64 p.2.2.1), .r [] (.int .i64 p.2.2.2.1), .r [] (.sl (.st .task) p.2.2.2.2.1), .r [] (.int .i64 p.2.2.2.2.2.1), .r [] (.int .i64 p.2.2.2.2.2.2.1), .r [] (.int .i64 p.2.2.2.2.2.2.2.1), .r [] (.int .i64 p.2.2.2.2.2.2.2.2.1)]), (1, .box [.r [] (.int .i64 p.2.2.2.2.2.2.2.2.2.1), .r [] (.sl (.int .i64) p.2.2.2.2.2.2.2.2.2.2.1), .r [] (.int .i64 p.2.2.2.2.2.2.2.2.2.2.2.1), .r [] (.int .i64 p.2.2.2.2.2.2.2.2.2.2.2.2.1), .r [] (.int .i64 p.2.2.2.2.2.2.2.2.2.2.2.2.2)])], nid := 2, n := 56, gh := [] }
def LP_S_RemainOf (ρ : Type) (k : Nat) : Nat → Ev ρ → Ev ρ := fun id f => cond (Nat.beq id 0) (loopOrc S_RemainOf_g0_keep S_RemainOf_g0_co (fun n nf => cond (Nat.beq n 56) (S_RemainOf_g0_dec nf) none) fun pv K => iter (fun v next => S_RemainOf_g0 k pv.1 v next (fun x => K (.exit 0) (S_RemainOf_g0_x0 pv.1 x))) k pv.2) ((fun _ _ _ _ => none) id f)
theorem S_RemainOf_g0_round {ρ : Type} (k : Nat) (p : Int × Int × Int × Int × List Task × Int × Int × Int × Int × Int × List Int × Int × Int × Int) (v : Int × Int) (K K1 : Ex → St → Option ρ) : ev (E_S_RemainOf k) (LP_S_RemainOf ρ k) 0 b_S_RemainOf_0 (S_RemainOf_g0_tm (p, v)) (fun e st' => match e with
    | .normal => (normC S_RemainOf_g0_keep S_RemainOf_g0_co st').bind fun nf => K1 .normal (denorm S_RemainOf_g0_keep st'.n nf)
    | e => (normC (S_RemainOf_g0_kx e) (S_RemainOf_g0_cx e) st').bind fun nf => K e (denorm (S_RemainOf_g0_kx e) st'.n nf)) = S_RemainOf_g0 k p v (fun v' => K1 .normal (S_RemainOf_g0_tm (p, v'))) (fun x => K (.exit 0) (S_RemainOf_g0_x0 p x)) := by kernel_rfl
theorem S_RemainOf_g0_ok {ρ : Type} (k : Nat) : Sound Try.prog (.loop b_S_RemainOf_0) (LP_S_RemainOf ρ k 0 fun st K => ev (E_S_RemainOf k) (LP_S_RemainOf ρ k) 0 b_S_RemainOf_0 st K) :=
  loop_ok (ev_sound (E_S_RemainOf_ok k) b_S_RemainOf_0 0 (lpgood_none (by kernel_rfl))) S_RemainOf_g0_kx S_RemainOf_g0_cx k (g := fun p v next K => S_RemainOf_g0 k p v next (fun x => K (.exit 0) (S_RemainOf_g0_x0 p x))) (dec_at S_RemainOf_g0_hd) (fun p v K K1 => S_RemainOf_g0_round k p v K K1)
def S_RemainOf_args (a : Sched × Int) : List Arg := [.agg [.int .i64 a.1.now, .int .i64 a.1.slack, .int .i64 a.1.age, .sl (.st .task) a.1.tasks, .int .i64 a.1.run, .int .i64 a.1.left, .int .i64 a.1.turns, .int .i64 a.1.next], .one (.int .i64 a.2)]
def S_RemainOf_argD (l : List Arg) : Option (Sched × Int) := match l with
  | [.agg [.int .i64 b0_0, .int .i64 b0_1, .int .i64 b0_2, .sl (.st .task) b0_3, .int .i64 b0_4, .int .i64 b0_5, .int .i64 b0_6, .int .i64 b0_7], .one (.int .i64 b1)] => some ((⟨b0_0, b0_1, b0_2, b0_3, b0_4, b0_5, b0_6, b0_7⟩ : Sched), b1)
  | _ => none
def S_RemainOf_enc (r : Int) : Out := (.r [] (.int .i64 r), [])
def S_RemainOf_dec (o : Out) : Option (Int) := match o with
  | (.r [] (.int .i64 z1), []) => some z1
  | _ => none
def S_RemainOf_G (k : Nat) : PG := fun _ l K => (S_RemainOf_argD l).bind fun a => (S_RemainOf k a.1 a.2).bind fun r => K (S_RemainOf_enc r)
theorem S_RemainOf_ev (k : Nat) (a : Sched × Int) : ev (E_S_RemainOf k) (LP_S_RemainOf (Int) k) 0 c_S_RemainOf (st0 Try.f189 (S_RemainOf_args a)) (fin Try.prog Try.f189 (.sc) S_RemainOf_dec) = S_RemainOf k a.1 a.2 := by kernel_rfl
theorem S_RemainOf_ok (k : Nat) : PureOk Try.prog 189 (S_RemainOf_G k) :=
  pureOk_of_ev (E_S_RemainOf_ok k) Try.func189 (by kernel_rfl) (by kernel_rfl) S_RemainOf_args S_RemainOf_argD
    (fun l a h => by unfold S_RemainOf_argD at h; split at h <;> first | (cases h; rfl) | cases h) (fun a => rfl) (lpgood_of (l := [(0, b_S_RemainOf_0)]) (by kernel_rfl) ⟨S_RemainOf_g0_ok k, trivial⟩)
    (fun o r h => by unfold S_RemainOf_dec at h; split at h <;> first | (cases h; rfl) | cases h) (S_RemainOf_ev k)
def o_S_RemainOf (k : Nat) : Orc := pureOrc [.agg [(.int .i64), (.int .i64), (.int .i64), (.sl (.st .task)), (.int .i64), (.int .i64), (.int .i64), (.int .i64)], .one (.int .i64)] (S_RemainOf_G k)
theorem o_S_RemainOf_ok (k : Nat) : OrcOk Try.prog 189 (o_S_RemainOf k) := pureOrc_ok (S_RemainOf_ok k)
/-! ### 160 loop.example/g00778/spec.DemandAt -/
noncomputable def E_S_DemandAt (k : Nat) : Env := { P := Try.prog, tt := tt, orc := fun g => cond (Nat.beq g 104) (o_S_SchedOk k) (cond (Nat.beq g 189) (o_S_RemainOf k) (noOrc)) }
theorem E_S_DemandAt_ok (k : Nat) : EnvOk (E_S_DemandAt k) := fun g => (orc_cond (o_S_SchedOk_ok k) (orc_cond (o_S_RemainOf_ok k) (noOrc_ok _ _)))
noncomputable def c_S_DemandAt : Code := (Try.f160.body).getD .skip
noncomputable def b_S_DemandAt_0 : Code := ((loopsIn 0 c_S_DemandAt).getD 0 (0, .skip)).2
def S_DemandAt_g0_keep : List Nat := [1, 2, 5, 6]
def S_DemandAt_g0_co : List (Where × Co) := []
def S_DemandAt_g0_kx : Ex → List Nat
  | .exit j => cond (Nat.beq j 0) [5] []
  | .ret => []
  | .normal => []
def S_DemandAt_g0_cx : Ex → List (Where × Co)
  | .exit j => cond (Nat.beq j 0) [] []
  | .ret => []
  | .normal => []
def S_DemandAt_g0_tm (pv : (Int × Int × Int × Int × List Task × Int × Int × Int × Int) × (Int × Int)) : St := { slots := [(1, .r [] (.int .i64 pv.1.1)), (2, .ptr 0 0 0), (5, .r [] (.int .i64 pv.2.1)), (6, .r [] (.int .i64 pv.2.2))], heap := [(0, .box [.r [] (.int .i64 pv.1.2.1), .r [] (.int .i64 pv.1.2.2.1), .r [] (.int .i64 pv.1.2.2.2.1), .r [] (.sl (.st .task) pv.1.2.2.2.2.1), .r [] (.int .i64 pv.1.2.2.2.2.2.1), .r [] (.int .i64 pv.1.2.2.2.2.2.2.1), .r [] (.int .i64 pv.1.2.2.2.2.2.2.2.1), .r [] (.int .i64 pv.1.2.2.2.2.2.2.2.2)])], nid := 1, n := 36, gh := [] }
def S_DemandAt_g0_dec (nf : NF) : Option ((Int × Int × Int × Int × List Task × Int × Int × Int × Int) × (Int × Int)) := match nf with
  | ([.r [] (.int .i64 w0), .ptr 0 0 0, .r [] (.int .i64 w1), .r [] (.int .i64 w2)], [.box [.r [] (.int .i64 w3), .r [] (.int .i64 w4), .r [] (.int .i64 w5), .r [] (.sl (.st .task) w6), .r [] (.int .i64 w7), .r [] (.int .i64 w8), .r [] (.int .i64 w9), .r [] (.int .i64 w10)]], []) => some ((w0, w3, w4, w5, w6, w7, w8, w9, w10), (w1, w2))
  | _ => none
theorem S_DemandAt_g0_hd (nf : NF) (v : (Int × Int × Int × Int × List Task × Int × Int × Int × Int) × (Int × Int)) (h : S_DemandAt_g0_dec nf = some v) : denorm S_DemandAt_g0_keep 36 nf = S_DemandAt_g0_tm v := by
  unfold S_DemandAt_g0_dec at h
  split at h
  · cases h; rfl
  · cases h
def S_DemandAt_g0_x0 (p : Int × Int × Int × Int × List Task × Int × Int × Int × Int) (x : Int) : St := { slots := [(5, .r [] (.int .i64 x))], heap := [], nid := 0, n := 36, gh := [] }
def LP_S_DemandAt (ρ : Type) (k : Nat) : Nat → Ev ρ → Ev ρ := fun id f => cond (Nat.beq id 0) (loopOrc S_DemandAt_g0_keep S_DemandAt_g0_co (fun n nf => cond (Nat.beq n 36) (S_DemandAt_g0_dec nf) none) fun pv K => iter (fun v next => S_DemandAt_g0 k pv.1 v next (fun x => K (.exit 0) (S_DemandAt_g0_x0 pv.1 x))) k pv.2) ((fun _ _ _ _ => none) id f)
theorem S_DemandAt_g0_round {ρ : Type} (k : Nat) (p : Int × Int × Int × Int × List Task × Int × Int × Int × Int) (v : Int × Int) (K K1 : Ex → St → Option ρ) : ev (E_S_DemandAt k) (LP_S_DemandAt ρ k) 0 b_S_DemandAt_0 (S_DemandAt_g0_tm (p, v)) (fun e st' => match e with
    | .normal => (normC S_DemandAt_g0_keep S_DemandAt_g0_co st').bind fun nf => K1 .normal (denorm S_DemandAt_g0_keep st'.n nf)
    | e => (normC (S_DemandAt_g0_kx e) (S_DemandAt_g0_cx e) st').bind fun nf => K e (denorm (S_DemandAt_g0_kx e) st'.n nf)) = S_DemandAt_g0 k p v (fun v' => K1 .normal (S_DemandAt_g0_tm (p, v'))) (fun x => K (.exit 0) (S_DemandAt_g0_x0 p x)) := by kernel_rfl
theorem S_DemandAt_g0_ok {ρ : Type} (k : Nat) : Sound Try.prog (.loop b_S_DemandAt_0) (LP_S_DemandAt ρ k 0 fun st K => ev (E_S_DemandAt k) (LP_S_DemandAt ρ k) 0 b_S_DemandAt_0 st K) :=
  loop_ok (ev_sound (E_S_DemandAt_ok k) b_S_DemandAt_0 0 (lpgood_none (by kernel_rfl))) S_DemandAt_g0_kx S_DemandAt_g0_cx k (g := fun p v next K => S_DemandAt_g0 k p v next (fun x => K (.exit 0) (S_DemandAt_g0_x0 p x))) (dec_at S_DemandAt_g0_hd) (fun p v K K1 => S_DemandAt_g0_round k p v K K1)
def S_DemandAt_args (a : Sched × Int) : List Arg := [.agg [.int .i64 a.1.now, .int .i64 a.1.slack, .int .i64 a.1.age, .sl (.st .task) a.1.tasks, .int .i64 a.1.run, .int .i64 a.1.left, .int .i64 a.1.turns, .int .i64 a.1.next], .one (.int .i64 a.2)]
def S_DemandAt_argD (l : List Arg) : Option (Sched × Int) := match l with
  | [.agg [.int .i64 b0_0, .int .i64 b0_1, .int .i64 b0_2, .sl (.st .task) b0_3, .int .i64 b0_4, .int .i64 b0_5, .int .i64 b0_6, .int .i64 b0_7], .one (.int .i64 b1)] => some ((⟨b0_0, b0_1, b0_2, b0_3, b0_4, b0_5, b0_6, b0_7⟩ : Sched), b1)
  | _ => none
def S_DemandAt_enc (r : Int) : Out := (.r [] (.int .i64 r), [])
def S_DemandAt_dec (o : Out) : Option (Int) := match o with
  | (.r [] (.int .i64 z1), []) => some z1
  | _ => none
def S_DemandAt_G (k : Nat) : PG := fun _ l K => (S_DemandAt_argD l).bind fun a => (S_DemandAt k a.1 a.2).bind fun r => K (S_DemandAt_enc r)
theorem S_DemandAt_ev (k : Nat) (a : Sched × Int) : ev (E_S_DemandAt k) (LP_S_DemandAt (Int) k) 0 c_S_DemandAt (st0 Try.f160 (S_DemandAt_args a)) (fin Try.prog Try.f160 (.sc) S_DemandAt_dec) = S_DemandAt k a.1 a.2 := by kernel_rfl
theorem S_DemandAt_ok (k : Nat) : PureOk Try.prog 160 (S_DemandAt_G k) :=
  pureOk_of_ev (E_S_DemandAt_ok k) Try.func160 (by kernel_rfl) (by kernel_rfl) S_DemandAt_args S_DemandAt_argD
    (fun l a h => by unfold S_DemandAt_argD at h; split at h <;> first | (cases h; rfl) | cases h) (fun a => rfl) (lpgood_of (l := [(0, b_S_DemandAt_0)]) (by kernel_rfl) ⟨S_DemandAt_g0_ok k, trivial⟩)
    (fun o r h => by unfold S_DemandAt_dec at h; split at h <;> first | (cases h; rfl) | cases h) (S_DemandAt_ev k)
def o_S_DemandAt (k : Nat) : Orc := pureOrc [.agg [(.int .i64), (.int .i64), (.int .i64), (.sl (.st .task)), (.int .i64), (.int .i64), (.int .i64), (.int .i64)], .one (.int .i64)] (S_DemandAt_G k)
theorem o_S_DemandAt_ok (k : Nat) : OrcOk Try.prog 160 (o_S_DemandAt k) := pureOrc_ok (S_DemandAt_ok k)
/-! ### 161 loop.example/g00778/spec.BlockAt -/
noncomputable def E_S_BlockAt (k : Nat) : Env := { P := Try.prog, tt := tt, orc := fun g => cond (Nat.beq g 104) (o_S_SchedOk k) (cond (Nat.beq g 115) (o_S_l07At k) (noOrc)) }
theorem E_S_BlockAt_ok (k : Nat) : EnvOk (E_S_BlockAt k) := fun g => (orc_cond (o_S_SchedOk_ok k) (orc_cond (o_S_l07At_ok k) (noOrc_ok _ _)))
noncomputable def c_S_BlockAt : Code := (Try.f161.body).getD .skip
def LP_S_BlockAt (ρ : Type) (k : Nat) : Nat → Ev ρ → Ev ρ := fun _ _ _ _ => none
def S_BlockAt_args (a : Sched × Int) : List Arg := [.agg [.int .i64 a.1.now, .int .i64 a.1.slack, .int .i64 a.1.age, .sl (.st .task) a.1.tasks, .int .i64 a.1.run, .int .i64 a.1.left, .int .i64 a.1.turns, .int .i64 a.1.next], .one (.int .i64 a.2)]
def S_BlockAt_argD (l : List Arg) : Option (Sched × Int) := match l with
  | [.agg [.int .i64 b0_0, .int .i64 b0_1, .int .i64 b0_2, .sl (.st .task) b0_3, .int .i64 b0_4, .int .i64 b0_5, .int .i64 b0_6, .int .i64 b0_7], .one (.int .i64 b1)] => some ((⟨b0_0, b0_1, b0_2, b0_3, b0_4, b0_5, b0_6, b0_7⟩ : Sched), b1)
  | _ => none
def S_BlockAt_enc (r : Int) : Out := (.r [] (.int .i64 r), [])
def S_BlockAt_dec (o : Out) : Option (Int) := match o with
  | (.r [] (.int .i64 z1), []) => some z1
  | _ => none
def S_BlockAt_G (k : Nat) : PG := fun _ l K => (S_BlockAt_argD l).bind fun a => (S_BlockAt k a.1 a.2).bind fun r => K (S_BlockAt_enc r)
theorem S_BlockAt_ev (k : Nat) (a : Sched × Int) : ev (E_S_BlockAt k) (LP_S_BlockAt (Int) k) 0 c_S_BlockAt (st0 Try.f161 (S_BlockAt_args a)) (fin Try.prog Try.f161 (.sc) S_BlockAt_dec) = S_BlockAt k a.1 a.2 := by kernel_rfl
theorem S_BlockAt_ok (k : Nat) : PureOk Try.prog 161 (S_BlockAt_G k) :=
  pureOk_of_ev (E_S_BlockAt_ok k) Try.func161 (by kernel_rfl) (by kernel_rfl) S_BlockAt_args S_BlockAt_argD
    (fun l a h => by unfold S_BlockAt_argD at h; split at h <;> first | (cases h; rfl) | cases h) (fun a => rfl) (lpgood_none (by kernel_rfl))
    (fun o r h => by unfold S_BlockAt_dec at h; split at h <;> first | (cases h; rfl) | cases h) (S_BlockAt_ev k)
def o_S_BlockAt (k : Nat) : Orc := pureOrc [.agg [(.int .i64), (.int .i64), (.int .i64), (.sl (.st .task)), (.int .i64), (.int .i64), (.int .i64), (.int .i64)], .one (.int .i64)] (S_BlockAt_G k)
theorem o_S_BlockAt_ok (k : Nat) : OrcOk Try.prog 161 (o_S_BlockAt k) := pureOrc_ok (S_BlockAt_ok k)
/-! ### 106 loop.example/g00778/spec.FitsIn -/
noncomputable def E_S_FitsIn (k : Nat) : Env := { P := Try.prog, tt := tt, orc := fun g => cond (Nat.beq g 104) (o_S_SchedOk k) (cond (Nat.beq g 159) (o_S_LateOf k) (cond (Nat.beq g 160) (o_S_DemandAt k) (cond (Nat.beq g 161) (o_S_BlockAt k) (noOrc)))) }
theorem E_S_FitsIn_ok (k : Nat) : EnvOk (E_S_FitsIn k) := fun g => (orc_cond (o_S_SchedOk_ok k) (orc_cond (o_S_LateOf_ok k) (orc_cond (o_S_DemandAt_ok k) (orc_cond (o_S_BlockAt_ok k) (noOrc_ok _ _)))))
noncomputable def c_S_FitsIn : Code := (Try.f106.body).getD .skip
noncomputable def b_S_FitsIn_0 : Code := ((loopsIn 0 c_S_FitsIn).getD 0 (0, .skip)).2
def S_FitsIn_g0_keep : List Nat := [1, 3]
def S_FitsIn_g0_co : List (Where × Co) := []
def S_FitsIn_g0_kx : Ex → List Nat
  | .exit j => cond (Nat.beq j 0) [] []
  | .ret => [2]
  | .normal => []
def S_FitsIn_g0_cx : Ex → List (Where × Co)
  | .exit j => cond (Nat.beq j 0) [] []
  | .ret => []
  | .normal => []
def S_FitsIn_g0_tm (pv : (Int × Int × Int × List Task × Int × Int × Int × Int) × (Int)) : St := { slots := [(1, .ptr 0 0 0), (3, .r [] (.int .i64 pv.2))], heap := [(0, .box [.r [] (.int .i64 pv.1.1), .r [] (.int .i64 pv.1.2.1), .r [] (.int .i64 pv.1.2.2.1), .r [] (.sl (.st .task) pv.1.2.2.2.1), .r [] (.int .i64 pv.1.2.2.2.2.1), .r [] (.int .i64 pv.1.2.2.2.2.2.1), .r [] (.int .i64 pv.1.2.2.2.2.2.2.1), .r [] (.int .i64 pv.1.2.2.2.2.2.2.2)])], nid := 1, n := 42, gh := [] }
def S_FitsIn_g0_dec (nf : NF) : Option ((Int × Int × Int × List Task × Int × Int × Int × Int) × (Int)) := match nf with
  | ([.ptr 0 0 0, .r [] (.int .i64 w0)], [.box [.r [] (.int .i64 w1), .r [] (.int .i64 w2), .r [] (.int .i64 w3), .r [] (.sl (.st .task) w4), .r [] (.int .i64 w5), .r [] (.int .i64 w6), .r [] (.int .i64 w7), .r [] (.int .i64 w8)]], []) => some ((w1, w2, w3, w4, w5, w6, w7, w8), w0)
  | _ => none
theorem S_FitsIn_g0_hd (nf : NF) (v : (Int × Int × Int × List Task × Int × Int × Int × Int) × (Int)) (h : S_FitsIn_g0_dec nf = some v) : denorm S_FitsIn_g0_keep 42 nf = S_FitsIn_g0_tm v := by
  unfold S_FitsIn_g0_dec at h
  split at h
  · cases h; rfl
  · cases h
def S_FitsIn_g0_x0 (p : Int × Int × Int × List Task × Int × Int × Int × Int) (x : Unit) : St := { slots := [], heap := [], nid := 0, n := 42, gh := [] }
def S_FitsIn_g0_xret (p : Int × Int × Int × List Task × Int × Int × Int × Int) (x : Bool) : St := { slots := [(2, .r [] (.bool x))], heap := [], nid := 0, n := 42, gh := [] }
def LP_S_FitsIn (ρ : Type) (k : Nat) : Nat → Ev ρ → Ev ρ := fun id f => cond (Nat.beq id 0) (loopOrc S_FitsIn_g0_keep S_FitsIn_g0_co (fun n nf => cond (Nat.beq n 42) (S_FitsIn_g0_dec nf) none) fun pv K => iter (fun v next => S_FitsIn_g0 k pv.1 v next (fun x => K (.exit 0) (S_FitsIn_g0_x0 pv.1 x)) (fun x => K .ret (S_FitsIn_g0_xret pv.1 x))) k pv.2) ((fun _ _ _ _ => none) id f)
theorem S_FitsIn_g0_round {ρ : Type} (k : Nat) (p : Int × Int × Int × List Task × Int × Int × Int × Int) (v : Int) (K K1 : Ex → St → Option ρ) : ev (E_S_FitsIn k) (LP_S_FitsIn ρ k) 0 b_S_FitsIn_0 (S_FitsIn_g0_tm (p, v)) (fun e st' => match e with
    | .normal => (normC S_FitsIn_g0_keep S_FitsIn_g0_co st').bind fun nf => K1 .normal (denorm S_FitsIn_g0_keep st'.n nf)
    | e => (normC (S_FitsIn_g0_kx e) (S_FitsIn_g0_cx e) st').bind fun nf => K e (denorm (S_FitsIn_g0_kx e) st'.n nf)) = S_FitsIn_g0 k p v (fun v' => K1 .normal (S_FitsIn_g0_tm (p, v'))) (fun x => K (.exit 0) (S_FitsIn_g0_x0 p x)) (fun x => K .ret (S_FitsIn_g0_xret p x)) := by kernel_rfl
theorem S_FitsIn_g0_ok {ρ : Type} (k : Nat) : Sound Try.prog (.loop b_S_FitsIn_0) (LP_S_FitsIn ρ k 0 fun st K => ev (E_S_FitsIn k) (LP_S_FitsIn ρ k) 0 b_S_FitsIn_0 st K) :=
  loop_ok (ev_sound (E_S_FitsIn_ok k) b_S_FitsIn_0 0 (lpgood_none (by kernel_rfl))) S_FitsIn_g0_kx S_FitsIn_g0_cx k (g := fun p v next K => S_FitsIn_g0 k p v next (fun x => K (.exit 0) (S_FitsIn_g0_x0 p x)) (fun x => K .ret (S_FitsIn_g0_xret p x))) (dec_at S_FitsIn_g0_hd) (fun p v K K1 => S_FitsIn_g0_round k p v K K1)
def S_FitsIn_args (a : Sched) : List Arg := [.agg [.int .i64 a.now, .int .i64 a.slack, .int .i64 a.age, .sl (.st .task) a.tasks, .int .i64 a.run, .int .i64 a.left, .int .i64 a.turns, .int .i64 a.next]]
def S_FitsIn_argD (l : List Arg) : Option (Sched) := match l with
  | [.agg [.int .i64 b0_0, .int .i64 b0_1, .int .i64 b0_2, .sl (.st .task) b0_3, .int .i64 b0_4, .int .i64 b0_5, .int .i64 b0_6, .int .i64 b0_7]] => some (⟨b0_0, b0_1, b0_2, b0_3, b0_4, b0_5, b0_6, b0_7⟩ : Sched)
  | _ => none
def S_FitsIn_enc (r : Bool) : Out := (.r [] (.bool r), [])
def S_FitsIn_dec (o : Out) : Option (Bool) := match o with
  | (.r [] (.bool z1), []) => some z1
  | _ => none
def S_FitsIn_G (k : Nat) : PG := fun _ l K => (S_FitsIn_argD l).bind fun a => (S_FitsIn k a).bind fun r => K (S_FitsIn_enc r)
theorem S_FitsIn_ev (k : Nat) (a : Sched) : ev (E_S_FitsIn k) (LP_S_FitsIn (Bool) k) 0 c_S_FitsIn (st0 Try.f106 (S_FitsIn_args a)) (fin Try.prog Try.f106 (.sc) S_FitsIn_dec) = S_FitsIn k a := by kernel_rfl
theorem S_FitsIn_ok (k : Nat) : PureOk Try.prog 106 (S_FitsIn_G k) :=
  pureOk_of_ev (E_S_FitsIn_ok k) Try.func106 (by kernel_rfl) (by kernel_rfl) S_FitsIn_args S_FitsIn_argD
    (fun l a h => by unfold S_FitsIn_argD at h; split at h <;> first | (cases h; rfl) | cases h) (fun a => rfl) (lpgood_of (l := [(0, b_S_FitsIn_0)]) (by kernel_rfl) ⟨S_FitsIn_g0_ok k, trivial⟩)
    (fun o r h => by unfold S_FitsIn_dec at h; split at h <;> first | (cases h; rfl) | cases h) (S_FitsIn_ev k)
def o_S_FitsIn (k : Nat) : Orc := pureOrc [.agg [(.int .i64), (.int .i64), (.int .i64), (.sl (.st .task)), (.int .i64), (.int .i64), (.int .i64), (.int .i64)]] (S_FitsIn_G k)
theorem o_S_FitsIn_ok (k : Nat) : OrcOk Try.prog 106 (o_S_FitsIn k) := pureOrc_ok (S_FitsIn_ok k)
/-! ### 38 loop.example/g00778/spec.Admit -/
noncomputable def E_S_Admit (k : Nat) : Env := { P := Try.prog, tt := tt, orc := fun g => cond (Nat.beq g 102) (o_S_l07Copy k) (cond (Nat.beq g 103) (o_S_l01Copy k) (cond (Nat.beq g 104) (o_S_SchedOk k) (cond (Nat.beq g 105) (o_S_TaskOk k) (cond (Nat.beq g 106) (o_S_FitsIn k) (noOrc))))) }
theorem E_S_Admit_ok (k : Nat) : EnvOk (E_S_Admit k) := fun g => (orc_cond (o_S_l07Copy_ok k) (orc_cond (o_S_l01Copy_ok k) (orc_cond (o_S_SchedOk_ok k) (orc_cond (o_S_TaskOk_ok k) (orc_cond (o_S_FitsIn_ok k) (noOrc_ok _ _))))))
noncomputable def c_S_Admit : Code := (Try.f38.body).getD .skip
def LP_S_Admit (ρ : Type) (k : Nat) : Nat → Ev ρ → Ev ρ := fun _ _ _ _ => none
def S_Admit_args (a : Sched × List Int × Int) : List Arg := [.agg [.int .i64 a.1.now, .int .i64 a.1.slack, .int .i64 a.1.age, .sl (.st .task) a.1.tasks, .int .i64 a.1.run, .int .i64 a.1.left, .int .i64 a.1.turns, .int .i64 a.1.next], .one (.sl (.int .i64) a.2.1), .one (.int .i64 a.2.2)]
def S_Admit_argD (l : List Arg) : Option (Sched × List Int × Int) := match l with
  | [.agg [.int .i64 b0_0, .int .i64 b0_1, .int .i64 b0_2, .sl (.st .task) b0_3, .int .i64 b0_4, .int .i64 b0_5, .int .i64 b0_6, .int .i64 b0_7], .one (.sl (.int .i64) b1), .one (.int .i64 b2)] => some ((⟨b0_0, b0_1, b0_2, b0_3, b0_4, b0_5, b0_6, b0_7⟩ : Sched), b1, b2)
  | _ => none
def S_Admit_enc (r : Sched × Int × Int) : Out := (.tup [.agg [.r [] (.int .i64 r.1.now), .r [] (.int .i64 r.1.slack), .r [] (.int .i64 r.1.age), .own 0, .r [] (.int .i64 r.1.run), .r [] (.int .i64 r.1.left), .r [] (.int .i64 r.1.turns), .r [] (.int .i64 r.1.next)], .r [] (.int .i64 r.2.1), .r [] (.int .i64 r.2.2)], [.arr none (.st .task) r.1.tasks])
def S_Admit_dec (o : Out) : Option (Sched × Int × Int) := match o with
  | (.tup [.agg [.r [] (.int .i64 z1), .r [] (.int .i64 z2), .r [] (.int .i64 z3), .own 0, .r [] (.int .i64 z5), .r [] (.int .i64 z6), .r [] (.int .i64 z7), .r [] (.int .i64 z8)], .r [] (.int .i64 z9), .r [] (.int .i64 z10)], [.arr none (.st .task) z4]) => some ((⟨z1, z2, z3, z4, z5, z6, z7, z8⟩ : Sched), z9, z10)
  | _ => none
def S_Admit_G (k : Nat) : PG := fun _ l K => (S_Admit_argD l).bind fun a => (S_Admit k a.1 a.2.1 a.2.2).bind fun r => K (S_Admit_enc r)
theorem S_Admit_ev (k : Nat) (a : Sched × List Int × Int) : ev (E_S_Admit k) (LP_S_Admit (Sched × Int × Int) k) 0 c_S_Admit (st0 Try.f38 (S_Admit_args a)) (fin Try.prog Try.f38 (.tup [.agg [.sc, .sc, .sc, .own (.st .task), .sc, .sc, .sc, .sc], .sc, .sc]) S_Admit_dec) = S_Admit k a.1 a.2.1 a.2.2 := by kernel_rfl
theorem S_Admit_ok (k : Nat) : PureOk Try.prog 38 (S_Admit_G k) :=
  pureOk_of_ev (E_S_Admit_ok k) Try.func38 (by kernel_rfl) (by kernel_rfl) S_Admit_args S_Admit_argD
    (fun l a h => by unfold S_Admit_argD at h; split at h <;> first | (cases h; rfl) | cases h) (fun a => rfl) (lpgood_none (by kernel_rfl))
    (fun o r h => by unfold S_Admit_dec at h; split at h <;> first | (cases h; rfl) | cases h) (S_Admit_ev k)
def o_S_Admit (k : Nat) : Orc := pureOrc [.agg [(.int .i64), (.int .i64), (.int .i64), (.sl (.st .task)), (.int .i64), (.int .i64), (.int .i64), (.int .i64)], .one (.sl (.int .i64)), .one (.int .i64)] (S_Admit_G k)
theorem o_S_Admit_ok (k : Nat) : OrcOk Try.prog 38 (o_S_Admit k) := pureOrc_ok (S_Admit_ok k)
/-! ### 116 loop.example/g00778/spec.l07Off -/
noncomputable def E_S_l07Off_m3 (k : Nat) : Env := { P := Try.prog, tt := ttTask, orc := fun g => noOrc }
theorem E_S_l07Off_m3_ok (k : Nat) : EnvOk (E_S_l07Off_m3 k) := fun g => (noOrc_ok _ _)
noncomputable def c_S_l07Off_m3 : Code := (Try.f116.body).getD .skip
noncomputable def b_S_l07Off_m3_0 : Code := ((loopsIn 0 c_S_l07Off_m3).getD 0 (0, .skip)).2
def S_l07Off_m3_g0_keep : List Nat := [0, 1, 4, 5]
def S_l07Off_m3_g0_co : List (Where × Co) := []
def S_l07Off_m3_g0_kx : Ex → List Nat
  | .exit j => cond (Nat.beq j 0) [0, 4] []
  | .ret => []
  | .normal => []
def S_l07Off_m3_g0_cx : Ex → List (Where × Co)
  | .exit j => cond (Nat.beq j 0) [] []
  | .ret => []
  | .normal => []
def S_l07Off_m3_g0_tm (pv : (Int × Int × Int × Int × Int × Int × Int × Int × List TaskK) × (Int × List TaskK)) : St := { slots := [(0, .ptr 0 0 0), (1, .r [] (.int .i64 pv.1.1)), (4, .own 1), (5, .r [] (.int .i64 pv.2.1))], heap := [(0, .box [.r [] (.int .i64 pv.1.2.1), .r [] (.int .i64 pv.1.2.2.1), .r [] (.int .i64 pv.1.2.2.2.1), .own 2, .r [] (.int .i64 pv.1.2.2.2.2.1), .r [] (.int .i64 pv.1.2.2.2.2.2.1), .r [] (.int .i64 pv.1.2.2.2.2.2.2.1), .r [] (.int .i64 pv.1.2.2.2.2.2.2.2.1)]), (1, .arr none (.st .taskK) pv.2.2), (2, .arr none (.st .taskK) pv.1.2.2.2.2.2.2.2.2)], nid := 3, n := 40, gh := [some 0, some 2] }
def S_l07Off_m3_g0_dec (nf : NF) : Option ((Int × Int × Int × Int × Int × Int × Int × Int × List TaskK) × (Int × List TaskK)) := match nf with
  | ([.ptr 0 0 0, .r [] (.int .i64 w0), .own 1, .r [] (.int .i64 w1)], [.box [.r [] (.int .i64 w2), .r [] (.int .i64 w3), .r [] (.int .i64 w4), .own 2, .r [] (.int .i64 w5), .r [] (.int .i64 w6), .r [] (.int .i64 w7), .r [] (.int .i64 w8)], .arr none (.st .taskK) w9, .arr none (.st .taskK) w10], [some 0, some 2]) => some ((w0, w2, w3, w4, w5, w6, w7, w8, w10), (w1, w9))
  | _ => none
theorem S_l07Off_m3_g0_hd (nf : NF) (v : (Int × Int × Int × Int × Int × Int × Int × Int × List TaskK) × (Int × List TaskK)) (h : S_l07Off_m3_g0_dec nf = some v) : denorm S_l07Off_m3_g0_keep 40 nf = S_l07Off_m3_g0_tm v := by
  unfold S_l07Off_m3_g0_dec at h
  split at h
  · cases h; rfl
  · cases h
def S_l07Off_m3_g0_x0 (p : Int × Int × Int × Int × Int × Int × Int × Int × List TaskK) (x : List TaskK) : St := { slots := [(0, .ptr 0 0 0), (4, .own 1)], heap := [(0, .box [.r [] (.int .i64 p.2.1), .r [] (.int .i64 p.2.2.1), .r [] (.int .i64 p.2.2.2.1), .own 2, .r [] (.int .i64 p.2.2.2.2.1), .r [] (.int .i64 p.2.2.2.2.2.1), .r [] (.int .i64 p.2.2.2.2.2.2.1), .r [] (.int .i64 p.2.2.2.2.2.2.2.1)]), (1, .arr none (.st .taskK) x), (2, .arr none (.st .taskK) p.2.2.2.2.2.2.2.2)], nid := 3, n := 40, gh := [some 0, some 2] }
def LP_S_l07Off_m3 (ρ : Type) (k : Nat) : Nat → Ev ρ → Ev ρ := fun id f => cond (Nat.beq id 0) (loopOrc S_l07Off_m3_g0_keep S_l07Off_m3_g0_co (fun n nf => cond (Nat.beq n 40) (S_l07Off_m3_g0_dec nf) none) fun pv K => iter (fun v next => S_l07Off_m3_g0 k pv.1 v next (fun x => K (.exit 0) (S_l07Off_m3_g0_x0 pv.1 x))) k pv.2) ((fun _ _ _ _ => none) id f)
theorem S_l07Off_m3_g0_round {ρ : Type} (k : Nat) (p : Int × Int × Int × Int × Int × Int × Int × Int × List TaskK) (v : Int × List TaskK) (K K1 : Ex → St → Option ρ) : ev (E_S_l07Off_m3 k) (LP_S_l07Off_m3 ρ k) 0 b_S_l07Off_m3_0 (S_l07Off_m3_g0_tm (p, v)) (fun e st' => match e with
    | .normal => (normC S_l07Off_m3_g0_keep S_l07Off_m3_g0_co st').bind fun nf => K1 .normal (denorm S_l07Off_m3_g0_keep st'.n nf)
    | e => (normC (S_l07Off_m3_g0_kx e) (S_l07Off_m3_g0_cx e) st').bind fun nf => K e (denorm (S_l07Off_m3_g0_kx e) st'.n nf)) = S_l07Off_m3_g0 k p v (fun v' => K1 .normal (S_l07Off_m3_g0_tm (p, v'))) (fun x => K (.exit 0) (S_l07Off_m3_g0_x0 p x)) := by kernel_rfl
theorem S_l07Off_m3_g0_ok {ρ : Type} (k : Nat) : Sound Try.prog (.loop b_S_l07Off_m3_0) (LP_S_l07Off_m3 ρ k 0 fun st K => ev (E_S_l07Off_m3 k) (LP_S_l07Off_m3 ρ k) 0 b_S_l07Off_m3_0 st K) :=
  loop_ok (ev_sound (E_S_l07Off_m3_ok k) b_S_l07Off_m3_0 0 (lpgood_none (by kernel_rfl))) S_l07Off_m3_g0_kx S_l07Off_m3_g0_cx k (g := fun p v next K => S_l07Off_m3_g0 k p v next (fun x => K (.exit 0) (S_l07Off_m3_g0_x0 p x))) (dec_at S_l07Off_m3_g0_hd) (fun p v K K1 => S_l07Off_m3_g0_round k p v K K1)
def S_l07Off_m3_args (a : Int × Int × Int × List TaskK × Int × Int × Int × Int × Int) : List SV := [.ptr 0 0 0, .r [] (.int .i64 a.2.2.2.2.2.2.2.2)]
def S_l07Off_m3_blks (a : Int × Int × Int × List TaskK × Int × Int × Int × Int × Int) : List Blk := [.box [.r [] (.int .i64 a.1), .r [] (.int .i64 a.2.1), .r [] (.int .i64 a.2.2.1), .own 1, .r [] (.int .i64 a.2.2.2.2.1), .r [] (.int .i64 a.2.2.2.2.2.1), .r [] (.int .i64 a.2.2.2.2.2.2.1), .r [] (.int .i64 a.2.2.2.2.2.2.2.1)], .arr none (.st .taskK) a.2.2.2.1]
def S_l07Off_m3_argD (l : List SV) (b : List Blk) : Option (Int × Int × Int × List TaskK × Int × Int × Int × Int × Int) := match l, b with
  | [.ptr 0 0 0, .r [] (.int .i64 w0)], [.box [.r [] (.int .i64 w1), .r [] (.int .i64 w2), .r [] (.int .i64 w3), .own 1, .r [] (.int .i64 w4), .r [] (.int .i64 w5), .r [] (.int .i64 w6), .r [] (.int .i64 w7)], .arr none (.st .taskK) w8] => some (w1, w2, w3, w8, w4, w5, w6, w7, w0)
  | _, _ => none
def S_l07Off_m3_enc (a : Int × Int × Int × List TaskK × Int × Int × Int × Int × Int) (r : List TaskK) : MOut := ⟨.tup [], [some (.box [.r [] (.int .i64 a.1), .r [] (.int .i64 a.2.1), .r [] (.int .i64 a.2.2.1), .own 2, .r [] (.int .i64 a.2.2.2.2.1), .r [] (.int .i64 a.2.2.2.2.2.1), .r [] (.int .i64 a.2.2.2.2.2.2.1), .r [] (.int .i64 a.2.2.2.2.2.2.2.1)]), none], [.arr none (.st .taskK) r]⟩
def S_l07Off_m3_dec (a : Int × Int × Int × List TaskK × Int × Int × Int × Int × Int) (o : MOut) : Option (List TaskK) := match o with
  | ⟨.tup [], [some (.box [.r [] (.int .i64 z1), .r [] (.int .i64 z2), .r [] (.int .i64 z3), .own 2, .r [] (.int .i64 z4), .r [] (.int .i64 z5), .r [] (.int .i64 z6), .r [] (.int .i64 z7)]), none], [.arr none (.st .taskK) z8]⟩ => cond (@sameL Int _ z1 a.1) (cond (@sameL Int _ z2 a.2.1) (cond (@sameL Int _ z3 a.2.2.1) (cond (@sameL Int _ z4 a.2.2.2.2.1) (cond (@sameL Int _ z5 a.2.2.2.2.2.1) (cond (@sameL Int _ z6 a.2.2.2.2.2.2.1) (cond (@sameL Int _ z7 a.2.2.2.2.2.2.2.1) (some z8) none) none) none) none) none) none) none
  | _ => none
def S_l07Off_m3_G (k : Nat) : MG := fun _ l b K => (S_l07Off_m3_argD l b).bind fun a => (S_l07Off_m3 k a.1 a.2.1 a.2.2.1 a.2.2.2.1 a.2.2.2.2.1 a.2.2.2.2.2.1 a.2.2.2.2.2.2.1 a.2.2.2.2.2.2.2.1 a.2.2.2.2.2.2.2.2).bind fun r => K (S_l07Off_m3_enc a r)
theorem S_l07Off_m3_ev (k : Nat) (a : Int × Int × Int × List TaskK × Int × Int × Int × Int × Int) : ev (E_S_l07Off_m3 k) (LP_S_l07Off_m3 (List TaskK) k) 0 c_S_l07Off_m3 (st0M Try.f116 (S_l07Off_m3_args a) (S_l07Off_m3_blks a)) (finM Try.prog Try.f116 (.tup []) [.box [.sc, .sc, .sc, .own (.st .taskK), .sc, .sc, .sc, .sc], .gone] (S_l07Off_m3_dec a)) = S_l07Off_m3 k a.1 a.2.1 a.2.2.1 a.2.2.2.1 a.2.2.2.2.1 a.2.2.2.2.2.1 a.2.2.2.2.2.2.1 a.2.2.2.2.2.2.2.1 a.2.2.2.2.2.2.2.2 := by kernel_rfl
theorem S_l07Off_m3_ok (k : Nat) : MutOk Try.prog 116 (S_l07Off_m3_G k) :=
  mutOk_of_ev (E_S_l07Off_m3_ok k) Try.func116 (by kernel_rfl) (by kernel_rfl) S_l07Off_m3_args S_l07Off_m3_blks S_l07Off_m3_argD
    (fun l b a h => by unfold S_l07Off_m3_argD at h; split at h <;> first | (cases h; exact ⟨rfl, rfl⟩) | cases h) (fun a => rfl) (lpgood_of (l := [(0, b_S_l07Off_m3_0)]) (by kernel_rfl) ⟨S_l07Off_m3_g0_ok k, trivial⟩) (fun a r => rfl)
    (fun a o r h => by unfold S_l07Off_m3_dec at h; split at h <;> first | (obtain ⟨e0, e1, e2, e3, e4, e5, e6, hq⟩ := dec_chk7 h; clear h; subst e0; subst e1; subst e2; subst e3; subst e4; subst e5; subst e6; have h := hq; clear hq; cases h; rfl) | cases h) (S_l07Off_m3_ev k)
def o_S_l07Off_m3 (k : Nat) : Orc := mutOrc [.keep, .one (.int .i64)] (S_l07Off_m3_G k)
theorem o_S_l07Off_m3_ok (k : Nat) : OrcOk Try.prog 116 (o_S_l07Off_m3 k) := mutOrc_ok (S_l07Off_m3_ok k)
/-! ### 47 loop.example/g00778/spec.CancelTask -/
noncomputable def E_S_CancelTask (k : Nat) : Env := { P := Try.prog, tt := tt, orc := fun g => cond (Nat.beq g 102) (o_S_l07Copy k) (cond (Nat.beq g 104) (o_S_SchedOk k) (cond (Nat.beq g 115) (o_S_l07At k) (cond (Nat.beq g 116) (mutOrc [.keep, .one (.int .i64)] (numG .task .taskK 1 (S_l07Off_m3_G k))) (noOrc)))), wr := fun g => mem g [116], wt := true }
theorem E_S_CancelTask_ok (k : Nat) : EnvOk (E_S_CancelTask k) := fun g => (orc_cond (o_S_l07Copy_ok k) (orc_cond (o_S_SchedOk_ok k) (orc_cond (o_S_l07At_ok k) (orc_cond (mutOrc_ok (numOk (s := .task) (s' := .taskK) rfl rfl rfl 1 (fun _ _ _ _ => by simp only [S_l07Off_m3_G, Option.bind_assoc, Option.bind_some]) (fun T => @S_l07Off_m3_ok T k))) (noOrc_ok _ _)))))
noncomputable def c_S_CancelTask : Code := (Try.f47.body).getD .skip
def LP_S_CancelTask (ρ : Type) (k : Nat) : Nat → Ev ρ → Ev ρ := fun _ _ _ _ => none
def S_CancelTask_args (a : Sched × Int) : List Arg := [.agg [.int .i64 a.1.now, .int .i64 a.1.slack, .int .i64 a.1.age, .sl (.st .task) a.1.tasks, .int .i64 a.1.run, .int .i64 a.1.left, .int .i64 a.1.turns, .int .i64 a.1.next], .one (.int .i64 a.2)]
def S_CancelTask_argD (l : List Arg) : Option (Sched × Int) := match l with
  | [.agg [.int .i64 b0_0, .int .i64 b0_1, .int .i64 b0_2, .sl (.st .task) b0_3, .int .i64 b0_4, .int .i64 b0_5, .int .i64 b0_6, .int .i64 b0_7], .one (.int .i64 b1)] => some ((⟨b0_0, b0_1, b0_2, b0_3, b0_4, b0_5, b0_6, b0_7⟩ : Sched), b1)
  | _ => none
def S_CancelTask_enc (r : Sched × Bool) : Out := (.tup [.agg [.r [] (.int .i64 r.1.now), .r [] (.int .i64 r.1.slack), .r [] (.int .i64 r.1.age), .own 0, .r [] (.int .i64 r.1.run), .r [] (.int .i64 r.1.left), .r [] (.int .i64 r.1.turns), .r [] (.int .i64 r.1.next)], .r [] (.bool r.2)], [.arr none (.st .task) r.1.tasks])
def S_CancelTask_dec (o : Out) : Option (Sched × Bool) := match o with
  | (.tup [.agg [.r [] (.int .i64 z1), .r [] (.int .i64 z2), .r [] (.int .i64 z3), .own 0, .r [] (.int .i64 z5), .r [] (.int .i64 z6), .r [] (.int .i64 z7), .r [] (.int .i64 z8)], .r [] (.bool z9)], [.arr none (.st .task) z4]) => some ((⟨z1, z2, z3, z4, z5, z6, z7, z8⟩ : Sched), z9)
  | _ => none
def S_CancelTask_G (k : Nat) : PG := fun _ l K => (S_CancelTask_argD l).bind fun a => (S_CancelTask k a.1 a.2).bind fun r => K (S_CancelTask_enc r)
theorem S_CancelTask_ev (k : Nat) (a : Sched × Int) : ev (E_S_CancelTask k) (LP_S_CancelTask (Sched × Bool) k) 0 c_S_CancelTask (st0 Try.f47 (S_CancelTask_args a)) (fin Try.prog Try.f47 (.tup [.agg [.sc, .sc, .sc, .own (.st .task), .sc, .sc, .sc, .sc], .sc]) S_CancelTask_dec) = S_CancelTask k a.1 a.2 := by kernel_rfl
theorem S_CancelTask_ok (k : Nat) : PureOk Try.prog 47 (S_CancelTask_G k) :=
  pureOk_of_ev (E_S_CancelTask_ok k) Try.func47 (by kernel_rfl) (by kernel_rfl) S_CancelTask_args S_CancelTask_argD
    (fun l a h => by unfold S_CancelTask_argD at h; split at h <;> first | (cases h; rfl) | cases h) (fun a => rfl) (lpgood_none (by kernel_rfl))
    (fun o r h => by unfold S_CancelTask_dec at h; split at h <;> first | (cases h; rfl) | cases h) (S_CancelTask_ev k)
def o_S_CancelTask (k : Nat) : Orc := pureOrc [.agg [(.int .i64), (.int .i64), (.int .i64), (.sl (.st .task)), (.int .i64), (.int .i64), (.int .i64), (.int .i64)], .one (.int .i64)] (S_CancelTask_G k)
theorem o_S_CancelTask_ok (k : Nat) : OrcOk Try.prog 47 (o_S_CancelTask k) := pureOrc_ok (S_CancelTask_ok k)
/-! ### 119 loop.example/g00778/spec.PickNext -/
noncomputable def E_S_PickNext (k : Nat) : Env := { P := Try.prog, tt := tt, orc := fun g => cond (Nat.beq g 104) (o_S_SchedOk k) (noOrc) }
theorem E_S_PickNext_ok (k : Nat) : EnvOk (E_S_PickNext k) := fun g => (orc_cond (o_S_SchedOk_ok k) (noOrc_ok _ _))
noncomputable def c_S_PickNext : Code := (Try.f119.body).getD .skip
noncomputable def b_S_PickNext_0 : Code := ((loopsIn 0 c_S_PickNext).getD 0 (0, .skip)).2
def S_PickNext_g0_keep : List Nat := [1, 3, 4, 5]
def S_PickNext_g0_co : List (Where × Co) := []
def S_PickNext_g0_kx : Ex → List Nat
  | .exit j => cond (Nat.beq j 0) [1, 3, 4] []
  | .ret => []
  | .normal => []
def S_PickNext_g0_cx : Ex → List (Where × Co)
  | .exit j => cond (Nat.beq j 0) [] []
  | .ret => []
  | .normal => []
def S_PickNext_g0_tm (pv : (Int × Int × Int × List Task × Int × Int × Int × Int) × (Int × Int × Int)) : St := { slots := [(1, .ptr 0 0 0), (3, .r [] (.int .i64 pv.2.1)), (4, .r [] (.int .i64 pv.2.2.1)), (5, .r [] (.int .i64 pv.2.2.2))], heap := [(0, .box [.r [] (.int .i64 pv.1.1), .r [] (.int .i64 pv.1.2.1), .r [] (.int .i64 pv.1.2.2.1), .r [] (.sl (.st .task) pv.1.2.2.2.1), .r [] (.int .i64 pv.1.2.2.2.2.1), .r [] (.int .i64 pv.1.2.2.2.2.2.1), .r [] (.int .i64 pv.1.2.2.2.2.2.2.1), .r [] (.int .i64 pv.1.2.2.2.2.2.2.2)])], nid := 1, n := 88, gh := [] }
def S_PickNext_g0_dec (nf : NF) : Option ((Int × Int × Int × List Task × Int × Int × Int × Int) × (Int × Int × Int)) := match nf with
  | ([.ptr 0 0 0, .r [] (.int .i64 w0), .r [] (.int .i64 w1), .r [] (.int .i64 w2)], [.box [.r [] (.int .i64 w3), .r [] (.int .i64 w4), .r [] (.int .i64 w5), .r [] (.sl (.st .task) w6), .r [] (.int .i64 w7), .r [] (.int .i64 w8), .r [] (.int .i64 w9), .r [] (.int .i64 w10)]], []) => some ((w3, w4, w5, w6, w7, w8, w9, w10), (w0, w1, w2))
  | _ => none
theorem S_PickNext_g0_hd (nf : NF) (v : (Int × Int × Int × List Task × Int × Int × Int × Int) × (Int × Int × Int)) (h : S_PickNext_g0_dec nf = some v) : denorm S_PickNext_g0_keep 88 nf = S_PickNext_g0_tm v := by
  unfold S_PickNext_g0_dec at h
  split at h
  · cases h; rfl
  · cases h
def S_PickNext_g0_x0 (p : Int × Int × Int × List Task × Int × Int × Int × Int) (x : Int × Int) : St := { slots := [(1, .ptr 0 0 0), (3, .r [] (.int .i64 x.1)), (4, .r [] (.int .i64 x.2))], heap := [(0, .box [.r [] (.int .i64 p.1), .r [] (.int .i64 p.2.1), .r [] (.int .i64 p.2.2.1), .r [] (.sl (.st .task) p.2.2.2.1), .r [] (.int .i64 p.2.2.2.2.1), .r [] (.int .i64 p.2.2.2.2.2.1), .r [] (.int .i64 p.2.2.2.2.2.2.1), .r [] (.int .i64 p.2.2.2.2.2.2.2)])], nid := 1, n := 88, gh := [] }
def LP_S_PickNext (ρ : Type) (k : Nat) : Nat → Ev ρ → Ev ρ := fun id f => cond (Nat.beq id 0) (loopOrc S_PickNext_g0_keep S_PickNext_g0_co (fun n nf => cond (Nat.beq n 88) (S_PickNext_g0_dec nf) none) fun pv K => iter (fun v next => S_PickNext_g0 k pv.1 v next (fun x => K (.exit 0) (S_PickNext_g0_x0 pv.1 x))) k pv.2) ((fun _ _ _ _ => none) id f)
theorem S_PickNext_g0_round {ρ : Type} (k : Nat) (p : Int × Int × Int × List Task × Int × Int × Int × Int) (v : Int × Int × Int) (K K1 : Ex → St → Option ρ) : ev (E_S_PickNext k) (LP_S_PickNext ρ k) 0 b_S_PickNext_0 (S_PickNext_g0_tm (p, v)) (fun e st' => match e with
    | .normal => (normC S_PickNext_g0_keep S_PickNext_g0_co st').bind fun nf => K1 .normal (denorm S_PickNext_g0_keep st'.n nf)
    | e => (normC (S_PickNext_g0_kx e) (S_PickNext_g0_cx e) st').bind fun nf => K e (denorm (S_PickNext_g0_kx e) st'.n nf)) = S_PickNext_g0 k p v (fun v' => K1 .normal (S_PickNext_g0_tm (p, v'))) (fun x => K (.exit 0) (S_PickNext_g0_x0 p x)) := by kernel_rfl
theorem S_PickNext_g0_ok {ρ : Type} (k : Nat) : Sound Try.prog (.loop b_S_PickNext_0) (LP_S_PickNext ρ k 0 fun st K => ev (E_S_PickNext k) (LP_S_PickNext ρ k) 0 b_S_PickNext_0 st K) :=
  loop_ok (ev_sound (E_S_PickNext_ok k) b_S_PickNext_0 0 (lpgood_none (by kernel_rfl))) S_PickNext_g0_kx S_PickNext_g0_cx k (g := fun p v next K => S_PickNext_g0 k p v next (fun x => K (.exit 0) (S_PickNext_g0_x0 p x))) (dec_at S_PickNext_g0_hd) (fun p v K K1 => S_PickNext_g0_round k p v K K1)
def S_PickNext_args (a : Sched) : List Arg := [.agg [.int .i64 a.now, .int .i64 a.slack, .int .i64 a.age, .sl (.st .task) a.tasks, .int .i64 a.run, .int .i64 a.left, .int .i64 a.turns, .int .i64 a.next]]
def S_PickNext_argD (l : List Arg) : Option (Sched) := match l with
  | [.agg [.int .i64 b0_0, .int .i64 b0_1, .int .i64 b0_2, .sl (.st .task) b0_3, .int .i64 b0_4, .int .i64 b0_5, .int .i64 b0_6, .int .i64 b0_7]] => some (⟨b0_0, b0_1, b0_2, b0_3, b0_4, b0_5, b0_6, b0_7⟩ : Sched)
  | _ => none
def S_PickNext_enc (r : Int) : Out := (.r [] (.int .i64 r), [])
def S_PickNext_dec (o : Out) : Option (Int) := match o with
  | (.r [] (.int .i64 z1), []) => some z1
  | _ => none
def S_PickNext_G (k : Nat) : PG := fun _ l K => (S_PickNext_argD l).bind fun a => (S_PickNext k a).bind fun r => K (S_PickNext_enc r)
theorem S_PickNext_ev (k : Nat) (a : Sched) : ev (E_S_PickNext k) (LP_S_PickNext (Int) k) 0 c_S_PickNext (st0 Try.f119 (S_PickNext_args a)) (fin Try.prog Try.f119 (.sc) S_PickNext_dec) = S_PickNext k a := by kernel_rfl
theorem S_PickNext_ok (k : Nat) : PureOk Try.prog 119 (S_PickNext_G k) :=
  pureOk_of_ev (E_S_PickNext_ok k) Try.func119 (by kernel_rfl) (by kernel_rfl) S_PickNext_args S_PickNext_argD
    (fun l a h => by unfold S_PickNext_argD at h; split at h <;> first | (cases h; rfl) | cases h) (fun a => rfl) (lpgood_of (l := [(0, b_S_PickNext_0)]) (by kernel_rfl) ⟨S_PickNext_g0_ok k, trivial⟩)
    (fun o r h => by unfold S_PickNext_dec at h; split at h <;> first | (cases h; rfl) | cases h) (S_PickNext_ev k)
def o_S_PickNext (k : Nat) : Orc := pureOrc [.agg [(.int .i64), (.int .i64), (.int .i64), (.sl (.st .task)), (.int .i64), (.int .i64), (.int .i64), (.int .i64)]] (S_PickNext_G k)
theorem o_S_PickNext_ok (k : Nat) : OrcOk Try.prog 119 (o_S_PickNext k) := pureOrc_ok (S_PickNext_ok k)
/-! ### 49 loop.example/g00778/spec.TickSched -/
noncomputable def E_S_TickSched (k : Nat) : Env := { P := Try.prog, tt := tt, orc := fun g => cond (Nat.beq g 102) (o_S_l07Copy k) (cond (Nat.beq g 104) (o_S_SchedOk k) (cond (Nat.beq g 115) (o_S_l07At k) (cond (Nat.beq g 116) (mutOrc [.keep, .one (.int .i64)] (numG .task .taskK 1 (S_l07Off_m3_G k))) (cond (Nat.beq g 119) (o_S_PickNext k) (noOrc))))), wr := fun g => mem g [116], wt := true }
theorem E_S_TickSched_ok (k : Nat) : EnvOk (E_S_TickSched k) := fun g => (orc_cond (o_S_l07Copy_ok k) (orc_cond (o_S_SchedOk_ok k) (orc_cond (o_S_l07At_ok k) (orc_cond (mutOrc_ok (numOk (s := .task) (s' := .taskK) rfl rfl rfl 1 (fun _ _ _ _ => by simp only [S_l07Off_m3_G, Option.bind_assoc, Option.bind_some]) (fun T => @S_l07Off_m3_ok T k))) (orc_cond (o_S_PickNext_ok k) (noOrc_ok _ _))))))
noncomputable def c_S_TickSched : Code := (Try.f49.body).getD .skip
def LP_S_TickSched (ρ : Type) (k : Nat) : Nat → Ev ρ → Ev ρ := fun _ _ _ _ => none
def S_TickSched_args (a : Sched × Bool) : List Arg := [.agg [.int .i64 a.1.now, .int .i64 a.1.slack, .int .i64 a.1.age, .sl (.st .task) a.1.tasks, .int .i64 a.1.run, .int .i64 a.1.left, .int .i64 a.1.turns, .int .i64 a.1.next], .one (.bool a.2)]
def S_TickSched_argD (l : List Arg) : Option (Sched × Bool) := match l with
  | [.agg [.int .i64 b0_0, .int .i64 b0_1, .int .i64 b0_2, .sl (.st .task) b0_3, .int .i64 b0_4, .int .i64 b0_5, .int .i64 b0_6, .int .i64 b0_7], .one (.bool b1)] => some ((⟨b0_0, b0_1, b0_2, b0_3, b0_4, b0_5, b0_6, b0_7⟩ : Sched), b1)
  | _ => none
def S_TickSched_enc (r : Sched × Int × Bool) : Out := (.tup [.agg [.r [] (.int .i64 r.1.now), .r [] (.int .i64 r.1.slack), .r [] (.int .i64 r.1.age), .own 0, .r [] (.int .i64 r.1.run), .r [] (.int .i64 r.1.left), .r [] (.int .i64 r.1.turns), .r [] (.int .i64 r.1.next)], .r [] (.int .i64 r.2.1), .r [] (.bool r.2.2)], [.arr none (.st .task) r.1.tasks])
def S_TickSched_dec (o : Out) : Option (Sched × Int × Bool) := match o with
  | (.tup [.agg [.r [] (.int .i64 z1), .r [] (.int .i64 z2), .r [] (.int .i64 z3), .own 0, .r [] (.int .i64 z5), .r [] (.int .i64 z6), .r [] (.int .i64 z7), .r [] (.int .i64 z8)], .r [] (.int .i64 z9), .r [] (.bool z10)], [.arr none (.st .task) z4]) => some ((⟨z1, z2, z3, z4, z5, z6, z7, z8⟩ : Sched), z9, z10)
  | _ => none
def S_TickSched_G (k : Nat) : PG := fun _ l K => (S_TickSched_argD l).bind fun a => (S_TickSched k a.1 a.2).bind fun r => K (S_TickSched_enc r)
theorem S_TickSched_ev (k : Nat) (a : Sched × Bool) : ev (E_S_TickSched k) (LP_S_TickSched (Sched × Int × Bool) k) 0 c_S_TickSched (st0 Try.f49 (S_TickSched_args a)) (fin Try.prog Try.f49 (.tup [.agg [.sc, .sc, .sc, .own (.st .task), .sc, .sc, .sc, .sc], .sc, .sc]) S_TickSched_dec) = S_TickSched k a.1 a.2 := by kernel_rfl
theorem S_TickSched_ok (k : Nat) : PureOk Try.prog 49 (S_TickSched_G k) :=
  pureOk_of_ev (E_S_TickSched_ok k) Try.func49 (by kernel_rfl) (by kernel_rfl) S_TickSched_args S_TickSched_argD
    (fun l a h => by unfold S_TickSched_argD at h; split at h <;> first | (cases h; rfl) | cases h) (fun a => rfl) (lpgood_none (by kernel_rfl))
    (fun o r h => by unfold S_TickSched_dec at h; split at h <;> first | (cases h; rfl) | cases h) (S_TickSched_ev k)
def o_S_TickSched (k : Nat) : Orc := pureOrc [.agg [(.int .i64), (.int .i64), (.int .i64), (.sl (.st .task)), (.int .i64), (.int .i64), (.int .i64), (.int .i64)], .one .bool] (S_TickSched_G k)
theorem o_S_TickSched_ok (k : Nat) : OrcOk Try.prog 49 (o_S_TickSched k) := pureOrc_ok (S_TickSched_ok k)
/-! ### 52 loop.example/g00778/spec.PlaySched -/
noncomputable def E_S_PlaySched (k : Nat) : Env := { P := Try.prog, tt := tt, orc := fun g => cond (Nat.beq g 38) (o_S_Admit k) (cond (Nat.beq g 47) (o_S_CancelTask k) (cond (Nat.beq g 49) (o_S_TickSched k) (cond (Nat.beq g 122) (o_S_NewSched k) (noOrc)))) }
theorem E_S_PlaySched_ok (k : Nat) : EnvOk (E_S_PlaySched k) := fun g => (orc_cond (o_S_Admit_ok k) (orc_cond (o_S_CancelTask_ok k) (orc_cond (o_S_TickSched_ok k) (orc_cond (o_S_NewSched_ok k) (noOrc_ok _ _)))))
noncomputable def c_S_PlaySched : Code := (Try.f52.body).getD .skip
noncomputable def b_S_PlaySched_0 : Code := ((loopsIn 0 c_S_PlaySched).getD 0 (0, .skip)).2
def S_PlaySched_g0_keep : List Nat := [2, 6, 8, 10, 11]
def S_PlaySched_g0_co : List (Where × Co) := []
def S_PlaySched_g0_kx : Ex → List Nat
  | .exit j => cond (Nat.beq j 0) [6, 8, 10] []
  | .ret => []
  | .normal => []
def S_PlaySched_g0_cx : Ex → List (Where × Co)
  | .exit j => cond (Nat.beq j 0) [] []
  | .ret => []
  | .normal => []
def S_PlaySched_g0_tm (pv : (List (List Int) × Int × Int × Int × Int × Int × Int × Int) × (Int × Int × Int × Int × Int × Int × Int × Int × List Int × List Task)) : St := { slots := [(2, .r [] (.sl (.sl (.int .i64)) pv.1.1)), (6, .ptr 0 0 0), (8, .ptr 1 0 0), (10, .own 2), (11, .r [] (.int .i64 pv.2.1))], heap := [(0, .box [.r [] (.int .i64 pv.1.2.1), .r [] (.int .i64 pv.1.2.2.1), .r [] (.int .i64 pv.1.2.2.2.1), .nilS, .r [] (.int .i64 pv.1.2.2.2.2.1), .r [] (.int .i64 pv.1.2.2.2.2.2.1), .r [] (.int .i64 pv.1.2.2.2.2.2.2.1), .r [] (.int .i64 pv.1.2.2.2.2.2.2.2)]), (1, .box [.r [] (.int .i64 pv.2.2.1), .r [] (.int .i64 pv.2.2.2.1), .r [] (.int .i64 pv.2.2.2.2.1), .own 3, .r [] (.int .i64 pv.2.2.2.2.2.1), .r [] (.int .i64 pv.2.2.2.2.2.2.1), .r [] (.int .i64 pv.2.2.2.2.2.2.2.1), .r [] (.int .i64 pv.2.2.2.2.2.2.2.2.1)]), (2, .arr none (.int .i64) pv.2.2.2.2.2.2.2.2.2.1), (3, .arr none (.st .task) pv.2.2.2.2.2.2.2.2.2.2)], nid := 4, n := 107, gh := [] }
def S_PlaySched_g0_dec (nf : NF) : Option ((List (List Int) × Int × Int × Int × Int × Int × Int × Int) × (Int × Int × Int × Int × Int × Int × Int × Int × List Int × List Task)) := match nf with
  | ([.r [] (.sl (.sl (.int .i64)) w0), .ptr 0 0 0, .ptr 1 0 0, .own 2, .r [] (.int .i64 w1)], [.box [.r [] (.int .i64 w2), .r [] (.int .i64 w3), .r [] (.int .i64 w4), .nilS, .r [] (.int .i64 w5), .r [] (.int .i64 w6), .r [] (.int .i64 w7), .r [] (.int .i64 w8)], .box [.r [] (.int .i64 w9), .r [] (.int .i64 w10), .r [] (.int .i64 w11), .own 3, .r [] (.int .i64 w12), .r [] (.int .i64 w13), .r [] (.int .i64 w14), .r [] (.int .i64 w15)], .arr none (.int .i64) w16, .arr none (.st .task) w17], []) => some ((w0, w2, w3, w4, w5, w6, w7, w8), (w1, w9, w10, w11, w12, w13, w14, w15, w16, w17))
  | _ => none
theorem S_PlaySched_g0_hd (nf : NF) (v : (List (List Int) × Int × Int × Int × Int × Int × Int × Int) × (Int × Int × Int × Int × Int × Int × Int × Int × List Int × List Task)) (h : S_PlaySched_g0_dec nf = some v) : denorm S_PlaySched_g0_keep 107 nf = S_PlaySched_g0_tm v := by
  unfold S_PlaySched_g0_dec at h
  split at h
  · cases h; rfl
  · cases h
def S_PlaySched_g0_x0 (p : List (List Int) × Int × Int × Int × Int × Int × Int × Int) (x : Int × Int × Int × Int × Int × Int × Int × List Int × List Task) : St := { slots := [(6, .ptr 0 0 0), (8, .ptr 1 0 0), (10, .own 2)], heap := [(0, .box [.r [] (.int .i64 p.2.1), .r [] (.int .i64 p.2.2.1), .r [] (.int .i64 p.2.2.2.1), .nilS, .r [] (.int .i64 p.2.2.2.2.1), .r [] (.int .i64 p.2.2.2.2.2.1), .r [] (.int .i64 p.2.2.2.2.2.2.1), .r [] (.int .i64 p.2.2.2.2.2.2.2)]), (1, .box [.r [] (.int .i64 x.1), .r [] (.int .i64 x.2.1), .r [] (.int .i64 x.2.2.1), .own 3, .r [] (.int .i64 x.2.2.2.1), .r [] (.int .i64 x.2.2.2.2.1), .r [] (.int .i64 x.2.2.2.2.2.1), .r [] (.int .i64 x.2.2.2.2.2.2.1)]), (2, .arr none (.int .i64) x.2.2.2.2.2.2.2.1), (3, .arr none (.st .task) x.2.2.2.2.2.2.2.2)], nid := 4, n := 107, gh := [] }
def LP_S_PlaySched (ρ : Type) (k : Nat) : Nat → Ev ρ → Ev ρ := fun id f => cond (Nat.beq id 0) (loopOrc S_PlaySched_g0_keep S_PlaySched_g0_co (fun n nf => cond (Nat.beq n 107) (S_PlaySched_g0_dec nf) none) fun pv K => iter (fun v next => S_PlaySched_g0 k pv.1 v next (fun x => K (.exit 0) (S_PlaySched_g0_x0 pv.1 x))) k pv.2) ((fun _ _ _ _ => none) id f)
theorem S_PlaySched_g0_round {ρ : Type} (k : Nat) (p : List (List Int) × Int × Int × Int × Int × Int × Int × Int) (v : Int × Int × Int × Int × Int × Int × Int × Int × List Int × List Task) (K K1 : Ex → St → Option ρ) : ev (E_S_PlaySched k) (LP_S_PlaySched ρ k) 0 b_S_PlaySched_0 (S_PlaySched_g0_tm (p, v)) (fun e st' => match e with
    | .normal => (normC S_PlaySched_g0_keep S_PlaySched_g0_co st').bind fun nf => K1 .normal (denorm S_PlaySched_g0_keep st'.n nf)
    | e => (normC (S_PlaySched_g0_kx e) (S_PlaySched_g0_cx e) st').bind fun nf => K e (denorm (S_PlaySched_g0_kx e) st'.n nf)) = S_PlaySched_g0 k p v (fun v' => K1 .normal (S_PlaySched_g0_tm (p, v'))) (fun x => K (.exit 0) (S_PlaySched_g0_x0 p x)) := by kernel_rfl
theorem S_PlaySched_g0_ok {ρ : Type} (k : Nat) : Sound Try.prog (.loop b_S_PlaySched_0) (LP_S_PlaySched ρ k 0 fun st K => ev (E_S_PlaySched k) (LP_S_PlaySched ρ k) 0 b_S_PlaySched_0 st K) :=
  loop_ok (ev_sound (E_S_PlaySched_ok k) b_S_PlaySched_0 0 (lpgood_none (by kernel_rfl))) S_PlaySched_g0_kx S_PlaySched_g0_cx k (g := fun p v next K => S_PlaySched_g0 k p v next (fun x => K (.exit 0) (S_PlaySched_g0_x0 p x))) (dec_at S_PlaySched_g0_hd) (fun p v K K1 => S_PlaySched_g0_round k p v K K1)
def S_PlaySched_args (a : Int × Int × List (List Int)) : List Arg := [.one (.int .i64 a.1), .one (.int .i64 a.2.1), .one (.sl (.sl (.int .i64)) a.2.2)]
def S_PlaySched_argD (l : List Arg) : Option (Int × Int × List (List Int)) := match l with
  | [.one (.int .i64 b0), .one (.int .i64 b1), .one (.sl (.sl (.int .i64)) b2)] => some (b0, b1, b2)
  | _ => none
def S_PlaySched_enc (r : Sched × List Int) : Out := (.tup [.agg [.r [] (.int .i64 r.1.now), .r [] (.int .i64 r.1.slack), .r [] (.int .i64 r.1.age), .own 0, .r [] (.int .i64 r.1.run), .r [] (.int .i64 r.1.left), .r [] (.int .i64 r.1.turns), .r [] (.int .i64 r.1.next)], .own 1], [.arr none (.st .task) r.1.tasks, .arr none (.int .i64) r.2])
def S_PlaySched_dec (o : Out) : Option (Sched × List Int) := match o with
  | (.tup [.agg [.r [] (.int .i64 z1), .r [] (.int .i64 z2), .r [] (.int .i64 z3), .own 0, .r [] (.int .i64 z5), .r [] (.int .i64 z6), .r [] (.int .i64 z7), .r [] (.int .i64 z8)], .own 1], [.arr none (.st .task) z4, .arr none (.int .i64) z9]) => some ((⟨z1, z2, z3, z4, z5, z6, z7, z8⟩ : Sched), z9)
  | _ => none
def S_PlaySched_G (k : Nat) : PG := fun _ l K => (S_PlaySched_argD l).bind fun a => (S_PlaySched k a.1 a.2.1 a.2.2).bind fun r => K (S_PlaySched_enc r)
theorem S_PlaySched_ev (k : Nat) (a : Int × Int × List (List Int)) : ev (E_S_PlaySched k) (LP_S_PlaySched (Sched × List Int) k) 0 c_S_PlaySched (st0 Try.f52 (S_PlaySched_args a)) (fin Try.prog Try.f52 (.tup [.agg [.sc, .sc, .sc, .own (.st .task), .sc, .sc, .sc, .sc], .own (.int .i64)]) S_PlaySched_dec) = S_PlaySched k a.1 a.2.1 a.2.2 := by kernel_rfl
theorem S_PlaySched_ok (k : Nat) : PureOk Try.prog 52 (S_PlaySched_G k) :=
  pureOk_of_ev (E_S_PlaySched_ok k) Try.func52 (by kernel_rfl) (by kernel_rfl) S_PlaySched_args S_PlaySched_argD
    (fun l a h => by unfold S_PlaySched_argD at h; split at h <;> first | (cases h; rfl) | cases h) (fun a => rfl) (lpgood_of (l := [(0, b_S_PlaySched_0)]) (by kernel_rfl) ⟨S_PlaySched_g0_ok k, trivial⟩)
    (fun o r h => by unfold S_PlaySched_dec at h; split at h <;> first | (cases h; rfl) | cases h) (S_PlaySched_ev k)
def o_S_PlaySched (k : Nat) : Orc := pureOrc [.one (.int .i64), .one (.int .i64), .one (.sl (.sl (.int .i64)))] (S_PlaySched_G k)
theorem o_S_PlaySched_ok (k : Nat) : OrcOk Try.prog 52 (o_S_PlaySched k) := pureOrc_ok (S_PlaySched_ok k)
/-! ### 84 loop.example/g00778/impl.in -/
noncomputable def E_I_in (k : Nat) : Env := { P := Try.prog, tt := tt, orc := fun g => noOrc }
theorem E_I_in_ok (k : Nat) : EnvOk (E_I_in k) := fun g => (noOrc_ok _ _)
noncomputable def c_I_in : Code := (Try.f84.body).getD .skip
def LP_I_in (ρ : Type) (k : Nat) : Nat → Ev ρ → Ev ρ := fun _ _ _ _ => none
def I_in_args (a : Int × Int × Int) : List Arg := [.one (.int .i64 a.1), .one (.int .i64 a.2.1), .one (.int .i64 a.2.2)]
def I_in_argD (l : List Arg) : Option (Int × Int × Int) := match l with
  | [.one (.int .i64 b0), .one (.int .i64 b1), .one (.int .i64 b2)] => some (b0, b1, b2)
  | _ => none
def I_in_enc (r : Bool) : Out := (.r [] (.bool r), [])
def I_in_dec (o : Out) : Option (Bool) := match o with
  | (.r [] (.bool z1), []) => some z1
  | _ => none
def I_in_G (k : Nat) : PG := fun _ l K => (I_in_argD l).bind fun a => (I_in k a.1 a.2.1 a.2.2).bind fun r => K (I_in_enc r)
theorem I_in_ev (k : Nat) (a : Int × Int × Int) : ev (E_I_in k) (LP_I_in (Bool) k) 0 c_I_in (st0 Try.f84 (I_in_args a)) (fin Try.prog Try.f84 (.sc) I_in_dec) = I_in k a.1 a.2.1 a.2.2 := by kernel_rfl
theorem I_in_ok (k : Nat) : PureOk Try.prog 84 (I_in_G k) :=
  pureOk_of_ev (E_I_in_ok k) Try.func84 (by kernel_rfl) (by kernel_rfl) I_in_args I_in_argD
    (fun l a h => by unfold I_in_argD at h; split at h <;> first | (cases h; rfl) | cases h) (fun a => rfl) (lpgood_none (by kernel_rfl))
    (fun o r h => by unfold I_in_dec at h; split at h <;> first | (cases h; rfl) | cases h) (I_in_ev k)
def o_I_in (k : Nat) : Orc := pureOrc [.one (.int .i64), .one (.int .i64), .one (.int .i64)] (I_in_G k)
theorem o_I_in_ok (k : Nat) : OrcOk Try.prog 84 (o_I_in k) := pureOrc_ok (I_in_ok k)
/-! ### 163 loop.example/g00778/impl.isTick -/
noncomputable def E_I_isTick (k : Nat) : Env := { P := Try.prog, tt := tt, orc := fun g => cond (Nat.beq g 84) (o_I_in k) (noOrc) }
theorem E_I_isTick_ok (k : Nat) : EnvOk (E_I_isTick k) := fun g => (orc_cond (o_I_in_ok k) (noOrc_ok _ _))
noncomputable def c_I_isTick : Code := (Try.f163.body).getD .skip
def LP_I_isTick (ρ : Type) (k : Nat) : Nat → Ev ρ → Ev ρ := fun _ _ _ _ => none
def I_isTick_args (a : Int) : List Arg := [.one (.int .i64 a)]
def I_isTick_argD (l : List Arg) : Option (Int) := match l with
  | [.one (.int .i64 b0)] => some b0
  | _ => none
def I_isTick_enc (r : Bool) : Out := (.r [] (.bool r), [])
def I_isTick_dec (o : Out) : Option (Bool) := match o with
  | (.r [] (.bool z1), []) => some z1
  | _ => none
def I_isTick_G (k : Nat) : PG := fun _ l K => (I_isTick_argD l).bind fun a => (I_isTick k a).bind fun r => K (I_isTick_enc r)
theorem I_isTick_ev (k : Nat) (a : Int) : ev (E_I_isTick k) (LP_I_isTick (Bool) k) 0 c_I_isTick (st0 Try.f163 (I_isTick_args a)) (fin Try.prog Try.f163 (.sc) I_isTick_dec) = I_isTick k a := by kernel_rfl
theorem I_isTick_ok (k : Nat) : PureOk Try.prog 163 (I_isTick_G k) :=
  pureOk_of_ev (E_I_isTick_ok k) Try.func163 (by kernel_rfl) (by kernel_rfl) I_isTick_args I_isTick_argD
    (fun l a h => by unfold I_isTick_argD at h; split at h <;> first | (cases h; rfl) | cases h) (fun a => rfl) (lpgood_none (by kernel_rfl))
    (fun o r h => by unfold I_isTick_dec at h; split at h <;> first | (cases h; rfl) | cases h) (I_isTick_ev k)
def o_I_isTick (k : Nat) : Orc := pureOrc [.one (.int .i64)] (I_isTick_G k)
theorem o_I_isTick_ok (k : Nat) : OrcOk Try.prog 163 (o_I_isTick k) := pureOrc_ok (I_isTick_ok k)
/-! ### 165 loop.example/g00778/impl.TaskOk$1 -/
noncomputable def E_I_TaskOk_c1 (k : Nat) : Env := { P := Try.prog, tt := tt, orc := fun g => cond (Nat.beq g 84) (o_I_in k) (noOrc) }
theorem E_I_TaskOk_c1_ok (k : Nat) : EnvOk (E_I_TaskOk_c1 k) := fun g => (orc_cond (o_I_in_ok k) (noOrc_ok _ _))
noncomputable def c_I_TaskOk_c1 : Code := (Try.f165.body).getD .skip
def LP_I_TaskOk_c1 (ρ : Type) (k : Nat) : Nat → Ev ρ → Ev ρ := fun _ _ _ _ => none
def I_TaskOk_c1_args (a : Int) : List Arg := [.one (.int .i64 a)]
def I_TaskOk_c1_argD (l : List Arg) : Option (Int) := match l with
  | [.one (.int .i64 b0)] => some b0
  | _ => none
def I_TaskOk_c1_enc (r : Bool) : Out := (.r [] (.bool r), [])
def I_TaskOk_c1_dec (o : Out) : Option (Bool) := match o with
  | (.r [] (.bool z1), []) => some z1
  | _ => none
def I_TaskOk_c1_G (k : Nat) : PG := fun _ l K => (I_TaskOk_c1_argD l).bind fun a => (I_TaskOk_c1 k a).bind fun r => K (I_TaskOk_c1_enc r)
theorem I_TaskOk_c1_ev (k : Nat) (a : Int) : ev (E_I_TaskOk_c1 k) (LP_I_TaskOk_c1 (Bool) k) 0 c_I_TaskOk_c1 (st0 Try.f165 (I_TaskOk_c1_args a)) (fin Try.prog Try.f165 (.sc) I_TaskOk_c1_dec) = I_TaskOk_c1 k a := by kernel_rfl
theorem I_TaskOk_c1_ok (k : Nat) : PureOk Try.prog 165 (I_TaskOk_c1_G k) :=
  pureOk_of_ev (E_I_TaskOk_c1_ok k) Try.func165 (by kernel_rfl) (by kernel_rfl) I_TaskOk_c1_args I_TaskOk_c1_argD
    (fun l a h => by unfold I_TaskOk_c1_argD at h; split at h <;> first | (cases h; rfl) | cases h) (fun a => rfl) (lpgood_none (by kernel_rfl))
    (fun o r h => by unfold I_TaskOk_c1_dec at h; split at h <;> first | (cases h; rfl) | cases h) (I_TaskOk_c1_ev k)
def o_I_TaskOk_c1 (k : Nat) : Orc := pureOrc [.one (.int .i64)] (I_TaskOk_c1_G k)
theorem o_I_TaskOk_c1_ok (k : Nat) : OrcOk Try.prog 165 (o_I_TaskOk_c1 k) := pureOrc_ok (I_TaskOk_c1_ok k)
/-! ### 156 slices.IndexFunc[[]int,int] -/
noncomputable def E_slices_IndexFunc_lint_int__I_TaskOk_c1 (k : Nat) : Env := { P := Try.prog, tt := tt, orc := fun g => cond (Nat.beq g 165) (o_I_TaskOk_c1 k) (noOrc) }
theorem E_slices_IndexFunc_lint_int__I_TaskOk_c1_ok (k : Nat) : EnvOk (E_slices_IndexFunc_lint_int__I_TaskOk_c1 k) := fun g => (orc_cond (o_I_TaskOk_c1_ok k) (noOrc_ok _ _))
noncomputable def c_slices_IndexFunc_lint_int__I_TaskOk_c1 : Code := (Try.f156.body).getD .skip
noncomputable def b_slices_IndexFunc_lint_int__I_TaskOk_c1_0 : Code := ((loopsIn 0 c_slices_IndexFunc_lint_int__I_TaskOk_c1).getD 0 (0, .skip)).2
def slices_IndexFunc_lint_int__I_TaskOk_c1_g0_keep : List Nat := [0, 1, 7, 8]
def slices_IndexFunc_lint_int__I_TaskOk_c1_g0_co : List (Where × Co) := []
def slices_IndexFunc_lint_int__I_TaskOk_c1_g0_kx : Ex → List Nat
  | .exit j => cond (Nat.beq j 0) [] []
  | .ret => [4]
  | .normal => []
def slices_IndexFunc_lint_int__I_TaskOk_c1_g0_cx : Ex → List (Where × Co)
  | .exit j => cond (Nat.beq j 0) [] []
  | .ret => []
  | .normal => []
def slices_IndexFunc_lint_int__I_TaskOk_c1_g0_tm (pv : (List Int × Int) × (Int)) : St := { slots := [(0, .r [] (.sl (.int .i64) pv.1.1)), (1, .fn (.func 165) [] []), (7, .r [] (.int .i64 pv.1.2)), (8, .r [] (.int .i64 pv.2))], heap := [], nid := 0, n := 19, gh := [] }
def slices_IndexFunc_lint_int__I_TaskOk_c1_g0_dec (nf : NF) : Option ((List Int × Int) × (Int)) := match nf with
  | ([.r [] (.sl (.int .i64) w0), .fn (.func 165) [] [], .r [] (.int .i64 w1), .r [] (.int .i64 w2)], [], []) => some ((w0, w1), w2)
  | _ => none
theorem slices_IndexFunc_lint_int__I_TaskOk_c1_g0_hd (nf : NF) (v : (List Int × Int) × (Int)) (h : slices_IndexFunc_lint_int__I_TaskOk_c1_g0_dec nf = some v) : denorm slices_IndexFunc_lint_int__I_TaskOk_c1_g0_keep 19 nf = slices_IndexFunc_lint_int__I_TaskOk_c1_g0_tm v := by
  unfold slices_IndexFunc_lint_int__I_TaskOk_c1_g0_dec at h
  split at h
  · cases h; rfl
  · cases h
def slices_IndexFunc_lint_int__I_TaskOk_c1_g0_x0 (p : List Int × Int) (x : Unit) : St := { slots := [], heap := [], nid := 0, n := 19, gh := [] }
def slices_IndexFunc_lint_int__I_TaskOk_c1_g0_xret (p : List Int × Int) (x : Int) : St := { slots := [(4, .r [] (.int .i64 x))], heap := [], nid := 0, n := 19, gh := [] }
def LP_slices_IndexFunc_lint_int__I_TaskOk_c1 (ρ : Type) (k : Nat) : Nat → Ev ρ → Ev ρ := fun id f => cond (Nat.beq id 0) (loopOrc slices_IndexFunc_lint_int__I_TaskOk_c1_g0_keep slices_IndexFunc_lint_int__I_TaskOk_c1_g0_co (fun n nf => cond (Nat.beq n 19) (slices_IndexFunc_lint_int__I_TaskOk_c1_g0_dec nf) none) fun pv K => iter (fun v next => slices_IndexFunc_lint_int__I_TaskOk_c1_g0 k pv.1 v next (fun x => K (.exit 0) (slices_IndexFunc_lint_int__I_TaskOk_c1_g0_x0 pv.1 x)) (fun x => K .ret (slices_IndexFunc_lint_int__I_TaskOk_c1_g0_xret pv.1 x))) k pv.2) ((fun _ _ _ _ => none) id f)
theorem slices_IndexFunc_lint_int__I_TaskOk_c1_g0_round {ρ : Type} (k : Nat) (p : List Int × Int) (v : Int) (K K1 : Ex → St → Option ρ) : ev (E_slices_IndexFunc_lint_int__I_TaskOk_c1 k) (LP_slices_IndexFunc_lint_int__I_TaskOk_c1 ρ k) 0 b_slices_IndexFunc_lint_int__I_TaskOk_c1_0 (slices_IndexFunc_lint_int__I_TaskOk_c1_g0_tm (p, v)) (fun e st' => match e with
    | .normal => (normC slices_IndexFunc_lint_int__I_TaskOk_c1_g0_keep slices_IndexFunc_lint_int__I_TaskOk_c1_g0_co st').bind fun nf => K1 .normal (denorm slices_IndexFunc_lint_int__I_TaskOk_c1_g0_keep st'.n nf)
    | e => (normC (slices_IndexFunc_lint_int__I_TaskOk_c1_g0_kx e) (slices_IndexFunc_lint_int__I_TaskOk_c1_g0_cx e) st').bind fun nf => K e (denorm (slices_IndexFunc_lint_int__I_TaskOk_c1_g0_kx e) st'.n nf)) = slices_IndexFunc_lint_int__I_TaskOk_c1_g0 k p v (fun v' => K1 .normal (slices_IndexFunc_lint_int__I_TaskOk_c1_g0_tm (p, v'))) (fun x => K (.exit 0) (slices_IndexFunc_lint_int__I_TaskOk_c1_g0_x0 p x)) (fun x => K .ret (slices_IndexFunc_lint_int__I_TaskOk_c1_g0_xret p x)) := by kernel_rfl
theorem slices_IndexFunc_lint_int__I_TaskOk_c1_g0_ok {ρ : Type} (k : Nat) : Sound Try.prog (.loop b_slices_IndexFunc_lint_int__I_TaskOk_c1_0) (LP_slices_IndexFunc_lint_int__I_TaskOk_c1 ρ k 0 fun st K => ev (E_slices_IndexFunc_lint_int__I_TaskOk_c1 k) (LP_slices_IndexFunc_lint_int__I_TaskOk_c1 ρ k) 0 b_slices_IndexFunc_lint_int__I_TaskOk_c1_0 st K) :=
  loop_ok (ev_sound (E_slices_IndexFunc_lint_int__I_TaskOk_c1_ok k) b_slices_IndexFunc_lint_int__I_TaskOk_c1_0 0 (lpgood_none (by kernel_rfl))) slices_IndexFunc_lint_int__I_TaskOk_c1_g0_kx slices_IndexFunc_lint_int__I_TaskOk_c1_g0_cx k (g := fun p v next K => slices_IndexFunc_lint_int__I_TaskOk_c1_g0 k p v next (fun x => K (.exit 0) (slices_IndexFunc_lint_int__I_TaskOk_c1_g0_x0 p x)) (fun x => K .ret (slices_IndexFunc_lint_int__I_TaskOk_c1_g0_xret p x))) (dec_at slices_IndexFunc_lint_int__I_TaskOk_c1_g0_hd) (fun p v K K1 => slices_IndexFunc_lint_int__I_TaskOk_c1_g0_round k p v K K1)
def slices_IndexFunc_lint_int__I_TaskOk_c1_args (a : List Int) : List Arg := [.one (.sl (.int .i64) a), .fn (.func 165) [] []]
def slices_IndexFunc_lint_int__I_TaskOk_c1_argD (l : List Arg) : Option (List Int) := match l with
  | [.one (.sl (.int .i64) b0), .fn (.func 165) [] []] => some b0
  | _ => none
def slices_IndexFunc_lint_int__I_TaskOk_c1_enc (r : Int) : Out := (.r [] (.int .i64 r), [])
def slices_IndexFunc_lint_int__I_TaskOk_c1_dec (o : Out) : Option (Int) := match o with
  | (.r [] (.int .i64 z1), []) => some z1
  | _ => none
def slices_IndexFunc_lint_int__I_TaskOk_c1_G (k : Nat) : PG := fun _ l K => (slices_IndexFunc_lint_int__I_TaskOk_c1_argD l).bind fun a => (slices_IndexFunc_lint_int__I_TaskOk_c1 k a).bind fun r => K (slices_IndexFunc_lint_int__I_TaskOk_c1_enc r)
theorem slices_IndexFunc_lint_int__I_TaskOk_c1_ev (k : Nat) (a : List Int) : ev (E_slices_IndexFunc_lint_int__I_TaskOk_c1 k) (LP_slices_IndexFunc_lint_int__I_TaskOk_c1 (Int) k) 0 c_slices_IndexFunc_lint_int__I_TaskOk_c1 (st0 Try.f156 (slices_IndexFunc_lint_int__I_TaskOk_c1_args a)) (fin Try.prog Try.f156 (.sc) slices_IndexFunc_lint_int__I_TaskOk_c1_dec) = slices_IndexFunc_lint_int__I_TaskOk_c1 k a := by kernel_rfl
theorem slices_IndexFunc_lint_int__I_TaskOk_c1_ok (k : Nat) : PureOk Try.prog 156 (slices_IndexFunc_lint_int__I_TaskOk_c1_G k) :=
  pureOk_of_ev (E_slices_IndexFunc_lint_int__I_TaskOk_c1_ok k) Try.func156 (by kernel_rfl) (by kernel_rfl) slices_IndexFunc_lint_int__I_TaskOk_c1_args slices_IndexFunc_lint_int__I_TaskOk_c1_argD
    (fun l a h => by unfold slices_IndexFunc_lint_int__I_TaskOk_c1_argD at h; split at h <;> first | (cases h; rfl) | cases h) (fun a => rfl) (lpgood_of (l := [(0, b_slices_IndexFunc_lint_int__I_TaskOk_c1_0)]) (by kernel_rfl) ⟨slices_IndexFunc_lint_int__I_TaskOk_c1_g0_ok k, trivial⟩)
    (fun o r h => by unfold slices_IndexFunc_lint_int__I_TaskOk_c1_dec at h; split at h <;> first | (cases h; rfl) | cases h) (slices_IndexFunc_lint_int__I_TaskOk_c1_ev k)
def o_slices_IndexFunc_lint_int__I_TaskOk_c1 (k : Nat) : Orc := pureOrc [.one (.sl (.int .i64)), .fn] (slices_IndexFunc_lint_int__I_TaskOk_c1_G k)
theorem o_slices_IndexFunc_lint_int__I_TaskOk_c1_ok (k : Nat) : OrcOk Try.prog 156 (o_slices_IndexFunc_lint_int__I_TaskOk_c1 k) := pureOrc_ok (slices_IndexFunc_lint_int__I_TaskOk_c1_ok k)
/-! ### 99 slices.ContainsFunc[[]int,int] -/
noncomputable def E_slices_ContainsFunc_lint_int__I_TaskOk_c1 (k : Nat) : Env := { P := Try.prog, tt := tt, orc := fun g => cond (Nat.beq g 156) (o_slices_IndexFunc_lint_int__I_TaskOk_c1 k) (noOrc) }
theorem E_slices_ContainsFunc_lint_int__I_TaskOk_c1_ok (k : Nat) : EnvOk (E_slices_ContainsFunc_lint_int__I_TaskOk_c1 k) := fun g => (orc_cond (o_slices_IndexFunc_lint_int__I_TaskOk_c1_ok k) (noOrc_ok _ _))
noncomputable def c_slices_ContainsFunc_lint_int__I_TaskOk_c1 : Code := (Try.f99.body).getD .skip
def LP_slices_ContainsFunc_lint_int__I_TaskOk_c1 (ρ : Type) (k : Nat) : Nat → Ev ρ → Ev ρ := fun _ _ _ _ => none
def slices_ContainsFunc_lint_int__I_TaskOk_c1_args (a : List Int) : List Arg := [.one (.sl (.int .i64) a), .fn (.func 165) [] []]
def slices_ContainsFunc_lint_int__I_TaskOk_c1_argD (l : List Arg) : Option (List Int) := match l with
  | [.one (.sl (.int .i64) b0), .fn (.func 165) [] []] => some b0
  | _ => none
def slices_ContainsFunc_lint_int__I_TaskOk_c1_enc (r : Bool) : Out := (.r [] (.bool r), [])
def slices_ContainsFunc_lint_int__I_TaskOk_c1_dec (o : Out) : Option (Bool) := match o with
  | (.r [] (.bool z1), []) => some z1
  | _ => none
def slices_ContainsFunc_lint_int__I_TaskOk_c1_G (k : Nat) : PG := fun _ l K => (slices_ContainsFunc_lint_int__I_TaskOk_c1_argD l).bind fun a => (slices_ContainsFunc_lint_int__I_TaskOk_c1 k a).bind fun r => K (slices_ContainsFunc_lint_int__I_TaskOk_c1_enc r)
theorem slices_ContainsFunc_lint_int__I_TaskOk_c1_ev (k : Nat) (a : List Int) : ev (E_slices_ContainsFunc_lint_int__I_TaskOk_c1 k) (LP_slices_ContainsFunc_lint_int__I_TaskOk_c1 (Bool) k) 0 c_slices_ContainsFunc_lint_int__I_TaskOk_c1 (st0 Try.f99 (slices_ContainsFunc_lint_int__I_TaskOk_c1_args a)) (fin Try.prog Try.f99 (.sc) slices_ContainsFunc_lint_int__I_TaskOk_c1_dec) = slices_ContainsFunc_lint_int__I_TaskOk_c1 k a := by kernel_rfl
theorem slices_ContainsFunc_lint_int__I_TaskOk_c1_ok (k : Nat) : PureOk Try.prog 99 (slices_ContainsFunc_lint_int__I_TaskOk_c1_G k) :=
  pureOk_of_ev (E_slices_ContainsFunc_lint_int__I_TaskOk_c1_ok k) Try.func99 (by kernel_rfl) (by kernel_rfl) slices_ContainsFunc_lint_int__I_TaskOk_c1_args slices_ContainsFunc_lint_int__I_TaskOk_c1_argD
    (fun l a h => by unfold slices_ContainsFunc_lint_int__I_TaskOk_c1_argD at h; split at h <;> first | (cases h; rfl) | cases h) (fun a => rfl) (lpgood_none (by kernel_rfl))
    (fun o r h => by unfold slices_ContainsFunc_lint_int__I_TaskOk_c1_dec at h; split at h <;> first | (cases h; rfl) | cases h) (slices_ContainsFunc_lint_int__I_TaskOk_c1_ev k)
def o_slices_ContainsFunc_lint_int__I_TaskOk_c1 (k : Nat) : Orc := pureOrc [.one (.sl (.int .i64)), .fn] (slices_ContainsFunc_lint_int__I_TaskOk_c1_G k)
theorem o_slices_ContainsFunc_lint_int__I_TaskOk_c1_ok (k : Nat) : OrcOk Try.prog 99 (o_slices_ContainsFunc_lint_int__I_TaskOk_c1 k) := pureOrc_ok (slices_ContainsFunc_lint_int__I_TaskOk_c1_ok k)
/-! ### 111 loop.example/g00778/impl.TaskOk -/
noncomputable def E_I_TaskOk (k : Nat) : Env := { P := Try.prog, tt := tt, orc := fun g => cond (Nat.beq g 84) (o_I_in k) (cond (Nat.beq g 99) (o_slices_ContainsFunc_lint_int__I_TaskOk_c1 k) (cond (Nat.beq g 163) (o_I_isTick k) (noOrc))) }
theorem E_I_TaskOk_ok (k : Nat) : EnvOk (E_I_TaskOk k) := fun g => (orc_cond (o_I_in_ok k) (orc_cond (o_slices_ContainsFunc_lint_int__I_TaskOk_c1_ok k) (orc_cond (o_I_isTick_ok k) (noOrc_ok _ _))))
noncomputable def c_I_TaskOk : Code := (Try.f111.body).getD .skip
def LP_I_TaskOk (ρ : Type) (k : Nat) : Nat → Ev ρ → Ev ρ := fun _ _ _ _ => none
def I_TaskOk_args (a : Task) : List Arg := [.agg [.int .i64 a.id, .sl (.int .i64) a.costs, .int .i64 a.at_, .int .i64 a.due, .int .i64 a.born]]
def I_TaskOk_argD (l : List Arg) : Option (Task) := match l with
  | [.agg [.int .i64 b0_0, .sl (.int .i64) b0_1, .int .i64 b0_2, .int .i64 b0_3, .int .i64 b0_4]] => some (⟨b0_0, b0_1, b0_2, b0_3, b0_4⟩ : Task)
  | _ => none
def I_TaskOk_enc (r : Bool) : Out := (.r [] (.bool r), [])
def I_TaskOk_dec (o : Out) : Option (Bool) := match o with
  | (.r [] (.bool z1), []) => some z1
  | _ => none
def I_TaskOk_G (k : Nat) : PG := fun _ l K => (I_TaskOk_argD l).bind fun a => (I_TaskOk k a).bind fun r => K (I_TaskOk_enc r)
theorem I_TaskOk_ev (k : Nat) (a : Task) : ev (E_I_TaskOk k) (LP_I_TaskOk (Bool) k) 0 c_I_TaskOk (st0 Try.f111 (I_TaskOk_args a)) (fin Try.prog Try.f111 (.sc) I_TaskOk_dec) = I_TaskOk k a := by kernel_rfl
theorem I_TaskOk_ok (k : Nat) : PureOk Try.prog 111 (I_TaskOk_G k) :=
  pureOk_of_ev (E_I_TaskOk_ok k) Try.func111 (by kernel_rfl) (by kernel_rfl) I_TaskOk_args I_TaskOk_argD
    (fun l a h => by unfold I_TaskOk_argD at h; split at h <;> first | (cases h; rfl) | cases h) (fun a => rfl) (lpgood_none (by kernel_rfl))
    (fun o r h => by unfold I_TaskOk_dec at h; split at h <;> first | (cases h; rfl) | cases h) (I_TaskOk_ev k)
def o_I_TaskOk (k : Nat) : Orc := pureOrc [.agg [(.int .i64), (.sl (.int .i64)), (.int .i64), (.int .i64), (.int .i64)]] (I_TaskOk_G k)
theorem o_I_TaskOk_ok (k : Nat) : OrcOk Try.prog 111 (o_I_TaskOk k) := pureOrc_ok (I_TaskOk_ok k)
/-! ### 164 (loop.example/g00778/impl.Sched).areTasks -/
noncomputable def E_I_Sched_areTasks (k : Nat) : Env := { P := Try.prog, tt := tt, orc := fun g => cond (Nat.beq g 111) (o_I_TaskOk k) (noOrc) }
theorem E_I_Sched_areTasks_ok (k : Nat) : EnvOk (E_I_Sched_areTasks k) := fun g => (orc_cond (o_I_TaskOk_ok k) (noOrc_ok _ _))
noncomputable def c_I_Sched_areTasks : Code := (Try.f164.body).getD .skip
noncomputable def b_I_Sched_areTasks_0 : Code := ((loopsIn 0 c_I_Sched_areTasks).getD 0 (0, .skip)).2
def I_Sched_areTasks_g0_keep : List Nat := [1, 6, 7, 8]
def I_Sched_areTasks_g0_co : List (Where × Co) := []
def I_Sched_areTasks_g0_kx : Ex → List Nat
  | .exit j => cond (Nat.beq j 0) [1] []
  | .ret => [2]
  | .normal => []
def I_Sched_areTasks_g0_cx : Ex → List (Where × Co)
  | .exit j => cond (Nat.beq j 0) [] []
  | .ret => []
  | .normal => []
def I_Sched_areTasks_g0_tm (pv : (List Task × Int × Int × Int × Int × List Task × Int × Int × Int × Int) × (Int)) : St := { slots := [(1, .ptr 0 0 0), (6, .r [] (.sl (.st .task) pv.1.1)), (7, .r [] (.int .i64 pv.1.2.1)), (8, .r [] (.int .i64 pv.2))], heap := [(0, .box [.r [] (.int .i64 pv.1.2.2.1), .r [] (.int .i64 pv.1.2.2.2.1), .r [] (.int .i64 pv.1.2.2.2.2.1), .r [] (.sl (.st .task) pv.1.2.2.2.2.2.1), .r [] (.int .i64 pv.1.2.2.2.2.2.2.1), .r [] (.int .i64 pv.1.2.2.2.2.2.2.2.1), .r [] (.int .i64 pv.1.2.2.2.2.2.2.2.2.1), .r [] (.int .i64 pv.1.2.2.2.2.2.2.2.2.2)])], nid := 1, n := 51, gh := [] }
def I_Sched_areTasks_g0_dec (nf : NF) : Option ((List Task × Int × Int × Int × Int × List Task × Int × Int × Int × Int) × (Int)) := match nf with
  | ([.ptr 0 0 0, .r [] (.sl (.st .task) w0), .r [] (.int .i64 w1), .r [] (.int .i64 w2)], [.box [.r [] (.int .i64 w3), .r [] (.int .i64 w4), .r [] (.int .i64 w5), .r [] (.sl (.st .task) w6), .r [] (.int .i64 w7), .r [] (.int .i64 w8), .r [] (.int .i64 w9), .r [] (.int .i64 w10)]], []) => some ((w0, w1, w3, w4, w5, w6, w7, w8, w9, w10), w2)
  | _ => none
theorem I_Sched_areTasks_g0_hd (nf : NF) (v : (List Task × Int × Int × Int × Int × List Task × Int × Int × Int × Int) × (Int)) (h : I_Sched_areTasks_g0_dec nf = some v) : denorm I_Sched_areTasks_g0_keep 51 nf = I_Sched_areTasks_g0_tm v := by
  unfold I_Sched_areTasks_g0_dec at h
  split at h
  · cases h; rfl
  · cases h
def I_Sched_areTasks_g0_x0 (p : List Task × Int × Int × Int × Int × List Task × Int × Int × Int × Int) (x : Unit) : St := { slots := [(1, .ptr 0 0 0)], heap := [(0, .box [.r [] (.int .i64 p.2.2.1), .r [] (.int .i64 p.2.2.2.1), .r [] (.int .i64 p.2.2.2.2.1), .r [] (.sl (.st .task) p.2.2.2.2.2.1), .r [] (.int .i64 p.2.2.2.2.2.2.1), .r [] (.int .i64 p.2.2.2.2.2.2.2.1), .r [] (.int .i64 p.2.2.2.2.2.2.2.2.1), .r [] (.int .i64 p.2.2.2.2.2.2.2.2.2)])], nid := 1, n := 51, gh := [] }
def I_Sched_areTasks_g0_xret (p : List Task × Int × Int × Int × Int × List Task × Int × Int × Int × Int) (x : Bool) : St := { slots := [(2, .r [] (.bool x))], heap := [], nid := 0, n := 51, gh := [] }
def LP_I_Sched_areTasks (ρ : Type) (k : Nat) : Nat → Ev ρ → Ev ρ := fun id f => cond (Nat.beq id 0) (loopOrc I_Sched_areTasks_g0_keep I_Sched_areTasks_g0_co (fun n nf => cond (Nat.beq n 51) (I_Sched_areTasks_g0_dec nf) none) fun pv K => iter (fun v next => I_Sched_areTasks_g0 k pv.1 v next (fun x => K (.exit 0) (I_Sched_areTasks_g0_x0 pv.1 x)) (fun x => K .ret (I_Sched_areTasks_g0_xret pv.1 x))) k pv.2) ((fun _ _ _ _ => none) id f)
theorem I_Sched_areTasks_g0_round {ρ : Type} (k : Nat) (p : List Task × Int × Int × Int × Int × List Task × Int × Int × Int × Int) (v : Int) (K K1 : Ex → St → Option ρ) : ev (E_I_Sched_areTasks k) (LP_I_Sched_areTasks ρ k) 0 b_I_Sched_areTasks_0 (I_Sched_areTasks_g0_tm (p, v)) (fun e st' => match e with
    | .normal => (normC I_Sched_areTasks_g0_keep I_Sched_areTasks_g0_co st').bind fun nf => K1 .normal (denorm I_Sched_areTasks_g0_keep st'.n nf)
    | e => (normC (I_Sched_areTasks_g0_kx e) (I_Sched_areTasks_g0_cx e) st').bind fun nf => K e (denorm (I_Sched_areTasks_g0_kx e) st'.n nf)) = I_Sched_areTasks_g0 k p v (fun v' => K1 .normal (I_Sched_areTasks_g0_tm (p, v'))) (fun x => K (.exit 0) (I_Sched_areTasks_g0_x0 p x)) (fun x => K .ret (I_Sched_areTasks_g0_xret p x)) := by kernel_rfl
theorem I_Sched_areTasks_g0_ok {ρ : Type} (k : Nat) : Sound Try.prog (.loop b_I_Sched_areTasks_0) (LP_I_Sched_areTasks ρ k 0 fun st K => ev (E_I_Sched_areTasks k) (LP_I_Sched_areTasks ρ k) 0 b_I_Sched_areTasks_0 st K) :=
  loop_ok (ev_sound (E_I_Sched_areTasks_ok k) b_I_Sched_areTasks_0 0 (lpgood_none (by kernel_rfl))) I_Sched_areTasks_g0_kx I_Sched_areTasks_g0_cx k (g := fun p v next K => I_Sched_areTasks_g0 k p v next (fun x => K (.exit 0) (I_Sched_areTasks_g0_x0 p x)) (fun x => K .ret (I_Sched_areTasks_g0_xret p x))) (dec_at I_Sched_areTasks_g0_hd) (fun p v K K1 => I_Sched_areTasks_g0_round k p v K K1)
def I_Sched_areTasks_args (a : Sched) : List Arg := [.agg [.int .i64 a.now, .int .i64 a.slack, .int .i64 a.age, .sl (.st .task) a.tasks, .int .i64 a.run, .int .i64 a.left, .int .i64 a.turns, .int .i64 a.next]]
def I_Sched_areTasks_argD (l : List Arg) : Option (Sched) := match l with
  | [.agg [.int .i64 b0_0, .int .i64 b0_1, .int .i64 b0_2, .sl (.st .task) b0_3, .int .i64 b0_4, .int .i64 b0_5, .int .i64 b0_6, .int .i64 b0_7]] => some (⟨b0_0, b0_1, b0_2, b0_3, b0_4, b0_5, b0_6, b0_7⟩ : Sched)
  | _ => none
def I_Sched_areTasks_enc (r : Bool) : Out := (.r [] (.bool r), [])
def I_Sched_areTasks_dec (o : Out) : Option (Bool) := match o with
  | (.r [] (.bool z1), []) => some z1
  | _ => none
def I_Sched_areTasks_G (k : Nat) : PG := fun _ l K => (I_Sched_areTasks_argD l).bind fun a => (I_Sched_areTasks k a).bind fun r => K (I_Sched_areTasks_enc r)
theorem I_Sched_areTasks_ev (k : Nat) (a : Sched) : ev (E_I_Sched_areTasks k) (LP_I_Sched_areTasks (Bool) k) 0 c_I_Sched_areTasks (st0 Try.f164 (I_Sched_areTasks_args a)) (fin Try.prog Try.f164 (.sc) I_Sched_areTasks_dec) = I_Sched_areTasks k a := by kernel_rfl
theorem I_Sched_areTasks_ok (k : Nat) : PureOk Try.prog 164 (I_Sched_areTasks_G k) :=
  pureOk_of_ev (E_I_Sched_areTasks_ok k) Try.func164 (by kernel_rfl) (by kernel_rfl) I_Sched_areTasks_args I_Sched_areTasks_argD
    (fun l a h => by unfold I_Sched_areTasks_argD at h; split at h <;> first | (cases h; rfl) | cases h) (fun a => rfl) (lpgood_of (l := [(0, b_I_Sched_areTasks_0)]) (by kernel_rfl) ⟨I_Sched_areTasks_g0_ok k, trivial⟩)
    (fun o r h => by unfold I_Sched_areTasks_dec at h; split at h <;> first | (cases h; rfl) | cases h) (I_Sched_areTasks_ev k)
def o_I_Sched_areTasks (k : Nat) : Orc := pureOrc [.agg [(.int .i64), (.int .i64), (.int .i64), (.sl (.st .task)), (.int .i64), (.int .i64), (.int .i64), (.int .i64)]] (I_Sched_areTasks_G k)
theorem o_I_Sched_areTasks_ok (k : Nat) : OrcOk Try.prog 164 (o_I_Sched_areTasks k) := pureOrc_ok (I_Sched_areTasks_ok k)
/-! ### 168 (loop.example/g00778/impl.Sched).find$1 -/
noncomputable def E_I_Sched_find_c1_m (k : Nat) : Env := { P := Try.prog, tt := tt, orc := fun g => noOrc }
theorem E_I_Sched_find_c1_m_ok (k : Nat) : EnvOk (E_I_Sched_find_c1_m k) := fun g => (noOrc_ok _ _)
noncomputable def c_I_Sched_find_c1_m : Code := (Try.f168.body).getD .skip
def LP_I_Sched_find_c1_m (ρ : Type) (k : Nat) : Nat → Ev ρ → Ev ρ := fun _ _ _ _ => none
def I_Sched_find_c1_m_args (a : Task × Int) : List SV := [.agg [.r [] (.int .i64 a.1.id), .r [] (.sl (.int .i64) a.1.costs), .r [] (.int .i64 a.1.at_), .r [] (.int .i64 a.1.due), .r [] (.int .i64 a.1.born)], .ptr 0 0 0]
def I_Sched_find_c1_m_blks (a : Task × Int) : List Blk := [.box [.r [] (.int .i64 a.2)]]
def I_Sched_find_c1_m_argD (l : List SV) (b : List Blk) : Option (Task × Int) := match l, b with
  | [.agg [.r [] (.int .i64 w0), .r [] (.sl (.int .i64) w1), .r [] (.int .i64 w2), .r [] (.int .i64 w3), .r [] (.int .i64 w4)], .ptr 0 0 0], [.box [.r [] (.int .i64 w5)]] => some ((⟨w0, w1, w2, w3, w4⟩ : Task), w5)
  | _, _ => none
def I_Sched_find_c1_m_enc (a : Task × Int) (r : Bool) : MOut := ⟨.r [] (.bool r), [some (.box [.r [] (.int .i64 a.2)])], []⟩
def I_Sched_find_c1_m_dec (a : Task × Int) (o : MOut) : Option (Bool) := match o with
  | ⟨.r [] (.bool z1), [some (.box [.r [] (.int .i64 z2)])], []⟩ => cond (@sameL Int _ z2 a.2) (some z1) none
  | _ => none
def I_Sched_find_c1_m_G (k : Nat) : MG := fun _ l b K => (I_Sched_find_c1_m_argD l b).bind fun a => (I_Sched_find_c1_m k a.1 a.2).bind fun r => K (I_Sched_find_c1_m_enc a r)
theorem I_Sched_find_c1_m_ev (k : Nat) (a : Task × Int) : ev (E_I_Sched_find_c1_m k) (LP_I_Sched_find_c1_m (Bool) k) 0 c_I_Sched_find_c1_m (st0M Try.f168 (I_Sched_find_c1_m_args a) (I_Sched_find_c1_m_blks a)) (finM Try.prog Try.f168 (.sc) [.box [.sc]] (I_Sched_find_c1_m_dec a)) = I_Sched_find_c1_m k a.1 a.2 := by kernel_rfl
theorem I_Sched_find_c1_m_ok (k : Nat) : MutOk Try.prog 168 (I_Sched_find_c1_m_G k) :=
  mutOk_of_ev (E_I_Sched_find_c1_m_ok k) Try.func168 (by kernel_rfl) (by kernel_rfl) I_Sched_find_c1_m_args I_Sched_find_c1_m_blks I_Sched_find_c1_m_argD
    (fun l b a h => by unfold I_Sched_find_c1_m_argD at h; split at h <;> first | (cases h; exact ⟨rfl, rfl⟩) | cases h) (fun a => rfl) (lpgood_none (by kernel_rfl)) (fun a r => rfl)
    (fun a o r h => by unfold I_Sched_find_c1_m_dec at h; split at h <;> first | (obtain ⟨e0, hq⟩ := dec_chk1 h; clear h; subst e0; have h := hq; clear hq; cases h; rfl) | cases h) (I_Sched_find_c1_m_ev k)
def o_I_Sched_find_c1_m (k : Nat) : Orc := mutOrc [.agg [(.int .i64), (.sl (.int .i64)), (.int .i64), (.int .i64), (.int .i64)], .keep] (I_Sched_find_c1_m_G k)
theorem o_I_Sched_find_c1_m_ok (k : Nat) : OrcOk Try.prog 168 (o_I_Sched_find_c1_m k) := mutOrc_ok (I_Sched_find_c1_m_ok k)
/-! ### 167 slices.IndexFunc[[]loop.example/g00778/impl.Task,loop.example/g00778/impl.Task] -/
noncomputable def E_slices_IndexFunc_lI_Task_I_Task_m (k : Nat) : Env := { P := Try.prog, tt := tt, orc := fun g => cond (Nat.beq g 168) (o_I_Sched_find_c1_m k) (noOrc), wr := fun g => mem g [168], wt := true }
theorem E_slices_IndexFunc_lI_Task_I_Task_m_ok (k : Nat) : EnvOk (E_slices_IndexFunc_lI_Task_I_Task_m k) := fun g => (orc_cond (o_I_Sched_find_c1_m_ok k) (noOrc_ok _ _))
noncomputable def c_slices_IndexFunc_lI_Task_I_Task_m : Code := (Try.f167.body).getD .skip
noncomputable def b_slices_IndexFunc_lI_Task_I_Task_m_0 : Code := ((loopsIn 0 c_slices_IndexFunc_lI_Task_I_Task_m).getD 0 (0, .skip)).2
def slices_IndexFunc_lI_Task_I_Task_m_g0_keep : List Nat := [0, 1, 7, 8]
def slices_IndexFunc_lI_Task_I_Task_m_g0_co : List (Where × Co) := []
def slices_IndexFunc_lI_Task_I_Task_m_g0_kx : Ex → List Nat
  | .exit j => cond (Nat.beq j 0) [] []
  | .ret => [4]
  | .normal => []
def slices_IndexFunc_lI_Task_I_Task_m_g0_cx : Ex → List (Where × Co)
  | .exit j => cond (Nat.beq j 0) [] []
  | .ret => []
  | .normal => []
def slices_IndexFunc_lI_Task_I_Task_m_g0_tm (pv : (List Task × Int × Int) × (Int)) : St := { slots := [(0, .r [] (.sl (.st .task) pv.1.1)), (1, .fn (.func 168) [] [.ptr 0 0 0]), (7, .r [] (.int .i64 pv.1.2.1)), (8, .r [] (.int .i64 pv.2))], heap := [(0, .box [.r [] (.int .i64 pv.1.2.2)])], nid := 1, n := 19, gh := [some 0] }
def slices_IndexFunc_lI_Task_I_Task_m_g0_dec (nf : NF) : Option ((List Task × Int × Int) × (Int)) := match nf with
  | ([.r [] (.sl (.st .task) w0), .fn (.func 168) [] [.ptr 0 0 0], .r [] (.int .i64 w1), .r [] (.int .i64 w2)], [.box [.r [] (.int .i64 w3)]], [some 0]) => some ((w0, w1, w3), w2)
  | _ => none
theorem slices_IndexFunc_lI_Task_I_Task_m_g0_hd (nf : NF) (v : (List Task × Int × Int) × (Int)) (h : slices_IndexFunc_lI_Task_I_Task_m_g0_dec nf = some v) : denorm slices_IndexFunc_lI_Task_I_Task_m_g0_keep 19 nf = slices_IndexFunc_lI_Task_I_Task_m_g0_tm v := by
  unfold slices_IndexFunc_lI_Task_I_Task_m_g0_dec at h
  split at h
  · cases h; rfl
  · cases h
def slices_IndexFunc_lI_Task_I_Task_m_g0_x0 (p : List Task × Int × Int) (x : Unit) : St := { slots := [], heap := [(0, .box [.r [] (.int .i64 p.2.2)])], nid := 1, n := 19, gh := [some 0] }
def slices_IndexFunc_lI_Task_I_Task_m_g0_xret (p : List Task × Int × Int) (x : Int) : St := { slots := [(4, .r [] (.int .i64 x))], heap := [(0, .box [.r [] (.int .i64 p.2.2)])], nid := 1, n := 19, gh := [some 0] }
def LP_slices_IndexFunc_lI_Task_I_Task_m (ρ : Type) (k : Nat) : Nat → Ev ρ → Ev ρ := fun id f => cond (Nat.beq id 0) (loopOrc slices_IndexFunc_lI_Task_I_Task_m_g0_keep slices_IndexFunc_lI_Task_I_Task_m_g0_co (fun n nf => cond (Nat.beq n 19) (slices_IndexFunc_lI_Task_I_Task_m_g0_dec nf) none) fun pv K => iter (fun v next => slices_IndexFunc_lI_Task_I_Task_m_g0 k pv.1 v next (fun x => K (.exit 0) (slices_IndexFunc_lI_Task_I_Task_m_g0_x0 pv.1 x)) (fun x => K .ret (slices_IndexFunc_lI_Task_I_Task_m_g0_xret pv.1 x))) k pv.2) ((fun _ _ _ _ => none) id f)
theorem slices_IndexFunc_lI_Task_I_Task_m_g0_round {ρ : Type} (k : Nat) (p : List Task × Int × Int) (v : Int) (K K1 : Ex → St → Option ρ) : ev (E_slices_IndexFunc_lI_Task_I_Task_m k) (LP_slices_IndexFunc_lI_Task_I_Task_m ρ k) 0 b_slices_IndexFunc_lI_Task_I_Task_m_0 (slices_IndexFunc_lI_Task_I_Task_m_g0_tm (p, v)) (fun e st' => match e with
    | .normal => (normC slices_IndexFunc_lI_Task_I_Task_m_g0_keep slices_IndexFunc_lI_Task_I_Task_m_g0_co st').bind fun nf => K1 .normal (denorm slices_IndexFunc_lI_Task_I_Task_m_g0_keep st'.n nf)
    | e => (normC (slices_IndexFunc_lI_Task_I_Task_m_g0_kx e) (slices_IndexFunc_lI_Task_I_Task_m_g0_cx e) st').bind fun nf => K e (denorm (slices_IndexFunc_lI_Task_I_Task_m_g0_kx e) st'.n nf)) = slices_IndexFunc_lI_Task_I_Task_m_g0 k p v (fun v' => K1 .normal (slices_IndexFunc_lI_Task_I_Task_m_g0_tm (p, v'))) (fun x => K (.exit 0) (slices_IndexFunc_lI_Task_I_Task_m_g0_x0 p x)) (fun x => K .ret (slices_IndexFunc_lI_Task_I_Task_m_g0_xret p x)) := by kernel_rfl
theorem slices_IndexFunc_lI_Task_I_Task_m_g0_ok {ρ : Type} (k : Nat) : Sound Try.prog (.loop b_slices_IndexFunc_lI_Task_I_Task_m_0) (LP_slices_IndexFunc_lI_Task_I_Task_m ρ k 0 fun st K => ev (E_slices_IndexFunc_lI_Task_I_Task_m k) (LP_slices_IndexFunc_lI_Task_I_Task_m ρ k) 0 b_slices_IndexFunc_lI_Task_I_Task_m_0 st K) :=
  loop_ok (ev_sound (E_slices_IndexFunc_lI_Task_I_Task_m_ok k) b_slices_IndexFunc_lI_Task_I_Task_m_0 0 (lpgood_none (by kernel_rfl))) slices_IndexFunc_lI_Task_I_Task_m_g0_kx slices_IndexFunc_lI_Task_I_Task_m_g0_cx k (g := fun p v next K => slices_IndexFunc_lI_Task_I_Task_m_g0 k p v next (fun x => K (.exit 0) (slices_IndexFunc_lI_Task_I_Task_m_g0_x0 p x)) (fun x => K .ret (slices_IndexFunc_lI_Task_I_Task_m_g0_xret p x))) (dec_at slices_IndexFunc_lI_Task_I_Task_m_g0_hd) (fun p v K K1 => slices_IndexFunc_lI_Task_I_Task_m_g0_round k p v K K1)
def slices_IndexFunc_lI_Task_I_Task_m_args (a : List Task × Int) : List SV := [.r [] (.sl (.st .task) a.1), .fn (.func 168) [] [.ptr 0 0 0]]
def slices_IndexFunc_lI_Task_I_Task_m_blks (a : List Task × Int) : List Blk := [.box [.r [] (.int .i64 a.2)]]
def slices_IndexFunc_lI_Task_I_Task_m_argD (l : List SV) (b : List Blk) : Option (List Task × Int) := match l, b with
  | [.r [] (.sl (.st .task) w0), .fn (.func 168) [] [.ptr 0 0 0]], [.box [.r [] (.int .i64 w1)]] => some (w0, w1)
  | _, _ => none
def slices_IndexFunc_lI_Task_I_Task_m_enc (a : List Task × Int) (r : Int) : MOut := ⟨.r [] (.int .i64 r), [some (.box [.r [] (.int .i64 a.2)])], []⟩
def slices_IndexFunc_lI_Task_I_Task_m_dec (a : List Task × Int) (o : MOut) : Option (Int) := match o with
  | ⟨.r [] (.int .i64 z1), [some (.box [.r [] (.int .i64 z2)])], []⟩ => cond (@sameL Int _ z2 a.2) (some z1) none
  | _ => none
def slices_IndexFunc_lI_Task_I_Task_m_G (k : Nat) : MG := fun _ l b K => (slices_IndexFunc_lI_Task_I_Task_m_argD l b).bind fun a => (slices_IndexFunc_lI_Task_I_Task_m k a.1 a.2).bind fun r => K (slices_IndexFunc_lI_Task_I_Task_m_enc a r)
theorem slices_IndexFunc_lI_Task_I_Task_m_ev (k : Nat) (a : List Task × Int) : ev (E_slices_IndexFunc_lI_Task_I_Task_m k) (LP_slices_IndexFunc_lI_Task_I_Task_m (Int) k) 0 c_slices_IndexFunc_lI_Task_I_Task_m (st0M Try.f167 (slices_IndexFunc_lI_Task_I_Task_m_args a) (slices_IndexFunc_lI_Task_I_Task_m_blks a)) (finM Try.prog Try.f167 (.sc) [.box [.sc]] (slices_IndexFunc_lI_Task_I_Task_m_dec a)) = slices_IndexFunc_lI_Task_I_Task_m k a.1 a.2 := by kernel_rfl
theorem slices_IndexFunc_lI_Task_I_Task_m_ok (k : Nat) : MutOk Try.prog 167 (slices_IndexFunc_lI_Task_I_Task_m_G k) :=
  mutOk_of_ev (E_slices_IndexFunc_lI_Task_I_Task_m_ok k) Try.func167 (by kernel_rfl) (by kernel_rfl) slices_IndexFunc_lI_Task_I_Task_m_args slices_IndexFunc_lI_Task_I_Task_m_blks slices_IndexFunc_lI_Task_I_Task_m_argD
    (fun l b a h => by unfold slices_IndexFunc_lI_Task_I_Task_m_argD at h; split at h <;> first | (cases h; exact ⟨rfl, rfl⟩) | cases h) (fun a => rfl) (lpgood_of (l := [(0, b_slices_IndexFunc_lI_Task_I_Task_m_0)]) (by kernel_rfl) ⟨slices_IndexFunc_lI_Task_I_Task_m_g0_ok k, trivial⟩) (fun a r => rfl)
    (fun a o r h => by unfold slices_IndexFunc_lI_Task_I_Task_m_dec at h; split at h <;> first | (obtain ⟨e0, hq⟩ := dec_chk1 h; clear h; subst e0; have h := hq; clear hq; cases h; rfl) | cases h) (slices_IndexFunc_lI_Task_I_Task_m_ev k)
def o_slices_IndexFunc_lI_Task_I_Task_m (k : Nat) : Orc := mutOrc [.one (.sl (.st .task)), .keep] (slices_IndexFunc_lI_Task_I_Task_m_G k)
theorem o_slices_IndexFunc_lI_Task_I_Task_m_ok (k : Nat) : OrcOk Try.prog 167 (o_slices_IndexFunc_lI_Task_I_Task_m k) := mutOrc_ok (slices_IndexFunc_lI_Task_I_Task_m_ok k)
/-! ### 117 (loop.example/g00778/impl.Sched).find -/
noncomputable def E_I_Sched_find (k : Nat) : Env := { P := Try.prog, tt := tt, orc := fun g => cond (Nat.beq g 167) (o_slices_IndexFunc_lI_Task_I_Task_m k) (noOrc), wr := fun g => mem g [167], wt := true }
theorem E_I_Sched_find_ok (k : Nat) : EnvOk (E_I_Sched_find k) := fun g => (orc_cond (o_slices_IndexFunc_lI_Task_I_Task_m_ok k) (noOrc_ok _ _))
noncomputable def c_I_Sched_find : Code := (Try.f117.body).getD .skip
def LP_I_Sched_find (ρ : Type) (k : Nat) : Nat → Ev ρ → Ev ρ := fun _ _ _ _ => none
def I_Sched_find_args (a : Sched × Int) : List Arg := [.agg [.int .i64 a.1.now, .int .i64 a.1.slack, .int .i64 a.1.age, .sl (.st .task) a.1.tasks, .int .i64 a.1.run, .int .i64 a.1.left, .int .i64 a.1.turns, .int .i64 a.1.next], .one (.int .i64 a.2)]
def I_Sched_find_argD (l : List Arg) : Option (Sched × Int) := match l with
  | [.agg [.int .i64 b0_0, .int .i64 b0_1, .int .i64 b0_2, .sl (.st .task) b0_3, .int .i64 b0_4, .int .i64 b0_5, .int .i64 b0_6, .int .i64 b0_7], .one (.int .i64 b1)] => some ((⟨b0_0, b0_1, b0_2, b0_3, b0_4, b0_5, b0_6, b0_7⟩ : Sched), b1)
  | _ => none
def I_Sched_find_enc (r : Int) : Out := (.r [] (.int .i64 r), [])
def I_Sched_find_dec (o : Out) : Option (Int) := match o with
  | (.r [] (.int .i64 z1), []) => some z1
  | _ => none
def I_Sched_find_G (k : Nat) : PG := fun _ l K => (I_Sched_find_argD l).bind fun a => (I_Sched_find k a.1 a.2).bind fun r => K (I_Sched_find_enc r)
theorem I_Sched_find_ev (k : Nat) (a : Sched × Int) : ev (E_I_Sched_find k) (LP_I_Sched_find (Int) k) 0 c_I_Sched_find (st0 Try.f117 (I_Sched_find_args a)) (fin Try.prog Try.f117 (.sc) I_Sched_find_dec) = I_Sched_find k a.1 a.2 := by kernel_rfl
theorem I_Sched_find_ok (k : Nat) : PureOk Try.prog 117 (I_Sched_find_G k) :=
  pureOk_of_ev (E_I_Sched_find_ok k) Try.func117 (by kernel_rfl) (by kernel_rfl) I_Sched_find_args I_Sched_find_argD
    (fun l a h => by unfold I_Sched_find_argD at h; split at h <;> first | (cases h; rfl) | cases h) (fun a => rfl) (lpgood_none (by kernel_rfl))
    (fun o r h => by unfold I_Sched_find_dec at h; split at h <;> first | (cases h; rfl) | cases h) (I_Sched_find_ev k)
def o_I_Sched_find (k : Nat) : Orc := pureOrc [.agg [(.int .i64), (.int .i64), (.int .i64), (.sl (.st .task)), (.int .i64), (.int .i64), (.int .i64), (.int .i64)], .one (.int .i64)] (I_Sched_find_G k)
theorem o_I_Sched_find_ok (k : Nat) : OrcOk Try.prog 117 (o_I_Sched_find k) := pureOrc_ok (I_Sched_find_ok k)
/-! ### 110 loop.example/g00778/impl.SchedOk -/
noncomputable def E_I_SchedOk (k : Nat) : Env := { P := Try.prog, tt := tt, orc := fun g => cond (Nat.beq g 84) (o_I_in k) (cond (Nat.beq g 117) (o_I_Sched_find k) (cond (Nat.beq g 163) (o_I_isTick k) (cond (Nat.beq g 164) (o_I_Sched_areTasks k) (noOrc)))) }
theorem E_I_SchedOk_ok (k : Nat) : EnvOk (E_I_SchedOk k) := fun g => (orc_cond (o_I_in_ok k) (orc_cond (o_I_Sched_find_ok k) (orc_cond (o_I_isTick_ok k) (orc_cond (o_I_Sched_areTasks_ok k) (noOrc_ok _ _)))))
noncomputable def c_I_SchedOk : Code := (Try.f110.body).getD .skip
def LP_I_SchedOk (ρ : Type) (k : Nat) : Nat → Ev ρ → Ev ρ := fun _ _ _ _ => none
def I_SchedOk_args (a : Sched) : List Arg := [.agg [.int .i64 a.now, .int .i64 a.slack, .int .i64 a.age, .sl (.st .task) a.tasks, .int .i64 a.run, .int .i64 a.left, .int .i64 a.turns, .int .i64 a.next]]
def I_SchedOk_argD (l : List Arg) : Option (Sched) := match l with
  | [.agg [.int .i64 b0_0, .int .i64 b0_1, .int .i64 b0_2, .sl (.st .task) b0_3, .int .i64 b0_4, .int .i64 b0_5, .int .i64 b0_6, .int .i64 b0_7]] => some (⟨b0_0, b0_1, b0_2, b0_3, b0_4, b0_5, b0_6, b0_7⟩ : Sched)
  | _ => none
def I_SchedOk_enc (r : Bool) : Out := (.r [] (.bool r), [])
def I_SchedOk_dec (o : Out) : Option (Bool) := match o with
  | (.r [] (.bool z1), []) => some z1
  | _ => none
def I_SchedOk_G (k : Nat) : PG := fun _ l K => (I_SchedOk_argD l).bind fun a => (I_SchedOk k a).bind fun r => K (I_SchedOk_enc r)
theorem I_SchedOk_ev (k : Nat) (a : Sched) : ev (E_I_SchedOk k) (LP_I_SchedOk (Bool) k) 0 c_I_SchedOk (st0 Try.f110 (I_SchedOk_args a)) (fin Try.prog Try.f110 (.sc) I_SchedOk_dec) = I_SchedOk k a := by kernel_rfl
theorem I_SchedOk_ok (k : Nat) : PureOk Try.prog 110 (I_SchedOk_G k) :=
  pureOk_of_ev (E_I_SchedOk_ok k) Try.func110 (by kernel_rfl) (by kernel_rfl) I_SchedOk_args I_SchedOk_argD
    (fun l a h => by unfold I_SchedOk_argD at h; split at h <;> first | (cases h; rfl) | cases h) (fun a => rfl) (lpgood_none (by kernel_rfl))
    (fun o r h => by unfold I_SchedOk_dec at h; split at h <;> first | (cases h; rfl) | cases h) (I_SchedOk_ev k)
def o_I_SchedOk (k : Nat) : Orc := pureOrc [.agg [(.int .i64), (.int .i64), (.int .i64), (.sl (.st .task)), (.int .i64), (.int .i64), (.int .i64), (.int .i64)]] (I_SchedOk_G k)
theorem o_I_SchedOk_ok (k : Nat) : OrcOk Try.prog 110 (o_I_SchedOk k) := pureOrc_ok (I_SchedOk_ok k)
/-! ### 80 loop.example/g00778/impl.NewSched -/
noncomputable def E_I_NewSched (k : Nat) : Env := { P := Try.prog, tt := tt, orc := fun g => cond (Nat.beq g 110) (o_I_SchedOk k) (noOrc) }
theorem E_I_NewSched_ok (k : Nat) : EnvOk (E_I_NewSched k) := fun g => (orc_cond (o_I_SchedOk_ok k) (noOrc_ok _ _))
noncomputable def c_I_NewSched : Code := (Try.f80.body).getD .skip
def LP_I_NewSched (ρ : Type) (k : Nat) : Nat → Ev ρ → Ev ρ := fun _ _ _ _ => none
def I_NewSched_args (a : Int × Int) : List Arg := [.one (.int .i64 a.1), .one (.int .i64 a.2)]
def I_NewSched_argD (l : List Arg) : Option (Int × Int) := match l with
  | [.one (.int .i64 b0), .one (.int .i64 b1)] => some (b0, b1)
  | _ => none
def I_NewSched_enc (r : Sched × Bool) : Out := (.tup [.agg [.r [] (.int .i64 r.1.now), .r [] (.int .i64 r.1.slack), .r [] (.int .i64 r.1.age), .own 0, .r [] (.int .i64 r.1.run), .r [] (.int .i64 r.1.left), .r [] (.int .i64 r.1.turns), .r [] (.int .i64 r.1.next)], .r [] (.bool r.2)], [.arr none (.st .task) r.1.tasks])
def I_NewSched_dec (o : Out) : Option (Sched × Bool) := match o with
  | (.tup [.agg [.r [] (.int .i64 z1), .r [] (.int .i64 z2), .r [] (.int .i64 z3), .own 0, .r [] (.int .i64 z5), .r [] (.int .i64 z6), .r [] (.int .i64 z7), .r [] (.int .i64 z8)], .r [] (.bool z9)], [.arr none (.st .task) z4]) => some ((⟨z1, z2, z3, z4, z5, z6, z7, z8⟩ : Sched), z9)
  | _ => none
def I_NewSched_G (k : Nat) : PG := fun _ l K => (I_NewSched_argD l).bind fun a => (I_NewSched k a.1 a.2).bind fun r => K (I_NewSched_enc r)
theorem I_NewSched_ev (k : Nat) (a : Int × Int) : ev (E_I_NewSched k) (LP_I_NewSched (Sched × Bool) k) 0 c_I_NewSched (st0 Try.f80 (I_NewSched_args a)) (fin Try.prog Try.f80 (.tup [.agg [.sc, .sc, .sc, .own (.st .task), .sc, .sc, .sc, .sc], .sc]) I_NewSched_dec) = I_NewSched k a.1 a.2 := by kernel_rfl
theorem I_NewSched_ok (k : Nat) : PureOk Try.prog 80 (I_NewSched_G k) :=
  pureOk_of_ev (E_I_NewSched_ok k) Try.func80 (by kernel_rfl) (by kernel_rfl) I_NewSched_args I_NewSched_argD
    (fun l a h => by unfold I_NewSched_argD at h; split at h <;> first | (cases h; rfl) | cases h) (fun a => rfl) (lpgood_none (by kernel_rfl))
    (fun o r h => by unfold I_NewSched_dec at h; split at h <;> first | (cases h; rfl) | cases h) (I_NewSched_ev k)
def o_I_NewSched (k : Nat) : Orc := pureOrc [.one (.int .i64), .one (.int .i64)] (I_NewSched_G k)
theorem o_I_NewSched_ok (k : Nat) : OrcOk Try.prog 80 (o_I_NewSched k) := pureOrc_ok (I_NewSched_ok k)
/-! ### 108 slices.Clone[[]int,int] -/
noncomputable def E_slices_Clone_lint_int (k : Nat) : Env := { P := Try.prog, tt := tt, orc := fun g => noOrc }
theorem E_slices_Clone_lint_int_ok (k : Nat) : EnvOk (E_slices_Clone_lint_int k) := fun g => (noOrc_ok _ _)
noncomputable def c_slices_Clone_lint_int : Code := (Try.f108.body).getD .skip
def LP_slices_Clone_lint_int (ρ : Type) (k : Nat) : Nat → Ev ρ → Ev ρ := fun _ _ _ _ => none
def slices_Clone_lint_int_args (a : List Int) : List Arg := [.one (.sl (.int .i64) a)]
def slices_Clone_lint_int_argD (l : List Arg) : Option (List Int) := match l with
  | [.one (.sl (.int .i64) b0)] => some b0
  | _ => none
def slices_Clone_lint_int_enc (r : List Int) : Out := (.own 0, [.arr none (.int .i64) r])
def slices_Clone_lint_int_dec (o : Out) : Option (List Int) := match o with
  | (.own 0, [.arr none (.int .i64) z1]) => some z1
  | _ => none
def slices_Clone_lint_int_G (k : Nat) : PG := fun _ l K => (slices_Clone_lint_int_argD l).bind fun a => (slices_Clone_lint_int k a).bind fun r => K (slices_Clone_lint_int_enc r)
theorem slices_Clone_lint_int_ev (k : Nat) (a : List Int) : ev (E_slices_Clone_lint_int k) (LP_slices_Clone_lint_int (List Int) k) 0 c_slices_Clone_lint_int (st0 Try.f108 (slices_Clone_lint_int_args a)) (fin Try.prog Try.f108 (.own (.int .i64)) slices_Clone_lint_int_dec) = slices_Clone_lint_int k a := by kernel_rfl
theorem slices_Clone_lint_int_ok (k : Nat) : PureOk Try.prog 108 (slices_Clone_lint_int_G k) :=
  pureOk_of_ev (E_slices_Clone_lint_int_ok k) Try.func108 (by kernel_rfl) (by kernel_rfl) slices_Clone_lint_int_args slices_Clone_lint_int_argD
    (fun l a h => by unfold slices_Clone_lint_int_argD at h; split at h <;> first | (cases h; rfl) | cases h) (fun a => rfl) (lpgood_none (by kernel_rfl))
    (fun o r h => by unfold slices_Clone_lint_int_dec at h; split at h <;> first | (cases h; rfl) | cases h) (slices_Clone_lint_int_ev k)
def o_slices_Clone_lint_int (k : Nat) : Orc := pureOrc [.one (.sl (.int .i64))] (slices_Clone_lint_int_G k)
theorem o_slices_Clone_lint_int_ok (k : Nat) : OrcOk Try.prog 108 (o_slices_Clone_lint_int k) := pureOrc_ok (slices_Clone_lint_int_ok k)
/-! ### 109 (loop.example/g00778/impl.Sched).copied -/
noncomputable def E_I_Sched_copied (k : Nat) : Env := { P := Try.prog, tt := tt, orc := fun g => cond (Nat.beq g 108) (o_slices_Clone_lint_int k) (noOrc) }
theorem E_I_Sched_copied_ok (k : Nat) : EnvOk (E_I_Sched_copied k) := fun g => (orc_cond (o_slices_Clone_lint_int_ok k) (noOrc_ok _ _))
noncomputable def c_I_Sched_copied : Code := (Try.f109.body).getD .skip
noncomputable def b_I_Sched_copied_0 : Code := ((loopsIn 0 c_I_Sched_copied).getD 0 (0, .skip)).2
def I_Sched_copied_g0_keep : List Nat := [1, 2, 9, 10, 11]
def I_Sched_copied_g0_co : List (Where × Co) := [((.pbox 1 3), (.nilOwn false (.st .task)))]
def I_Sched_copied_g0_kx : Ex → List Nat
  | .exit j => cond (Nat.beq j 0) [1, 2] []
  | .ret => []
  | .normal => []
def I_Sched_copied_g0_cx : Ex → List (Where × Co)
  | .exit j => cond (Nat.beq j 0) [] []
  | .ret => []
  | .normal => []
def I_Sched_copied_g0_tm (pv : (List Task × Int × Int × Int × Int × Int × Int × Int × Int × Int × Int × Int × Int × Int × Int × Int) × (Int × List Task)) : St := { slots := [(1, .ptr 0 0 0), (2, .ptr 1 0 0), (9, .r [] (.sl (.st .task) pv.1.1)), (10, .r [] (.int .i64 pv.1.2.1)), (11, .r [] (.int .i64 pv.2.1))], heap := [(0, .box [.r [] (.int .i64 pv.1.2.2.1), .r [] (.int .i64 pv.1.2.2.2.1), .r [] (.int .i64 pv.1.2.2.2.2.1), .own 2, .r [] (.int .i64 pv.1.2.2.2.2.2.1), .r [] (.int .i64 pv.1.2.2.2.2.2.2.1), .r [] (.int .i64 pv.1.2.2.2.2.2.2.2.1), .r [] (.int .i64 pv.1.2.2.2.2.2.2.2.2.1)]), (1, .box [.r [] (.int .i64 pv.1.2.2.2.2.2.2.2.2.2.1), .r [] (.int .i64 pv.1.2.2.2.2.2.2.2.2.2.2.1), .r [] (.int .i64 pv.1.2.2.2.2.2.2.2.2.2.2.2.1), .nilS, .r [] (.int .i64 pv.1.2.2.2.2.2.2.2.2.2.2.2.2.1), .r [] (.int .i64 pv.1.2.2.2.2.2.2.2.2.2.2.2.2.2.1), .r [] (.int .i64 pv.1.2.2.2.2.2.2.2.2.2.2.2.2.2.2.1), .r [] (.int .i64 pv.1.2.2.2.2.2.2.2.2.2.2.2.2.2.2.2)]), (2, .arr none (.st .task) pv.2.2)], nid := 3, n := 27, gh := [] }
def I_Sched_copied_g0_dec (nf : NF) : Option ((List Task × Int × Int × Int × Int × Int × Int × Int × Int × Int × Int × Int × Int × Int × Int × Int) × (Int × List Task)) := match nf with
  | ([.ptr 0 0 0, .ptr 1 0 0, .r [] (.sl (.st .task) w0), .r [] (.int .i64 w1), .r [] (.int .i64 w2)], [.box [.r [] (.int .i64 w3), .r [] (.int .i64 w4), .r [] (.int .i64 w5), .own 2, .r [] (.int .i64 w6), .r [] (.int .i64 w7), .r [] (.int .i64 w8), .r [] (.int .i64 w9)], .box [.r [] (.int .i64 w10), .r [] (.int .i64 w11), .r [] (.int .i64 w12), .nilS, .r [] (.int .i64 w13), .r [] (.int .i64 w14), .r [] (.int .i64 w15), .r [] (.int .i64 w16)], .arr none (.st .task) w17], []) => some ((w0, w1, w3, w4, w5, w6, w7, w8, w9, w10, w11, w12, w13, w14, w15, w16), (w2, w17))
  | _ => none
theorem I_Sched_copied_g0_hd (nf : NF) (v : (List Task × Int × Int × Int × Int × Int × Int × Int × Int × Int × Int × Int × Int × Int × Int × Int) × (Int × List Task)) (h : I_Sched_copied_g0_dec nf = some v) : denorm I_Sched_copied_g0_keep 27 nf = I_Sched_copied_g0_tm v := by
  unfold I_Sched_copied_g0_dec at h
  split at h
  · cases h; rfl
  · cases h
def I_Sched_copied_g0_x0 (p : List Task × Int × Int × Int × Int × Int × Int × Int × Int × Int × Int × Int × Int × Int × Int × Int) (x : List Task) : St := { slots := [(1, .ptr 0 0 0), (2, .ptr 1 0 0)], heap := [(0, .box [.r [] (.int .i64 p.2.2.1), .r [] (.int .i64 p.2.2.2.1), .r [] (.int .i64 p.2.2.2.2.1), .own 2, .r [] (.int .i64 p.2.2.2.2.2.1), .r [] (.int .i64 p.2.2.2.2.2.2.1), .r [] (.int .i64 p.2.2.2.2.2.2.2.1), .r [] (.int .i64 p.2.2.2.2.2.2.2.2.1)]), (1, .box [.r [] (.int .i64 p.2.2.2.2.2.2.2.2.2.1), .r [] (.int .i64 p.2.2.2.2.2.2.2.2.2.2.1), .r [] (.int .i64 p.2.2.2.2.2.2.2.2.2.2.2.1), .nilS, .r [] (.int .i64 p.2.2.2.2.2.2.2.2.2.2.2.2.1), .r [] (.int .i64 p.2.2.2.2.2.2.2.2.2.2.2.2.2.1), .r [] (.int .i64 p.2.2.2.2.2.2.2.2.2.2.2.2.2.2.1), .r [] (.int .i64 p.2.2.2.2.2.2.2.2.2.2.2.2.2.2.2)]), (2, .arr none (.st .task) x)], nid := 3, n := 27, gh := [] }
def LP_I_Sched_copied (ρ : Type) (k : Nat) : Nat → Ev ρ → Ev ρ := fun id f => cond (Nat.beq id 0) (loopOrc I_Sched_copied_g0_keep I_Sched_copied_g0_co (fun n nf => cond (Nat.beq n 27) (I_Sched_copied_g0_dec nf) none) fun pv K => iter (fun v next => I_Sched_copied_g0 k pv.1 v next (fun x => K (.exit 0) (I_Sched_copied_g0_x0 pv.1 x))) k pv.2) ((fun _ _ _ _ => none) id f)
theorem I_Sched_copied_g0_round {ρ : Type} (k : Nat) (p : List Task × Int × Int × Int × Int × Int × Int × Int × Int × Int × Int × Int × Int × Int × Int × Int) (v : Int × List Task) (K K1 : Ex → St → Option ρ) : ev (E_I_Sched_copied k) (LP_I_Sched_copied ρ k) 0 b_I_Sched_copied_0 (I_Sched_copied_g0_tm (p, v)) (fun e st' => match e with
    | .normal => (normC I_Sched_copied_g0_keep I_Sched_copied_g0_co st').bind fun nf => K1 .normal (denorm I_Sched_copied_g0_keep st'.n nf)
    | e => (normC (I_Sched_copied_g0_kx e) (I_Sched_copied_g0_cx e) st').bind fun nf => K e (denorm (I_Sched_copied_g0_kx e) st'.n nf)) = I_Sched_copied_g0 k p v (fun v' => K1 .normal (I_Sched_copied_g0_tm (p, v'))) (fun x => K (.exit 0) (I_Sched_copied_g0_x0 p x)) := by kernel_rfl
theorem I_Sched_copied_g0_ok {ρ : Type} (k : Nat) : Sound Try.prog (.loop b_I_Sched_copied_0) (LP_I_Sched_copied ρ k 0 fun st K => ev (E_I_Sched_copied k) (LP_I_Sched_copied ρ k) 0 b_I_Sched_copied_0 st K) :=
  loop_ok (ev_sound (E_I_Sched_copied_ok k) b_I_Sched_copied_0 0 (lpgood_none (by kernel_rfl))) I_Sched_copied_g0_kx I_Sched_copied_g0_cx k (g := fun p v next K => I_Sched_copied_g0 k p v next (fun x => K (.exit 0) (I_Sched_copied_g0_x0 p x))) (dec_at I_Sched_copied_g0_hd) (fun p v K K1 => I_Sched_copied_g0_round k p v K K1)
def I_Sched_copied_args (a : Sched) : List Arg := [.agg [.int .i64 a.now, .int .i64 a.slack, .int .i64 a.age, .sl (.st .task) a.tasks, .int .i64 a.run, .int .i64 a.left, .int .i64 a.turns, .int .i64 a.next]]
def I_Sched_copied_argD (l : List Arg) : Option (Sched) := match l with
  | [.agg [.int .i64 b0_0, .int .i64 b0_1, .int .i64 b0_2, .sl (.st .task) b0_3, .int .i64 b0_4, .int .i64 b0_5, .int .i64 b0_6, .int .i64 b0_7]] => some (⟨b0_0, b0_1, b0_2, b0_3, b0_4, b0_5, b0_6, b0_7⟩ : Sched)
  | _ => none
def I_Sched_copied_enc (r : Sched) : Out := (.agg [.r [] (.int .i64 r.now), .r [] (.int .i64 r.slack), .r [] (.int .i64 r.age), .own 0, .r [] (.int .i64 r.run), .r [] (.int .i64 r.left), .r [] (.int .i64 r.turns), .r [] (.int .i64 r.next)], [.arr none (.st .task) r.tasks])
def I_Sched_copied_dec (o : Out) : Option (Sched) := match o with
  | (.agg [.r [] (.int .i64 z1), .r [] (.int .i64 z2), .r [] (.int .i64 z3), .own 0, .r [] (.int .i64 z5), .r [] (.int .i64 z6), .r [] (.int .i64 z7), .r [] (.int .i64 z8)], [.arr none (.st .task) z4]) => some (⟨z1, z2, z3, z4, z5, z6, z7, z8⟩ : Sched)
  | _ => none
def I_Sched_copied_G (k : Nat) : PG := fun _ l K => (I_Sched_copied_argD l).bind fun a => (I_Sched_copied k a).bind fun r => K (I_Sched_copied_enc r)
theorem I_Sched_copied_ev (k : Nat) (a : Sched) : ev (E_I_Sched_copied k) (LP_I_Sched_copied (Sched) k) 0 c_I_Sched_copied (st0 Try.f109 (I_Sched_copied_args a)) (fin Try.prog Try.f109 (.agg [.sc, .sc, .sc, .own (.st .task), .sc, .sc, .sc, .sc]) I_Sched_copied_dec) = I_Sched_copied k a := by kernel_rfl
theorem I_Sched_copied_ok (k : Nat) : PureOk Try.prog 109 (I_Sched_copied_G k) :=
  pureOk_of_ev (E_I_Sched_copied_ok k) Try.func109 (by kernel_rfl) (by kernel_rfl) I_Sched_copied_args I_Sched_copied_argD
    (fun l a h => by unfold I_Sched_copied_argD at h; split at h <;> first | (cases h; rfl) | cases h) (fun a => rfl) (lpgood_of (l := [(0, b_I_Sched_copied_0)]) (by kernel_rfl) ⟨I_Sched_copied_g0_ok k, trivial⟩)
    (fun o r h => by unfold I_Sched_copied_dec at h; split at h <;> first | (cases h; rfl) | cases h) (I_Sched_copied_ev k)
def o_I_Sched_copied (k : Nat) : Orc := pureOrc [.agg [(.int .i64), (.int .i64), (.int .i64), (.sl (.st .task)), (.int .i64), (.int .i64), (.int .i64), (.int .i64)]] (I_Sched_copied_G k)
theorem o_I_Sched_copied_ok (k : Nat) : OrcOk Try.prog 109 (o_I_Sched_copied k) := pureOrc_ok (I_Sched_copied_ok k)
/-! ### 146 (loop.example/g00778/impl.Sched).isLate -/
noncomputable def E_I_Sched_isLate (k : Nat) : Env := { P := Try.prog, tt := tt, orc := fun g => noOrc }
theorem E_I_Sched_isLate_ok (k : Nat) : EnvOk (E_I_Sched_isLate k) := fun g => (noOrc_ok _ _)
noncomputable def c_I_Sched_isLate : Code := (Try.f146.body).getD .skip
def LP_I_Sched_isLate (ρ : Type) (k : Nat) : Nat → Ev ρ → Ev ρ := fun _ _ _ _ => none
def I_Sched_isLate_args (a : Sched × Task) : List Arg := [.agg [.int .i64 a.1.now, .int .i64 a.1.slack, .int .i64 a.1.age, .sl (.st .task) a.1.tasks, .int .i64 a.1.run, .int .i64 a.1.left, .int .i64 a.1.turns, .int .i64 a.1.next], .agg [.int .i64 a.2.id, .sl (.int .i64) a.2.costs, .int .i64 a.2.at_, .int .i64 a.2.due, .int .i64 a.2.born]]
def I_Sched_isLate_argD (l : List Arg) : Option (Sched × Task) := match l with
  | [.agg [.int .i64 b0_0, .int .i64 b0_1, .int .i64 b0_2, .sl (.st .task) b0_3, .int .i64 b0_4, .int .i64 b0_5, .int .i64 b0_6, .int .i64 b0_7], .agg [.int .i64 b1_0, .sl (.int .i64) b1_1, .int .i64 b1_2, .int .i64 b1_3, .int .i64 b1_4]] => some ((⟨b0_0, b0_1, b0_2, b0_3, b0_4, b0_5, b0_6, b0_7⟩ : Sched), (⟨b1_0, b1_1, b1_2, b1_3, b1_4⟩ : Task))
  | _ => none
def I_Sched_isLate_enc (r : Bool) : Out := (.r [] (.bool r), [])
def I_Sched_isLate_dec (o : Out) : Option (Bool) := match o with
  | (.r [] (.bool z1), []) => some z1
  | _ => none
def I_Sched_isLate_G (k : Nat) : PG := fun _ l K => (I_Sched_isLate_argD l).bind fun a => (I_Sched_isLate k a.1 a.2).bind fun r => K (I_Sched_isLate_enc r)
theorem I_Sched_isLate_ev (k : Nat) (a : Sched × Task) : ev (E_I_Sched_isLate k) (LP_I_Sched_isLate (Bool) k) 0 c_I_Sched_isLate (st0 Try.f146 (I_Sched_isLate_args a)) (fin Try.prog Try.f146 (.sc) I_Sched_isLate_dec) = I_Sched_isLate k a.1 a.2 := by kernel_rfl
theorem I_Sched_isLate_ok (k : Nat) : PureOk Try.prog 146 (I_Sched_isLate_G k) :=
  pureOk_of_ev (E_I_Sched_isLate_ok k) Try.func146 (by kernel_rfl) (by kernel_rfl) I_Sched_isLate_args I_Sched_isLate_argD
    (fun l a h => by unfold I_Sched_isLate_argD at h; split at h <;> first | (cases h; rfl) | cases h) (fun a => rfl) (lpgood_none (by kernel_rfl))
    (fun o r h => by unfold I_Sched_isLate_dec at h; split at h <;> first | (cases h; rfl) | cases h) (I_Sched_isLate_ev k)
def o_I_Sched_isLate (k : Nat) : Orc := pureOrc [.agg [(.int .i64), (.int .i64), (.int .i64), (.sl (.st .task)), (.int .i64), (.int .i64), (.int .i64), (.int .i64)], .agg [(.int .i64), (.sl (.int .i64)), (.int .i64), (.int .i64), (.int .i64)]] (I_Sched_isLate_G k)
theorem o_I_Sched_isLate_ok (k : Nat) : OrcOk Try.prog 146 (o_I_Sched_isLate k) := pureOrc_ok (I_Sched_isLate_ok k)
/-! ### 196 loop.example/g00778/impl.sum -/
noncomputable def E_I_sum (k : Nat) : Env := { P := Try.prog, tt := tt, orc := fun g => noOrc }
theorem E_I_sum_ok (k : Nat) : EnvOk (E_I_sum k) := fun g => (noOrc_ok _ _)
noncomputable def c_I_sum : Code := (Try.f196.body).getD .skip
noncomputable def b_I_sum_0 : Code := ((loopsIn 0 c_I_sum).getD 0 (0, .skip)).2
def I_sum_g0_keep : List Nat := [3, 6, 7, 8]
def I_sum_g0_co : List (Where × Co) := []
def I_sum_g0_kx : Ex → List Nat
  | .exit j => cond (Nat.beq j 0) [3] []
  | .ret => []
  | .normal => []
def I_sum_g0_cx : Ex → List (Where × Co)
  | .exit j => cond (Nat.beq j 0) [] []
  | .ret => []
  | .normal => []
def I_sum_g0_tm (pv : (List Int × Int) × (Int × Int)) : St := { slots := [(3, .r [] (.int .i64 pv.2.1)), (6, .r [] (.sl (.int .i64) pv.1.1)), (7, .r [] (.int .i64 pv.1.2)), (8, .r [] (.int .i64 pv.2.2))], heap := [], nid := 0, n := 17, gh := [] }
def I_sum_g0_dec (nf : NF) : Option ((List Int × Int) × (Int × Int)) := match nf with
  | ([.r [] (.int .i64 w0), .r [] (.sl (.int .i64) w1), .r [] (.int .i64 w2), .r [] (.int .i64 w3)], [], []) => some ((w1, w2), (w0, w3))
  | _ => none
theorem I_sum_g0_hd (nf : NF) (v : (List Int × Int) × (Int × Int)) (h : I_sum_g0_dec nf = some v) : denorm I_sum_g0_keep 17 nf = I_sum_g0_tm v := by
  unfold I_sum_g0_dec at h
  split at h
  · cases h; rfl
  · cases h
def I_sum_g0_x0 (p : List Int × Int) (x : Int) : St := { slots := [(3, .r [] (.int .i64 x))], heap := [], nid := 0, n := 17, gh := [] }
def LP_I_sum (ρ : Type) (k : Nat) : Nat → Ev ρ → Ev ρ := fun id f => cond (Nat.beq id 0) (loopOrc I_sum_g0_keep I_sum_g0_co (fun n nf => cond (Nat.beq n 17) (I_sum_g0_dec nf) none) fun pv K => iter (fun v next => I_sum_g0 k pv.1 v next (fun x => K (.exit 0) (I_sum_g0_x0 pv.1 x))) k pv.2) ((fun _ _ _ _ => none) id f)
theorem I_sum_g0_round {ρ : Type} (k : Nat) (p : List Int × Int) (v : Int × Int) (K K1 : Ex → St → Option ρ) : ev (E_I_sum k) (LP_I_sum ρ k) 0 b_I_sum_0 (I_sum_g0_tm (p, v)) (fun e st' => match e with
    | .normal => (normC I_sum_g0_keep I_sum_g0_co st').bind fun nf => K1 .normal (denorm I_sum_g0_keep st'.n nf)
    | e => (normC (I_sum_g0_kx e) (I_sum_g0_cx e) st').bind fun nf => K e (denorm (I_sum_g0_kx e) st'.n nf)) = I_sum_g0 k p v (fun v' => K1 .normal (I_sum_g0_tm (p, v'))) (fun x => K (.exit 0) (I_sum_g0_x0 p x)) := by kernel_rfl
theorem I_sum_g0_ok {ρ : Type} (k : Nat) : Sound Try.prog (.loop b_I_sum_0) (LP_I_sum ρ k 0 fun st K => ev (E_I_sum k) (LP_I_sum ρ k) 0 b_I_sum_0 st K) :=
  loop_ok (ev_sound (E_I_sum_ok k) b_I_sum_0 0 (lpgood_none (by kernel_rfl))) I_sum_g0_kx I_sum_g0_cx k (g := fun p v next K => I_sum_g0 k p v next (fun x => K (.exit 0) (I_sum_g0_x0 p x))) (dec_at I_sum_g0_hd) (fun p v K K1 => I_sum_g0_round k p v K K1)
def I_sum_args (a : List Int) : List Arg := [.one (.sl (.int .i64) a)]
def I_sum_argD (l : List Arg) : Option (List Int) := match l with
  | [.one (.sl (.int .i64) b0)] => some b0
  | _ => none
def I_sum_enc (r : Int) : Out := (.r [] (.int .i64 r), [])
def I_sum_dec (o : Out) : Option (Int) := match o with
  | (.r [] (.int .i64 z1), []) => some z1
  | _ => none
def I_sum_G (k : Nat) : PG := fun _ l K => (I_sum_argD l).bind fun a => (I_sum k a).bind fun r => K (I_sum_enc r)
theorem I_sum_ev (k : Nat) (a : List Int) : ev (E_I_sum k) (LP_I_sum (Int) k) 0 c_I_sum (st0 Try.f196 (I_sum_args a)) (fin Try.prog Try.f196 (.sc) I_sum_dec) = I_sum k a := by kernel_rfl
theorem I_sum_ok (k : Nat) : PureOk Try.prog 196 (I_sum_G k) :=
  pureOk_of_ev (E_I_sum_ok k) Try.func196 (by kernel_rfl) (by kernel_rfl) I_sum_args I_sum_argD
    (fun l a h => by unfold I_sum_argD at h; split at h <;> first | (cases h; rfl) | cases h) (fun a => rfl) (lpgood_of (l := [(0, b_I_sum_0)]) (by kernel_rfl) ⟨I_sum_g0_ok k, trivial⟩)
    (fun o r h => by unfold I_sum_dec at h; split at h <;> first | (cases h; rfl) | cases h) (I_sum_ev k)
def o_I_sum (k : Nat) : Orc := pureOrc [.one (.sl (.int .i64))] (I_sum_G k)
theorem o_I_sum_ok (k : Nat) : OrcOk Try.prog 196 (o_I_sum k) := pureOrc_ok (I_sum_ok k)
/-! ### 187 (loop.example/g00778/impl.Sched).remain -/
noncomputable def E_I_Sched_remain (k : Nat) : Env := { P := Try.prog, tt := tt, orc := fun g => cond (Nat.beq g 196) (o_I_sum k) (noOrc) }
theorem E_I_Sched_remain_ok (k : Nat) : EnvOk (E_I_Sched_remain k) := fun g => (orc_cond (o_I_sum_ok k) (noOrc_ok _ _))
noncomputable def c_I_Sched_remain : Code := (Try.f187.body).getD .skip
def LP_I_Sched_remain (ρ : Type) (k : Nat) : Nat → Ev ρ → Ev ρ := fun _ _ _ _ => none
def I_Sched_remain_args (a : Sched × Task) : List Arg := [.agg [.int .i64 a.1.now, .int .i64 a.1.slack, .int .i64 a.1.age, .sl (.st .task) a.1.tasks, .int .i64 a.1.run, .int .i64 a.1.left, .int .i64 a.1.turns, .int .i64 a.1.next], .agg [.int .i64 a.2.id, .sl (.int .i64) a.2.costs, .int .i64 a.2.at_, .int .i64 a.2.due, .int .i64 a.2.born]]
def I_Sched_remain_argD (l : List Arg) : Option (Sched × Task) := match l with
  | [.agg [.int .i64 b0_0, .int .i64 b0_1, .int .i64 b0_2, .sl (.st .task) b0_3, .int .i64 b0_4, .int .i64 b0_5, .int .i64 b0_6, .int .i64 b0_7], .agg [.int .i64 b1_0, .sl (.int .i64) b1_1, .int .i64 b1_2, .int .i64 b1_3, .int .i64 b1_4]] => some ((⟨b0_0, b0_1, b0_2, b0_3, b0_4, b0_5, b0_6, b0_7⟩ : Sched), (⟨b1_0, b1_1, b1_2, b1_3, b1_4⟩ : Task))
  | _ => none
def I_Sched_remain_enc (r : Int) : Out := (.r [] (.int .i64 r), [])
def I_Sched_remain_dec (o : Out) : Option (Int) := match o with
  | (.r [] (.int .i64 z1), []) => some z1
  | _ => none
def I_Sched_remain_G (k : Nat) : PG := fun _ l K => (I_Sched_remain_argD l).bind fun a => (I_Sched_remain k a.1 a.2).bind fun r => K (I_Sched_remain_enc r)
theorem I_Sched_remain_ev (k : Nat) (a : Sched × Task) : ev (E_I_Sched_remain k) (LP_I_Sched_remain (Int) k) 0 c_I_Sched_remain (st0 Try.f187 (I_Sched_remain_args a)) (fin Try.prog Try.f187 (.sc) I_Sched_remain_dec) = I_Sched_remain k a.1 a.2 := by kernel_rfl
theorem I_Sched_remain_ok (k : Nat) : PureOk Try.prog 187 (I_Sched_remain_G k) :=
  pureOk_of_ev (E_I_Sched_remain_ok k) Try.func187 (by kernel_rfl) (by kernel_rfl) I_Sched_remain_args I_Sched_remain_argD
    (fun l a h => by unfold I_Sched_remain_argD at h; split at h <;> first | (cases h; rfl) | cases h) (fun a => rfl) (lpgood_none (by kernel_rfl))
    (fun o r h => by unfold I_Sched_remain_dec at h; split at h <;> first | (cases h; rfl) | cases h) (I_Sched_remain_ev k)
def o_I_Sched_remain (k : Nat) : Orc := pureOrc [.agg [(.int .i64), (.int .i64), (.int .i64), (.sl (.st .task)), (.int .i64), (.int .i64), (.int .i64), (.int .i64)], .agg [(.int .i64), (.sl (.int .i64)), (.int .i64), (.int .i64), (.int .i64)]] (I_Sched_remain_G k)
theorem o_I_Sched_remain_ok (k : Nat) : OrcOk Try.prog 187 (o_I_Sched_remain k) := pureOrc_ok (I_Sched_remain_ok k)
/-! ### 147 (loop.example/g00778/impl.Sched).demand -/
noncomputable def E_I_Sched_demand (k : Nat) : Env := { P := Try.prog, tt := tt, orc := fun g => cond (Nat.beq g 187) (o_I_Sched_remain k) (noOrc) }
theorem E_I_Sched_demand_ok (k : Nat) : EnvOk (E_I_Sched_demand k) := fun g => (orc_cond (o_I_Sched_remain_ok k) (noOrc_ok _ _))
noncomputable def c_I_Sched_demand : Code := (Try.f147.body).getD .skip
noncomputable def b_I_Sched_demand_0 : Code := ((loopsIn 0 c_I_Sched_demand).getD 0 (0, .skip)).2
def I_Sched_demand_g0_keep : List Nat := [1, 2, 5, 9, 10, 11]
def I_Sched_demand_g0_co : List (Where × Co) := []
def I_Sched_demand_g0_kx : Ex → List Nat
  | .exit j => cond (Nat.beq j 0) [5] []
  | .ret => []
  | .normal => []
def I_Sched_demand_g0_cx : Ex → List (Where × Co)
  | .exit j => cond (Nat.beq j 0) [] []
  | .ret => []
  | .normal => []
def I_Sched_demand_g0_tm (pv : (Int × List Task × Int × Int × Int × Int × List Task × Int × Int × Int × Int) × (Int × Int)) : St := { slots := [(1, .r [] (.int .i64 pv.1.1)), (2, .ptr 0 0 0), (5, .r [] (.int .i64 pv.2.1)), (9, .r [] (.sl (.st .task) pv.1.2.1)), (10, .r [] (.int .i64 pv.1.2.2.1)), (11, .r [] (.int .i64 pv.2.2))], heap := [(0, .box [.r [] (.int .i64 pv.1.2.2.2.1), .r [] (.int .i64 pv.1.2.2.2.2.1), .r [] (.int .i64 pv.1.2.2.2.2.2.1), .r [] (.sl (.st .task) pv.1.2.2.2.2.2.2.1), .r [] (.int .i64 pv.1.2.2.2.2.2.2.2.1), .r [] (.int .i64 pv.1.2.2.2.2.2.2.2.2.1), .r [] (.int .i64 pv.1.2.2.2.2.2.2.2.2.2.1), .r [] (.int .i64 pv.1.2.2.2.2.2.2.2.2.2.2)])], nid := 1, n := 26, gh := [] }
def I_Sched_demand_g0_dec (nf : NF) : Option ((Int × List Task × Int × Int × Int × Int × List Task × Int × Int × Int × Int) × (Int × Int)) := match nf with
  | ([.r [] (.int .i64 w0), .ptr 0 0 0, .r [] (.int .i64 w1), .r [] (.sl (.st .task) w2), .r [] (.int .i64 w3), .r [] (.int .i64 w4)], [.box [.r [] (.int .i64 w5), .r [] (.int .i64 w6), .r [] (.int .i64 w7), .r [] (.sl (.st .task) w8), .r [] (.int .i64 w9), .r [] (.int .i64 w10), .r [] (.int .i64 w11), .r [] (.int .i64 w12)]], []) => some ((w0, w2, w3, w5, w6, w7, w8, w9, w10, w11, w12), (w1, w4))
  | _ => none
theorem I_Sched_demand_g0_hd (nf : NF) (v : (Int × List Task × Int × Int × Int × Int × List Task × Int × Int × Int × Int) × (Int × Int)) (h : I_Sched_demand_g0_dec nf = some v) : denorm I_Sched_demand_g0_keep 26 nf = I_Sched_demand_g0_tm v := by
  unfold I_Sched_demand_g0_dec at h
  split at h
  · cases h; rfl
  · cases h
def I_Sched_demand_g0_x0 (p : Int × List Task × Int × Int × Int × Int × List Task × Int × Int × Int × Int) (x : Int) : St := { slots := [(5, .r [] (.int .i64 x))], heap := [], nid := 0, n := 26, gh := [] }
def LP_I_Sched_demand (ρ : Type) (k : Nat) : Nat → Ev ρ → Ev ρ := fun id f => cond (Nat.beq id 0) (loopOrc I_Sched_demand_g0_keep I_Sched_demand_g0_co (fun n nf => cond (Nat.beq n 26) (I_Sched_demand_g0_dec nf) none) fun pv K => iter (fun v next => I_Sched_demand_g0 k pv.1 v next (fun x => K (.exit 0) (I_Sched_demand_g0_x0 pv.1 x))) k pv.2) ((fun _ _ _ _ => none) id f)
theorem I_Sched_demand_g0_round {ρ : Type} (k : Nat) (p : Int × List Task × Int × Int × Int × Int × List Task × Int × Int × Int × Int) (v : Int × Int) (K K1 : Ex → St → Option ρ) : ev (E_I_Sched_demand k) (LP_I_Sched_demand ρ k) 0 b_I_Sched_demand_0 (I_Sched_demand_g0_tm (p, v)) (fun e st' => match e with
    | .normal => (normC I_Sched_demand_g0_keep I_Sched_demand_g0_co st').bind fun nf => K1 .normal (denorm I_Sched_demand_g0_keep st'.n nf)
    | e => (normC (I_Sched_demand_g0_kx e) (I_Sched_demand_g0_cx e) st').bind fun nf => K e (denorm (I_Sched_demand_g0_kx e) st'.n nf)) = I_Sched_demand_g0 k p v (fun v' => K1 .normal (I_Sched_demand_g0_tm (p, v'))) (fun x => K (.exit 0) (I_Sched_demand_g0_x0 p x)) := by kernel_rfl
theorem I_Sched_demand_g0_ok {ρ : Type} (k : Nat) : Sound Try.prog (.loop b_I_Sched_demand_0) (LP_I_Sched_demand ρ k 0 fun st K => ev (E_I_Sched_demand k) (LP_I_Sched_demand ρ k) 0 b_I_Sched_demand_0 st K) :=
  loop_ok (ev_sound (E_I_Sched_demand_ok k) b_I_Sched_demand_0 0 (lpgood_none (by kernel_rfl))) I_Sched_demand_g0_kx I_Sched_demand_g0_cx k (g := fun p v next K => I_Sched_demand_g0 k p v next (fun x => K (.exit 0) (I_Sched_demand_g0_x0 p x))) (dec_at I_Sched_demand_g0_hd) (fun p v K K1 => I_Sched_demand_g0_round k p v K K1)
def I_Sched_demand_args (a : Sched × Int) : List Arg := [.agg [.int .i64 a.1.now, .int .i64 a.1.slack, .int .i64 a.1.age, .sl (.st .task) a.1.tasks, .int .i64 a.1.run, .int .i64 a.1.left, .int .i64 a.1.turns, .int .i64 a.1.next], .one (.int .i64 a.2)]
def I_Sched_demand_argD (l : List Arg) : Option (Sched × Int) := match l with
  | [.agg [.int .i64 b0_0, .int .i64 b0_1, .int .i64 b0_2, .sl (.st .task) b0_3, .int .i64 b0_4, .int .i64 b0_5, .int .i64 b0_6, .int .i64 b0_7], .one (.int .i64 b1)] => some ((⟨b0_0, b0_1, b0_2, b0_3, b0_4, b0_5, b0_6, b0_7⟩ : Sched), b1)
  | _ => none
def I_Sched_demand_enc (r : Int) : Out := (.r [] (.int .i64 r), [])
def I_Sched_demand_dec (o : Out) : Option (Int) := match o with
  | (.r [] (.int .i64 z1), []) => some z1
  | _ => none
def I_Sched_demand_G (k : Nat) : PG := fun _ l K => (I_Sched_demand_argD l).bind fun a => (I_Sched_demand k a.1 a.2).bind fun r => K (I_Sched_demand_enc r)
theorem I_Sched_demand_ev (k : Nat) (a : Sched × Int) : ev (E_I_Sched_demand k) (LP_I_Sched_demand (Int) k) 0 c_I_Sched_demand (st0 Try.f147 (I_Sched_demand_args a)) (fin Try.prog Try.f147 (.sc) I_Sched_demand_dec) = I_Sched_demand k a.1 a.2 := by kernel_rfl
theorem I_Sched_demand_ok (k : Nat) : PureOk Try.prog 147 (I_Sched_demand_G k) :=
  pureOk_of_ev (E_I_Sched_demand_ok k) Try.func147 (by kernel_rfl) (by kernel_rfl) I_Sched_demand_args I_Sched_demand_argD
    (fun l a h => by unfold I_Sched_demand_argD at h; split at h <;> first | (cases h; rfl) | cases h) (fun a => rfl) (lpgood_of (l := [(0, b_I_Sched_demand_0)]) (by kernel_rfl) ⟨I_Sched_demand_g0_ok k, trivial⟩)
    (fun o r h => by unfold I_Sched_demand_dec at h; split at h <;> first | (cases h; rfl) | cases h) (I_Sched_demand_ev k)
def o_I_Sched_demand (k : Nat) : Orc := pureOrc [.agg [(.int .i64), (.int .i64), (.int .i64), (.sl (.st .task)), (.int .i64), (.int .i64), (.int .i64), (.int .i64)], .one (.int .i64)] (I_Sched_demand_G k)
theorem o_I_Sched_demand_ok (k : Nat) : OrcOk Try.prog 147 (o_I_Sched_demand k) := pureOrc_ok (I_Sched_demand_ok k)
/-! ### 148 (loop.example/g00778/impl.Sched).block -/
noncomputable def E_I_Sched_block (k : Nat) : Env := { P := Try.prog, tt := tt, orc := fun g => cond (Nat.beq g 117) (o_I_Sched_find k) (noOrc) }
theorem E_I_Sched_block_ok (k : Nat) : EnvOk (E_I_Sched_block k) := fun g => (orc_cond (o_I_Sched_find_ok k) (noOrc_ok _ _))
noncomputable def c_I_Sched_block : Code := (Try.f148.body).getD .skip
def LP_I_Sched_block (ρ : Type) (k : Nat) : Nat → Ev ρ → Ev ρ := fun _ _ _ _ => none
def I_Sched_block_args (a : Sched × Int) : List Arg := [.agg [.int .i64 a.1.now, .int .i64 a.1.slack, .int .i64 a.1.age, .sl (.st .task) a.1.tasks, .int .i64 a.1.run, .int .i64 a.1.left, .int .i64 a.1.turns, .int .i64 a.1.next], .one (.int .i64 a.2)]
def I_Sched_block_argD (l : List Arg) : Option (Sched × Int) := match l with
  | [.agg [.int .i64 b0_0, .int .i64 b0_1, .int .i64 b0_2, .sl (.st .task) b0_3, .int .i64 b0_4, .int .i64 b0_5, .int .i64 b0_6, .int .i64 b0_7], .one (.int .i64 b1)] => some ((⟨b0_0, b0_1, b0_2, b0_3, b0_4, b0_5, b0_6, b0_7⟩ : Sched), b1)
  | _ => none
def I_Sched_block_enc (r : Int) : Out := (.r [] (.int .i64 r), [])
def I_Sched_block_dec (o : Out) : Option (Int) := match o with
  | (.r [] (.int .i64 z1), []) => some z1
  | _ => none
def I_Sched_block_G (k : Nat) : PG := fun _ l K => (I_Sched_block_argD l).bind fun a => (I_Sched_block k a.1 a.2).bind fun r => K (I_Sched_block_enc r)
theorem I_Sched_block_ev (k : Nat) (a : Sched × Int) : ev (E_I_Sched_block k) (LP_I_Sched_block (Int) k) 0 c_I_Sched_block (st0 Try.f148 (I_Sched_block_args a)) (fin Try.prog Try.f148 (.sc) I_Sched_block_dec) = I_Sched_block k a.1 a.2 := by kernel_rfl
theorem I_Sched_block_ok (k : Nat) : PureOk Try.prog 148 (I_Sched_block_G k) :=
  pureOk_of_ev (E_I_Sched_block_ok k) Try.func148 (by kernel_rfl) (by kernel_rfl) I_Sched_block_args I_Sched_block_argD
    (fun l a h => by unfold I_Sched_block_argD at h; split at h <;> first | (cases h; rfl) | cases h) (fun a => rfl) (lpgood_none (by kernel_rfl))
    (fun o r h => by unfold I_Sched_block_dec at h; split at h <;> first | (cases h; rfl) | cases h) (I_Sched_block_ev k)
def o_I_Sched_block (k : Nat) : Orc := pureOrc [.agg [(.int .i64), (.int .i64), (.int .i64), (.sl (.st .task)), (.int .i64), (.int .i64), (.int .i64), (.int .i64)], .one (.int .i64)] (I_Sched_block_G k)
theorem o_I_Sched_block_ok (k : Nat) : OrcOk Try.prog 148 (o_I_Sched_block k) := pureOrc_ok (I_Sched_block_ok k)
/-! ### 145 loop.example/g00778/impl.FitsIn$1 -/
noncomputable def E_I_FitsIn_c1_m (k : Nat) : Env := { P := Try.prog, tt := tt, orc := fun g => cond (Nat.beq g 146) (o_I_Sched_isLate k) (cond (Nat.beq g 147) (o_I_Sched_demand k) (cond (Nat.beq g 148) (o_I_Sched_block k) (noOrc))) }
theorem E_I_FitsIn_c1_m_ok (k : Nat) : EnvOk (E_I_FitsIn_c1_m k) := fun g => (orc_cond (o_I_Sched_isLate_ok k) (orc_cond (o_I_Sched_demand_ok k) (orc_cond (o_I_Sched_block_ok k) (noOrc_ok _ _))))
noncomputable def c_I_FitsIn_c1_m : Code := (Try.f145.body).getD .skip
def LP_I_FitsIn_c1_m (ρ : Type) (k : Nat) : Nat → Ev ρ → Ev ρ := fun _ _ _ _ => none
def I_FitsIn_c1_m_args (a : Task × Sched) : List SV := [.agg [.r [] (.int .i64 a.1.id), .r [] (.sl (.int .i64) a.1.costs), .r [] (.int .i64 a.1.at_), .r [] (.int .i64 a.1.due), .r [] (.int .i64 a.1.born)], .ptr 0 0 0]
def I_FitsIn_c1_m_blks (a : Task × Sched) : List Blk := [.box [.r [] (.int .i64 a.2.now), .r [] (.int .i64 a.2.slack), .r [] (.int .i64 a.2.age), .r [] (.sl (.st .task) a.2.tasks), .r [] (.int .i64 a.2.run), .r [] (.int .i64 a.2.left), .r [] (.int .i64 a.2.turns), .r [] (.int .i64 a.2.next)]]
def I_FitsIn_c1_m_argD (l : List SV) (b : List Blk) : Option (Task × Sched) := match l, b with
  | [.agg [.r [] (.int .i64 w0), .r [] (.sl (.int .i64) w1), .r [] (.int .i64 w2), .r [] (.int .i64 w3), .r [] (.int .i64 w4)], .ptr 0 0 0], [.box [.r [] (.int .i64 w5), .r [] (.int .i64 w6), .r [] (.int .i64 w7), .r [] (.sl (.st .task) w8), .r [] (.int .i64 w9), .r [] (.int .i64 w10), .r [] (.int .i64 w11), .r [] (.int .i64 w12)]] => some ((⟨w0, w1, w2, w3, w4⟩ : Task), (⟨w5, w6, w7, w8, w9, w10, w11, w12⟩ : Sched))
  | _, _ => none
def I_FitsIn_c1_m_enc (a : Task × Sched) (r : Bool) : MOut := ⟨.r [] (.bool r), [some (.box [.r [] (.int .i64 a.2.now), .r [] (.int .i64 a.2.slack), .r [] (.int .i64 a.2.age), .r [] (.sl (.st .task) a.2.tasks), .r [] (.int .i64 a.2.run), .r [] (.int .i64 a.2.left), .r [] (.int .i64 a.2.turns), .r [] (.int .i64 a.2.next)])], []⟩
def I_FitsIn_c1_m_dec (a : Task × Sched) (o : MOut) : Option (Bool) := match o with
  | ⟨.r [] (.bool z1), [some (.box [.r [] (.int .i64 z2), .r [] (.int .i64 z3), .r [] (.int .i64 z4), .r [] (.sl (.st .task) z5), .r [] (.int .i64 z6), .r [] (.int .i64 z7), .r [] (.int .i64 z8), .r [] (.int .i64 z9)])], []⟩ => cond (@sameL Int _ z2 a.2.now) (cond (@sameL Int _ z3 a.2.slack) (cond (@sameL Int _ z4 a.2.age) (cond (@sameL (List Task) _ z5 a.2.tasks) (cond (@sameL Int _ z6 a.2.run) (cond (@sameL Int _ z7 a.2.left) (cond (@sameL Int _ z8 a.2.turns) (cond (@sameL Int _ z9 a.2.next) (some z1) none) none) none) none) none) none) none) none
  | _ => none
def I_FitsIn_c1_m_G (k : Nat) : MG := fun _ l b K => (I_FitsIn_c1_m_argD l b).bind fun a => (I_FitsIn_c1_m k a.1 a.2).bind fun r => K (I_FitsIn_c1_m_enc a r)
theorem I_FitsIn_c1_m_ev (k : Nat) (a : Task × Sched) : ev (E_I_FitsIn_c1_m k) (LP_I_FitsIn_c1_m (Bool) k) 0 c_I_FitsIn_c1_m (st0M Try.f145 (I_FitsIn_c1_m_args a) (I_FitsIn_c1_m_blks a)) (finM Try.prog Try.f145 (.sc) [.box [.sc, .sc, .sc, .ro (.st .task), .sc, .sc, .sc, .sc]] (I_FitsIn_c1_m_dec a)) = I_FitsIn_c1_m k a.1 a.2 := by kernel_rfl
theorem I_FitsIn_c1_m_ok (k : Nat) : MutOk Try.prog 145 (I_FitsIn_c1_m_G k) :=
  mutOk_of_ev (E_I_FitsIn_c1_m_ok k) Try.func145 (by kernel_rfl) (by kernel_rfl) I_FitsIn_c1_m_args I_FitsIn_c1_m_blks I_FitsIn_c1_m_argD
    (fun l b a h => by unfold I_FitsIn_c1_m_argD at h; split at h <;> first | (cases h; exact ⟨rfl, rfl⟩) | cases h) (fun a => rfl) (lpgood_none (by kernel_rfl)) (fun a r => rfl)
    (fun a o r h => by unfold I_FitsIn_c1_m_dec at h; split at h <;> first | (obtain ⟨e0, e1, e2, e3, e4, e5, e6, e7, hq⟩ := dec_chk8 h; clear h; subst e0; subst e1; subst e2; subst e3; subst e4; subst e5; subst e6; subst e7; have h := hq; clear hq; cases h; rfl) | cases h) (I_FitsIn_c1_m_ev k)
def o_I_FitsIn_c1_m (k : Nat) : Orc := mutOrc [.agg [(.int .i64), (.sl (.int .i64)), (.int .i64), (.int .i64), (.int .i64)], .keep] (I_FitsIn_c1_m_G k)
theorem o_I_FitsIn_c1_m_ok (k : Nat) : OrcOk Try.prog 145 (o_I_FitsIn_c1_m k) := mutOrc_ok (I_FitsIn_c1_m_ok k)
/-! ### 167 slices.IndexFunc[[]loop.example/g00778/impl.Task,loop.example/g00778/impl.Task] -/
noncomputable def E_slices_IndexFunc_lI_Task_I_Task_m2 (k : Nat) : Env := { P := Try.prog, tt := tt, orc := fun g => cond (Nat.beq g 145) (o_I_FitsIn_c1_m k) (noOrc), wr := fun g => mem g [145], wt := true }
theorem E_slices_IndexFunc_lI_Task_I_Task_m2_ok (k : Nat) : EnvOk (E_slices_IndexFunc_lI_Task_I_Task_m2 k) := fun g => (orc_cond (o_I_FitsIn_c1_m_ok k) (noOrc_ok _ _))
noncomputable def c_slices_IndexFunc_lI_Task_I_Task_m2 : Code := (Try.f167.body).getD .skip
noncomputable def b_slices_IndexFunc_lI_Task_I_Task_m2_0 : Code := ((loopsIn 0 c_slices_IndexFunc_lI_Task_I_Task_m2).getD 0 (0, .skip)).2
def slices_IndexFunc_lI_Task_I_Task_m2_g0_keep : List Nat := [0, 1, 7, 8]
def slices_IndexFunc_lI_Task_I_Task_m2_g0_co : List (Where × Co) := []
def slices_IndexFunc_lI_Task_I_Task_m2_g0_kx : Ex → List Nat
  | .exit j => cond (Nat.beq j 0) [] []
  | .ret => [4]
  | .normal => []
def slices_IndexFunc_lI_Task_I_Task_m2_g0_cx : Ex → List (Where × Co)
  | .exit j => cond (Nat.beq j 0) [] []
  | .ret => []
  | .normal => []
def slices_IndexFunc_lI_Task_I_Task_m2_g0_tm (pv : (List Task × Int × Int × Int × Int × List Task × Int × Int × Int × Int) × (Int)) : St := { slots := [(0, .r [] (.sl (.st .task) pv.1.1)), (1, .fn (.func 145) [] [.ptr 0 0 0]), (7, .r [] (.int .i64 pv.1.2.1)), (8, .r [] (.int .i64 pv.2))], heap := [(0, .box [.r [] (.int .i64 pv.1.2.2.1), .r [] (.int .i64 pv.1.2.2.2.1), .r [] (.int .i64 pv.1.2.2.2.2.1), .r [] (.sl (.st .task) pv.1.2.2.2.2.2.1), .r [] (.int .i64 pv.1.2.2.2.2.2.2.1), .r [] (.int .i64 pv.1.2.2.2.2.2.2.2.1), .r [] (.int .i64 pv.1.2.2.2.2.2.2.2.2.1), .r [] (.int .i64 pv.1.2.2.2.2.2.2.2.2.2)])], nid := 1, n := 19, gh := [some 0] }
def slices_IndexFunc_lI_Task_I_Task_m2_g0_dec (nf : NF) : Option ((List Task × Int × Int × Int × Int × List Task × Int × Int × Int × Int) × (Int)) := match nf with
  | ([.r [] (.sl (.st .task) w0), .fn (.func 145) [] [.ptr 0 0 0], .r [] (.int .i64 w1), .r [] (.int .i64 w2)], [.box [.r [] (.int .i64 w3), .r [] (.int .i64 w4), .r [] (.int .i64 w5), .r [] (.sl (.st .task) w6), .r [] (.int .i64 w7), .r [] (.int .i64 w8), .r [] (.int .i64 w9), .r [] (.int .i64 w10)]], [some 0]) => some ((w0, w1, w3, w4, w5, w6, w7, w8, w9, w10), w2)
  | _ => none
theorem slices_IndexFunc_lI_Task_I_Task_m2_g0_hd (nf : NF) (v : (List Task × Int × Int × Int × Int × List Task × Int × Int × Int × Int) × (Int)) (h : slices_IndexFunc_lI_Task_I_Task_m2_g0_dec nf = some v) : denorm slices_IndexFunc_lI_Task_I_Task_m2_g0_keep 19 nf = slices_IndexFunc_lI_Task_I_Task_m2_g0_tm v := by
  unfold slices_IndexFunc_lI_Task_I_Task_m2_g0_dec at h
  split at h
  · cases h; rfl
  · cases h
def slices_IndexFunc_lI_Task_I_Task_m2_g0_x0 (p : List Task × Int × Int × Int × Int × List Task × Int × Int × Int × Int) (x : Unit) : St := { slots := [], heap := [(0, .box [.r [] (.int .i64 p.2.2.1), .r [] (.int .i64 p.2.2.2.1), .r [] (.int .i64 p.2.2.2.2.1), .r [] (.sl (.st .task) p.2.2.2.2.2.1), .r [] (.int .i64 p.2.2.2.2.2.2.1), .r [] (.int .i64 p.2.2.2.2.2.2.2.1), .r [] (.int .i64 p.2.2.2.2.2.2.2.2.1), .r [] (.int .i64 p.2.2.2.2.2.2.2.2.2)])], nid := 1, n := 19, gh := [some 0] }
def slices_IndexFunc_lI_Task_I_Task_m2_g0_xret (p : List Task × Int × Int × Int × Int × List Task × Int × Int × Int × Int) (x : Int) : St := { slots := [(4, .r [] (.int .i64 x))], heap := [(0, .box [.r [] (.int .i64 p.2.2.1), .r [] (.int .i64 p.2.2.2.1), .r [] (.int .i64 p.2.2.2.2.1), .r [] (.sl (.st .task) p.2.2.2.2.2.1), .r [] (.int .i64 p.2.2.2.2.2.2.1), .r [] (.int .i64 p.2.2.2.2.2.2.2.1), .r [] (.int .i64 p.2.2.2.2.2.2.2.2.1), .r [] (.int .i64 p.2.2.2.2.2.2.2.2.2)])], nid := 1, n := 19, gh := [some 0] }
def LP_slices_IndexFunc_lI_Task_I_Task_m2 (ρ : Type) (k : Nat) : Nat → Ev ρ → Ev ρ := fun id f => cond (Nat.beq id 0) (loopOrc slices_IndexFunc_lI_Task_I_Task_m2_g0_keep slices_IndexFunc_lI_Task_I_Task_m2_g0_co (fun n nf => cond (Nat.beq n 19) (slices_IndexFunc_lI_Task_I_Task_m2_g0_dec nf) none) fun pv K => iter (fun v next => slices_IndexFunc_lI_Task_I_Task_m2_g0 k pv.1 v next (fun x => K (.exit 0) (slices_IndexFunc_lI_Task_I_Task_m2_g0_x0 pv.1 x)) (fun x => K .ret (slices_IndexFunc_lI_Task_I_Task_m2_g0_xret pv.1 x))) k pv.2) ((fun _ _ _ _ => none) id f)
theorem slices_IndexFunc_lI_Task_I_Task_m2_g0_round {ρ : Type} (k : Nat) (p : List Task × Int × Int × Int × Int × List Task × Int × Int × Int × Int) (v : Int) (K K1 : Ex → St → Option ρ) : ev (E_slices_IndexFunc_lI_Task_I_Task_m2 k) (LP_slices_IndexFunc_lI_Task_I_Task_m2 ρ k) 0 b_slices_IndexFunc_lI_Task_I_Task_m2_0 (slices_IndexFunc_lI_Task_I_Task_m2_g0_tm (p, v)) (fun e st' => match e with
    | .normal => (normC slices_IndexFunc_lI_Task_I_Task_m2_g0_keep slices_IndexFunc_lI_Task_I_Task_m2_g0_co st').bind fun nf => K1 .normal (denorm slices_IndexFunc_lI_Task_I_Task_m2_g0_keep st'.n nf)
    | e => (normC (slices_IndexFunc_lI_Task_I_Task_m2_g0_kx e) (slices_IndexFunc_lI_Task_I_Task_m2_g0_cx e) st').bind fun nf => K e (denorm (slices_IndexFunc_lI_Task_I_Task_m2_g0_kx e) st'.n nf)) = slices_IndexFunc_lI_Task_I_Task_m2_g0 k p v (fun v' => K1 .normal (slices_IndexFunc_lI_Task_I_Task_m2_g0_tm (p, v'))) (fun x => K (.exit 0) (slices_IndexFunc_lI_Task_I_Task_m2_g0_x0 p x)) (fun x => K .ret (slices_IndexFunc_lI_Task_I_Task_m2_g0_xret p x)) := by kernel_rfl
theorem slices_IndexFunc_lI_Task_I_Task_m2_g0_ok {ρ : Type} (k : Nat) : Sound Try.prog (.loop b_slices_IndexFunc_lI_Task_I_Task_m2_0) (LP_slices_IndexFunc_lI_Task_I_Task_m2 ρ k 0 fun st K => ev (E_slices_IndexFunc_lI_Task_I_Task_m2 k) (LP_slices_IndexFunc_lI_Task_I_Task_m2 ρ k) 0 b_slices_IndexFunc_lI_Task_I_Task_m2_0 st K) :=
  loop_ok (ev_sound (E_slices_IndexFunc_lI_Task_I_Task_m2_ok k) b_slices_IndexFunc_lI_Task_I_Task_m2_0 0 (lpgood_none (by kernel_rfl))) slices_IndexFunc_lI_Task_I_Task_m2_g0_kx slices_IndexFunc_lI_Task_I_Task_m2_g0_cx k (g := fun p v next K => slices_IndexFunc_lI_Task_I_Task_m2_g0 k p v next (fun x => K (.exit 0) (slices_IndexFunc_lI_Task_I_Task_m2_g0_x0 p x)) (fun x => K .ret (slices_IndexFunc_lI_Task_I_Task_m2_g0_xret p x))) (dec_at slices_IndexFunc_lI_Task_I_Task_m2_g0_hd) (fun p v K K1 => slices_IndexFunc_lI_Task_I_Task_m2_g0_round k p v K K1)
def slices_IndexFunc_lI_Task_I_Task_m2_args (a : List Task × Sched) : List SV := [.r [] (.sl (.st .task) a.1), .fn (.func 145) [] [.ptr 0 0 0]]
def slices_IndexFunc_lI_Task_I_Task_m2_blks (a : List Task × Sched) : List Blk := [.box [.r [] (.int .i64 a.2.now), .r [] (.int .i64 a.2.slack), .r [] (.int .i64 a.2.age), .r [] (.sl (.st .task) a.2.tasks), .r [] (.int .i64 a.2.run), .r [] (.int .i64 a.2.left), .r [] (.int .i64 a.2.turns), .r [] (.int .i64 a.2.next)]]
def slices_IndexFunc_lI_Task_I_Task_m2_argD (l : List SV) (b : List Blk) : Option (List Task × Sched) := match l, b with
  | [.r [] (.sl (.st .task) w0), .fn (.func 145) [] [.ptr 0 0 0]], [.box [.r [] (.int .i64 w1), .r [] (.int .i64 w2), .r [] (.int .i64 w3), .r [] (.sl (.st .task) w4), .r [] (.int .i64 w5), .r [] (.int .i64 w6), .r [] (.int .i64 w7), .r [] (.int .i64 w8)]] => some (w0, (⟨w1, w2, w3, w4, w5, w6, w7, w8⟩ : Sched))
  | _, _ => none
def slices_IndexFunc_lI_Task_I_Task_m2_enc (a : List Task × Sched) (r : Int) : MOut := ⟨.r [] (.int .i64 r), [some (.box [.r [] (.int .i64 a.2.now), .r [] (.int .i64 a.2.slack), .r [] (.int .i64 a.2.age), .r [] (.sl (.st .task) a.2.tasks), .r [] (.int .i64 a.2.run), .r [] (.int .i64 a.2.left), .r [] (.int .i64 a.2.turns), .r [] (.int .i64 a.2.next)])], []⟩
def slices_IndexFunc_lI_Task_I_Task_m2_dec (a : List Task × Sched) (o : MOut) : Option (Int) := match o with
  | ⟨.r [] (.int .i64 z1), [some (.box [.r [] (.int .i64 z2), .r [] (.int .i64 z3), .r [] (.int .i64 z4), .r [] (.sl (.st .task) z5), .r [] (.int .i64 z6), .r [] (.int .i64 z7), .r [] (.int .i64 z8), .r [] (.int .i64 z9)])], []⟩ => cond (@sameL Int _ z2 a.2.now) (cond (@sameL Int _ z3 a.2.slack) (cond (@sameL Int _ z4 a.2.age) (cond (@sameL (List Task) _ z5 a.2.tasks) (cond (@sameL Int _ z6 a.2.run) (cond (@sameL Int _ z7 a.2.left) (cond (@sameL Int _ z8 a.2.turns) (cond (@sameL Int _ z9 a.2.next) (some z1) none) none) none) none) none) none) none) none
  | _ => none
def slices_IndexFunc_lI_Task_I_Task_m2_G (k : Nat) : MG := fun _ l b K => (slices_IndexFunc_lI_Task_I_Task_m2_argD l b).bind fun a => (slices_IndexFunc_lI_Task_I_Task_m2 k a.1 a.2).bind fun r => K (slices_IndexFunc_lI_Task_I_Task_m2_enc a r)
theorem slices_IndexFunc_lI_Task_I_Task_m2_ev (k : Nat) (a : List Task × Sched) : ev (E_slices_IndexFunc_lI_Task_I_Task_m2 k) (LP_slices_IndexFunc_lI_Task_I_Task_m2 (Int) k) 0 c_slices_IndexFunc_lI_Task_I_Task_m2 (st0M Try.f167 (slices_IndexFunc_lI_Task_I_Task_m2_args a) (slices_IndexFunc_lI_Task_I_Task_m2_blks a)) (finM Try.prog Try.f167 (.sc) [.box [.sc, .sc, .sc, .ro (.st .task), .sc, .sc, .sc, .sc]] (slices_IndexFunc_lI_Task_I_Task_m2_dec a)) = slices_IndexFunc_lI_Task_I_Task_m2 k a.1 a.2 := by kernel_rfl
theorem slices_IndexFunc_lI_Task_I_Task_m2_ok (k : Nat) : MutOk Try.prog 167 (slices_IndexFunc_lI_Task_I_Task_m2_G k) :=
  mutOk_of_ev (E_slices_IndexFunc_lI_Task_I_Task_m2_ok k) Try.func167 (by kernel_rfl) (by kernel_rfl) slices_IndexFunc_lI_Task_I_Task_m2_args slices_IndexFunc_lI_Task_I_Task_m2_blks slices_IndexFunc_lI_Task_I_Task_m2_argD
    (fun l b a h => by unfold slices_IndexFunc_lI_Task_I_Task_m2_argD at h; split at h <;> first | (cases h; exact ⟨rfl, rfl⟩) | cases h) (fun a => rfl) (lpgood_of (l := [(0, b_slices_IndexFunc_lI_Task_I_Task_m2_0)]) (by kernel_rfl) ⟨slices_IndexFunc_lI_Task_I_Task_m2_g0_ok k, trivial⟩) (fun a r => rfl)
    (fun a o r h => by unfold slices_IndexFunc_lI_Task_I_Task_m2_dec at h; split at h <;> first | (obtain ⟨e0, e1, e2, e3, e4, e5, e6, e7, hq⟩ := dec_chk8 h; clear h; subst e0; subst e1; subst e2; subst e3; subst e4; subst e5; subst e6; subst e7; have h := hq; clear hq; cases h; rfl) | cases h) (slices_IndexFunc_lI_Task_I_Task_m2_ev k)
def o_slices_IndexFunc_lI_Task_I_Task_m2 (k : Nat) : Orc := mutOrc [.one (.sl (.st .task)), .keep] (slices_IndexFunc_lI_Task_I_Task_m2_G k)
theorem o_slices_IndexFunc_lI_Task_I_Task_m2_ok (k : Nat) : OrcOk Try.prog 167 (o_slices_IndexFunc_lI_Task_I_Task_m2 k) := mutOrc_ok (slices_IndexFunc_lI_Task_I_Task_m2_ok k)
/-! ### 144 slices.ContainsFunc[[]loop.example/g00778/impl.Task,loop.example/g00778/impl.Task] -/
noncomputable def E_slices_ContainsFunc_lI_Task_I_Task_m (k : Nat) : Env := { P := Try.prog, tt := tt, orc := fun g => cond (Nat.beq g 167) (o_slices_IndexFunc_lI_Task_I_Task_m2 k) (noOrc), wr := fun g => mem g [167], wt := true }
theorem E_slices_ContainsFunc_lI_Task_I_Task_m_ok (k : Nat) : EnvOk (E_slices_ContainsFunc_lI_Task_I_Task_m k) := fun g => (orc_cond (o_slices_IndexFunc_lI_Task_I_Task_m2_ok k) (noOrc_ok _ _))
noncomputable def c_slices_ContainsFunc_lI_Task_I_Task_m : Code := (Try.f144.body).getD .skip
def LP_slices_ContainsFunc_lI_Task_I_Task_m (ρ : Type) (k : Nat) : Nat → Ev ρ → Ev ρ := fun _ _ _ _ => none
def slices_ContainsFunc_lI_Task_I_Task_m_args (a : List Task × Sched) : List SV := [.r [] (.sl (.st .task) a.1), .fn (.func 145) [] [.ptr 0 0 0]]
def slices_ContainsFunc_lI_Task_I_Task_m_blks (a : List Task × Sched) : List Blk := [.box [.r [] (.int .i64 a.2.now), .r [] (.int .i64 a.2.slack), .r [] (.int .i64 a.2.age), .r [] (.sl (.st .task) a.2.tasks), .r [] (.int .i64 a.2.run), .r [] (.int .i64 a.2.left), .r [] (.int .i64 a.2.turns), .r [] (.int .i64 a.2.next)]]
def slices_ContainsFunc_lI_Task_I_Task_m_argD (l : List SV) (b : List Blk) : Option (List Task × Sched) := match l, b with
  | [.r [] (.sl (.st .task) w0), .fn (.func 145) [] [.ptr 0 0 0]], [.box [.r [] (.int .i64 w1), .r [] (.int .i64 w2), .r [] (.int .i64 w3), .r [] (.sl (.st .task) w4), .r [] (.int .i64 w5), .r [] (.int .i64 w6), .r [] (.int .i64 w7), .r [] (.int .i64 w8)]] => some (w0, (⟨w1, w2, w3, w4, w5, w6, w7, w8⟩ : Sched))
  | _, _ => none
def slices_ContainsFunc_lI_Task_I_Task_m_enc (a : List Task × Sched) (r : Bool) : MOut := ⟨.r [] (.bool r), [some (.box [.r [] (.int .i64 a.2.now), .r [] (.int .i64 a.2.slack), .r [] (.int .i64 a.2.age), .r [] (.sl (.st .task) a.2.tasks), .r [] (.int .i64 a.2.run), .r [] (.int .i64 a.2.left), .r [] (.int .i64 a.2.turns), .r [] (.int .i64 a.2.next)])], []⟩
def slices_ContainsFunc_lI_Task_I_Task_m_dec (a : List Task × Sched) (o : MOut) : Option (Bool) := match o with
  | ⟨.r [] (.bool z1), [some (.box [.r [] (.int .i64 z2), .r [] (.int .i64 z3), .r [] (.int .i64 z4), .r [] (.sl (.st .task) z5), .r [] (.int .i64 z6), .r [] (.int .i64 z7), .r [] (.int .i64 z8), .r [] (.int .i64 z9)])], []⟩ => cond (@sameL Int _ z2 a.2.now) (cond (@sameL Int _ z3 a.2.slack) (cond (@sameL Int _ z4 a.2.age) (cond (@sameL (List Task) _ z5 a.2.tasks) (cond (@sameL Int _ z6 a.2.run) (cond (@sameL Int _ z7 a.2.left) (cond (@sameL Int _ z8 a.2.turns) (cond (@sameL Int _ z9 a.2.next) (some z1) none) none) none) none) none) none) none) none
  | _ => none
def slices_ContainsFunc_lI_Task_I_Task_m_G (k : Nat) : MG := fun _ l b K => (slices_ContainsFunc_lI_Task_I_Task_m_argD l b).bind fun a => (slices_ContainsFunc_lI_Task_I_Task_m k a.1 a.2).bind fun r => K (slices_ContainsFunc_lI_Task_I_Task_m_enc a r)
theorem slices_ContainsFunc_lI_Task_I_Task_m_ev (k : Nat) (a : List Task × Sched) : ev (E_slices_ContainsFunc_lI_Task_I_Task_m k) (LP_slices_ContainsFunc_lI_Task_I_Task_m (Bool) k) 0 c_slices_ContainsFunc_lI_Task_I_Task_m (st0M Try.f144 (slices_ContainsFunc_lI_Task_I_Task_m_args a) (slices_ContainsFunc_lI_Task_I_Task_m_blks a)) (finM Try.prog Try.f144 (.sc) [.box [.sc, .sc, .sc, .ro (.st .task), .sc, .sc, .sc, .sc]] (slices_ContainsFunc_lI_Task_I_Task_m_dec a)) = slices_ContainsFunc_lI_Task_I_Task_m k a.1 a.2 := by kernel_rfl
theorem slices_ContainsFunc_lI_Task_I_Task_m_ok (k : Nat) : MutOk Try.prog 144 (slices_ContainsFunc_lI_Task_I_Task_m_G k) :=
  mutOk_of_ev (E_slices_ContainsFunc_lI_Task_I_Task_m_ok k) Try.func144 (by kernel_rfl) (by kernel_rfl) slices_ContainsFunc_lI_Task_I_Task_m_args slices_ContainsFunc_lI_Task_I_Task_m_blks slices_ContainsFunc_lI_Task_I_Task_m_argD
    (fun l b a h => by unfold slices_ContainsFunc_lI_Task_I_Task_m_argD at h; split at h <;> first | (cases h; exact ⟨rfl, rfl⟩) | cases h) (fun a => rfl) (lpgood_none (by kernel_rfl)) (fun a r => rfl)
    (fun a o r h => by unfold slices_ContainsFunc_lI_Task_I_Task_m_dec at h; split at h <;> first | (obtain ⟨e0, e1, e2, e3, e4, e5, e6, e7, hq⟩ := dec_chk8 h; clear h; subst e0; subst e1; subst e2; subst e3; subst e4; subst e5; subst e6; subst e7; have h := hq; clear hq; cases h; rfl) | cases h) (slices_ContainsFunc_lI_Task_I_Task_m_ev k)
def o_slices_ContainsFunc_lI_Task_I_Task_m (k : Nat) : Orc := mutOrc [.one (.sl (.st .task)), .keep] (slices_ContainsFunc_lI_Task_I_Task_m_G k)
theorem o_slices_ContainsFunc_lI_Task_I_Task_m_ok (k : Nat) : OrcOk Try.prog 144 (o_slices_ContainsFunc_lI_Task_I_Task_m k) := mutOrc_ok (slices_ContainsFunc_lI_Task_I_Task_m_ok k)
/-! ### 78 loop.example/g00778/impl.FitsIn -/
noncomputable def E_I_FitsIn (k : Nat) : Env := { P := Try.prog, tt := tt, orc := fun g => cond (Nat.beq g 110) (o_I_SchedOk k) (cond (Nat.beq g 144) (o_slices_ContainsFunc_lI_Task_I_Task_m k) (noOrc)), wr := fun g => mem g [144], wt := true }
theorem E_I_FitsIn_ok (k : Nat) : EnvOk (E_I_FitsIn k) := fun g => (orc_cond (o_I_SchedOk_ok k) (orc_cond (o_slices_ContainsFunc_lI_Task_I_Task_m_ok k) (noOrc_ok _ _)))
noncomputable def c_I_FitsIn : Code := (Try.f78.body).getD .skip
def LP_I_FitsIn (ρ : Type) (k : Nat) : Nat → Ev ρ → Ev ρ := fun _ _ _ _ => none
def I_FitsIn_args (a : Sched) : List Arg := [.agg [.int .i64 a.now, .int .i64 a.slack, .int .i64 a.age, .sl (.st .task) a.tasks, .int .i64 a.run, .int .i64 a.left, .int .i64 a.turns, .int .i64 a.next]]
def I_FitsIn_argD (l : List Arg) : Option (Sched) := match l with
  | [.agg [.int .i64 b0_0, .int .i64 b0_1, .int .i64 b0_2, .sl (.st .task) b0_3, .int .i64 b0_4, .int .i64 b0_5, .int .i64 b0_6, .int .i64 b0_7]] => some (⟨b0_0, b0_1, b0_2, b0_3, b0_4, b0_5, b0_6, b0_7⟩ : Sched)
  | _ => none
def I_FitsIn_enc (r : Bool) : Out := (.r [] (.bool r), [])
def I_FitsIn_dec (o : Out) : Option (Bool) := match o with
  | (.r [] (.bool z1), []) => some z1
  | _ => none
def I_FitsIn_G (k : Nat) : PG := fun _ l K => (I_FitsIn_argD l).bind fun a => (I_FitsIn k a).bind fun r => K (I_FitsIn_enc r)
theorem I_FitsIn_ev (k : Nat) (a : Sched) : ev (E_I_FitsIn k) (LP_I_FitsIn (Bool) k) 0 c_I_FitsIn (st0 Try.f78 (I_FitsIn_args a)) (fin Try.prog Try.f78 (.sc) I_FitsIn_dec) = I_FitsIn k a := by kernel_rfl
theorem I_FitsIn_ok (k : Nat) : PureOk Try.prog 78 (I_FitsIn_G k) :=
  pureOk_of_ev (E_I_FitsIn_ok k) Try.func78 (by kernel_rfl) (by kernel_rfl) I_FitsIn_args I_FitsIn_argD
    (fun l a h => by unfold I_FitsIn_argD at h; split at h <;> first | (cases h; rfl) | cases h) (fun a => rfl) (lpgood_none (by kernel_rfl))
    (fun o r h => by unfold I_FitsIn_dec at h; split at h <;> first | (cases h; rfl) | cases h) (I_FitsIn_ev k)
def o_I_FitsIn (k : Nat) : Orc := pureOrc [.agg [(.int .i64), (.int .i64), (.int .i64), (.sl (.st .task)), (.int .i64), (.int .i64), (.int .i64), (.int .i64)]] (I_FitsIn_G k)
theorem o_I_FitsIn_ok (k : Nat) : OrcOk Try.prog 78 (o_I_FitsIn k) := pureOrc_ok (I_FitsIn_ok k)
/-! ### 41 loop.example/g00778/impl.Admit -/
noncomputable def E_I_Admit (k : Nat) : Env := { P := Try.prog, tt := tt, orc := fun g => cond (Nat.beq g 78) (o_I_FitsIn k) (cond (Nat.beq g 108) (o_slices_Clone_lint_int k) (cond (Nat.beq g 109) (o_I_Sched_copied k) (cond (Nat.beq g 110) (o_I_SchedOk k) (cond (Nat.beq g 111) (o_I_TaskOk k) (noOrc))))) }
theorem E_I_Admit_ok (k : Nat) : EnvOk (E_I_Admit k) := fun g => (orc_cond (o_I_FitsIn_ok k) (orc_cond (o_slices_Clone_lint_int_ok k) (orc_cond (o_I_Sched_copied_ok k) (orc_cond (o_I_SchedOk_ok k) (orc_cond (o_I_TaskOk_ok k) (noOrc_ok _ _))))))
noncomputable def c_I_Admit : Code := (Try.f41.body).getD .skip
def LP_I_Admit (ρ : Type) (k : Nat) : Nat → Ev ρ → Ev ρ := fun _ _ _ _ => none
def I_Admit_args (a : Sched × List Int × Int) : List Arg := [.agg [.int .i64 a.1.now, .int .i64 a.1.slack, .int .i64 a.1.age, .sl (.st .task) a.1.tasks, .int .i64 a.1.run, .int .i64 a.1.left, .int .i64 a.1.turns, .int .i64 a.1.next], .one (.sl (.int .i64) a.2.1), .one (.int .i64 a.2.2)]
def I_Admit_argD (l : List Arg) : Option (Sched × List Int × Int) := match l with
  | [.agg [.int .i64 b0_0, .int .i64 b0_1, .int .i64 b0_2, .sl (.st .task) b0_3, .int .i64 b0_4, .int .i64 b0_5, .int .i64 b0_6, .int .i64 b0_7], .one (.sl (.int .i64) b1), .one (.int .i64 b2)] => some ((⟨b0_0, b0_1, b0_2, b0_3, b0_4, b0_5, b0_6, b0_7⟩ : Sched), b1, b2)
  | _ => none
def I_Admit_enc (r : Sched × Int × Int) : Out := (.tup [.agg [.r [] (.int .i64 r.1.now), .r [] (.int .i64 r.1.slack), .r [] (.int .i64 r.1.age), .own 0, .r [] (.int .i64 r.1.run), .r [] (.int .i64 r.1.left), .r [] (.int .i64 r.1.turns), .r [] (.int .i64 r.1.next)], .r [] (.int .i64 r.2.1), .r [] (.int .i64 r.2.2)], [.arr none (.st .task) r.1.tasks])
def I_Admit_dec (o : Out) : Option (Sched × Int × Int) := match o with
  | (.tup [.agg [.r [] (.int .i64 z1), .r [] (.int .i64 z2), .r [] (.int .i64 z3), .own 0, .r [] (.int .i64 z5), .r [] (.int .i64 z6), .r [] (.int .i64 z7), .r [] (.int .i64 z8)], .r [] (.int .i64 z9), .r [] (.int .i64 z10)], [.arr none (.st .task) z4]) => some ((⟨z1, z2, z3, z4, z5, z6, z7, z8⟩ : Sched), z9, z10)
  | _ => none
def I_Admit_G (k : Nat) : PG := fun _ l K => (I_Admit_argD l).bind fun a => (I_Admit k a.1 a.2.1 a.2.2).bind fun r => K (I_Admit_enc r)
theorem I_Admit_ev (k : Nat) (a : Sched × List Int × Int) : ev (E_I_Admit k) (LP_I_Admit (Sched × Int × Int) k) 0 c_I_Admit (st0 Try.f41 (I_Admit_args a)) (fin Try.prog Try.f41 (.tup [.agg [.sc, .sc, .sc, .own (.st .task), .sc, .sc, .sc, .sc], .sc, .sc]) I_Admit_dec) = I_Admit k a.1 a.2.1 a.2.2 := by kernel_rfl
theorem I_Admit_ok (k : Nat) : PureOk Try.prog 41 (I_Admit_G k) :=
  pureOk_of_ev (E_I_Admit_ok k) Try.func41 (by kernel_rfl) (by kernel_rfl) I_Admit_args I_Admit_argD
    (fun l a h => by unfold I_Admit_argD at h; split at h <;> first | (cases h; rfl) | cases h) (fun a => rfl) (lpgood_none (by kernel_rfl))
    (fun o r h => by unfold I_Admit_dec at h; split at h <;> first | (cases h; rfl) | cases h) (I_Admit_ev k)
def o_I_Admit (k : Nat) : Orc := pureOrc [.agg [(.int .i64), (.int .i64), (.int .i64), (.sl (.st .task)), (.int .i64), (.int .i64), (.int .i64), (.int .i64)], .one (.sl (.int .i64)), .one (.int .i64)] (I_Admit_G k)
theorem o_I_Admit_ok (k : Nat) : OrcOk Try.prog 41 (o_I_Admit k) := pureOrc_ok (I_Admit_ok k)
/-! ### 170 (*loop.example/g00778/impl.Sched).drop$1 -/
noncomputable def E_pI_Sched_drop_c1_m3 (k : Nat) : Env := { P := Try.prog, tt := ttTask, orc := fun g => noOrc }
theorem E_pI_Sched_drop_c1_m3_ok (k : Nat) : EnvOk (E_pI_Sched_drop_c1_m3 k) := fun g => (noOrc_ok _ _)
noncomputable def c_pI_Sched_drop_c1_m3 : Code := (Try.f170.body).getD .skip
def LP_pI_Sched_drop_c1_m3 (ρ : Type) (k : Nat) : Nat → Ev ρ → Ev ρ := fun _ _ _ _ => none
def pI_Sched_drop_c1_m3_args (a : TaskK × Int) : List SV := [.agg [.r [] (.int .i64 a.1.id), .r [] (.tok a.1.costs), .r [] (.int .i64 a.1.at_), .r [] (.int .i64 a.1.due), .r [] (.int .i64 a.1.born)], .ptr 0 0 0]
def pI_Sched_drop_c1_m3_blks (a : TaskK × Int) : List Blk := [.box [.r [] (.int .i64 a.2)]]
def pI_Sched_drop_c1_m3_argD (l : List SV) (b : List Blk) : Option (TaskK × Int) := match l, b with
  | [.agg [.r [] (.int .i64 w0), .r [] (.tok w1), .r [] (.int .i64 w2), .r [] (.int .i64 w3), .r [] (.int .i64 w4)], .ptr 0 0 0], [.box [.r [] (.int .i64 w5)]] => some ((⟨w0, w1, w2, w3, w4⟩ : TaskK), w5)
  | _, _ => none
def pI_Sched_drop_c1_m3_enc (a : TaskK × Int) (r : Bool) : MOut := ⟨.r [] (.bool r), [some (.box [.r [] (.int .i64 a.2)])], []⟩
def pI_Sched_drop_c1_m3_dec (a : TaskK × Int) (o : MOut) : Option (Bool) := match o with
  | ⟨.r [] (.bool z1), [some (.box [.r [] (.int .i64 z2)])], []⟩ => cond (@sameL Int _ z2 a.2) (some z1) none
  | _ => none
def pI_Sched_drop_c1_m3_G (k : Nat) : MG := fun _ l b K => (pI_Sched_drop_c1_m3_argD l b).bind fun a => (pI_Sched_drop_c1_m3 k a.1 a.2).bind fun r => K (pI_Sched_drop_c1_m3_enc a r)
theorem pI_Sched_drop_c1_m3_ev (k : Nat) (a : TaskK × Int) : ev (E_pI_Sched_drop_c1_m3 k) (LP_pI_Sched_drop_c1_m3 (Bool) k) 0 c_pI_Sched_drop_c1_m3 (st0M Try.f170 (pI_Sched_drop_c1_m3_args a) (pI_Sched_drop_c1_m3_blks a)) (finM Try.prog Try.f170 (.sc) [.box [.sc]] (pI_Sched_drop_c1_m3_dec a)) = pI_Sched_drop_c1_m3 k a.1 a.2 := by kernel_rfl
theorem pI_Sched_drop_c1_m3_ok (k : Nat) : MutOk Try.prog 170 (pI_Sched_drop_c1_m3_G k) :=
  mutOk_of_ev (E_pI_Sched_drop_c1_m3_ok k) Try.func170 (by kernel_rfl) (by kernel_rfl) pI_Sched_drop_c1_m3_args pI_Sched_drop_c1_m3_blks pI_Sched_drop_c1_m3_argD
    (fun l b a h => by unfold pI_Sched_drop_c1_m3_argD at h; split at h <;> first | (cases h; exact ⟨rfl, rfl⟩) | cases h) (fun a => rfl) (lpgood_none (by kernel_rfl)) (fun a r => rfl)
    (fun a o r h => by unfold pI_Sched_drop_c1_m3_dec at h; split at h <;> first | (obtain ⟨e0, hq⟩ := dec_chk1 h; clear h; subst e0; have h := hq; clear hq; cases h; rfl) | cases h) (pI_Sched_drop_c1_m3_ev k)
def o_pI_Sched_drop_c1_m3 (k : Nat) : Orc := mutOrc [.agg [(.int .i64), .tok, (.int .i64), (.int .i64), (.int .i64)], .keep] (pI_Sched_drop_c1_m3_G k)
theorem o_pI_Sched_drop_c1_m3_ok (k : Nat) : OrcOk Try.prog 170 (o_pI_Sched_drop_c1_m3 k) := mutOrc_ok (pI_Sched_drop_c1_m3_ok k)
/-! ### 167 slices.IndexFunc[[]loop.example/g00778/impl.Task,loop.example/g00778/impl.Task] -/
noncomputable def E_slices_IndexFunc_lI_Task_I_Task_m5 (k : Nat) : Env := { P := Try.prog, tt := ttTask, orc := fun g => cond (Nat.beq g 170) (o_pI_Sched_drop_c1_m3 k) (noOrc), wr := fun g => mem g [170], wt := true }
theorem E_slices_IndexFunc_lI_Task_I_Task_m5_ok (k : Nat) : EnvOk (E_slices_IndexFunc_lI_Task_I_Task_m5 k) := fun g => (orc_cond (o_pI_Sched_drop_c1_m3_ok k) (noOrc_ok _ _))
noncomputable def c_slices_IndexFunc_lI_Task_I_Task_m5 : Code := (Try.f167.body).getD .skip
noncomputable def b_slices_IndexFunc_lI_Task_I_Task_m5_0 : Code := ((loopsIn 0 c_slices_IndexFunc_lI_Task_I_Task_m5).getD 0 (0, .skip)).2
def slices_IndexFunc_lI_Task_I_Task_m5_g0_keep : List Nat := [0, 1, 7, 8]
def slices_IndexFunc_lI_Task_I_Task_m5_g0_co : List (Where × Co) := []
def slices_IndexFunc_lI_Task_I_Task_m5_g0_kx : Ex → List Nat
  | .exit j => cond (Nat.beq j 0) [] []
  | .ret => [4]
  | .normal => []
def slices_IndexFunc_lI_Task_I_Task_m5_g0_cx : Ex → List (Where × Co)
  | .exit j => cond (Nat.beq j 0) [] []
  | .ret => []
  | .normal => []
def slices_IndexFunc_lI_Task_I_Task_m5_g0_tm (pv : (List TaskK × Int × Int) × (Int)) : St := { slots := [(0, .r [] (.sl (.st .taskK) pv.1.1)), (1, .fn (.func 170) [] [.ptr 0 0 0]), (7, .r [] (.int .i64 pv.1.2.1)), (8, .r [] (.int .i64 pv.2))], heap := [(0, .box [.r [] (.int .i64 pv.1.2.2)])], nid := 1, n := 19, gh := [some 0] }
end
end Go.Proofs.Ev
