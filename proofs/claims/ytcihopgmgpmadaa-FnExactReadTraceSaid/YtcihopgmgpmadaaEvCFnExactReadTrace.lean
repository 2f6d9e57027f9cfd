/- Text of this claim. -/
import Derived.Test.YtcihopgmgpmadaaEvK5
import Derived.Test.YtcihopgmgpmadaaProg
import Derived.Test.YtcihopgmgpmadaaEvD1
import Derived.Test.YtcihopgmgpmadaaEvD3
import Derived.Test.YtcihopgmgpmadaaEvD4
set_option linter.unusedVariables false
set_option linter.unusedSimpArgs false
set_option linter.unusedVariables false
set_option linter.unusedSimpArgs false
set_option maxRecDepth 100000
namespace Go.Proofs.Ev
noncomputable section
def tt : TT := look [(2, (.int .i64)), (3, (.int .i64)), (4, .bool), (5, (.int .u8)), (6, (.int .u8)), (9, .str), (10, .str), (11, .str), (12, (.int .u64)), (21, (.int .i32)), (22, (.sl (.int .u8))), (24, (.st .shape)), (25, (.sl (.int .i64))), (27, (.st .tensor)), (29, (.st .step)), (38, (.sl (.st .step))), (44, (.st .shape)), (46, (.st .tensor)), (48, (.st .step)), (54, (.sl (.st .step))), (59, (.sl (.st .task))), (63, (.sl (.st .task))), (81, (.sl (.sl (.int .i64)))), (89, (.sl (.st .tensor))), (98, (.sl (.st .wish))), (102, (.sl (.st .wish))), (135, (.st .task)), (155, (.st .wish)), (157, (.st .wish)), (177, (.int .u64)), (180, (.st .task)), (216, (.int .u32)), (217, (.int .u8)), (218, (.int .u8)), (221, (.int .i32)), (222, (.int .i32))]
/-! ### 16 loop.example/g00778/laws.toByteS -/
noncomputable def E_L_toByteS (k : Nat) : Env := { P := Try.prog, tt := tt, orc := fun g => noOrc }
theorem E_L_toByteS_ok (k : Nat) : EnvOk (E_L_toByteS k) := fun g => (noOrc_ok _ _)
noncomputable def c_L_toByteS : Code := (Try.f16.body).getD .skip
noncomputable def b_L_toByteS_0 : Code := ((loopsIn 0 c_L_toByteS).getD 0 (0, .skip)).2
def L_toByteS_g0_keep : List Nat := [0, 3, 4]
def L_toByteS_g0_co : List (Where × Co) := []
def L_toByteS_g0_kx : Ex → List Nat
  | .exit j => cond (Nat.beq j 0) [3] []
  | .ret => []
  | .normal => []
def L_toByteS_g0_cx : Ex → List (Where × Co)
  | .exit j => cond (Nat.beq j 0) [] []
  | .ret => []
  | .normal => []
def L_toByteS_g0_tm (pv : (List Int) × (Int × List Int)) : St := { slots := [(0, .r [] (.sl (.int .u8) pv.1)), (3, .own 0), (4, .r [] (.int .i64 pv.2.1))], heap := [(0, .arr none (.int .u8) pv.2.2)], nid := 1, n := 22, gh := [] }
def L_toByteS_g0_dec (nf : NF) : Option ((List Int) × (Int × List Int)) := match nf with
  | ([.r [] (.sl (.int .u8) w0), .own 0, .r [] (.int .i64 w1)], [.arr none (.int .u8) w2], []) => some (w0, (w1, w2))
  | _ => none
theorem L_toByteS_g0_hd (nf : NF) (v : (List Int) × (Int × List Int)) (h : L_toByteS_g0_dec nf = some v) : denorm L_toByteS_g0_keep 22 nf = L_toByteS_g0_tm v := by
  unfold L_toByteS_g0_dec at h
  split at h
  · cases h; rfl
  · cases h
def L_toByteS_g0_x0 (p : List Int) (x : List Int) : St := { slots := [(3, .own 0)], heap := [(0, .arr none (.int .u8) x)], nid := 1, n := 22, gh := [] }
def LP_L_toByteS (ρ : Type) (k : Nat) : Nat → Ev ρ → Ev ρ := fun id f => cond (Nat.beq id 0) (loopOrc L_toByteS_g0_keep L_toByteS_g0_co (fun n nf => cond (Nat.beq n 22) (L_toByteS_g0_dec nf) none) fun pv K => iter (fun v next => L_toByteS_g0 k pv.1 v next (fun x => K (.exit 0) (L_toByteS_g0_x0 pv.1 x))) k pv.2) ((fun _ _ _ _ => none) id f)
theorem L_toByteS_g0_round {ρ : Type} (k : Nat) (p : List Int) (v : Int × List Int) (K K1 : Ex → St → Option ρ) : ev (E_L_toByteS k) (LP_L_toByteS ρ k) 0 b_L_toByteS_0 (L_toByteS_g0_tm (p, v)) (fun e st' => match e with
    | .normal => (normC L_toByteS_g0_keep L_toByteS_g0_co st').bind fun nf => K1 .normal (denorm L_toByteS_g0_keep st'.n nf)
    | e => (normC (L_toByteS_g0_kx e) (L_toByteS_g0_cx e) st').bind fun nf => K e (denorm (L_toByteS_g0_kx e) st'.n nf)) = L_toByteS_g0 k p v (fun v' => K1 .normal (L_toByteS_g0_tm (p, v'))) (fun x => K (.exit 0) (L_toByteS_g0_x0 p x)) := by kernel_rfl
theorem L_toByteS_g0_ok {ρ : Type} (k : Nat) : Sound Try.prog (.loop b_L_toByteS_0) (LP_L_toByteS ρ k 0 fun st K => ev (E_L_toByteS k) (LP_L_toByteS ρ k) 0 b_L_toByteS_0 st K) :=
  loop_ok (ev_sound (E_L_toByteS_ok k) b_L_toByteS_0 0 (lpgood_none (by kernel_rfl))) L_toByteS_g0_kx L_toByteS_g0_cx k (g := fun p v next K => L_toByteS_g0 k p v next (fun x => K (.exit 0) (L_toByteS_g0_x0 p x))) (dec_at L_toByteS_g0_hd) (fun p v K K1 => L_toByteS_g0_round k p v K K1)
def L_toByteS_args (a : List Int) : List Arg := [.one (.sl (.int .u8) a)]
def L_toByteS_argD (l : List Arg) : Option (List Int) := match l with
  | [.one (.sl (.int .u8) b0)] => some b0
  | _ => none
def L_toByteS_enc (r : List Int) : Out := (.own 0, [.arr none (.int .u8) r])
def L_toByteS_dec (o : Out) : Option (List Int) := match o with
  | (.own 0, [.arr none (.int .u8) z1]) => some z1
  | _ => none
def L_toByteS_G (k : Nat) : PG := fun _ l K => (L_toByteS_argD l).bind fun a => (L_toByteS k a).bind fun r => K (L_toByteS_enc r)
theorem L_toByteS_ev (k : Nat) (a : List Int) : ev (E_L_toByteS k) (LP_L_toByteS (List Int) k) 0 c_L_toByteS (st0 Try.f16 (L_toByteS_args a)) (fin Try.prog Try.f16 (.own (.int .u8)) L_toByteS_dec) = L_toByteS k a := by kernel_rfl
theorem L_toByteS_ok (k : Nat) : PureOk Try.prog 16 (L_toByteS_G k) :=
  pureOk_of_ev (E_L_toByteS_ok k) Try.func16 (by kernel_rfl) (by kernel_rfl) L_toByteS_args L_toByteS_argD
    (fun l a h => by unfold L_toByteS_argD at h; split at h <;> first | (cases h; rfl) | cases h) (fun a => rfl) (lpgood_of (l := [(0, b_L_toByteS_0)]) (by kernel_rfl) ⟨L_toByteS_g0_ok k, trivial⟩)
    (fun o r h => by unfold L_toByteS_dec at h; split at h <;> first | (cases h; rfl) | cases h) (L_toByteS_ev k)
def o_L_toByteS (k : Nat) : Orc := pureOrc [.one (.sl (.int .u8))] (L_toByteS_G k)
theorem o_L_toByteS_ok (k : Nat) : OrcOk Try.prog 16 (o_L_toByteS k) := pureOrc_ok (L_toByteS_ok k)
/-! ### 87 loop.example/g00778/spec.TakeWide -/
noncomputable def E_S_TakeWide (k : Nat) : Env := { P := Try.prog, tt := tt, orc := fun g => noOrc }
theorem E_S_TakeWide_ok (k : Nat) : EnvOk (E_S_TakeWide k) := fun g => (noOrc_ok _ _)
noncomputable def c_S_TakeWide : Code := (Try.f87.body).getD .skip
noncomputable def b_S_TakeWide_0 : Code := ((loopsIn 0 c_S_TakeWide).getD 0 (0, .skip)).2
def S_TakeWide_g0_keep : List Nat := [0, 1, 6, 7]
def S_TakeWide_g0_co : List (Where × Co) := []
def S_TakeWide_g0_kx : Ex → List Nat
  | .exit j => cond (Nat.beq j 0) [] []
  | .ret => [4, 5]
  | .normal => []
def S_TakeWide_g0_cx : Ex → List (Where × Co)
  | .exit j => cond (Nat.beq j 0) [] []
  | .ret => []
  | .normal => []
def S_TakeWide_g0_tm (pv : (List Int × Int) × (Int × Int)) : St := { slots := [(0, .r [] (.sl (.int .u8) pv.1.1)), (1, .r [] (.int .i64 pv.1.2)), (6, .r [] (.int .i64 pv.2.1)), (7, .r [] (.int .i64 pv.2.2))], heap := [], nid := 0, n := 65, gh := [] }
def S_TakeWide_g0_dec (nf : NF) : Option ((List Int × Int) × (Int × Int)) := match nf with
  | ([.r [] (.sl (.int .u8) w0), .r [] (.int .i64 w1), .r [] (.int .i64 w2), .r [] (.int .i64 w3)], [], []) => some ((w0, w1), (w2, w3))
  | _ => none
theorem S_TakeWide_g0_hd (nf : NF) (v : (List Int × Int) × (Int × Int)) (h : S_TakeWide_g0_dec nf = some v) : denorm S_TakeWide_g0_keep 65 nf = S_TakeWide_g0_tm v := by
  unfold S_TakeWide_g0_dec at h
  split at h
  · cases h; rfl
  · cases h
def S_TakeWide_g0_x0 (p : List Int × Int) (x : Unit) : St := { slots := [], heap := [], nid := 0, n := 65, gh := [] }
def S_TakeWide_g0_xret (p : List Int × Int) (x : Int × Int) : St := { slots := [(4, .r [] (.int .i64 x.1)), (5, .r [] (.int .i64 x.2))], heap := [], nid := 0, n := 65, gh := [] }
def LP_S_TakeWide (ρ : Type) (k : Nat) : Nat → Ev ρ → Ev ρ := fun id f => cond (Nat.beq id 0) (loopOrc S_TakeWide_g0_keep S_TakeWide_g0_co (fun n nf => cond (Nat.beq n 65) (S_TakeWide_g0_dec nf) none) fun pv K => iter (fun v next => S_TakeWide_g0 k pv.1 v next (fun x => K (.exit 0) (S_TakeWide_g0_x0 pv.1 x)) (fun x => K .ret (S_TakeWide_g0_xret pv.1 x))) k pv.2) ((fun _ _ _ _ => none) id f)
theorem S_TakeWide_g0_round {ρ : Type} (k : Nat) (p : List Int × Int) (v : Int × Int) (K K1 : Ex → St → Option ρ) : ev (E_S_TakeWide k) (LP_S_TakeWide ρ k) 0 b_S_TakeWide_0 (S_TakeWide_g0_tm (p, v)) (fun e st' => match e with
    | .normal => (normC S_TakeWide_g0_keep S_TakeWide_g0_co st').bind fun nf => K1 .normal (denorm S_TakeWide_g0_keep st'.n nf)
    | e => (normC (S_TakeWide_g0_kx e) (S_TakeWide_g0_cx e) st').bind fun nf => K e (denorm (S_TakeWide_g0_kx e) st'.n nf)) = S_TakeWide_g0 k p v (fun v' => K1 .normal (S_TakeWide_g0_tm (p, v'))) (fun x => K (.exit 0) (S_TakeWide_g0_x0 p x)) (fun x => K .ret (S_TakeWide_g0_xret p x)) := by kernel_rfl
theorem S_TakeWide_g0_ok {ρ : Type} (k : Nat) : Sound Try.prog (.loop b_S_TakeWide_0) (LP_S_TakeWide ρ k 0 fun st K => ev (E_S_TakeWide k) (LP_S_TakeWide ρ k) 0 b_S_TakeWide_0 st K) :=
  loop_ok (ev_sound (E_S_TakeWide_ok k) b_S_TakeWide_0 0 (lpgood_none (by kernel_rfl))) S_TakeWide_g0_kx S_TakeWide_g0_cx k (g := fun p v next K => S_TakeWide_g0 k p v next (fun x => K (.exit 0) (S_TakeWide_g0_x0 p x)) (fun x => K .ret (S_TakeWide_g0_xret p x))) (dec_at S_TakeWide_g0_hd) (fun p v K K1 => S_TakeWide_g0_round k p v K K1)
def S_TakeWide_args (a : List Int × Int) : List Arg := [.one (.sl (.int .u8) a.1), .one (.int .i64 a.2)]
def S_TakeWide_argD (l : List Arg) : Option (List Int × Int) := match l with
  | [.one (.sl (.int .u8) b0), .one (.int .i64 b1)] => some (b0, b1)
  | _ => none
def S_TakeWide_enc (r : Int × Int) : Out := (.tup [.r [] (.int .i64 r.1), .r [] (.int .i64 r.2)], [])
def S_TakeWide_dec (o : Out) : Option (Int × Int) := match o with
  | (.tup [.r [] (.int .i64 z1), .r [] (.int .i64 z2)], []) => some (z1, z2)
  | _ => none
def S_TakeWide_G (k : Nat) : PG := fun _ l K => (S_TakeWide_argD l).bind fun a => (S_TakeWide k a.1 a.2).bind fun r => K (S_TakeWide_enc r)
theorem S_TakeWide_ev (k : Nat) (a : List Int × Int) : ev (E_S_TakeWide k) (LP_S_TakeWide (Int × Int) k) 0 c_S_TakeWide (st0 Try.f87 (S_TakeWide_args a)) (fin Try.prog Try.f87 (.tup [.sc, .sc]) S_TakeWide_dec) = S_TakeWide k a.1 a.2 := by kernel_rfl
theorem S_TakeWide_ok (k : Nat) : PureOk Try.prog 87 (S_TakeWide_G k) :=
  pureOk_of_ev (E_S_TakeWide_ok k) Try.func87 (by kernel_rfl) (by kernel_rfl) S_TakeWide_args S_TakeWide_argD
    (fun l a h => by unfold S_TakeWide_argD at h; split at h <;> first | (cases h; rfl) | cases h) (fun a => rfl) (lpgood_of (l := [(0, b_S_TakeWide_0)]) (by kernel_rfl) ⟨S_TakeWide_g0_ok k, trivial⟩)
    (fun o r h => by unfold S_TakeWide_dec at h; split at h <;> first | (cases h; rfl) | cases h) (S_TakeWide_ev k)
def o_S_TakeWide (k : Nat) : Orc := pureOrc [.one (.sl (.int .u8)), .one (.int .i64)] (S_TakeWide_G k)
theorem o_S_TakeWide_ok (k : Nat) : OrcOk Try.prog 87 (o_S_TakeWide k) := pureOrc_ok (S_TakeWide_ok k)
/-! ### 82 loop.example/g00778/spec.l01In -/
noncomputable def E_S_l01In (k : Nat) : Env := { P := Try.prog, tt := tt, orc := fun g => noOrc }
theorem E_S_l01In_ok (k : Nat) : EnvOk (E_S_l01In k) := fun g => (noOrc_ok _ _)
noncomputable def c_S_l01In : Code := (Try.f82.body).getD .skip
def LP_S_l01In (ρ : Type) (k : Nat) : Nat → Ev ρ → Ev ρ := fun _ _ _ _ => none
def S_l01In_args (a : Int × Int × Int) : List Arg := [.one (.int .i64 a.1), .one (.int .i64 a.2.1), .one (.int .i64 a.2.2)]
def S_l01In_argD (l : List Arg) : Option (Int × Int × Int) := match l with
  | [.one (.int .i64 b0), .one (.int .i64 b1), .one (.int .i64 b2)] => some (b0, b1, b2)
  | _ => none
def S_l01In_enc (r : Bool) : Out := (.r [] (.bool r), [])
def S_l01In_dec (o : Out) : Option (Bool) := match o with
  | (.r [] (.bool z1), []) => some z1
  | _ => none
def S_l01In_G (k : Nat) : PG := fun _ l K => (S_l01In_argD l).bind fun a => (S_l01In k a.1 a.2.1 a.2.2).bind fun r => K (S_l01In_enc r)
theorem S_l01In_ev (k : Nat) (a : Int × Int × Int) : ev (E_S_l01In k) (LP_S_l01In (Bool) k) 0 c_S_l01In (st0 Try.f82 (S_l01In_args a)) (fin Try.prog Try.f82 (.sc) S_l01In_dec) = S_l01In k a.1 a.2.1 a.2.2 := by kernel_rfl
theorem S_l01In_ok (k : Nat) : PureOk Try.prog 82 (S_l01In_G k) :=
  pureOk_of_ev (E_S_l01In_ok k) Try.func82 (by kernel_rfl) (by kernel_rfl) S_l01In_args S_l01In_argD
    (fun l a h => by unfold S_l01In_argD at h; split at h <;> first | (cases h; rfl) | cases h) (fun a => rfl) (lpgood_none (by kernel_rfl))
    (fun o r h => by unfold S_l01In_dec at h; split at h <;> first | (cases h; rfl) | cases h) (S_l01In_ev k)
def o_S_l01In (k : Nat) : Orc := pureOrc [.one (.int .i64), .one (.int .i64), .one (.int .i64)] (S_l01In_G k)
theorem o_S_l01In_ok (k : Nat) : OrcOk Try.prog 82 (o_S_l01In k) := pureOrc_ok (S_l01In_ok k)
/-! ### 81 loop.example/g00778/spec.l05Next -/
noncomputable def E_S_l05Next_m (k : Nat) : Env := { P := Try.prog, tt := tt, orc := fun g => cond (Nat.beq g 87) (o_S_TakeWide k) (noOrc) }
theorem E_S_l05Next_m_ok (k : Nat) : EnvOk (E_S_l05Next_m k) := fun g => (orc_cond (o_S_TakeWide_ok k) (noOrc_ok _ _))
noncomputable def c_S_l05Next_m : Code := (Try.f81.body).getD .skip
def LP_S_l05Next_m (ρ : Type) (k : Nat) : Nat → Ev ρ → Ev ρ := fun _ _ _ _ => none
def S_l05Next_m_args (a : List Int × Int × Bool) : List SV := [.ptr 0 0 0]
def S_l05Next_m_blks (a : List Int × Int × Bool) : List Blk := [.box [.r [] (.sl (.int .u8) a.1), .r [] (.int .i64 a.2.1), .r [] (.bool a.2.2)]]
def S_l05Next_m_argD (l : List SV) (b : List Blk) : Option (List Int × Int × Bool) := match l, b with
  | [.ptr 0 0 0], [.box [.r [] (.sl (.int .u8) w0), .r [] (.int .i64 w1), .r [] (.bool w2)]] => some (w0, w1, w2)
  | _, _ => none
def S_l05Next_m_enc (a : List Int × Int × Bool) (r : Int × Int × Bool) : MOut := ⟨.r [] (.int .i64 r.1), [some (.box [.r [] (.sl (.int .u8) a.1), .r [] (.int .i64 r.2.1), .r [] (.bool r.2.2)])], []⟩
def S_l05Next_m_dec (a : List Int × Int × Bool) (o : MOut) : Option (Int × Int × Bool) := match o with
  | ⟨.r [] (.int .i64 z1), [some (.box [.r [] (.sl (.int .u8) z2), .r [] (.int .i64 z3), .r [] (.bool z4)])], []⟩ => cond (@sameL (List Int) _ z2 a.1) (some (z1, z3, z4)) none
  | _ => none
def S_l05Next_m_G (k : Nat) : MG := fun _ l b K => (S_l05Next_m_argD l b).bind fun a => (S_l05Next_m k a.1 a.2.1 a.2.2).bind fun r => K (S_l05Next_m_enc a r)
theorem S_l05Next_m_ev (k : Nat) (a : List Int × Int × Bool) : ev (E_S_l05Next_m k) (LP_S_l05Next_m (Int × Int × Bool) k) 0 c_S_l05Next_m (st0M Try.f81 (S_l05Next_m_args a) (S_l05Next_m_blks a)) (finM Try.prog Try.f81 (.sc) [.box [.ro (.int .u8), .sc, .sc]] (S_l05Next_m_dec a)) = S_l05Next_m k a.1 a.2.1 a.2.2 := by kernel_rfl
theorem S_l05Next_m_ok (k : Nat) : MutOk Try.prog 81 (S_l05Next_m_G k) :=
  mutOk_of_ev (E_S_l05Next_m_ok k) Try.func81 (by kernel_rfl) (by kernel_rfl) S_l05Next_m_args S_l05Next_m_blks S_l05Next_m_argD
    (fun l b a h => by unfold S_l05Next_m_argD at h; split at h <;> first | (cases h; exact ⟨rfl, rfl⟩) | cases h) (fun a => rfl) (lpgood_none (by kernel_rfl)) (fun a r => rfl)
    (fun a o r h => by unfold S_l05Next_m_dec at h; split at h <;> first | (obtain ⟨e0, hq⟩ := dec_chk1 h; clear h; subst e0; have h := hq; clear hq; cases h; rfl) | cases h) (S_l05Next_m_ev k)
def o_S_l05Next_m (k : Nat) : Orc := mutOrc [.keep] (S_l05Next_m_G k)
theorem o_S_l05Next_m_ok (k : Nat) : OrcOk Try.prog 81 (o_S_l05Next_m k) := mutOrc_ok (S_l05Next_m_ok k)
/-! ### 83 loop.example/g00778/spec.l01Bytes -/
noncomputable def E_S_l01Bytes (k : Nat) : Env := { P := Try.prog, tt := tt, orc := fun g => noOrc }
theorem E_S_l01Bytes_ok (k : Nat) : EnvOk (E_S_l01Bytes k) := fun g => (noOrc_ok _ _)
noncomputable def c_S_l01Bytes : Code := (Try.f83.body).getD .skip
noncomputable def b_S_l01Bytes_0 : Code := ((loopsIn 0 c_S_l01Bytes).getD 0 (0, .skip)).2
def S_l01Bytes_g0_keep : List Nat := [0, 3, 4]
def S_l01Bytes_g0_co : List (Where × Co) := []
def S_l01Bytes_g0_kx : Ex → List Nat
  | .exit j => cond (Nat.beq j 0) [3] []
  | .ret => []
  | .normal => []
def S_l01Bytes_g0_cx : Ex → List (Where × Co)
  | .exit j => cond (Nat.beq j 0) [] []
  | .ret => []
  | .normal => []
def S_l01Bytes_g0_tm (pv : (List Int) × (Int × List Int)) : St := { slots := [(0, .r [] (.sl (.int .u8) pv.1)), (3, .own 0), (4, .r [] (.int .i64 pv.2.1))], heap := [(0, .arr none (.int .u8) pv.2.2)], nid := 1, n := 20, gh := [] }
def S_l01Bytes_g0_dec (nf : NF) : Option ((List Int) × (Int × List Int)) := match nf with
  | ([.r [] (.sl (.int .u8) w0), .own 0, .r [] (.int .i64 w1)], [.arr none (.int .u8) w2], []) => some (w0, (w1, w2))
  | _ => none
theorem S_l01Bytes_g0_hd (nf : NF) (v : (List Int) × (Int × List Int)) (h : S_l01Bytes_g0_dec nf = some v) : denorm S_l01Bytes_g0_keep 20 nf = S_l01Bytes_g0_tm v := by
  unfold S_l01Bytes_g0_dec at h
  split at h
  · cases h; rfl
  · cases h
def S_l01Bytes_g0_x0 (p : List Int) (x : List Int) : St := { slots := [(3, .own 0)], heap := [(0, .arr none (.int .u8) x)], nid := 1, n := 20, gh := [] }
def LP_S_l01Bytes (ρ : Type) (k : Nat) : Nat → Ev ρ → Ev ρ := fun id f => cond (Nat.beq id 0) (loopOrc S_l01Bytes_g0_keep S_l01Bytes_g0_co (fun n nf => cond (Nat.beq n 20) (S_l01Bytes_g0_dec nf) none) fun pv K => iter (fun v next => S_l01Bytes_g0 k pv.1 v next (fun x => K (.exit 0) (S_l01Bytes_g0_x0 pv.1 x))) k pv.2) ((fun _ _ _ _ => none) id f)
theorem S_l01Bytes_g0_round {ρ : Type} (k : Nat) (p : List Int) (v : Int × List Int) (K K1 : Ex → St → Option ρ) : ev (E_S_l01Bytes k) (LP_S_l01Bytes ρ k) 0 b_S_l01Bytes_0 (S_l01Bytes_g0_tm (p, v)) (fun e st' => match e with
    | .normal => (normC S_l01Bytes_g0_keep S_l01Bytes_g0_co st').bind fun nf => K1 .normal (denorm S_l01Bytes_g0_keep st'.n nf)
    | e => (normC (S_l01Bytes_g0_kx e) (S_l01Bytes_g0_cx e) st').bind fun nf => K e (denorm (S_l01Bytes_g0_kx e) st'.n nf)) = S_l01Bytes_g0 k p v (fun v' => K1 .normal (S_l01Bytes_g0_tm (p, v'))) (fun x => K (.exit 0) (S_l01Bytes_g0_x0 p x)) := by kernel_rfl
theorem S_l01Bytes_g0_ok {ρ : Type} (k : Nat) : Sound Try.prog (.loop b_S_l01Bytes_0) (LP_S_l01Bytes ρ k 0 fun st K => ev (E_S_l01Bytes k) (LP_S_l01Bytes ρ k) 0 b_S_l01Bytes_0 st K) :=
  loop_ok (ev_sound (E_S_l01Bytes_ok k) b_S_l01Bytes_0 0 (lpgood_none (by kernel_rfl))) S_l01Bytes_g0_kx S_l01Bytes_g0_cx k (g := fun p v next K => S_l01Bytes_g0 k p v next (fun x => K (.exit 0) (S_l01Bytes_g0_x0 p x))) (dec_at S_l01Bytes_g0_hd) (fun p v K K1 => S_l01Bytes_g0_round k p v K K1)
def S_l01Bytes_args (a : List Int) : List Arg := [.one (.sl (.int .u8) a)]
def S_l01Bytes_argD (l : List Arg) : Option (List Int) := match l with
  | [.one (.sl (.int .u8) b0)] => some b0
  | _ => none
def S_l01Bytes_enc (r : List Int) : Out := (.own 0, [.arr none (.int .u8) r])
def S_l01Bytes_dec (o : Out) : Option (List Int) := match o with
  | (.own 0, [.arr none (.int .u8) z1]) => some z1
  | _ => none
def S_l01Bytes_G (k : Nat) : PG := fun _ l K => (S_l01Bytes_argD l).bind fun a => (S_l01Bytes k a).bind fun r => K (S_l01Bytes_enc r)
theorem S_l01Bytes_ev (k : Nat) (a : List Int) : ev (E_S_l01Bytes k) (LP_S_l01Bytes (List Int) k) 0 c_S_l01Bytes (st0 Try.f83 (S_l01Bytes_args a)) (fin Try.prog Try.f83 (.own (.int .u8)) S_l01Bytes_dec) = S_l01Bytes k a := by kernel_rfl
theorem S_l01Bytes_ok (k : Nat) : PureOk Try.prog 83 (S_l01Bytes_G k) :=
  pureOk_of_ev (E_S_l01Bytes_ok k) Try.func83 (by kernel_rfl) (by kernel_rfl) S_l01Bytes_args S_l01Bytes_argD
    (fun l a h => by unfold S_l01Bytes_argD at h; split at h <;> first | (cases h; rfl) | cases h) (fun a => rfl) (lpgood_of (l := [(0, b_S_l01Bytes_0)]) (by kernel_rfl) ⟨S_l01Bytes_g0_ok k, trivial⟩)
    (fun o r h => by unfold S_l01Bytes_dec at h; split at h <;> first | (cases h; rfl) | cases h) (S_l01Bytes_ev k)
def o_S_l01Bytes (k : Nat) : Orc := pureOrc [.one (.sl (.int .u8))] (S_l01Bytes_G k)
theorem o_S_l01Bytes_ok (k : Nat) : OrcOk Try.prog 83 (o_S_l01Bytes k) := pureOrc_ok (S_l01Bytes_ok k)
/-! ### 15 loop.example/g00778/spec.TakeStep -/
noncomputable def E_S_TakeStep (k : Nat) : Env := { P := Try.prog, tt := tt, orc := fun g => cond (Nat.beq g 81) (o_S_l05Next_m k) (cond (Nat.beq g 82) (o_S_l01In k) (cond (Nat.beq g 83) (o_S_l01Bytes k) (noOrc))), wr := fun g => mem g [81], wt := true }
theorem E_S_TakeStep_ok (k : Nat) : EnvOk (E_S_TakeStep k) := fun g => (orc_cond (o_S_l05Next_m_ok k) (orc_cond (o_S_l01In_ok k) (orc_cond (o_S_l01Bytes_ok k) (noOrc_ok _ _))))
noncomputable def c_S_TakeStep : Code := (Try.f15.body).getD .skip
noncomputable def b_S_TakeStep_0 : Code := ((loopsIn 0 c_S_TakeStep).getD 0 (0, .skip)).2
def S_TakeStep_g0_keep : List Nat := [4, 6, 7, 9, 10]
def S_TakeStep_g0_co : List (Where × Co) := [((.pbox 7 7), (.nilOwn false (.int .i64)))]
def S_TakeStep_g0_kx : Ex → List Nat
  | .exit j => cond (Nat.beq j 0) [4, 6, 7] []
  | .ret => []
  | .normal => []
def S_TakeStep_g0_cx : Ex → List (Where × Co)
  | .exit j => cond (Nat.beq j 0) [] []
  | .ret => []
  | .normal => []
def S_TakeStep_g0_tm (pv : (Int × Int × Int × Int × Int × Int × Int × List Int × Int × Int × Int × Int × Int × Int × List Int) × (Int × Int × Bool × List Int)) : St := { slots := [(4, .ptr 0 0 0), (6, .ptr 1 0 0), (7, .ptr 2 0 0), (9, .r [] (.int .i64 pv.1.1)), (10, .r [] (.int .i64 pv.2.1))], heap := [(0, .box [.r [] (.int .i64 pv.1.2.1), .r [] (.int .i64 pv.1.2.2.1), .r [] (.int .i64 pv.1.2.2.2.1), .nilS, .r [] (.int .i64 pv.1.2.2.2.2.1), .r [] (.int .i64 pv.1.2.2.2.2.2.1), .r [] (.int .i64 pv.1.2.2.2.2.2.2.1), .nilS]), (1, .box [.r [] (.sl (.int .u8) pv.1.2.2.2.2.2.2.2.1), .r [] (.int .i64 pv.2.2.1), .r [] (.bool pv.2.2.2.1)]), (2, .box [.r [] (.int .i64 pv.1.2.2.2.2.2.2.2.2.1), .r [] (.int .i64 pv.1.2.2.2.2.2.2.2.2.2.1), .r [] (.int .i64 pv.1.2.2.2.2.2.2.2.2.2.2.1), .own 3, .r [] (.int .i64 pv.1.2.2.2.2.2.2.2.2.2.2.2.1), .r [] (.int .i64 pv.1.2.2.2.2.2.2.2.2.2.2.2.2.1), .r [] (.int .i64 pv.1.2.2.2.2.2.2.2.2.2.2.2.2.2.1), .own 4]), (3, .arr none (.int .u8) pv.1.2.2.2.2.2.2.2.2.2.2.2.2.2.2), (4, .arr none (.int .i64) pv.2.2.2.2)], nid := 5, n := 93, gh := [] }
def S_TakeStep_g0_dec (nf : NF) : Option ((Int × Int × Int × Int × Int × Int × Int × List Int × Int × Int × Int × Int × Int × Int × List Int) × (Int × Int × Bool × List Int)) := match nf with
  | ([.ptr 0 0 0, .ptr 1 0 0, .ptr 2 0 0, .r [] (.int .i64 w0), .r [] (.int .i64 w1)], [.box [.r [] (.int .i64 w2), .r [] (.int .i64 w3), .r [] (.int .i64 w4), .nilS, .r [] (.int .i64 w5), .r [] (.int .i64 w6), .r [] (.int .i64 w7), .nilS], .box [.r [] (.sl (.int .u8) w8), .r [] (.int .i64 w9), .r [] (.bool w10)], .box [.r [] (.int .i64 w11), .r [] (.int .i64 w12), .r [] (.int .i64 w13), .own 3, .r [] (.int .i64 w14), .r [] (.int .i64 w15), .r [] (.int .i64 w16), .own 4], .arr none (.int .u8) w17, .arr none (.int .i64) w18], []) => some ((w0, w2, w3, w4, w5, w6, w7, w8, w11, w12, w13, w14, w15, w16, w17), (w1, w9, w10, w18))
  | _ => none
theorem S_TakeStep_g0_hd (nf : NF) (v : (Int × Int × Int × Int × Int × Int × Int × List Int × Int × Int × Int × Int × Int × Int × List Int) × (Int × Int × Bool × List Int)) (h : S_TakeStep_g0_dec nf = some v) : denorm S_TakeStep_g0_keep 93 nf = S_TakeStep_g0_tm v := by
  unfold S_TakeStep_g0_dec at h
  split at h
  · cases h; rfl
  · cases h
def S_TakeStep_g0_x0 (p : Int × Int × Int × Int × Int × Int × Int × List Int × Int × Int × Int × Int × Int × Int × List Int) (x : Int × Bool × List Int) : St := { slots := [(4, .ptr 0 0 0), (6, .ptr 1 0 0), (7, .ptr 2 0 0)], heap := [(0, .box [.r [] (.int .i64 p.2.1), .r [] (.int .i64 p.2.2.1), .r [] (.int .i64 p.2.2.2.1), .nilS, .r [] (.int .i64 p.2.2.2.2.1), .r [] (.int .i64 p.2.2.2.2.2.1), .r [] (.int .i64 p.2.2.2.2.2.2.1), .nilS]), (1, .box [.r [] (.sl (.int .u8) p.2.2.2.2.2.2.2.1), .r [] (.int .i64 x.1), .r [] (.bool x.2.1)]), (2, .box [.r [] (.int .i64 p.2.2.2.2.2.2.2.2.1), .r [] (.int .i64 p.2.2.2.2.2.2.2.2.2.1), .r [] (.int .i64 p.2.2.2.2.2.2.2.2.2.2.1), .own 3, .r [] (.int .i64 p.2.2.2.2.2.2.2.2.2.2.2.1), .r [] (.int .i64 p.2.2.2.2.2.2.2.2.2.2.2.2.1), .r [] (.int .i64 p.2.2.2.2.2.2.2.2.2.2.2.2.2.1), .own 4]), (3, .arr none (.int .u8) p.2.2.2.2.2.2.2.2.2.2.2.2.2.2), (4, .arr none (.int .i64) x.2.2)], nid := 5, n := 93, gh := [] }
def LP_S_TakeStep (ρ : Type) (k : Nat) : Nat → Ev ρ → Ev ρ := fun id f => cond (Nat.beq id 0) (loopOrc S_TakeStep_g0_keep S_TakeStep_g0_co (fun n nf => cond (Nat.beq n 93) (S_TakeStep_g0_dec nf) none) fun pv K => iter (fun v next => S_TakeStep_g0 k pv.1 v next (fun x => K (.exit 0) (S_TakeStep_g0_x0 pv.1 x))) k pv.2) ((fun _ _ _ _ => none) id f)
theorem S_TakeStep_g0_round {ρ : Type} (k : Nat) (p : Int × Int × Int × Int × Int × Int × Int × List Int × Int × Int × Int × Int × Int × Int × List Int) (v : Int × Int × Bool × List Int) (K K1 : Ex → St → Option ρ) : ev (E_S_TakeStep k) (LP_S_TakeStep ρ k) 0 b_S_TakeStep_0 (S_TakeStep_g0_tm (p, v)) (fun e st' => match e with
    | .normal => (normC S_TakeStep_g0_keep S_TakeStep_g0_co st').bind fun nf => K1 .normal (denorm S_TakeStep_g0_keep st'.n nf)
    | e => (normC (S_TakeStep_g0_kx e) (S_TakeStep_g0_cx e) st').bind fun nf => K e (denorm (S_TakeStep_g0_kx e) st'.n nf)) = S_TakeStep_g0 k p v (fun v' => K1 .normal (S_TakeStep_g0_tm (p, v'))) (fun x => K (.exit 0) (S_TakeStep_g0_x0 p x)) := by kernel_rfl
theorem S_TakeStep_g0_ok {ρ : Type} (k : Nat) : Sound Try.prog (.loop b_S_TakeStep_0) (LP_S_TakeStep ρ k 0 fun st K => ev (E_S_TakeStep k) (LP_S_TakeStep ρ k) 0 b_S_TakeStep_0 st K) :=
  loop_ok (ev_sound (E_S_TakeStep_ok k) b_S_TakeStep_0 0 (lpgood_none (by kernel_rfl))) S_TakeStep_g0_kx S_TakeStep_g0_cx k (g := fun p v next K => S_TakeStep_g0 k p v next (fun x => K (.exit 0) (S_TakeStep_g0_x0 p x))) (dec_at S_TakeStep_g0_hd) (fun p v K K1 => S_TakeStep_g0_round k p v K K1)
def S_TakeStep_args (a : List Int × Int) : List Arg := [.one (.sl (.int .u8) a.1), .one (.int .i64 a.2)]
def S_TakeStep_argD (l : List Arg) : Option (List Int × Int) := match l with
  | [.one (.sl (.int .u8) b0), .one (.int .i64 b1)] => some (b0, b1)
  | _ => none
def S_TakeStep_enc (r : Step × Int) : Out := (.tup [.agg [.r [] (.int .i64 r.1.kind), .r [] (.int .i64 r.1.a), .r [] (.int .i64 r.1.b), .own 0, .r [] (.int .i64 r.1.input.sh.h), .r [] (.int .i64 r.1.input.sh.w), .r [] (.int .i64 r.1.input.sh.c), .own 1], .r [] (.int .i64 r.2)], [.arr none (.int .u8) r.1.data, .arr none (.int .i64) r.1.input.data])
def S_TakeStep_dec (o : Out) : Option (Step × Int) := match o with
  | (.tup [.agg [.r [] (.int .i64 z1), .r [] (.int .i64 z2), .r [] (.int .i64 z3), .own 0, .r [] (.int .i64 z5), .r [] (.int .i64 z6), .r [] (.int .i64 z7), .own 1], .r [] (.int .i64 z9)], [.arr none (.int .u8) z4, .arr none (.int .i64) z8]) => some ((⟨z1, z2, z3, z4, (⟨(⟨z5, z6, z7⟩ : Shape), z8⟩ : Tensor)⟩ : Step), z9)
  | _ => none
def S_TakeStep_G (k : Nat) : PG := fun _ l K => (S_TakeStep_argD l).bind fun a => (S_TakeStep k a.1 a.2).bind fun r => K (S_TakeStep_enc r)
theorem S_TakeStep_ev (k : Nat) (a : List Int × Int) : ev (E_S_TakeStep k) (LP_S_TakeStep (Step × Int) k) 0 c_S_TakeStep (st0 Try.f15 (S_TakeStep_args a)) (fin Try.prog Try.f15 (.tup [.agg [.sc, .sc, .sc, .own (.int .u8), .sc, .sc, .sc, .own (.int .i64)], .sc]) S_TakeStep_dec) = S_TakeStep k a.1 a.2 := by kernel_rfl
theorem S_TakeStep_ok (k : Nat) : PureOk Try.prog 15 (S_TakeStep_G k) :=
  pureOk_of_ev (E_S_TakeStep_ok k) Try.func15 (by kernel_rfl) (by kernel_rfl) S_TakeStep_args S_TakeStep_argD
    (fun l a h => by unfold S_TakeStep_argD at h; split at h <;> first | (cases h; rfl) | cases h) (fun a => rfl) (lpgood_of (l := [(0, b_S_TakeStep_0)]) (by kernel_rfl) ⟨S_TakeStep_g0_ok k, trivial⟩)
    (fun o r h => by unfold S_TakeStep_dec at h; split at h <;> first | (cases h; rfl) | cases h) (S_TakeStep_ev k)
def o_S_TakeStep (k : Nat) : Orc := pureOrc [.one (.sl (.int .u8)), .one (.int .i64)] (S_TakeStep_G k)
theorem o_S_TakeStep_ok (k : Nat) : OrcOk Try.prog 15 (o_S_TakeStep k) := pureOrc_ok (S_TakeStep_ok k)
/-! ### 88 loop.example/g00778/spec.SumOf -/
noncomputable def E_S_SumOf (k : Nat) : Env := { P := Try.prog, tt := tt, orc := fun g => noOrc }
theorem E_S_SumOf_ok (k : Nat) : EnvOk (E_S_SumOf k) := fun g => (noOrc_ok _ _)
noncomputable def c_S_SumOf : Code := (Try.f88.body).getD .skip
noncomputable def b_S_SumOf_0 : Code := ((loopsIn 0 c_S_SumOf).getD 0 (0, .skip)).2
def S_SumOf_g0_keep : List Nat := [0, 3, 4]
def S_SumOf_g0_co : List (Where × Co) := []
def S_SumOf_g0_kx : Ex → List Nat
  | .exit j => cond (Nat.beq j 0) [3] []
  | .ret => []
  | .normal => []
def S_SumOf_g0_cx : Ex → List (Where × Co)
  | .exit j => cond (Nat.beq j 0) [] []
  | .ret => []
  | .normal => []
def S_SumOf_g0_tm (pv : (List Int) × (Int × Int)) : St := { slots := [(0, .r [] (.sl (.int .u8) pv.1)), (3, .r [] (.int .i64 pv.2.1)), (4, .r [] (.int .i64 pv.2.2))], heap := [], nid := 0, n := 22, gh := [] }
def S_SumOf_g0_dec (nf : NF) : Option ((List Int) × (Int × Int)) := match nf with
  | ([.r [] (.sl (.int .u8) w0), .r [] (.int .i64 w1), .r [] (.int .i64 w2)], [], []) => some (w0, (w1, w2))
  | _ => none
theorem S_SumOf_g0_hd (nf : NF) (v : (List Int) × (Int × Int)) (h : S_SumOf_g0_dec nf = some v) : denorm S_SumOf_g0_keep 22 nf = S_SumOf_g0_tm v := by
  unfold S_SumOf_g0_dec at h
  split at h
  · cases h; rfl
  · cases h
def S_SumOf_g0_x0 (p : List Int) (x : Int) : St := { slots := [(3, .r [] (.int .i64 x))], heap := [], nid := 0, n := 22, gh := [] }
def LP_S_SumOf (ρ : Type) (k : Nat) : Nat → Ev ρ → Ev ρ := fun id f => cond (Nat.beq id 0) (loopOrc S_SumOf_g0_keep S_SumOf_g0_co (fun n nf => cond (Nat.beq n 22) (S_SumOf_g0_dec nf) none) fun pv K => iter (fun v next => S_SumOf_g0 k pv.1 v next (fun x => K (.exit 0) (S_SumOf_g0_x0 pv.1 x))) k pv.2) ((fun _ _ _ _ => none) id f)
theorem S_SumOf_g0_round {ρ : Type} (k : Nat) (p : List Int) (v : Int × Int) (K K1 : Ex → St → Option ρ) : ev (E_S_SumOf k) (LP_S_SumOf ρ k) 0 b_S_SumOf_0 (S_SumOf_g0_tm (p, v)) (fun e st' => match e with
    | .normal => (normC S_SumOf_g0_keep S_SumOf_g0_co st').bind fun nf => K1 .normal (denorm S_SumOf_g0_keep st'.n nf)
    | e => (normC (S_SumOf_g0_kx e) (S_SumOf_g0_cx e) st').bind fun nf => K e (denorm (S_SumOf_g0_kx e) st'.n nf)) = S_SumOf_g0 k p v (fun v' => K1 .normal (S_SumOf_g0_tm (p, v'))) (fun x => K (.exit 0) (S_SumOf_g0_x0 p x)) := by kernel_rfl
theorem S_SumOf_g0_ok {ρ : Type} (k : Nat) : Sound Try.prog (.loop b_S_SumOf_0) (LP_S_SumOf ρ k 0 fun st K => ev (E_S_SumOf k) (LP_S_SumOf ρ k) 0 b_S_SumOf_0 st K) :=
  loop_ok (ev_sound (E_S_SumOf_ok k) b_S_SumOf_0 0 (lpgood_none (by kernel_rfl))) S_SumOf_g0_kx S_SumOf_g0_cx k (g := fun p v next K => S_SumOf_g0 k p v next (fun x => K (.exit 0) (S_SumOf_g0_x0 p x))) (dec_at S_SumOf_g0_hd) (fun p v K K1 => S_SumOf_g0_round k p v K K1)
def S_SumOf_args (a : List Int) : List Arg := [.one (.sl (.int .u8) a)]
def S_SumOf_argD (l : List Arg) : Option (List Int) := match l with
  | [.one (.sl (.int .u8) b0)] => some b0
  | _ => none
def S_SumOf_enc (r : Int) : Out := (.r [] (.int .i64 r), [])
def S_SumOf_dec (o : Out) : Option (Int) := match o with
  | (.r [] (.int .i64 z1), []) => some z1
  | _ => none
def S_SumOf_G (k : Nat) : PG := fun _ l K => (S_SumOf_argD l).bind fun a => (S_SumOf k a).bind fun r => K (S_SumOf_enc r)
theorem S_SumOf_ev (k : Nat) (a : List Int) : ev (E_S_SumOf k) (LP_S_SumOf (Int) k) 0 c_S_SumOf (st0 Try.f88 (S_SumOf_args a)) (fin Try.prog Try.f88 (.sc) S_SumOf_dec) = S_SumOf k a := by kernel_rfl
theorem S_SumOf_ok (k : Nat) : PureOk Try.prog 88 (S_SumOf_G k) :=
  pureOk_of_ev (E_S_SumOf_ok k) Try.func88 (by kernel_rfl) (by kernel_rfl) S_SumOf_args S_SumOf_argD
    (fun l a h => by unfold S_SumOf_argD at h; split at h <;> first | (cases h; rfl) | cases h) (fun a => rfl) (lpgood_of (l := [(0, b_S_SumOf_0)]) (by kernel_rfl) ⟨S_SumOf_g0_ok k, trivial⟩)
    (fun o r h => by unfold S_SumOf_dec at h; split at h <;> first | (cases h; rfl) | cases h) (S_SumOf_ev k)
def o_S_SumOf (k : Nat) : Orc := pureOrc [.one (.sl (.int .u8))] (S_SumOf_G k)
theorem o_S_SumOf_ok (k : Nat) : OrcOk Try.prog 88 (o_S_SumOf k) := pureOrc_ok (S_SumOf_ok k)
/-! ### 23 loop.example/g00778/spec.ReadTrace -/
noncomputable def E_S_ReadTrace (k : Nat) : Env := { P := Try.prog, tt := tt, orc := fun g => cond (Nat.beq g 15) (o_S_TakeStep k) (cond (Nat.beq g 82) (o_S_l01In k) (cond (Nat.beq g 87) (o_S_TakeWide k) (cond (Nat.beq g 88) (o_S_SumOf k) (noOrc)))) }
theorem E_S_ReadTrace_ok (k : Nat) : EnvOk (E_S_ReadTrace k) := fun g => (orc_cond (o_S_TakeStep_ok k) (orc_cond (o_S_l01In_ok k) (orc_cond (o_S_TakeWide_ok k) (orc_cond (o_S_SumOf_ok k) (noOrc_ok _ _)))))
noncomputable def c_S_ReadTrace : Code := (Try.f23.body).getD .skip
noncomputable def b_S_ReadTrace_0 : Code := ((loopsIn 0 c_S_ReadTrace).getD 0 (0, .skip)).2
def S_ReadTrace_g0_keep : List Nat := [0, 4, 5, 6, 7]
def S_ReadTrace_g0_co : List (Where × Co) := []
def S_ReadTrace_g0_kx : Ex → List Nat
  | .exit j => cond (Nat.beq j 0) [0, 5, 6] []
  | .ret => [2, 3]
  | .normal => []
def S_ReadTrace_g0_cx : Ex → List (Where × Co)
  | .exit j => cond (Nat.beq j 0) [] []
  | .ret => []
  | .normal => []
def S_ReadTrace_g0_tm (pv : (List Int × Int) × (Int × Int × List Step)) : St := { slots := [(0, .r [] (.sl (.int .u8) pv.1.1)), (4, .r [] (.int .i64 pv.1.2)), (5, .r [] (.int .i64 pv.2.1)), (6, .own 0), (7, .r [] (.int .i64 pv.2.2.1))], heap := [(0, .arr none (.st .step) pv.2.2.2)], nid := 1, n := 82, gh := [] }
def S_ReadTrace_g0_dec (nf : NF) : Option ((List Int × Int) × (Int × Int × List Step)) := match nf with
  | ([.r [] (.sl (.int .u8) w0), .r [] (.int .i64 w1), .r [] (.int .i64 w2), .own 0, .r [] (.int .i64 w3)], [.arr none (.st .step) w4], []) => some ((w0, w1), (w2, w3, w4))
  | _ => none
theorem S_ReadTrace_g0_hd (nf : NF) (v : (List Int × Int) × (Int × Int × List Step)) (h : S_ReadTrace_g0_dec nf = some v) : denorm S_ReadTrace_g0_keep 82 nf = S_ReadTrace_g0_tm v := by
  unfold S_ReadTrace_g0_dec at h
  split at h
  · cases h; rfl
  · cases h
def S_ReadTrace_g0_x0 (p : List Int × Int) (x : Int × List Step) : St := { slots := [(0, .r [] (.sl (.int .u8) p.1)), (5, .r [] (.int .i64 x.1)), (6, .own 0)], heap := [(0, .arr none (.st .step) x.2)], nid := 1, n := 82, gh := [] }
def S_ReadTrace_g0_xret (p : List Int × Int) (x : Int) : St := { slots := [(2, .nilS), (3, .r [] (.int .i64 x))], heap := [], nid := 0, n := 82, gh := [] }
def LP_S_ReadTrace (ρ : Type) (k : Nat) : Nat → Ev ρ → Ev ρ := fun id f => cond (Nat.beq id 0) (loopOrc S_ReadTrace_g0_keep S_ReadTrace_g0_co (fun n nf => cond (Nat.beq n 82) (S_ReadTrace_g0_dec nf) none) fun pv K => iter (fun v next => S_ReadTrace_g0 k pv.1 v next (fun x => K (.exit 0) (S_ReadTrace_g0_x0 pv.1 x)) (fun x => K .ret (S_ReadTrace_g0_xret pv.1 x))) k pv.2) ((fun _ _ _ _ => none) id f)
theorem S_ReadTrace_g0_round {ρ : Type} (k : Nat) (p : List Int × Int) (v : Int × Int × List Step) (K K1 : Ex → St → Option ρ) : ev (E_S_ReadTrace k) (LP_S_ReadTrace ρ k) 0 b_S_ReadTrace_0 (S_ReadTrace_g0_tm (p, v)) (fun e st' => match e with
    | .normal => (normC S_ReadTrace_g0_keep S_ReadTrace_g0_co st').bind fun nf => K1 .normal (denorm S_ReadTrace_g0_keep st'.n nf)
    | e => (normC (S_ReadTrace_g0_kx e) (S_ReadTrace_g0_cx e) st').bind fun nf => K e (denorm (S_ReadTrace_g0_kx e) st'.n nf)) = S_ReadTrace_g0 k p v (fun v' => K1 .normal (S_ReadTrace_g0_tm (p, v'))) (fun x => K (.exit 0) (S_ReadTrace_g0_x0 p x)) (fun x => K .ret (S_ReadTrace_g0_xret p x)) := by kernel_rfl
theorem S_ReadTrace_g0_ok {ρ : Type} (k : Nat) : Sound Try.prog (.loop b_S_ReadTrace_0) (LP_S_ReadTrace ρ k 0 fun st K => ev (E_S_ReadTrace k) (LP_S_ReadTrace ρ k) 0 b_S_ReadTrace_0 st K) :=
  loop_ok (ev_sound (E_S_ReadTrace_ok k) b_S_ReadTrace_0 0 (lpgood_none (by kernel_rfl))) S_ReadTrace_g0_kx S_ReadTrace_g0_cx k (g := fun p v next K => S_ReadTrace_g0 k p v next (fun x => K (.exit 0) (S_ReadTrace_g0_x0 p x)) (fun x => K .ret (S_ReadTrace_g0_xret p x))) (dec_at S_ReadTrace_g0_hd) (fun p v K K1 => S_ReadTrace_g0_round k p v K K1)
def S_ReadTrace_args (a : List Int) : List Arg := [.one (.sl (.int .u8) a)]
def S_ReadTrace_argD (l : List Arg) : Option (List Int) := match l with
  | [.one (.sl (.int .u8) b0)] => some b0
  | _ => none
def S_ReadTrace_enc (r : List Step × Int) : Out := (.tup [.own 0, .r [] (.int .i64 r.2)], [.arr none (.st .step) r.1])
def S_ReadTrace_dec (o : Out) : Option (List Step × Int) := match o with
  | (.tup [.own 0, .r [] (.int .i64 z2)], [.arr none (.st .step) z1]) => some (z1, z2)
  | _ => none
def S_ReadTrace_G (k : Nat) : PG := fun _ l K => (S_ReadTrace_argD l).bind fun a => (S_ReadTrace k a).bind fun r => K (S_ReadTrace_enc r)
theorem S_ReadTrace_ev (k : Nat) (a : List Int) : ev (E_S_ReadTrace k) (LP_S_ReadTrace (List Step × Int) k) 0 c_S_ReadTrace (st0 Try.f23 (S_ReadTrace_args a)) (fin Try.prog Try.f23 (.tup [.own (.st .step), .sc]) S_ReadTrace_dec) = S_ReadTrace k a := by kernel_rfl
theorem S_ReadTrace_ok (k : Nat) : PureOk Try.prog 23 (S_ReadTrace_G k) :=
  pureOk_of_ev (E_S_ReadTrace_ok k) Try.func23 (by kernel_rfl) (by kernel_rfl) S_ReadTrace_args S_ReadTrace_argD
    (fun l a h => by unfold S_ReadTrace_argD at h; split at h <;> first | (cases h; rfl) | cases h) (fun a => rfl) (lpgood_of (l := [(0, b_S_ReadTrace_0)]) (by kernel_rfl) ⟨S_ReadTrace_g0_ok k, trivial⟩)
    (fun o r h => by unfold S_ReadTrace_dec at h; split at h <;> first | (cases h; rfl) | cases h) (S_ReadTrace_ev k)
def o_S_ReadTrace (k : Nat) : Orc := pureOrc [.one (.sl (.int .u8))] (S_ReadTrace_G k)
theorem o_S_ReadTrace_ok (k : Nat) : OrcOk Try.prog 23 (o_S_ReadTrace k) := pureOrc_ok (S_ReadTrace_ok k)
/-! ### 153 bytes.Equal -/
noncomputable def E_bytes_Equal (k : Nat) : Env := { P := Try.prog, tt := tt, orc := fun g => noOrc }
theorem E_bytes_Equal_ok (k : Nat) : EnvOk (E_bytes_Equal k) := fun g => (noOrc_ok _ _)
noncomputable def c_bytes_Equal : Code := (Try.f153.body).getD .skip
def LP_bytes_Equal (ρ : Type) (k : Nat) : Nat → Ev ρ → Ev ρ := fun _ _ _ _ => none
def bytes_Equal_args (a : List Int × List Int) : List Arg := [.one (.sl (.int .u8) a.1), .one (.sl (.int .u8) a.2)]
def bytes_Equal_argD (l : List Arg) : Option (List Int × List Int) := match l with
  | [.one (.sl (.int .u8) b0), .one (.sl (.int .u8) b1)] => some (b0, b1)
  | _ => none
def bytes_Equal_enc (r : Bool) : Out := (.r [] (.bool r), [])
def bytes_Equal_dec (o : Out) : Option (Bool) := match o with
  | (.r [] (.bool z1), []) => some z1
  | _ => none
def bytes_Equal_G (k : Nat) : PG := fun _ l K => (bytes_Equal_argD l).bind fun a => (bytes_Equal k a.1 a.2).bind fun r => K (bytes_Equal_enc r)
theorem bytes_Equal_ev (k : Nat) (a : List Int × List Int) : ev (E_bytes_Equal k) (LP_bytes_Equal (Bool) k) 0 c_bytes_Equal (st0 Try.f153 (bytes_Equal_args a)) (fin Try.prog Try.f153 (.sc) bytes_Equal_dec) = bytes_Equal k a.1 a.2 := by kernel_rfl
theorem bytes_Equal_ok (k : Nat) : PureOk Try.prog 153 (bytes_Equal_G k) :=
  pureOk_of_ev (E_bytes_Equal_ok k) Try.func153 (by kernel_rfl) (by kernel_rfl) bytes_Equal_args bytes_Equal_argD
    (fun l a h => by unfold bytes_Equal_argD at h; split at h <;> first | (cases h; rfl) | cases h) (fun a => rfl) (lpgood_none (by kernel_rfl))
    (fun o r h => by unfold bytes_Equal_dec at h; split at h <;> first | (cases h; rfl) | cases h) (bytes_Equal_ev k)
def o_bytes_Equal (k : Nat) : Orc := pureOrc [.one (.sl (.int .u8)), .one (.sl (.int .u8))] (bytes_Equal_G k)
theorem o_bytes_Equal_ok (k : Nat) : OrcOk Try.prog 153 (o_bytes_Equal k) := pureOrc_ok (bytes_Equal_ok k)
/-! ### 89 bytes.HasPrefix -/
noncomputable def E_bytes_HasPrefix (k : Nat) : Env := { P := Try.prog, tt := tt, orc := fun g => cond (Nat.beq g 153) (o_bytes_Equal k) (noOrc) }
theorem E_bytes_HasPrefix_ok (k : Nat) : EnvOk (E_bytes_HasPrefix k) := fun g => (orc_cond (o_bytes_Equal_ok k) (noOrc_ok _ _))
noncomputable def c_bytes_HasPrefix : Code := (Try.f89.body).getD .skip
def LP_bytes_HasPrefix (ρ : Type) (k : Nat) : Nat → Ev ρ → Ev ρ := fun _ _ _ _ => none
def bytes_HasPrefix_args (a : List Int × List Int) : List Arg := [.one (.sl (.int .u8) a.1), .one (.sl (.int .u8) a.2)]
def bytes_HasPrefix_argD (l : List Arg) : Option (List Int × List Int) := match l with
  | [.one (.sl (.int .u8) b0), .one (.sl (.int .u8) b1)] => some (b0, b1)
  | _ => none
def bytes_HasPrefix_enc (r : Bool) : Out := (.r [] (.bool r), [])
def bytes_HasPrefix_dec (o : Out) : Option (Bool) := match o with
  | (.r [] (.bool z1), []) => some z1
  | _ => none
def bytes_HasPrefix_G (k : Nat) : PG := fun _ l K => (bytes_HasPrefix_argD l).bind fun a => (bytes_HasPrefix k a.1 a.2).bind fun r => K (bytes_HasPrefix_enc r)
theorem bytes_HasPrefix_ev (k : Nat) (a : List Int × List Int) : ev (E_bytes_HasPrefix k) (LP_bytes_HasPrefix (Bool) k) 0 c_bytes_HasPrefix (st0 Try.f89 (bytes_HasPrefix_args a)) (fin Try.prog Try.f89 (.sc) bytes_HasPrefix_dec) = bytes_HasPrefix k a.1 a.2 := by kernel_rfl
theorem bytes_HasPrefix_ok (k : Nat) : PureOk Try.prog 89 (bytes_HasPrefix_G k) :=
  pureOk_of_ev (E_bytes_HasPrefix_ok k) Try.func89 (by kernel_rfl) (by kernel_rfl) bytes_HasPrefix_args bytes_HasPrefix_argD
    (fun l a h => by unfold bytes_HasPrefix_argD at h; split at h <;> first | (cases h; rfl) | cases h) (fun a => rfl) (lpgood_none (by kernel_rfl))
    (fun o r h => by unfold bytes_HasPrefix_dec at h; split at h <;> first | (cases h; rfl) | cases h) (bytes_HasPrefix_ev k)
def o_bytes_HasPrefix (k : Nat) : Orc := pureOrc [.one (.sl (.int .u8)), .one (.sl (.int .u8))] (bytes_HasPrefix_G k)
theorem o_bytes_HasPrefix_ok (k : Nat) : OrcOk Try.prog 89 (o_bytes_HasPrefix k) := pureOrc_ok (bytes_HasPrefix_ok k)
/-! ### 84 loop.example/g00778/impl.in -/
noncomputable def E_I_in (k : Nat) : Env := { P := Try.prog, tt := tt, orc := fun g => noOrc }
theorem E_I_in_ok (k : Nat) : EnvOk (E_I_in k) := fun g => (noOrc_ok _ _)
noncomputable def c_I_in : Code := (Try.f84.body).getD .skip
def LP_I_in (ρ : Type) (k : Nat) : Nat → Ev ρ → Ev ρ := fun _ _ _ _ => none
def I_in_args (a : Int × Int × Int) : List Arg := [.one (.int .i64 a.1), .one (.int .i64 a.2.1), .one (.int .i64 a.2.2)]
def I_in_argD (l : List Arg) : Option (Int × Int × Int) := match l with
  | [.one (.int .i64 b0), .one (.int .i64 b1), .one (.int .i64 b2)] => some (b0, b1, b2)
  | _ => none
def I_in_enc (r : Bool) : Out := (.r [] (.bool r), [])
def I_in_dec (o : Out) : Option (Bool) := match o with
  | (.r [] (.bool z1), []) => some z1
  | _ => none
def I_in_G (k : Nat) : PG := fun _ l K => (I_in_argD l).bind fun a => (I_in k a.1 a.2.1 a.2.2).bind fun r => K (I_in_enc r)
theorem I_in_ev (k : Nat) (a : Int × Int × Int) : ev (E_I_in k) (LP_I_in (Bool) k) 0 c_I_in (st0 Try.f84 (I_in_args a)) (fin Try.prog Try.f84 (.sc) I_in_dec) = I_in k a.1 a.2.1 a.2.2 := by kernel_rfl
theorem I_in_ok (k : Nat) : PureOk Try.prog 84 (I_in_G k) :=
  pureOk_of_ev (E_I_in_ok k) Try.func84 (by kernel_rfl) (by kernel_rfl) I_in_args I_in_argD
    (fun l a h => by unfold I_in_argD at h; split at h <;> first | (cases h; rfl) | cases h) (fun a => rfl) (lpgood_none (by kernel_rfl))
    (fun o r h => by unfold I_in_dec at h; split at h <;> first | (cases h; rfl) | cases h) (I_in_ev k)
def o_I_in (k : Nat) : Orc := pureOrc [.one (.int .i64), .one (.int .i64), .one (.int .i64)] (I_in_G k)
theorem o_I_in_ok (k : Nat) : OrcOk Try.prog 84 (o_I_in k) := pureOrc_ok (I_in_ok k)
/-! ### 98 loop.example/g00778/impl.isWide -/
noncomputable def E_I_isWide (k : Nat) : Env := { P := Try.prog, tt := tt, orc := fun g => cond (Nat.beq g 84) (o_I_in k) (noOrc) }
theorem E_I_isWide_ok (k : Nat) : EnvOk (E_I_isWide k) := fun g => (orc_cond (o_I_in_ok k) (noOrc_ok _ _))
noncomputable def c_I_isWide : Code := (Try.f98.body).getD .skip
def LP_I_isWide (ρ : Type) (k : Nat) : Nat → Ev ρ → Ev ρ := fun _ _ _ _ => none
def I_isWide_args (a : Int) : List Arg := [.one (.int .i64 a)]
def I_isWide_argD (l : List Arg) : Option (Int) := match l with
  | [.one (.int .i64 b0)] => some b0
  | _ => none
def I_isWide_enc (r : Bool) : Out := (.r [] (.bool r), [])
def I_isWide_dec (o : Out) : Option (Bool) := match o with
  | (.r [] (.bool z1), []) => some z1
  | _ => none
def I_isWide_G (k : Nat) : PG := fun _ l K => (I_isWide_argD l).bind fun a => (I_isWide k a).bind fun r => K (I_isWide_enc r)
theorem I_isWide_ev (k : Nat) (a : Int) : ev (E_I_isWide k) (LP_I_isWide (Bool) k) 0 c_I_isWide (st0 Try.f98 (I_isWide_args a)) (fin Try.prog Try.f98 (.sc) I_isWide_dec) = I_isWide k a := by kernel_rfl
theorem I_isWide_ok (k : Nat) : PureOk Try.prog 98 (I_isWide_G k) :=
  pureOk_of_ev (E_I_isWide_ok k) Try.func98 (by kernel_rfl) (by kernel_rfl) I_isWide_args I_isWide_argD
    (fun l a h => by unfold I_isWide_argD at h; split at h <;> first | (cases h; rfl) | cases h) (fun a => rfl) (lpgood_none (by kernel_rfl))
    (fun o r h => by unfold I_isWide_dec at h; split at h <;> first | (cases h; rfl) | cases h) (I_isWide_ev k)
def o_I_isWide (k : Nat) : Orc := pureOrc [.one (.int .i64)] (I_isWide_G k)
theorem o_I_isWide_ok (k : Nat) : OrcOk Try.prog 98 (o_I_isWide k) := pureOrc_ok (I_isWide_ok k)
/-! ### 154 loop.example/g00778/impl.TakeWide -/
noncomputable def E_I_TakeWide (k : Nat) : Env := { P := Try.prog, tt := tt, orc := fun g => cond (Nat.beq g 84) (o_I_in k) (cond (Nat.beq g 98) (o_I_isWide k) (noOrc)) }
theorem E_I_TakeWide_ok (k : Nat) : EnvOk (E_I_TakeWide k) := fun g => (orc_cond (o_I_in_ok k) (orc_cond (o_I_isWide_ok k) (noOrc_ok _ _)))
noncomputable def c_I_TakeWide : Code := (Try.f154.body).getD .skip
noncomputable def b_I_TakeWide_0 : Code := ((loopsIn 0 c_I_TakeWide).getD 0 (0, .skip)).2
def I_TakeWide_g0_keep : List Nat := [1, 6, 23, 24, 25]
def I_TakeWide_g0_co : List (Where × Co) := []
def I_TakeWide_g0_kx : Ex → List Nat
  | .exit j => cond (Nat.beq j 0) [] []
  | .ret => [4, 5]
  | .normal => []
def I_TakeWide_g0_cx : Ex → List (Where × Co)
  | .exit j => cond (Nat.beq j 0) [] []
  | .ret => []
  | .normal => []
def I_TakeWide_g0_tm (pv : (Int × List Int × Int) × (Int × Int)) : St := { slots := [(1, .r [] (.int .i64 pv.1.1)), (6, .r [] (.int .i64 pv.2.1)), (23, .r [] (.sl (.int .u8) pv.1.2.1)), (24, .r [] (.int .i64 pv.1.2.2)), (25, .r [] (.int .i64 pv.2.2))], heap := [], nid := 0, n := 65, gh := [] }
def I_TakeWide_g0_dec (nf : NF) : Option ((Int × List Int × Int) × (Int × Int)) := match nf with
  | ([.r [] (.int .i64 w0), .r [] (.int .i64 w1), .r [] (.sl (.int .u8) w2), .r [] (.int .i64 w3), .r [] (.int .i64 w4)], [], []) => some ((w0, w2, w3), (w1, w4))
  | _ => none
theorem I_TakeWide_g0_hd (nf : NF) (v : (Int × List Int × Int) × (Int × Int)) (h : I_TakeWide_g0_dec nf = some v) : denorm I_TakeWide_g0_keep 65 nf = I_TakeWide_g0_tm v := by
  unfold I_TakeWide_g0_dec at h
  split at h
  · cases h; rfl
  · cases h
def I_TakeWide_g0_x0 (p : Int × List Int × Int) (x : Unit) : St := { slots := [], heap := [], nid := 0, n := 65, gh := [] }
def I_TakeWide_g0_xret (p : Int × List Int × Int) (x : Int × Int) : St := { slots := [(4, .r [] (.int .i64 x.1)), (5, .r [] (.int .i64 x.2))], heap := [], nid := 0, n := 65, gh := [] }
def LP_I_TakeWide (ρ : Type) (k : Nat) : Nat → Ev ρ → Ev ρ := fun id f => cond (Nat.beq id 0) (loopOrc I_TakeWide_g0_keep I_TakeWide_g0_co (fun n nf => cond (Nat.beq n 65) (I_TakeWide_g0_dec nf) none) fun pv K => iter (fun v next => I_TakeWide_g0 k pv.1 v next (fun x => K (.exit 0) (I_TakeWide_g0_x0 pv.1 x)) (fun x => K .ret (I_TakeWide_g0_xret pv.1 x))) k pv.2) ((fun _ _ _ _ => none) id f)
theorem I_TakeWide_g0_round {ρ : Type} (k : Nat) (p : Int × List Int × Int) (v : Int × Int) (K K1 : Ex → St → Option ρ) : ev (E_I_TakeWide k) (LP_I_TakeWide ρ k) 0 b_I_TakeWide_0 (I_TakeWide_g0_tm (p, v)) (fun e st' => match e with
    | .normal => (normC I_TakeWide_g0_keep I_TakeWide_g0_co st').bind fun nf => K1 .normal (denorm I_TakeWide_g0_keep st'.n nf)
    | e => (normC (I_TakeWide_g0_kx e) (I_TakeWide_g0_cx e) st').bind fun nf => K e (denorm (I_TakeWide_g0_kx e) st'.n nf)) = I_TakeWide_g0 k p v (fun v' => K1 .normal (I_TakeWide_g0_tm (p, v'))) (fun x => K (.exit 0) (I_TakeWide_g0_x0 p x)) (fun x => K .ret (I_TakeWide_g0_xret p x)) := by kernel_rfl
theorem I_TakeWide_g0_ok {ρ : Type} (k : Nat) : Sound Try.prog (.loop b_I_TakeWide_0) (LP_I_TakeWide ρ k 0 fun st K => ev (E_I_TakeWide k) (LP_I_TakeWide ρ k) 0 b_I_TakeWide_0 st K) :=
  loop_ok (ev_sound (E_I_TakeWide_ok k) b_I_TakeWide_0 0 (lpgood_none (by kernel_rfl))) I_TakeWide_g0_kx I_TakeWide_g0_cx k (g := fun p v next K => I_TakeWide_g0 k p v next (fun x => K (.exit 0) (I_TakeWide_g0_x0 p x)) (fun x => K .ret (I_TakeWide_g0_xret p x))) (dec_at I_TakeWide_g0_hd) (fun p v K K1 => I_TakeWide_g0_round k p v K K1)
def I_TakeWide_args (a : List Int × Int) : List Arg := [.one (.sl (.int .u8) a.1), .one (.int .i64 a.2)]
def I_TakeWide_argD (l : List Arg) : Option (List Int × Int) := match l with
  | [.one (.sl (.int .u8) b0), .one (.int .i64 b1)] => some (b0, b1)
  | _ => none
def I_TakeWide_enc (r : Int × Int) : Out := (.tup [.r [] (.int .i64 r.1), .r [] (.int .i64 r.2)], [])
def I_TakeWide_dec (o : Out) : Option (Int × Int) := match o with
  | (.tup [.r [] (.int .i64 z1), .r [] (.int .i64 z2)], []) => some (z1, z2)
  | _ => none
def I_TakeWide_G (k : Nat) : PG := fun _ l K => (I_TakeWide_argD l).bind fun a => (I_TakeWide k a.1 a.2).bind fun r => K (I_TakeWide_enc r)
theorem I_TakeWide_ev (k : Nat) (a : List Int × Int) : ev (E_I_TakeWide k) (LP_I_TakeWide (Int × Int) k) 0 c_I_TakeWide (st0 Try.f154 (I_TakeWide_args a)) (fin Try.prog Try.f154 (.tup [.sc, .sc]) I_TakeWide_dec) = I_TakeWide k a.1 a.2 := by kernel_rfl
theorem I_TakeWide_ok (k : Nat) : PureOk Try.prog 154 (I_TakeWide_G k) :=
  pureOk_of_ev (E_I_TakeWide_ok k) Try.func154 (by kernel_rfl) (by kernel_rfl) I_TakeWide_args I_TakeWide_argD
    (fun l a h => by unfold I_TakeWide_argD at h; split at h <;> first | (cases h; rfl) | cases h) (fun a => rfl) (lpgood_of (l := [(0, b_I_TakeWide_0)]) (by kernel_rfl) ⟨I_TakeWide_g0_ok k, trivial⟩)
    (fun o r h => by unfold I_TakeWide_dec at h; split at h <;> first | (cases h; rfl) | cases h) (I_TakeWide_ev k)
def o_I_TakeWide (k : Nat) : Orc := pureOrc [.one (.sl (.int .u8)), .one (.int .i64)] (I_TakeWide_G k)
theorem o_I_TakeWide_ok (k : Nat) : OrcOk Try.prog 154 (o_I_TakeWide k) := pureOrc_ok (I_TakeWide_ok k)
/-! ### 91 (*loop.example/g00778/impl.wideReader).number -/
noncomputable def E_pI_wideReader_number_m (k : Nat) : Env := { P := Try.prog, tt := tt, orc := fun g => cond (Nat.beq g 154) (o_I_TakeWide k) (noOrc) }
theorem E_pI_wideReader_number_m_ok (k : Nat) : EnvOk (E_pI_wideReader_number_m k) := fun g => (orc_cond (o_I_TakeWide_ok k) (noOrc_ok _ _))
noncomputable def c_pI_wideReader_number_m : Code := (Try.f91.body).getD .skip
def LP_pI_wideReader_number_m (ρ : Type) (k : Nat) : Nat → Ev ρ → Ev ρ := fun _ _ _ _ => none
def pI_wideReader_number_m_args (a : Reader) : List SV := [.ptr 0 0 0]
def pI_wideReader_number_m_blks (a : Reader) : List Blk := [.box [.r [] (.sl (.int .u8) a.b), .r [] (.int .i64 a.at_), .r [] (.bool a.bad)]]
def pI_wideReader_number_m_argD (l : List SV) (b : List Blk) : Option (Reader) := match l, b with
  | [.ptr 0 0 0], [.box [.r [] (.sl (.int .u8) w0), .r [] (.int .i64 w1), .r [] (.bool w2)]] => some (⟨w0, w1, w2⟩ : Reader)
  | _, _ => none
def pI_wideReader_number_m_enc (a : Reader) (r : Int × Int × Bool) : MOut := ⟨.r [] (.int .i64 r.1), [some (.box [.r [] (.sl (.int .u8) a.b), .r [] (.int .i64 r.2.1), .r [] (.bool r.2.2)])], []⟩
def pI_wideReader_number_m_dec (a : Reader) (o : MOut) : Option (Int × Int × Bool) := match o with
  | ⟨.r [] (.int .i64 z1), [some (.box [.r [] (.sl (.int .u8) z2), .r [] (.int .i64 z3), .r [] (.bool z4)])], []⟩ => cond (@sameL (List Int) _ z2 a.b) (some (z1, z3, z4)) none
  | _ => none
def pI_wideReader_number_m_G (k : Nat) : MG := fun _ l b K => (pI_wideReader_number_m_argD l b).bind fun a => (pI_wideReader_number_m k a).bind fun r => K (pI_wideReader_number_m_enc a r)
theorem pI_wideReader_number_m_ev (k : Nat) (a : Reader) : ev (E_pI_wideReader_number_m k) (LP_pI_wideReader_number_m (Int × Int × Bool) k) 0 c_pI_wideReader_number_m (st0M Try.f91 (pI_wideReader_number_m_args a) (pI_wideReader_number_m_blks a)) (finM Try.prog Try.f91 (.sc) [.box [.ro (.int .u8), .sc, .sc]] (pI_wideReader_number_m_dec a)) = pI_wideReader_number_m k a := by kernel_rfl
theorem pI_wideReader_number_m_ok (k : Nat) : MutOk Try.prog 91 (pI_wideReader_number_m_G k) :=
  mutOk_of_ev (E_pI_wideReader_number_m_ok k) Try.func91 (by kernel_rfl) (by kernel_rfl) pI_wideReader_number_m_args pI_wideReader_number_m_blks pI_wideReader_number_m_argD
    (fun l b a h => by unfold pI_wideReader_number_m_argD at h; split at h <;> first | (cases h; exact ⟨rfl, rfl⟩) | cases h) (fun a => rfl) (lpgood_none (by kernel_rfl)) (fun a r => rfl)
    (fun a o r h => by unfold pI_wideReader_number_m_dec at h; split at h <;> first | (obtain ⟨e0, hq⟩ := dec_chk1 h; clear h; subst e0; have h := hq; clear hq; cases h; rfl) | cases h) (pI_wideReader_number_m_ev k)
def o_pI_wideReader_number_m (k : Nat) : Orc := mutOrc [.keep] (pI_wideReader_number_m_G k)
theorem o_pI_wideReader_number_m_ok (k : Nat) : OrcOk Try.prog 91 (o_pI_wideReader_number_m k) := mutOrc_ok (pI_wideReader_number_m_ok k)
/-! ### 90 (*loop.example/g00778/impl.wideReader).count -/
noncomputable def E_pI_wideReader_count_m (k : Nat) : Env := { P := Try.prog, tt := tt, orc := fun g => cond (Nat.beq g 84) (o_I_in k) (cond (Nat.beq g 91) (o_pI_wideReader_number_m k) (noOrc)), wr := fun g => mem g [91], wt := true }
theorem E_pI_wideReader_count_m_ok (k : Nat) : EnvOk (E_pI_wideReader_count_m k) := fun g => (orc_cond (o_I_in_ok k) (orc_cond (o_pI_wideReader_number_m_ok k) (noOrc_ok _ _)))
noncomputable def c_pI_wideReader_count_m : Code := (Try.f90.body).getD .skip
def LP_pI_wideReader_count_m (ρ : Type) (k : Nat) : Nat → Ev ρ → Ev ρ := fun _ _ _ _ => none
def pI_wideReader_count_m_args (a : Reader × Int) : List SV := [.ptr 0 0 0, .r [] (.int .i64 a.2)]
def pI_wideReader_count_m_blks (a : Reader × Int) : List Blk := [.box [.r [] (.sl (.int .u8) a.1.b), .r [] (.int .i64 a.1.at_), .r [] (.bool a.1.bad)]]
def pI_wideReader_count_m_argD (l : List SV) (b : List Blk) : Option (Reader × Int) := match l, b with
  | [.ptr 0 0 0, .r [] (.int .i64 w0)], [.box [.r [] (.sl (.int .u8) w1), .r [] (.int .i64 w2), .r [] (.bool w3)]] => some ((⟨w1, w2, w3⟩ : Reader), w0)
  | _, _ => none
def pI_wideReader_count_m_enc (a : Reader × Int) (r : Int × Int × Bool) : MOut := ⟨.r [] (.int .i64 r.1), [some (.box [.r [] (.sl (.int .u8) a.1.b), .r [] (.int .i64 r.2.1), .r [] (.bool r.2.2)])], []⟩
def pI_wideReader_count_m_dec (a : Reader × Int) (o : MOut) : Option (Int × Int × Bool) := match o with
  | ⟨.r [] (.int .i64 z1), [some (.box [.r [] (.sl (.int .u8) z2), .r [] (.int .i64 z3), .r [] (.bool z4)])], []⟩ => cond (@sameL (List Int) _ z2 a.1.b) (some (z1, z3, z4)) none
  | _ => none
def pI_wideReader_count_m_G (k : Nat) : MG := fun _ l b K => (pI_wideReader_count_m_argD l b).bind fun a => (pI_wideReader_count_m k a.1 a.2).bind fun r => K (pI_wideReader_count_m_enc a r)
theorem pI_wideReader_count_m_ev (k : Nat) (a : Reader × Int) : ev (E_pI_wideReader_count_m k) (LP_pI_wideReader_count_m (Int × Int × Bool) k) 0 c_pI_wideReader_count_m (st0M Try.f90 (pI_wideReader_count_m_args a) (pI_wideReader_count_m_blks a)) (finM Try.prog Try.f90 (.sc) [.box [.ro (.int .u8), .sc, .sc]] (pI_wideReader_count_m_dec a)) = pI_wideReader_count_m k a.1 a.2 := by kernel_rfl
theorem pI_wideReader_count_m_ok (k : Nat) : MutOk Try.prog 90 (pI_wideReader_count_m_G k) :=
  mutOk_of_ev (E_pI_wideReader_count_m_ok k) Try.func90 (by kernel_rfl) (by kernel_rfl) pI_wideReader_count_m_args pI_wideReader_count_m_blks pI_wideReader_count_m_argD
    (fun l b a h => by unfold pI_wideReader_count_m_argD at h; split at h <;> first | (cases h; exact ⟨rfl, rfl⟩) | cases h) (fun a => rfl) (lpgood_none (by kernel_rfl)) (fun a r => rfl)
    (fun a o r h => by unfold pI_wideReader_count_m_dec at h; split at h <;> first | (obtain ⟨e0, hq⟩ := dec_chk1 h; clear h; subst e0; have h := hq; clear hq; cases h; rfl) | cases h) (pI_wideReader_count_m_ev k)
def o_pI_wideReader_count_m (k : Nat) : Orc := mutOrc [.keep, .one (.int .i64)] (pI_wideReader_count_m_G k)
theorem o_pI_wideReader_count_m_ok (k : Nat) : OrcOk Try.prog 90 (o_pI_wideReader_count_m k) := mutOrc_ok (pI_wideReader_count_m_ok k)
/-! ### 188 slices.Clone[[]byte,byte] -/
noncomputable def E_slices_Clone_lbyte_byte (k : Nat) : Env := { P := Try.prog, tt := tt, orc := fun g => noOrc }
theorem E_slices_Clone_lbyte_byte_ok (k : Nat) : EnvOk (E_slices_Clone_lbyte_byte k) := fun g => (noOrc_ok _ _)
noncomputable def c_slices_Clone_lbyte_byte : Code := (Try.f188.body).getD .skip
def LP_slices_Clone_lbyte_byte (ρ : Type) (k : Nat) : Nat → Ev ρ → Ev ρ := fun _ _ _ _ => none
def slices_Clone_lbyte_byte_args (a : List Int) : List Arg := [.one (.sl (.int .u8) a)]
def slices_Clone_lbyte_byte_argD (l : List Arg) : Option (List Int) := match l with
  | [.one (.sl (.int .u8) b0)] => some b0
  | _ => none
def slices_Clone_lbyte_byte_enc (r : List Int) : Out := (.own 0, [.arr none (.int .u8) r])
def slices_Clone_lbyte_byte_dec (o : Out) : Option (List Int) := match o with
  | (.own 0, [.arr none (.int .u8) z1]) => some z1
  | _ => none
def slices_Clone_lbyte_byte_G (k : Nat) : PG := fun _ l K => (slices_Clone_lbyte_byte_argD l).bind fun a => (slices_Clone_lbyte_byte k a).bind fun r => K (slices_Clone_lbyte_byte_enc r)
theorem slices_Clone_lbyte_byte_ev (k : Nat) (a : List Int) : ev (E_slices_Clone_lbyte_byte k) (LP_slices_Clone_lbyte_byte (List Int) k) 0 c_slices_Clone_lbyte_byte (st0 Try.f188 (slices_Clone_lbyte_byte_args a)) (fin Try.prog Try.f188 (.own (.int .u8)) slices_Clone_lbyte_byte_dec) = slices_Clone_lbyte_byte k a := by kernel_rfl
theorem slices_Clone_lbyte_byte_ok (k : Nat) : PureOk Try.prog 188 (slices_Clone_lbyte_byte_G k) :=
  pureOk_of_ev (E_slices_Clone_lbyte_byte_ok k) Try.func188 (by kernel_rfl) (by kernel_rfl) slices_Clone_lbyte_byte_args slices_Clone_lbyte_byte_argD
    (fun l a h => by unfold slices_Clone_lbyte_byte_argD at h; split at h <;> first | (cases h; rfl) | cases h) (fun a => rfl) (lpgood_none (by kernel_rfl))
    (fun o r h => by unfold slices_Clone_lbyte_byte_dec at h; split at h <;> first | (cases h; rfl) | cases h) (slices_Clone_lbyte_byte_ev k)
def o_slices_Clone_lbyte_byte (k : Nat) : Orc := pureOrc [.one (.sl (.int .u8))] (slices_Clone_lbyte_byte_G k)
theorem o_slices_Clone_lbyte_byte_ok (k : Nat) : OrcOk Try.prog 188 (o_slices_Clone_lbyte_byte k) := pureOrc_ok (slices_Clone_lbyte_byte_ok k)
/-! ### 150 (*loop.example/g00778/impl.wideReader).bytes -/
noncomputable def E_pI_wideReader_bytes_m (k : Nat) : Env := { P := Try.prog, tt := tt, orc := fun g => cond (Nat.beq g 188) (o_slices_Clone_lbyte_byte k) (noOrc) }
theorem E_pI_wideReader_bytes_m_ok (k : Nat) : EnvOk (E_pI_wideReader_bytes_m k) := fun g => (orc_cond (o_slices_Clone_lbyte_byte_ok k) (noOrc_ok _ _))
noncomputable def c_pI_wideReader_bytes_m : Code := (Try.f150.body).getD .skip
def LP_pI_wideReader_bytes_m (ρ : Type) (k : Nat) : Nat → Ev ρ → Ev ρ := fun _ _ _ _ => none
def pI_wideReader_bytes_m_args (a : Reader × Int) : List SV := [.ptr 0 0 0, .r [] (.int .i64 a.2)]
def pI_wideReader_bytes_m_blks (a : Reader × Int) : List Blk := [.box [.r [] (.sl (.int .u8) a.1.b), .r [] (.int .i64 a.1.at_), .r [] (.bool a.1.bad)]]
def pI_wideReader_bytes_m_argD (l : List SV) (b : List Blk) : Option (Reader × Int) := match l, b with
  | [.ptr 0 0 0, .r [] (.int .i64 w0)], [.box [.r [] (.sl (.int .u8) w1), .r [] (.int .i64 w2), .r [] (.bool w3)]] => some ((⟨w1, w2, w3⟩ : Reader), w0)
  | _, _ => none
def pI_wideReader_bytes_m_enc (a : Reader × Int) (r : List Int × Int × Bool) : MOut := ⟨.own 1, [some (.box [.r [] (.sl (.int .u8) a.1.b), .r [] (.int .i64 r.2.1), .r [] (.bool r.2.2)])], [.arr none (.int .u8) r.1]⟩
def pI_wideReader_bytes_m_dec (a : Reader × Int) (o : MOut) : Option (List Int × Int × Bool) := match o with
  | ⟨.own 1, [some (.box [.r [] (.sl (.int .u8) z1), .r [] (.int .i64 z2), .r [] (.bool z3)])], [.arr none (.int .u8) z4]⟩ => cond (@sameL (List Int) _ z1 a.1.b) (some (z4, z2, z3)) none
  | _ => none
def pI_wideReader_bytes_m_G (k : Nat) : MG := fun _ l b K => (pI_wideReader_bytes_m_argD l b).bind fun a => (pI_wideReader_bytes_m k a.1 a.2).bind fun r => K (pI_wideReader_bytes_m_enc a r)
theorem pI_wideReader_bytes_m_ev (k : Nat) (a : Reader × Int) : ev (E_pI_wideReader_bytes_m k) (LP_pI_wideReader_bytes_m (List Int × Int × Bool) k) 0 c_pI_wideReader_bytes_m (st0M Try.f150 (pI_wideReader_bytes_m_args a) (pI_wideReader_bytes_m_blks a)) (finM Try.prog Try.f150 (.own (.int .u8)) [.box [.ro (.int .u8), .sc, .sc]] (pI_wideReader_bytes_m_dec a)) = pI_wideReader_bytes_m k a.1 a.2 := by kernel_rfl
theorem pI_wideReader_bytes_m_ok (k : Nat) : MutOk Try.prog 150 (pI_wideReader_bytes_m_G k) :=
  mutOk_of_ev (E_pI_wideReader_bytes_m_ok k) Try.func150 (by kernel_rfl) (by kernel_rfl) pI_wideReader_bytes_m_args pI_wideReader_bytes_m_blks pI_wideReader_bytes_m_argD
    (fun l b a h => by unfold pI_wideReader_bytes_m_argD at h; split at h <;> first | (cases h; exact ⟨rfl, rfl⟩) | cases h) (fun a => rfl) (lpgood_none (by kernel_rfl)) (fun a r => rfl)
    (fun a o r h => by unfold pI_wideReader_bytes_m_dec at h; split at h <;> first | (obtain ⟨e0, hq⟩ := dec_chk1 h; clear h; subst e0; have h := hq; clear hq; cases h; rfl) | cases h) (pI_wideReader_bytes_m_ev k)
def o_pI_wideReader_bytes_m (k : Nat) : Orc := mutOrc [.keep, .one (.int .i64)] (pI_wideReader_bytes_m_G k)
theorem o_pI_wideReader_bytes_m_ok (k : Nat) : OrcOk Try.prog 150 (o_pI_wideReader_bytes_m k) := mutOrc_ok (pI_wideReader_bytes_m_ok k)
/-! ### 151 (*loop.example/g00778/impl.wideReader).shape -/
noncomputable def E_pI_wideReader_shape_m (k : Nat) : Env := { P := Try.prog, tt := tt, orc := fun g => cond (Nat.beq g 91) (o_pI_wideReader_number_m k) (noOrc), wr := fun g => mem g [91], wt := true }
theorem E_pI_wideReader_shape_m_ok (k : Nat) : EnvOk (E_pI_wideReader_shape_m k) := fun g => (orc_cond (o_pI_wideReader_number_m_ok k) (noOrc_ok _ _))
noncomputable def c_pI_wideReader_shape_m : Code := (Try.f151.body).getD .skip
def LP_pI_wideReader_shape_m (ρ : Type) (k : Nat) : Nat → Ev ρ → Ev ρ := fun _ _ _ _ => none
def pI_wideReader_shape_m_args (a : Reader) : List SV := [.ptr 0 0 0]
def pI_wideReader_shape_m_blks (a : Reader) : List Blk := [.box [.r [] (.sl (.int .u8) a.b), .r [] (.int .i64 a.at_), .r [] (.bool a.bad)]]
def pI_wideReader_shape_m_argD (l : List SV) (b : List Blk) : Option (Reader) := match l, b with
  | [.ptr 0 0 0], [.box [.r [] (.sl (.int .u8) w0), .r [] (.int .i64 w1), .r [] (.bool w2)]] => some (⟨w0, w1, w2⟩ : Reader)
  | _, _ => none
def pI_wideReader_shape_m_enc (a : Reader) (r : Shape × Int × Bool) : MOut := ⟨.agg [.r [] (.int .i64 r.1.h), .r [] (.int .i64 r.1.w), .r [] (.int .i64 r.1.c)], [some (.box [.r [] (.sl (.int .u8) a.b), .r [] (.int .i64 r.2.1), .r [] (.bool r.2.2)])], []⟩
def pI_wideReader_shape_m_dec (a : Reader) (o : MOut) : Option (Shape × Int × Bool) := match o with
  | ⟨.agg [.r [] (.int .i64 z1), .r [] (.int .i64 z2), .r [] (.int .i64 z3)], [some (.box [.r [] (.sl (.int .u8) z4), .r [] (.int .i64 z5), .r [] (.bool z6)])], []⟩ => cond (@sameL (List Int) _ z4 a.b) (some ((⟨z1, z2, z3⟩ : Shape), z5, z6)) none
  | _ => none
def pI_wideReader_shape_m_G (k : Nat) : MG := fun _ l b K => (pI_wideReader_shape_m_argD l b).bind fun a => (pI_wideReader_shape_m k a).bind fun r => K (pI_wideReader_shape_m_enc a r)
theorem pI_wideReader_shape_m_ev (k : Nat) (a : Reader) : ev (E_pI_wideReader_shape_m k) (LP_pI_wideReader_shape_m (Shape × Int × Bool) k) 0 c_pI_wideReader_shape_m (st0M Try.f151 (pI_wideReader_shape_m_args a) (pI_wideReader_shape_m_blks a)) (finM Try.prog Try.f151 (.agg [.sc, .sc, .sc]) [.box [.ro (.int .u8), .sc, .sc]] (pI_wideReader_shape_m_dec a)) = pI_wideReader_shape_m k a := by kernel_rfl
theorem pI_wideReader_shape_m_ok (k : Nat) : MutOk Try.prog 151 (pI_wideReader_shape_m_G k) :=
  mutOk_of_ev (E_pI_wideReader_shape_m_ok k) Try.func151 (by kernel_rfl) (by kernel_rfl) pI_wideReader_shape_m_args pI_wideReader_shape_m_blks pI_wideReader_shape_m_argD
    (fun l b a h => by unfold pI_wideReader_shape_m_argD at h; split at h <;> first | (cases h; exact ⟨rfl, rfl⟩) | cases h) (fun a => rfl) (lpgood_none (by kernel_rfl)) (fun a r => rfl)
    (fun a o r h => by unfold pI_wideReader_shape_m_dec at h; split at h <;> first | (obtain ⟨e0, hq⟩ := dec_chk1 h; clear h; subst e0; have h := hq; clear hq; cases h; rfl) | cases h) (pI_wideReader_shape_m_ev k)
def o_pI_wideReader_shape_m (k : Nat) : Orc := mutOrc [.keep] (pI_wideReader_shape_m_G k)
theorem o_pI_wideReader_shape_m_ok (k : Nat) : OrcOk Try.prog 151 (o_pI_wideReader_shape_m k) := mutOrc_ok (pI_wideReader_shape_m_ok k)
/-! ### 152 (*loop.example/g00778/impl.wideReader).list -/
noncomputable def E_pI_wideReader_list_m (k : Nat) : Env := { P := Try.prog, tt := tt, orc := fun g => cond (Nat.beq g 90) (o_pI_wideReader_count_m k) (cond (Nat.beq g 91) (o_pI_wideReader_number_m k) (noOrc)), wr := fun g => mem g [90, 91], wt := true }
theorem E_pI_wideReader_list_m_ok (k : Nat) : EnvOk (E_pI_wideReader_list_m k) := fun g => (orc_cond (o_pI_wideReader_count_m_ok k) (orc_cond (o_pI_wideReader_number_m_ok k) (noOrc_ok _ _)))
noncomputable def c_pI_wideReader_list_m : Code := (Try.f152.body).getD .skip
noncomputable def b_pI_wideReader_list_m_0 : Code := ((loopsIn 0 c_pI_wideReader_list_m).getD 0 (0, .skip)).2
def pI_wideReader_list_m_g0_keep : List Nat := [0, 5, 6]
def pI_wideReader_list_m_g0_co : List (Where × Co) := []
def pI_wideReader_list_m_g0_kx : Ex → List Nat
  | .exit j => cond (Nat.beq j 0) [5] []
  | .ret => []
  | .normal => []
def pI_wideReader_list_m_g0_cx : Ex → List (Where × Co)
  | .exit j => cond (Nat.beq j 0) [] []
  | .ret => []
  | .normal => []
def pI_wideReader_list_m_g0_tm (pv : (List Int) × (Int × Int × Bool × List Int)) : St := { slots := [(0, .ptr 0 0 0), (5, .own 1), (6, .r [] (.int .i64 pv.2.1))], heap := [(0, .box [.r [] (.sl (.int .u8) pv.1), .r [] (.int .i64 pv.2.2.1), .r [] (.bool pv.2.2.2.1)]), (1, .arr none (.int .i64) pv.2.2.2.2)], nid := 2, n := 28, gh := [some 0] }
def pI_wideReader_list_m_g0_dec (nf : NF) : Option ((List Int) × (Int × Int × Bool × List Int)) := match nf with
  | ([.ptr 0 0 0, .own 1, .r [] (.int .i64 w0)], [.box [.r [] (.sl (.int .u8) w1), .r [] (.int .i64 w2), .r [] (.bool w3)], .arr none (.int .i64) w4], [some 0]) => some (w1, (w0, w2, w3, w4))
  | _ => none
theorem pI_wideReader_list_m_g0_hd (nf : NF) (v : (List Int) × (Int × Int × Bool × List Int)) (h : pI_wideReader_list_m_g0_dec nf = some v) : denorm pI_wideReader_list_m_g0_keep 28 nf = pI_wideReader_list_m_g0_tm v := by
  unfold pI_wideReader_list_m_g0_dec at h
  split at h
  · cases h; rfl
  · cases h
def pI_wideReader_list_m_g0_x0 (p : List Int) (x : List Int × Int × Bool) : St := { slots := [(5, .own 0)], heap := [(0, .arr none (.int .i64) x.1), (1, .box [.r [] (.sl (.int .u8) p), .r [] (.int .i64 x.2.1), .r [] (.bool x.2.2)])], nid := 2, n := 28, gh := [some 1] }
def LP_pI_wideReader_list_m (ρ : Type) (k : Nat) : Nat → Ev ρ → Ev ρ := fun id f => cond (Nat.beq id 0) (loopOrc pI_wideReader_list_m_g0_keep pI_wideReader_list_m_g0_co (fun n nf => cond (Nat.beq n 28) (pI_wideReader_list_m_g0_dec nf) none) fun pv K => iter (fun v next => pI_wideReader_list_m_g0 k pv.1 v next (fun x => K (.exit 0) (pI_wideReader_list_m_g0_x0 pv.1 x))) k pv.2) ((fun _ _ _ _ => none) id f)
theorem pI_wideReader_list_m_g0_round {ρ : Type} (k : Nat) (p : List Int) (v : Int × Int × Bool × List Int) (K K1 : Ex → St → Option ρ) : ev (E_pI_wideReader_list_m k) (LP_pI_wideReader_list_m ρ k) 0 b_pI_wideReader_list_m_0 (pI_wideReader_list_m_g0_tm (p, v)) (fun e st' => match e with
    | .normal => (normC pI_wideReader_list_m_g0_keep pI_wideReader_list_m_g0_co st').bind fun nf => K1 .normal (denorm pI_wideReader_list_m_g0_keep st'.n nf)
    | e => (normC (pI_wideReader_list_m_g0_kx e) (pI_wideReader_list_m_g0_cx e) st').bind fun nf => K e (denorm (pI_wideReader_list_m_g0_kx e) st'.n nf)) = pI_wideReader_list_m_g0 k p v (fun v' => K1 .normal (pI_wideReader_list_m_g0_tm (p, v'))) (fun x => K (.exit 0) (pI_wideReader_list_m_g0_x0 p x)) := by kernel_rfl
theorem pI_wideReader_list_m_g0_ok {ρ : Type} (k : Nat) : Sound Try.prog (.loop b_pI_wideReader_list_m_0) (LP_pI_wideReader_list_m ρ k 0 fun st K => ev (E_pI_wideReader_list_m k) (LP_pI_wideReader_list_m ρ k) 0 b_pI_wideReader_list_m_0 st K) :=
  loop_ok (ev_sound (E_pI_wideReader_list_m_ok k) b_pI_wideReader_list_m_0 0 (lpgood_none (by kernel_rfl))) pI_wideReader_list_m_g0_kx pI_wideReader_list_m_g0_cx k (g := fun p v next K => pI_wideReader_list_m_g0 k p v next (fun x => K (.exit 0) (pI_wideReader_list_m_g0_x0 p x))) (dec_at pI_wideReader_list_m_g0_hd) (fun p v K K1 => pI_wideReader_list_m_g0_round k p v K K1)
def pI_wideReader_list_m_args (a : Reader × Int) : List SV := [.ptr 0 0 0, .r [] (.int .i64 a.2)]
def pI_wideReader_list_m_blks (a : Reader × Int) : List Blk := [.box [.r [] (.sl (.int .u8) a.1.b), .r [] (.int .i64 a.1.at_), .r [] (.bool a.1.bad)]]
def pI_wideReader_list_m_argD (l : List SV) (b : List Blk) : Option (Reader × Int) := match l, b with
  | [.ptr 0 0 0, .r [] (.int .i64 w0)], [.box [.r [] (.sl (.int .u8) w1), .r [] (.int .i64 w2), .r [] (.bool w3)]] => some ((⟨w1, w2, w3⟩ : Reader), w0)
  | _, _ => none
def pI_wideReader_list_m_enc (a : Reader × Int) (r : List Int × Int × Bool) : MOut := ⟨.own 1, [some (.box [.r [] (.sl (.int .u8) a.1.b), .r [] (.int .i64 r.2.1), .r [] (.bool r.2.2)])], [.arr none (.int .i64) r.1]⟩
def pI_wideReader_list_m_dec (a : Reader × Int) (o : MOut) : Option (List Int × Int × Bool) := match o with
  | ⟨.own 1, [some (.box [.r [] (.sl (.int .u8) z1), .r [] (.int .i64 z2), .r [] (.bool z3)])], [.arr none (.int .i64) z4]⟩ => cond (@sameL (List Int) _ z1 a.1.b) (some (z4, z2, z3)) none
  | _ => none
def pI_wideReader_list_m_G (k : Nat) : MG := fun _ l b K => (pI_wideReader_list_m_argD l b).bind fun a => (pI_wideReader_list_m k a.1 a.2).bind fun r => K (pI_wideReader_list_m_enc a r)
theorem pI_wideReader_list_m_ev (k : Nat) (a : Reader × Int) : ev (E_pI_wideReader_list_m k) (LP_pI_wideReader_list_m (List Int × Int × Bool) k) 0 c_pI_wideReader_list_m (st0M Try.f152 (pI_wideReader_list_m_args a) (pI_wideReader_list_m_blks a)) (finM Try.prog Try.f152 (.own (.int .i64)) [.box [.ro (.int .u8), .sc, .sc]] (pI_wideReader_list_m_dec a)) = pI_wideReader_list_m k a.1 a.2 := by kernel_rfl
theorem pI_wideReader_list_m_ok (k : Nat) : MutOk Try.prog 152 (pI_wideReader_list_m_G k) :=
  mutOk_of_ev (E_pI_wideReader_list_m_ok k) Try.func152 (by kernel_rfl) (by kernel_rfl) pI_wideReader_list_m_args pI_wideReader_list_m_blks pI_wideReader_list_m_argD
    (fun l b a h => by unfold pI_wideReader_list_m_argD at h; split at h <;> first | (cases h; exact ⟨rfl, rfl⟩) | cases h) (fun a => rfl) (lpgood_of (l := [(0, b_pI_wideReader_list_m_0)]) (by kernel_rfl) ⟨pI_wideReader_list_m_g0_ok k, trivial⟩) (fun a r => rfl)
    (fun a o r h => by unfold pI_wideReader_list_m_dec at h; split at h <;> first | (obtain ⟨e0, hq⟩ := dec_chk1 h; clear h; subst e0; have h := hq; clear hq; cases h; rfl) | cases h) (pI_wideReader_list_m_ev k)
def o_pI_wideReader_list_m (k : Nat) : Orc := mutOrc [.keep, .one (.int .i64)] (pI_wideReader_list_m_G k)
theorem o_pI_wideReader_list_m_ok (k : Nat) : OrcOk Try.prog 152 (o_pI_wideReader_list_m k) := mutOrc_ok (pI_wideReader_list_m_ok k)
/-! ### 85 (*loop.example/g00778/impl.wideReader).step -/
noncomputable def E_pI_wideReader_step_m (k : Nat) : Env := { P := Try.prog, tt := tt, orc := fun g => cond (Nat.beq g 90) (o_pI_wideReader_count_m k) (cond (Nat.beq g 91) (o_pI_wideReader_number_m k) (cond (Nat.beq g 150) (o_pI_wideReader_bytes_m k) (cond (Nat.beq g 151) (o_pI_wideReader_shape_m k) (cond (Nat.beq g 152) (o_pI_wideReader_list_m k) (noOrc))))), wr := fun g => mem g [90, 91, 150, 151, 152], wt := true }
theorem E_pI_wideReader_step_m_ok (k : Nat) : EnvOk (E_pI_wideReader_step_m k) := fun g => (orc_cond (o_pI_wideReader_count_m_ok k) (orc_cond (o_pI_wideReader_number_m_ok k) (orc_cond (o_pI_wideReader_bytes_m_ok k) (orc_cond (o_pI_wideReader_shape_m_ok k) (orc_cond (o_pI_wideReader_list_m_ok k) (noOrc_ok _ _))))))
noncomputable def c_pI_wideReader_step_m : Code := (Try.f85.body).getD .skip
noncomputable def b_pI_wideReader_step_m_0 : Code := ((loopsIn 0 c_pI_wideReader_step_m).getD 0 (0, .skip)).2
def LP_pI_wideReader_step_m (ρ : Type) (k : Nat) : Nat → Ev ρ → Ev ρ := fun id f => cond (Nat.beq id 0) (loopN f 15) ((fun _ _ _ _ => none) id f)
theorem pI_wideReader_step_m_g0_ok {ρ : Type} (k : Nat) : Sound Try.prog (.loop b_pI_wideReader_step_m_0) (LP_pI_wideReader_step_m ρ k 0 fun st K => ev (E_pI_wideReader_step_m k) (LP_pI_wideReader_step_m ρ k) 0 b_pI_wideReader_step_m_0 st K) :=
  loop_sound (ev_sound (E_pI_wideReader_step_m_ok k) b_pI_wideReader_step_m_0 0 (lpgood_none (by kernel_rfl))) 15
def pI_wideReader_step_m_args (a : Reader) : List SV := [.ptr 0 0 0]
def pI_wideReader_step_m_blks (a : Reader) : List Blk := [.box [.r [] (.sl (.int .u8) a.b), .r [] (.int .i64 a.at_), .r [] (.bool a.bad)]]
def pI_wideReader_step_m_argD (l : List SV) (b : List Blk) : Option (Reader) := match l, b with
  | [.ptr 0 0 0], [.box [.r [] (.sl (.int .u8) w0), .r [] (.int .i64 w1), .r [] (.bool w2)]] => some (⟨w0, w1, w2⟩ : Reader)
  | _, _ => none
def pI_wideReader_step_m_enc (a : Reader) (r : Step × Int × Bool) : MOut := ⟨.agg [.r [] (.int .i64 r.1.kind), .r [] (.int .i64 r.1.a), .r [] (.int .i64 r.1.b), .own 1, .r [] (.int .i64 r.1.input.sh.h), .r [] (.int .i64 r.1.input.sh.w), .r [] (.int .i64 r.1.input.sh.c), .own 2], [some (.box [.r [] (.sl (.int .u8) a.b), .r [] (.int .i64 r.2.1), .r [] (.bool r.2.2)])], [.arr none (.int .u8) r.1.data, .arr none (.int .i64) r.1.input.data]⟩
def pI_wideReader_step_m_dec (a : Reader) (o : MOut) : Option (Step × Int × Bool) := match o with
  | ⟨.agg [.r [] (.int .i64 z1), .r [] (.int .i64 z2), .r [] (.int .i64 z3), .own 1, .r [] (.int .i64 z4), .r [] (.int .i64 z5), .r [] (.int .i64 z6), .own 2], [some (.box [.r [] (.sl (.int .u8) z7), .r [] (.int .i64 z8), .r [] (.bool z9)])], [.arr none (.int .u8) z10, .arr none (.int .i64) z11]⟩ => cond (@sameL (List Int) _ z7 a.b) (some ((⟨z1, z2, z3, z10, (⟨(⟨z4, z5, z6⟩ : Shape), z11⟩ : Tensor)⟩ : Step), z8, z9)) none
  | _ => none
def pI_wideReader_step_m_G (k : Nat) : MG := fun _ l b K => (pI_wideReader_step_m_argD l b).bind fun a => (pI_wideReader_step_m k a).bind fun r => K (pI_wideReader_step_m_enc a r)
theorem pI_wideReader_step_m_ev (k : Nat) (a : Reader) : ev (E_pI_wideReader_step_m k) (LP_pI_wideReader_step_m (Step × Int × Bool) k) 0 c_pI_wideReader_step_m (st0M Try.f85 (pI_wideReader_step_m_args a) (pI_wideReader_step_m_blks a)) (finM Try.prog Try.f85 (.agg [.sc, .sc, .sc, .own (.int .u8), .sc, .sc, .sc, .own (.int .i64)]) [.box [.ro (.int .u8), .sc, .sc]] (pI_wideReader_step_m_dec a)) = pI_wideReader_step_m k a := by kernel_rfl
theorem pI_wideReader_step_m_ok (k : Nat) : MutOk Try.prog 85 (pI_wideReader_step_m_G k) :=
  mutOk_of_ev (E_pI_wideReader_step_m_ok k) Try.func85 (by kernel_rfl) (by kernel_rfl) pI_wideReader_step_m_args pI_wideReader_step_m_blks pI_wideReader_step_m_argD
    (fun l b a h => by unfold pI_wideReader_step_m_argD at h; split at h <;> first | (cases h; exact ⟨rfl, rfl⟩) | cases h) (fun a => rfl) (lpgood_of (l := [(0, b_pI_wideReader_step_m_0)]) (by kernel_rfl) ⟨pI_wideReader_step_m_g0_ok k, trivial⟩) (fun a r => rfl)
    (fun a o r h => by unfold pI_wideReader_step_m_dec at h; split at h <;> first | (obtain ⟨e0, hq⟩ := dec_chk1 h; clear h; subst e0; have h := hq; clear hq; cases h; rfl) | cases h) (pI_wideReader_step_m_ev k)
def o_pI_wideReader_step_m (k : Nat) : Orc := mutOrc [.keep] (pI_wideReader_step_m_G k)
theorem o_pI_wideReader_step_m_ok (k : Nat) : OrcOk Try.prog 85 (o_pI_wideReader_step_m k) := mutOrc_ok (pI_wideReader_step_m_ok k)
/-! ### 92 loop.example/g00778/impl.SumOf -/
noncomputable def E_I_SumOf (k : Nat) : Env := { P := Try.prog, tt := tt, orc := fun g => noOrc }
theorem E_I_SumOf_ok (k : Nat) : EnvOk (E_I_SumOf k) := fun g => (noOrc_ok _ _)
noncomputable def c_I_SumOf : Code := (Try.f92.body).getD .skip
noncomputable def b_I_SumOf_0 : Code := ((loopsIn 0 c_I_SumOf).getD 0 (0, .skip)).2
def I_SumOf_g0_keep : List Nat := [3, 6, 7, 8]
def I_SumOf_g0_co : List (Where × Co) := []
def I_SumOf_g0_kx : Ex → List Nat
  | .exit j => cond (Nat.beq j 0) [3] []
  | .ret => []
  | .normal => []
def I_SumOf_g0_cx : Ex → List (Where × Co)
  | .exit j => cond (Nat.beq j 0) [] []
  | .ret => []
  | .normal => []
def I_SumOf_g0_tm (pv : (List Int × Int) × (Int × Int)) : St := { slots := [(3, .r [] (.int .i64 pv.2.1)), (6, .r [] (.sl (.int .u8) pv.1.1)), (7, .r [] (.int .i64 pv.1.2)), (8, .r [] (.int .i64 pv.2.2))], heap := [], nid := 0, n := 21, gh := [] }
def I_SumOf_g0_dec (nf : NF) : Option ((List Int × Int) × (Int × Int)) := match nf with
  | ([.r [] (.int .i64 w0), .r [] (.sl (.int .u8) w1), .r [] (.int .i64 w2), .r [] (.int .i64 w3)], [], []) => some ((w1, w2), (w0, w3))
  | _ => none
theorem I_SumOf_g0_hd (nf : NF) (v : (List Int × Int) × (Int × Int)) (h : I_SumOf_g0_dec nf = some v) : denorm I_SumOf_g0_keep 21 nf = I_SumOf_g0_tm v := by
  unfold I_SumOf_g0_dec at h
  split at h
  · cases h; rfl
  · cases h
def I_SumOf_g0_x0 (p : List Int × Int) (x : Int) : St := { slots := [(3, .r [] (.int .i64 x))], heap := [], nid := 0, n := 21, gh := [] }
def LP_I_SumOf (ρ : Type) (k : Nat) : Nat → Ev ρ → Ev ρ := fun id f => cond (Nat.beq id 0) (loopOrc I_SumOf_g0_keep I_SumOf_g0_co (fun n nf => cond (Nat.beq n 21) (I_SumOf_g0_dec nf) none) fun pv K => iter (fun v next => I_SumOf_g0 k pv.1 v next (fun x => K (.exit 0) (I_SumOf_g0_x0 pv.1 x))) k pv.2) ((fun _ _ _ _ => none) id f)
theorem I_SumOf_g0_round {ρ : Type} (k : Nat) (p : List Int × Int) (v : Int × Int) (K K1 : Ex → St → Option ρ) : ev (E_I_SumOf k) (LP_I_SumOf ρ k) 0 b_I_SumOf_0 (I_SumOf_g0_tm (p, v)) (fun e st' => match e with
    | .normal => (normC I_SumOf_g0_keep I_SumOf_g0_co st').bind fun nf => K1 .normal (denorm I_SumOf_g0_keep st'.n nf)
    | e => (normC (I_SumOf_g0_kx e) (I_SumOf_g0_cx e) st').bind fun nf => K e (denorm (I_SumOf_g0_kx e) st'.n nf)) = I_SumOf_g0 k p v (fun v' => K1 .normal (I_SumOf_g0_tm (p, v'))) (fun x => K (.exit 0) (I_SumOf_g0_x0 p x)) := by kernel_rfl
theorem I_SumOf_g0_ok {ρ : Type} (k : Nat) : Sound Try.prog (.loop b_I_SumOf_0) (LP_I_SumOf ρ k 0 fun st K => ev (E_I_SumOf k) (LP_I_SumOf ρ k) 0 b_I_SumOf_0 st K) :=
  loop_ok (ev_sound (E_I_SumOf_ok k) b_I_SumOf_0 0 (lpgood_none (by kernel_rfl))) I_SumOf_g0_kx I_SumOf_g0_cx k (g := fun p v next K => I_SumOf_g0 k p v next (fun x => K (.exit 0) (I_SumOf_g0_x0 p x))) (dec_at I_SumOf_g0_hd) (fun p v K K1 => I_SumOf_g0_round k p v K K1)
def I_SumOf_args (a : List Int) : List Arg := [.one (.sl (.int .u8) a)]
def I_SumOf_argD (l : List Arg) : Option (List Int) := match l with
  | [.one (.sl (.int .u8) b0)] => some b0
  | _ => none
def I_SumOf_enc (r : Int) : Out := (.r [] (.int .i64 r), [])
def I_SumOf_dec (o : Out) : Option (Int) := match o with
  | (.r [] (.int .i64 z1), []) => some z1
  | _ => none
def I_SumOf_G (k : Nat) : PG := fun _ l K => (I_SumOf_argD l).bind fun a => (I_SumOf k a).bind fun r => K (I_SumOf_enc r)
theorem I_SumOf_ev (k : Nat) (a : List Int) : ev (E_I_SumOf k) (LP_I_SumOf (Int) k) 0 c_I_SumOf (st0 Try.f92 (I_SumOf_args a)) (fin Try.prog Try.f92 (.sc) I_SumOf_dec) = I_SumOf k a := by kernel_rfl
theorem I_SumOf_ok (k : Nat) : PureOk Try.prog 92 (I_SumOf_G k) :=
  pureOk_of_ev (E_I_SumOf_ok k) Try.func92 (by kernel_rfl) (by kernel_rfl) I_SumOf_args I_SumOf_argD
    (fun l a h => by unfold I_SumOf_argD at h; split at h <;> first | (cases h; rfl) | cases h) (fun a => rfl) (lpgood_of (l := [(0, b_I_SumOf_0)]) (by kernel_rfl) ⟨I_SumOf_g0_ok k, trivial⟩)
    (fun o r h => by unfold I_SumOf_dec at h; split at h <;> first | (cases h; rfl) | cases h) (I_SumOf_ev k)
def o_I_SumOf (k : Nat) : Orc := pureOrc [.one (.sl (.int .u8))] (I_SumOf_G k)
theorem o_I_SumOf_ok (k : Nat) : OrcOk Try.prog 92 (o_I_SumOf k) := pureOrc_ok (I_SumOf_ok k)
/-! ### 24 loop.example/g00778/impl.ReadTrace -/
noncomputable def E_I_ReadTrace (k : Nat) : Env := { P := Try.prog, tt := tt, orc := fun g => cond (Nat.beq g 85) (o_pI_wideReader_step_m k) (cond (Nat.beq g 89) (o_bytes_HasPrefix k) (cond (Nat.beq g 90) (o_pI_wideReader_count_m k) (cond (Nat.beq g 91) (o_pI_wideReader_number_m k) (cond (Nat.beq g 92) (o_I_SumOf k) (noOrc))))), wr := fun g => mem g [85, 90, 91], wt := true }
theorem E_I_ReadTrace_ok (k : Nat) : EnvOk (E_I_ReadTrace k) := fun g => (orc_cond (o_pI_wideReader_step_m_ok k) (orc_cond (o_bytes_HasPrefix_ok k) (orc_cond (o_pI_wideReader_count_m_ok k) (orc_cond (o_pI_wideReader_number_m_ok k) (orc_cond (o_I_SumOf_ok k) (noOrc_ok _ _))))))
noncomputable def c_I_ReadTrace : Code := (Try.f24.body).getD .skip
noncomputable def b_I_ReadTrace_0 : Code := ((loopsIn 0 c_I_ReadTrace).getD 0 (0, .skip)).2
def I_ReadTrace_g0_keep : List Nat := [0, 4, 5, 6]
def I_ReadTrace_g0_co : List (Where × Co) := []
def I_ReadTrace_g0_kx : Ex → List Nat
  | .exit j => cond (Nat.beq j 1) [0, 4, 5] []
  | .ret => []
  | .normal => []
def I_ReadTrace_g0_cx : Ex → List (Where × Co)
  | .exit j => cond (Nat.beq j 1) [] []
  | .ret => []
  | .normal => []
def I_ReadTrace_g0_tm (pv : (List Int × List Int) × (Int × Int × Bool × List Step)) : St := { slots := [(0, .r [] (.sl (.int .u8) pv.1.1)), (4, .ptr 0 0 0), (5, .own 1), (6, .r [] (.int .i64 pv.2.1))], heap := [(0, .box [.r [] (.sl (.int .u8) pv.1.2), .r [] (.int .i64 pv.2.2.1), .r [] (.bool pv.2.2.2.1)]), (1, .arr none (.st .step) pv.2.2.2.2)], nid := 2, n := 69, gh := [] }
def I_ReadTrace_g0_dec (nf : NF) : Option ((List Int × List Int) × (Int × Int × Bool × List Step)) := match nf with
  | ([.r [] (.sl (.int .u8) w0), .ptr 0 0 0, .own 1, .r [] (.int .i64 w1)], [.box [.r [] (.sl (.int .u8) w2), .r [] (.int .i64 w3), .r [] (.bool w4)], .arr none (.st .step) w5], []) => some ((w0, w2), (w1, w3, w4, w5))
  | _ => none
theorem I_ReadTrace_g0_hd (nf : NF) (v : (List Int × List Int) × (Int × Int × Bool × List Step)) (h : I_ReadTrace_g0_dec nf = some v) : denorm I_ReadTrace_g0_keep 69 nf = I_ReadTrace_g0_tm v := by
  unfold I_ReadTrace_g0_dec at h
  split at h
  · cases h; rfl
  · cases h
def I_ReadTrace_g0_x1 (p : List Int × List Int) (x : Int × Bool × List Step) : St := { slots := [(0, .r [] (.sl (.int .u8) p.1)), (4, .ptr 0 0 0), (5, .own 1)], heap := [(0, .box [.r [] (.sl (.int .u8) p.2), .r [] (.int .i64 x.1), .r [] (.bool x.2.1)]), (1, .arr none (.st .step) x.2.2)], nid := 2, n := 69, gh := [] }
def LP_I_ReadTrace (ρ : Type) (k : Nat) : Nat → Ev ρ → Ev ρ := fun id f => cond (Nat.beq id 1) (loopOrc I_ReadTrace_g0_keep I_ReadTrace_g0_co (fun n nf => cond (Nat.beq n 69) (I_ReadTrace_g0_dec nf) none) fun pv K => iter (fun v next => I_ReadTrace_g0 k pv.1 v next (fun x => K (.exit 1) (I_ReadTrace_g0_x1 pv.1 x))) k pv.2) ((fun _ _ _ _ => none) id f)
theorem I_ReadTrace_g0_round {ρ : Type} (k : Nat) (p : List Int × List Int) (v : Int × Int × Bool × List Step) (K K1 : Ex → St → Option ρ) : ev (E_I_ReadTrace k) (LP_I_ReadTrace ρ k) 1 b_I_ReadTrace_0 (I_ReadTrace_g0_tm (p, v)) (fun e st' => match e with
    | .normal => (normC I_ReadTrace_g0_keep I_ReadTrace_g0_co st').bind fun nf => K1 .normal (denorm I_ReadTrace_g0_keep st'.n nf)
    | e => (normC (I_ReadTrace_g0_kx e) (I_ReadTrace_g0_cx e) st').bind fun nf => K e (denorm (I_ReadTrace_g0_kx e) st'.n nf)) = I_ReadTrace_g0 k p v (fun v' => K1 .normal (I_ReadTrace_g0_tm (p, v'))) (fun x => K (.exit 1) (I_ReadTrace_g0_x1 p x)) := by kernel_rfl
theorem I_ReadTrace_g0_ok {ρ : Type} (k : Nat) : Sound Try.prog (.loop b_I_ReadTrace_0) (LP_I_ReadTrace ρ k 1 fun st K => ev (E_I_ReadTrace k) (LP_I_ReadTrace ρ k) 1 b_I_ReadTrace_0 st K) :=
  loop_ok (ev_sound (E_I_ReadTrace_ok k) b_I_ReadTrace_0 1 (lpgood_none (by kernel_rfl))) I_ReadTrace_g0_kx I_ReadTrace_g0_cx k (g := fun p v next K => I_ReadTrace_g0 k p v next (fun x => K (.exit 1) (I_ReadTrace_g0_x1 p x))) (dec_at I_ReadTrace_g0_hd) (fun p v K K1 => I_ReadTrace_g0_round k p v K K1)
def I_ReadTrace_args (a : List Int) : List Arg := [.one (.sl (.int .u8) a)]
def I_ReadTrace_argD (l : List Arg) : Option (List Int) := match l with
  | [.one (.sl (.int .u8) b0)] => some b0
  | _ => none
def I_ReadTrace_enc (r : List Step × Int) : Out := (.tup [.own 0, .r [] (.int .i64 r.2)], [.arr none (.st .step) r.1])
def I_ReadTrace_dec (o : Out) : Option (List Step × Int) := match o with
  | (.tup [.own 0, .r [] (.int .i64 z2)], [.arr none (.st .step) z1]) => some (z1, z2)
  | _ => none
def I_ReadTrace_G (k : Nat) : PG := fun _ l K => (I_ReadTrace_argD l).bind fun a => (I_ReadTrace k a).bind fun r => K (I_ReadTrace_enc r)
theorem I_ReadTrace_ev (k : Nat) (a : List Int) : ev (E_I_ReadTrace k) (LP_I_ReadTrace (List Step × Int) k) 0 c_I_ReadTrace (st0 Try.f24 (I_ReadTrace_args a)) (fin Try.prog Try.f24 (.tup [.own (.st .step), .sc]) I_ReadTrace_dec) = I_ReadTrace k a := by kernel_rfl
theorem I_ReadTrace_ok (k : Nat) : PureOk Try.prog 24 (I_ReadTrace_G k) :=
  pureOk_of_ev (E_I_ReadTrace_ok k) Try.func24 (by kernel_rfl) (by kernel_rfl) I_ReadTrace_args I_ReadTrace_argD
    (fun l a h => by unfold I_ReadTrace_argD at h; split at h <;> first | (cases h; rfl) | cases h) (fun a => rfl) (lpgood_of (l := [(1, b_I_ReadTrace_0)]) (by kernel_rfl) ⟨I_ReadTrace_g0_ok k, trivial⟩)
    (fun o r h => by unfold I_ReadTrace_dec at h; split at h <;> first | (cases h; rfl) | cases h) (I_ReadTrace_ev k)
def o_I_ReadTrace (k : Nat) : Orc := pureOrc [.one (.sl (.int .u8))] (I_ReadTrace_G k)
theorem o_I_ReadTrace_ok (k : Nat) : OrcOk Try.prog 24 (o_I_ReadTrace k) := pureOrc_ok (I_ReadTrace_ok k)
/-! ### 19 loop.example/g00778/laws.eqByteS -/
noncomputable def E_L_eqByteS (k : Nat) : Env := { P := Try.prog, tt := tt, orc := fun g => noOrc }
theorem E_L_eqByteS_ok (k : Nat) : EnvOk (E_L_eqByteS k) := fun g => (noOrc_ok _ _)
noncomputable def c_L_eqByteS : Code := (Try.f19.body).getD .skip
noncomputable def b_L_eqByteS_0 : Code := ((loopsIn 0 c_L_eqByteS).getD 0 (0, .skip)).2
def L_eqByteS_g0_keep : List Nat := [0, 1, 5]
def L_eqByteS_g0_co : List (Where × Co) := []
def L_eqByteS_g0_kx : Ex → List Nat
  | .exit j => cond (Nat.beq j 0) [] []
  | .ret => [4]
  | .normal => []
def L_eqByteS_g0_cx : Ex → List (Where × Co)
  | .exit j => cond (Nat.beq j 0) [] []
  | .ret => []
  | .normal => []
def L_eqByteS_g0_tm (pv : (List Int × List Int) × (Int)) : St := { slots := [(0, .r [] (.sl (.int .u8) pv.1.1)), (1, .r [] (.sl (.int .u8) pv.1.2)), (5, .r [] (.int .i64 pv.2))], heap := [], nid := 0, n := 26, gh := [] }
def L_eqByteS_g0_dec (nf : NF) : Option ((List Int × List Int) × (Int)) := match nf with
  | ([.r [] (.sl (.int .u8) w0), .r [] (.sl (.int .u8) w1), .r [] (.int .i64 w2)], [], []) => some ((w0, w1), w2)
  | _ => none
theorem L_eqByteS_g0_hd (nf : NF) (v : (List Int × List Int) × (Int)) (h : L_eqByteS_g0_dec nf = some v) : denorm L_eqByteS_g0_keep 26 nf = L_eqByteS_g0_tm v := by
  unfold L_eqByteS_g0_dec at h
  split at h
  · cases h; rfl
  · cases h
def L_eqByteS_g0_x0 (p : List Int × List Int) (x : Unit) : St := { slots := [], heap := [], nid := 0, n := 26, gh := [] }
def L_eqByteS_g0_xret (p : List Int × List Int) (x : Bool) : St := { slots := [(4, .r [] (.bool x))], heap := [], nid := 0, n := 26, gh := [] }
def LP_L_eqByteS (ρ : Type) (k : Nat) : Nat → Ev ρ → Ev ρ := fun id f => cond (Nat.beq id 0) (loopOrc L_eqByteS_g0_keep L_eqByteS_g0_co (fun n nf => cond (Nat.beq n 26) (L_eqByteS_g0_dec nf) none) fun pv K => iter (fun v next => L_eqByteS_g0 k pv.1 v next (fun x => K (.exit 0) (L_eqByteS_g0_x0 pv.1 x)) (fun x => K .ret (L_eqByteS_g0_xret pv.1 x))) k pv.2) ((fun _ _ _ _ => none) id f)
theorem L_eqByteS_g0_round {ρ : Type} (k : Nat) (p : List Int × List Int) (v : Int) (K K1 : Ex → St → Option ρ) : ev (E_L_eqByteS k) (LP_L_eqByteS ρ k) 0 b_L_eqByteS_0 (L_eqByteS_g0_tm (p, v)) (fun e st' => match e with
    | .normal => (normC L_eqByteS_g0_keep L_eqByteS_g0_co st').bind fun nf => K1 .normal (denorm L_eqByteS_g0_keep st'.n nf)
    | e => (normC (L_eqByteS_g0_kx e) (L_eqByteS_g0_cx e) st').bind fun nf => K e (denorm (L_eqByteS_g0_kx e) st'.n nf)) = L_eqByteS_g0 k p v (fun v' => K1 .normal (L_eqByteS_g0_tm (p, v'))) (fun x => K (.exit 0) (L_eqByteS_g0_x0 p x)) (fun x => K .ret (L_eqByteS_g0_xret p x)) := by kernel_rfl
theorem L_eqByteS_g0_ok {ρ : Type} (k : Nat) : Sound Try.prog (.loop b_L_eqByteS_0) (LP_L_eqByteS ρ k 0 fun st K => ev (E_L_eqByteS k) (LP_L_eqByteS ρ k) 0 b_L_eqByteS_0 st K) :=
  loop_ok (ev_sound (E_L_eqByteS_ok k) b_L_eqByteS_0 0 (lpgood_none (by kernel_rfl))) L_eqByteS_g0_kx L_eqByteS_g0_cx k (g := fun p v next K => L_eqByteS_g0 k p v next (fun x => K (.exit 0) (L_eqByteS_g0_x0 p x)) (fun x => K .ret (L_eqByteS_g0_xret p x))) (dec_at L_eqByteS_g0_hd) (fun p v K K1 => L_eqByteS_g0_round k p v K K1)
def L_eqByteS_args (a : List Int × List Int) : List Arg := [.one (.sl (.int .u8) a.1), .one (.sl (.int .u8) a.2)]
def L_eqByteS_argD (l : List Arg) : Option (List Int × List Int) := match l with
  | [.one (.sl (.int .u8) b0), .one (.sl (.int .u8) b1)] => some (b0, b1)
  | _ => none
def L_eqByteS_enc (r : Bool) : Out := (.r [] (.bool r), [])
def L_eqByteS_dec (o : Out) : Option (Bool) := match o with
  | (.r [] (.bool z1), []) => some z1
  | _ => none
def L_eqByteS_G (k : Nat) : PG := fun _ l K => (L_eqByteS_argD l).bind fun a => (L_eqByteS k a.1 a.2).bind fun r => K (L_eqByteS_enc r)
theorem L_eqByteS_ev (k : Nat) (a : List Int × List Int) : ev (E_L_eqByteS k) (LP_L_eqByteS (Bool) k) 0 c_L_eqByteS (st0 Try.f19 (L_eqByteS_args a)) (fin Try.prog Try.f19 (.sc) L_eqByteS_dec) = L_eqByteS k a.1 a.2 := by kernel_rfl
theorem L_eqByteS_ok (k : Nat) : PureOk Try.prog 19 (L_eqByteS_G k) :=
  pureOk_of_ev (E_L_eqByteS_ok k) Try.func19 (by kernel_rfl) (by kernel_rfl) L_eqByteS_args L_eqByteS_argD
    (fun l a h => by unfold L_eqByteS_argD at h; split at h <;> first | (cases h; rfl) | cases h) (fun a => rfl) (lpgood_of (l := [(0, b_L_eqByteS_0)]) (by kernel_rfl) ⟨L_eqByteS_g0_ok k, trivial⟩)
    (fun o r h => by unfold L_eqByteS_dec at h; split at h <;> first | (cases h; rfl) | cases h) (L_eqByteS_ev k)
def o_L_eqByteS (k : Nat) : Orc := pureOrc [.one (.sl (.int .u8)), .one (.sl (.int .u8))] (L_eqByteS_G k)
theorem o_L_eqByteS_ok (k : Nat) : OrcOk Try.prog 19 (o_L_eqByteS k) := pureOrc_ok (L_eqByteS_ok k)
/-! ### 128 loop.example/g00778/laws.eqShape -/
noncomputable def E_L_eqShape (k : Nat) : Env := { P := Try.prog, tt := tt, orc := fun g => noOrc }
theorem E_L_eqShape_ok (k : Nat) : EnvOk (E_L_eqShape k) := fun g => (noOrc_ok _ _)
noncomputable def c_L_eqShape : Code := (Try.f128.body).getD .skip
def LP_L_eqShape (ρ : Type) (k : Nat) : Nat → Ev ρ → Ev ρ := fun _ _ _ _ => none
def L_eqShape_args (a : Shape × Shape) : List Arg := [.agg [.int .i64 a.1.h, .int .i64 a.1.w, .int .i64 a.1.c], .agg [.int .i64 a.2.h, .int .i64 a.2.w, .int .i64 a.2.c]]
def L_eqShape_argD (l : List Arg) : Option (Shape × Shape) := match l with
  | [.agg [.int .i64 b0_0, .int .i64 b0_1, .int .i64 b0_2], .agg [.int .i64 b1_0, .int .i64 b1_1, .int .i64 b1_2]] => some ((⟨b0_0, b0_1, b0_2⟩ : Shape), (⟨b1_0, b1_1, b1_2⟩ : Shape))
  | _ => none
def L_eqShape_enc (r : Bool) : Out := (.r [] (.bool r), [])
def L_eqShape_dec (o : Out) : Option (Bool) := match o with
  | (.r [] (.bool z1), []) => some z1
  | _ => none
def L_eqShape_G (k : Nat) : PG := fun _ l K => (L_eqShape_argD l).bind fun a => (L_eqShape k a.1 a.2).bind fun r => K (L_eqShape_enc r)
theorem L_eqShape_ev (k : Nat) (a : Shape × Shape) : ev (E_L_eqShape k) (LP_L_eqShape (Bool) k) 0 c_L_eqShape (st0 Try.f128 (L_eqShape_args a)) (fin Try.prog Try.f128 (.sc) L_eqShape_dec) = L_eqShape k a.1 a.2 := by kernel_rfl
theorem L_eqShape_ok (k : Nat) : PureOk Try.prog 128 (L_eqShape_G k) :=
  pureOk_of_ev (E_L_eqShape_ok k) Try.func128 (by kernel_rfl) (by kernel_rfl) L_eqShape_args L_eqShape_argD
    (fun l a h => by unfold L_eqShape_argD at h; split at h <;> first | (cases h; rfl) | cases h) (fun a => rfl) (lpgood_none (by kernel_rfl))
    (fun o r h => by unfold L_eqShape_dec at h; split at h <;> first | (cases h; rfl) | cases h) (L_eqShape_ev k)
def o_L_eqShape (k : Nat) : Orc := pureOrc [.agg [(.int .i64), (.int .i64), (.int .i64)], .agg [(.int .i64), (.int .i64), (.int .i64)]] (L_eqShape_G k)
theorem o_L_eqShape_ok (k : Nat) : OrcOk Try.prog 128 (o_L_eqShape k) := pureOrc_ok (L_eqShape_ok k)
/-! ### 43 loop.example/g00778/laws.eqIntS -/
noncomputable def E_L_eqIntS (k : Nat) : Env := { P := Try.prog, tt := tt, orc := fun g => noOrc }
theorem E_L_eqIntS_ok (k : Nat) : EnvOk (E_L_eqIntS k) := fun g => (noOrc_ok _ _)
noncomputable def c_L_eqIntS : Code := (Try.f43.body).getD .skip
noncomputable def b_L_eqIntS_0 : Code := ((loopsIn 0 c_L_eqIntS).getD 0 (0, .skip)).2
def L_eqIntS_g0_keep : List Nat := [0, 1, 5]
def L_eqIntS_g0_co : List (Where × Co) := []
def L_eqIntS_g0_kx : Ex → List Nat
  | .exit j => cond (Nat.beq j 0) [] []
  | .ret => [4]
  | .normal => []
def L_eqIntS_g0_cx : Ex → List (Where × Co)
  | .exit j => cond (Nat.beq j 0) [] []
  | .ret => []
  | .normal => []
def L_eqIntS_g0_tm (pv : (List Int × List Int) × (Int)) : St := { slots := [(0, .r [] (.sl (.int .i64) pv.1.1)), (1, .r [] (.sl (.int .i64) pv.1.2)), (5, .r [] (.int .i64 pv.2))], heap := [], nid := 0, n := 26, gh := [] }
def L_eqIntS_g0_dec (nf : NF) : Option ((List Int × List Int) × (Int)) := match nf with
  | ([.r [] (.sl (.int .i64) w0), .r [] (.sl (.int .i64) w1), .r [] (.int .i64 w2)], [], []) => some ((w0, w1), w2)
  | _ => none
theorem L_eqIntS_g0_hd (nf : NF) (v : (List Int × List Int) × (Int)) (h : L_eqIntS_g0_dec nf = some v) : denorm L_eqIntS_g0_keep 26 nf = L_eqIntS_g0_tm v := by
  unfold L_eqIntS_g0_dec at h
  split at h
  · cases h; rfl
  · cases h
def L_eqIntS_g0_x0 (p : List Int × List Int) (x : Unit) : St := { slots := [], heap := [], nid := 0, n := 26, gh := [] }
def L_eqIntS_g0_xret (p : List Int × List Int) (x : Bool) : St := { slots := [(4, .r [] (.bool x))], heap := [], nid := 0, n := 26, gh := [] }
def LP_L_eqIntS (ρ : Type) (k : Nat) : Nat → Ev ρ → Ev ρ := fun id f => cond (Nat.beq id 0) (loopOrc L_eqIntS_g0_keep L_eqIntS_g0_co (fun n nf => cond (Nat.beq n 26) (L_eqIntS_g0_dec nf) none) fun pv K => iter (fun v next => L_eqIntS_g0 k pv.1 v next (fun x => K (.exit 0) (L_eqIntS_g0_x0 pv.1 x)) (fun x => K .ret (L_eqIntS_g0_xret pv.1 x))) k pv.2) ((fun _ _ _ _ => none) id f)
theorem L_eqIntS_g0_round {ρ : Type} (k : Nat) (p : List Int × List Int) (v : Int) (K K1 : Ex → St → Option ρ) : ev (E_L_eqIntS k) (LP_L_eqIntS ρ k) 0 b_L_eqIntS_0 (L_eqIntS_g0_tm (p, v)) (fun e st' => match e with
    | .normal => (normC L_eqIntS_g0_keep L_eqIntS_g0_co st').bind fun nf => K1 .normal (denorm L_eqIntS_g0_keep st'.n nf)
    | e => (normC (L_eqIntS_g0_kx e) (L_eqIntS_g0_cx e) st').bind fun nf => K e (denorm (L_eqIntS_g0_kx e) st'.n nf)) = L_eqIntS_g0 k p v (fun v' => K1 .normal (L_eqIntS_g0_tm (p, v'))) (fun x => K (.exit 0) (L_eqIntS_g0_x0 p x)) (fun x => K .ret (L_eqIntS_g0_xret p x)) := by kernel_rfl
theorem L_eqIntS_g0_ok {ρ : Type} (k : Nat) : Sound Try.prog (.loop b_L_eqIntS_0) (LP_L_eqIntS ρ k 0 fun st K => ev (E_L_eqIntS k) (LP_L_eqIntS ρ k) 0 b_L_eqIntS_0 st K) :=
  loop_ok (ev_sound (E_L_eqIntS_ok k) b_L_eqIntS_0 0 (lpgood_none (by kernel_rfl))) L_eqIntS_g0_kx L_eqIntS_g0_cx k (g := fun p v next K => L_eqIntS_g0 k p v next (fun x => K (.exit 0) (L_eqIntS_g0_x0 p x)) (fun x => K .ret (L_eqIntS_g0_xret p x))) (dec_at L_eqIntS_g0_hd) (fun p v K K1 => L_eqIntS_g0_round k p v K K1)
def L_eqIntS_args (a : List Int × List Int) : List Arg := [.one (.sl (.int .i64) a.1), .one (.sl (.int .i64) a.2)]
def L_eqIntS_argD (l : List Arg) : Option (List Int × List Int) := match l with
  | [.one (.sl (.int .i64) b0), .one (.sl (.int .i64) b1)] => some (b0, b1)
  | _ => none
def L_eqIntS_enc (r : Bool) : Out := (.r [] (.bool r), [])
def L_eqIntS_dec (o : Out) : Option (Bool) := match o with
  | (.r [] (.bool z1), []) => some z1
  | _ => none
def L_eqIntS_G (k : Nat) : PG := fun _ l K => (L_eqIntS_argD l).bind fun a => (L_eqIntS k a.1 a.2).bind fun r => K (L_eqIntS_enc r)
theorem L_eqIntS_ev (k : Nat) (a : List Int × List Int) : ev (E_L_eqIntS k) (LP_L_eqIntS (Bool) k) 0 c_L_eqIntS (st0 Try.f43 (L_eqIntS_args a)) (fin Try.prog Try.f43 (.sc) L_eqIntS_dec) = L_eqIntS k a.1 a.2 := by kernel_rfl
theorem L_eqIntS_ok (k : Nat) : PureOk Try.prog 43 (L_eqIntS_G k) :=
  pureOk_of_ev (E_L_eqIntS_ok k) Try.func43 (by kernel_rfl) (by kernel_rfl) L_eqIntS_args L_eqIntS_argD
    (fun l a h => by unfold L_eqIntS_argD at h; split at h <;> first | (cases h; rfl) | cases h) (fun a => rfl) (lpgood_of (l := [(0, b_L_eqIntS_0)]) (by kernel_rfl) ⟨L_eqIntS_g0_ok k, trivial⟩)
    (fun o r h => by unfold L_eqIntS_dec at h; split at h <;> first | (cases h; rfl) | cases h) (L_eqIntS_ev k)
def o_L_eqIntS (k : Nat) : Orc := pureOrc [.one (.sl (.int .i64)), .one (.sl (.int .i64))] (L_eqIntS_G k)
theorem o_L_eqIntS_ok (k : Nat) : OrcOk Try.prog 43 (o_L_eqIntS k) := pureOrc_ok (L_eqIntS_ok k)
/-! ### 63 loop.example/g00778/laws.eqTensor -/
noncomputable def E_L_eqTensor (k : Nat) : Env := { P := Try.prog, tt := tt, orc := fun g => cond (Nat.beq g 43) (o_L_eqIntS k) (cond (Nat.beq g 128) (o_L_eqShape k) (noOrc)) }
theorem E_L_eqTensor_ok (k : Nat) : EnvOk (E_L_eqTensor k) := fun g => (orc_cond (o_L_eqIntS_ok k) (orc_cond (o_L_eqShape_ok k) (noOrc_ok _ _)))
noncomputable def c_L_eqTensor : Code := (Try.f63.body).getD .skip
def LP_L_eqTensor (ρ : Type) (k : Nat) : Nat → Ev ρ → Ev ρ := fun _ _ _ _ => none
def L_eqTensor_args (a : Tensor × Tensor) : List Arg := [.agg [.int .i64 a.1.sh.h, .int .i64 a.1.sh.w, .int .i64 a.1.sh.c, .sl (.int .i64) a.1.data], .agg [.int .i64 a.2.sh.h, .int .i64 a.2.sh.w, .int .i64 a.2.sh.c, .sl (.int .i64) a.2.data]]
def L_eqTensor_argD (l : List Arg) : Option (Tensor × Tensor) := match l with
  | [.agg [.int .i64 b0_0, .int .i64 b0_1, .int .i64 b0_2, .sl (.int .i64) b0_3], .agg [.int .i64 b1_0, .int .i64 b1_1, .int .i64 b1_2, .sl (.int .i64) b1_3]] => some ((⟨(⟨b0_0, b0_1, b0_2⟩ : Shape), b0_3⟩ : Tensor), (⟨(⟨b1_0, b1_1, b1_2⟩ : Shape), b1_3⟩ : Tensor))
  | _ => none
def L_eqTensor_enc (r : Bool) : Out := (.r [] (.bool r), [])
def L_eqTensor_dec (o : Out) : Option (Bool) := match o with
  | (.r [] (.bool z1), []) => some z1
  | _ => none
def L_eqTensor_G (k : Nat) : PG := fun _ l K => (L_eqTensor_argD l).bind fun a => (L_eqTensor k a.1 a.2).bind fun r => K (L_eqTensor_enc r)
theorem L_eqTensor_ev (k : Nat) (a : Tensor × Tensor) : ev (E_L_eqTensor k) (LP_L_eqTensor (Bool) k) 0 c_L_eqTensor (st0 Try.f63 (L_eqTensor_args a)) (fin Try.prog Try.f63 (.sc) L_eqTensor_dec) = L_eqTensor k a.1 a.2 := by kernel_rfl
theorem L_eqTensor_ok (k : Nat) : PureOk Try.prog 63 (L_eqTensor_G k) :=
  pureOk_of_ev (E_L_eqTensor_ok k) Try.func63 (by kernel_rfl) (by kernel_rfl) L_eqTensor_args L_eqTensor_argD
    (fun l a h => by unfold L_eqTensor_argD at h; split at h <;> first | (cases h; rfl) | cases h) (fun a => rfl) (lpgood_none (by kernel_rfl))
    (fun o r h => by unfold L_eqTensor_dec at h; split at h <;> first | (cases h; rfl) | cases h) (L_eqTensor_ev k)
def o_L_eqTensor (k : Nat) : Orc := pureOrc [.agg [(.int .i64), (.int .i64), (.int .i64), (.sl (.int .i64))], .agg [(.int .i64), (.int .i64), (.int .i64), (.sl (.int .i64))]] (L_eqTensor_G k)
theorem o_L_eqTensor_ok (k : Nat) : OrcOk Try.prog 63 (o_L_eqTensor k) := pureOrc_ok (L_eqTensor_ok k)
/-! ### 18 loop.example/g00778/laws.eqStep -/
noncomputable def E_L_eqStep (k : Nat) : Env := { P := Try.prog, tt := tt, orc := fun g => cond (Nat.beq g 19) (o_L_eqByteS k) (cond (Nat.beq g 63) (o_L_eqTensor k) (noOrc)) }
theorem E_L_eqStep_ok (k : Nat) : EnvOk (E_L_eqStep k) := fun g => (orc_cond (o_L_eqByteS_ok k) (orc_cond (o_L_eqTensor_ok k) (noOrc_ok _ _)))
noncomputable def c_L_eqStep : Code := (Try.f18.body).getD .skip
def LP_L_eqStep (ρ : Type) (k : Nat) : Nat → Ev ρ → Ev ρ := fun _ _ _ _ => none
def L_eqStep_args (a : Step × Step) : List Arg := [.agg [.int .i64 a.1.kind, .int .i64 a.1.a, .int .i64 a.1.b, .sl (.int .u8) a.1.data, .int .i64 a.1.input.sh.h, .int .i64 a.1.input.sh.w, .int .i64 a.1.input.sh.c, .sl (.int .i64) a.1.input.data], .agg [.int .i64 a.2.kind, .int .i64 a.2.a, .int .i64 a.2.b, .sl (.int .u8) a.2.data, .int .i64 a.2.input.sh.h, .int .i64 a.2.input.sh.w, .int .i64 a.2.input.sh.c, .sl (.int .i64) a.2.input.data]]
def L_eqStep_argD (l : List Arg) : Option (Step × Step) := match l with
  | [.agg [.int .i64 b0_0, .int .i64 b0_1, .int .i64 b0_2, .sl (.int .u8) b0_3, .int .i64 b0_4, .int .i64 b0_5, .int .i64 b0_6, .sl (.int .i64) b0_7], .agg [.int .i64 b1_0, .int .i64 b1_1, .int .i64 b1_2, .sl (.int .u8) b1_3, .int .i64 b1_4, .int .i64 b1_5, .int .i64 b1_6, .sl (.int .i64) b1_7]] => some ((⟨b0_0, b0_1, b0_2, b0_3, (⟨(⟨b0_4, b0_5, b0_6⟩ : Shape), b0_7⟩ : Tensor)⟩ : Step), (⟨b1_0, b1_1, b1_2, b1_3, (⟨(⟨b1_4, b1_5, b1_6⟩ : Shape), b1_7⟩ : Tensor)⟩ : Step))
  | _ => none
def L_eqStep_enc (r : Bool) : Out := (.r [] (.bool r), [])
def L_eqStep_dec (o : Out) : Option (Bool) := match o with
  | (.r [] (.bool z1), []) => some z1
  | _ => none
def L_eqStep_G (k : Nat) : PG := fun _ l K => (L_eqStep_argD l).bind fun a => (L_eqStep k a.1 a.2).bind fun r => K (L_eqStep_enc r)
theorem L_eqStep_ev (k : Nat) (a : Step × Step) : ev (E_L_eqStep k) (LP_L_eqStep (Bool) k) 0 c_L_eqStep (st0 Try.f18 (L_eqStep_args a)) (fin Try.prog Try.f18 (.sc) L_eqStep_dec) = L_eqStep k a.1 a.2 := by kernel_rfl
theorem L_eqStep_ok (k : Nat) : PureOk Try.prog 18 (L_eqStep_G k) :=
  pureOk_of_ev (E_L_eqStep_ok k) Try.func18 (by kernel_rfl) (by kernel_rfl) L_eqStep_args L_eqStep_argD
    (fun l a h => by unfold L_eqStep_argD at h; split at h <;> first | (cases h; rfl) | cases h) (fun a => rfl) (lpgood_none (by kernel_rfl))
    (fun o r h => by unfold L_eqStep_dec at h; split at h <;> first | (cases h; rfl) | cases h) (L_eqStep_ev k)
def o_L_eqStep (k : Nat) : Orc := pureOrc [.agg [(.int .i64), (.int .i64), (.int .i64), (.sl (.int .u8)), (.int .i64), (.int .i64), (.int .i64), (.sl (.int .i64))], .agg [(.int .i64), (.int .i64), (.int .i64), (.sl (.int .u8)), (.int .i64), (.int .i64), (.int .i64), (.sl (.int .i64))]] (L_eqStep_G k)
theorem o_L_eqStep_ok (k : Nat) : OrcOk Try.prog 18 (o_L_eqStep k) := pureOrc_ok (L_eqStep_ok k)
/-! ### 25 loop.example/g00778/laws.eqStepS -/
noncomputable def E_L_eqStepS (k : Nat) : Env := { P := Try.prog, tt := tt, orc := fun g => cond (Nat.beq g 18) (o_L_eqStep k) (noOrc) }
theorem E_L_eqStepS_ok (k : Nat) : EnvOk (E_L_eqStepS k) := fun g => (orc_cond (o_L_eqStep_ok k) (noOrc_ok _ _))
noncomputable def c_L_eqStepS : Code := (Try.f25.body).getD .skip
noncomputable def b_L_eqStepS_0 : Code := ((loopsIn 0 c_L_eqStepS).getD 0 (0, .skip)).2
def L_eqStepS_g0_keep : List Nat := [0, 1, 5]
def L_eqStepS_g0_co : List (Where × Co) := []
def L_eqStepS_g0_kx : Ex → List Nat
  | .exit j => cond (Nat.beq j 0) [] []
  | .ret => [4]
  | .normal => []
def L_eqStepS_g0_cx : Ex → List (Where × Co)
  | .exit j => cond (Nat.beq j 0) [] []
  | .ret => []
  | .normal => []
def L_eqStepS_g0_tm (pv : (List Step × List Step) × (Int)) : St := { slots := [(0, .r [] (.sl (.st .step) pv.1.1)), (1, .r [] (.sl (.st .step) pv.1.2)), (5, .r [] (.int .i64 pv.2))], heap := [], nid := 0, n := 27, gh := [] }
def L_eqStepS_g0_dec (nf : NF) : Option ((List Step × List Step) × (Int)) := match nf with
  | ([.r [] (.sl (.st .step) w0), .r [] (.sl (.st .step) w1), .r [] (.int .i64 w2)], [], []) => some ((w0, w1), w2)
  | _ => none
theorem L_eqStepS_g0_hd (nf : NF) (v : (List Step × List Step) × (Int)) (h : L_eqStepS_g0_dec nf = some v) : denorm L_eqStepS_g0_keep 27 nf = L_eqStepS_g0_tm v := by
  unfold L_eqStepS_g0_dec at h
  split at h
  · cases h; rfl
  · cases h
def L_eqStepS_g0_x0 (p : List Step × List Step) (x : Unit) : St := { slots := [], heap := [], nid := 0, n := 27, gh := [] }
def L_eqStepS_g0_xret (p : List Step × List Step) (x : Bool) : St := { slots := [(4, .r [] (.bool x))], heap := [], nid := 0, n := 27, gh := [] }
def LP_L_eqStepS (ρ : Type) (k : Nat) : Nat → Ev ρ → Ev ρ := fun id f => cond (Nat.beq id 0) (loopOrc L_eqStepS_g0_keep L_eqStepS_g0_co (fun n nf => cond (Nat.beq n 27) (L_eqStepS_g0_dec nf) none) fun pv K => iter (fun v next => L_eqStepS_g0 k pv.1 v next (fun x => K (.exit 0) (L_eqStepS_g0_x0 pv.1 x)) (fun x => K .ret (L_eqStepS_g0_xret pv.1 x))) k pv.2) ((fun _ _ _ _ => none) id f)
theorem L_eqStepS_g0_round {ρ : Type} (k : Nat) (p : List Step × List Step) (v : Int) (K K1 : Ex → St → Option ρ) : ev (E_L_eqStepS k) (LP_L_eqStepS ρ k) 0 b_L_eqStepS_0 (L_eqStepS_g0_tm (p, v)) (fun e st' => match e with
    | .normal => (normC L_eqStepS_g0_keep L_eqStepS_g0_co st').bind fun nf => K1 .normal (denorm L_eqStepS_g0_keep st'.n nf)
    | e => (normC (L_eqStepS_g0_kx e) (L_eqStepS_g0_cx e) st').bind fun nf => K e (denorm (L_eqStepS_g0_kx e) st'.n nf)) = L_eqStepS_g0 k p v (fun v' => K1 .normal (L_eqStepS_g0_tm (p, v'))) (fun x => K (.exit 0) (L_eqStepS_g0_x0 p x)) (fun x => K .ret (L_eqStepS_g0_xret p x)) := by kernel_rfl
theorem L_eqStepS_g0_ok {ρ : Type} (k : Nat) : Sound Try.prog (.loop b_L_eqStepS_0) (LP_L_eqStepS ρ k 0 fun st K => ev (E_L_eqStepS k) (LP_L_eqStepS ρ k) 0 b_L_eqStepS_0 st K) :=
  loop_ok (ev_sound (E_L_eqStepS_ok k) b_L_eqStepS_0 0 (lpgood_none (by kernel_rfl))) L_eqStepS_g0_kx L_eqStepS_g0_cx k (g := fun p v next K => L_eqStepS_g0 k p v next (fun x => K (.exit 0) (L_eqStepS_g0_x0 p x)) (fun x => K .ret (L_eqStepS_g0_xret p x))) (dec_at L_eqStepS_g0_hd) (fun p v K K1 => L_eqStepS_g0_round k p v K K1)
def L_eqStepS_args (a : List Step × List Step) : List Arg := [.one (.sl (.st .step) a.1), .one (.sl (.st .step) a.2)]
def L_eqStepS_argD (l : List Arg) : Option (List Step × List Step) := match l with
  | [.one (.sl (.st .step) b0), .one (.sl (.st .step) b1)] => some (b0, b1)
  | _ => none
def L_eqStepS_enc (r : Bool) : Out := (.r [] (.bool r), [])
def L_eqStepS_dec (o : Out) : Option (Bool) := match o with
  | (.r [] (.bool z1), []) => some z1
  | _ => none
def L_eqStepS_G (k : Nat) : PG := fun _ l K => (L_eqStepS_argD l).bind fun a => (L_eqStepS k a.1 a.2).bind fun r => K (L_eqStepS_enc r)
theorem L_eqStepS_ev (k : Nat) (a : List Step × List Step) : ev (E_L_eqStepS k) (LP_L_eqStepS (Bool) k) 0 c_L_eqStepS (st0 Try.f25 (L_eqStepS_args a)) (fin Try.prog Try.f25 (.sc) L_eqStepS_dec) = L_eqStepS k a.1 a.2 := by kernel_rfl
theorem L_eqStepS_ok (k : Nat) : PureOk Try.prog 25 (L_eqStepS_G k) :=
  pureOk_of_ev (E_L_eqStepS_ok k) Try.func25 (by kernel_rfl) (by kernel_rfl) L_eqStepS_args L_eqStepS_argD
    (fun l a h => by unfold L_eqStepS_argD at h; split at h <;> first | (cases h; rfl) | cases h) (fun a => rfl) (lpgood_of (l := [(0, b_L_eqStepS_0)]) (by kernel_rfl) ⟨L_eqStepS_g0_ok k, trivial⟩)
    (fun o r h => by unfold L_eqStepS_dec at h; split at h <;> first | (cases h; rfl) | cases h) (L_eqStepS_ev k)
def o_L_eqStepS (k : Nat) : Orc := pureOrc [.one (.sl (.st .step)), .one (.sl (.st .step))] (L_eqStepS_G k)
theorem o_L_eqStepS_ok (k : Nat) : OrcOk Try.prog 25 (o_L_eqStepS k) := pureOrc_ok (L_eqStepS_ok k)
/-! ### 20 loop.example/g00778/laws.markByteS -/
noncomputable def E_L_markByteS_m3 (k : Nat) : Env := { P := Try.prog, tt := tt, orc := fun g => noOrc }
theorem E_L_markByteS_m3_ok (k : Nat) : EnvOk (E_L_markByteS_m3 k) := fun g => (noOrc_ok _ _)
noncomputable def c_L_markByteS_m3 : Code := (Try.f20.body).getD .skip
noncomputable def b_L_markByteS_m3_0 : Code := ((loopsIn 0 c_L_markByteS_m3).getD 0 (0, .skip)).2
def L_markByteS_m3_g0_keep : List Nat := [0, 1, 5]
def L_markByteS_m3_g0_co : List (Where × Co) := []
def L_markByteS_m3_g0_kx : Ex → List Nat
  | .exit j => cond (Nat.beq j 0) [1] []
  | .ret => []
  | .normal => []
def L_markByteS_m3_g0_cx : Ex → List (Where × Co)
  | .exit j => cond (Nat.beq j 0) [] []
  | .ret => []
  | .normal => []
def L_markByteS_m3_g0_tm (pv : (Unit) × (Int × Int × List Int)) : St := { slots := [(0, .own 0), (1, .r [] (.int .i64 pv.2.1)), (5, .r [] (.int .i64 pv.2.2.1))], heap := [(0, .arr none (.int .u8) pv.2.2.2)], nid := 1, n := 20, gh := [some 0] }
def L_markByteS_m3_g0_dec (nf : NF) : Option ((Unit) × (Int × Int × List Int)) := match nf with
  | ([.own 0, .r [] (.int .i64 w0), .r [] (.int .i64 w1)], [.arr none (.int .u8) w2], [some 0]) => some ((), (w0, w1, w2))
  | _ => none
theorem L_markByteS_m3_g0_hd (nf : NF) (v : (Unit) × (Int × Int × List Int)) (h : L_markByteS_m3_g0_dec nf = some v) : denorm L_markByteS_m3_g0_keep 20 nf = L_markByteS_m3_g0_tm v := by
  unfold L_markByteS_m3_g0_dec at h
  split at h
  · cases h; rfl
  · cases h
def L_markByteS_m3_g0_x0 (p : Unit) (x : Int × List Int) : St := { slots := [(1, .r [] (.int .i64 x.1))], heap := [(0, .arr none (.int .u8) x.2)], nid := 1, n := 20, gh := [some 0] }
def LP_L_markByteS_m3 (ρ : Type) (k : Nat) : Nat → Ev ρ → Ev ρ := fun id f => cond (Nat.beq id 0) (loopOrc L_markByteS_m3_g0_keep L_markByteS_m3_g0_co (fun n nf => cond (Nat.beq n 20) (L_markByteS_m3_g0_dec nf) none) fun pv K => iter (fun v next => L_markByteS_m3_g0 k pv.1 v next (fun x => K (.exit 0) (L_markByteS_m3_g0_x0 pv.1 x))) k pv.2) ((fun _ _ _ _ => none) id f)
theorem L_markByteS_m3_g0_round {ρ : Type} (k : Nat) (p : Unit) (v : Int × Int × List Int) (K K1 : Ex → St → Option ρ) : ev (E_L_markByteS_m3 k) (LP_L_markByteS_m3 ρ k) 0 b_L_markByteS_m3_0 (L_markByteS_m3_g0_tm (p, v)) (fun e st' => match e with
    | .normal => (normC L_markByteS_m3_g0_keep L_markByteS_m3_g0_co st').bind fun nf => K1 .normal (denorm L_markByteS_m3_g0_keep st'.n nf)
    | e => (normC (L_markByteS_m3_g0_kx e) (L_markByteS_m3_g0_cx e) st').bind fun nf => K e (denorm (L_markByteS_m3_g0_kx e) st'.n nf)) = L_markByteS_m3_g0 k p v (fun v' => K1 .normal (L_markByteS_m3_g0_tm (p, v'))) (fun x => K (.exit 0) (L_markByteS_m3_g0_x0 p x)) := by kernel_rfl
theorem L_markByteS_m3_g0_ok {ρ : Type} (k : Nat) : Sound Try.prog (.loop b_L_markByteS_m3_0) (LP_L_markByteS_m3 ρ k 0 fun st K => ev (E_L_markByteS_m3 k) (LP_L_markByteS_m3 ρ k) 0 b_L_markByteS_m3_0 st K) :=
  loop_ok (ev_sound (E_L_markByteS_m3_ok k) b_L_markByteS_m3_0 0 (lpgood_none (by kernel_rfl))) L_markByteS_m3_g0_kx L_markByteS_m3_g0_cx k (g := fun p v next K => L_markByteS_m3_g0 k p v next (fun x => K (.exit 0) (L_markByteS_m3_g0_x0 p x))) (dec_at L_markByteS_m3_g0_hd) (fun p v K K1 => L_markByteS_m3_g0_round k p v K K1)
def L_markByteS_m3_args (a : List Int × Int) : List SV := [.own 0, .r [] (.int .i64 a.2)]
def L_markByteS_m3_blks (a : List Int × Int) : List Blk := [.arr none (.int .u8) a.1]
def L_markByteS_m3_argD (l : List SV) (b : List Blk) : Option (List Int × Int) := match l, b with
  | [.own 0, .r [] (.int .i64 w0)], [.arr none (.int .u8) w1] => some (w1, w0)
  | _, _ => none
def L_markByteS_m3_enc (a : List Int × Int) (r : Int × List Int) : MOut := ⟨.r [] (.int .i64 r.1), [some (.arr none (.int .u8) r.2)], []⟩
def L_markByteS_m3_dec (a : List Int × Int) (o : MOut) : Option (Int × List Int) := match o with
  | ⟨.r [] (.int .i64 z1), [some (.arr none (.int .u8) z2)], []⟩ => some (z1, z2)
  | _ => none
def L_markByteS_m3_G (k : Nat) : MG := fun _ l b K => (L_markByteS_m3_argD l b).bind fun a => (L_markByteS_m3 k a.1 a.2).bind fun r => K (L_markByteS_m3_enc a r)
theorem L_markByteS_m3_ev (k : Nat) (a : List Int × Int) : ev (E_L_markByteS_m3 k) (LP_L_markByteS_m3 (Int × List Int) k) 0 c_L_markByteS_m3 (st0M Try.f20 (L_markByteS_m3_args a) (L_markByteS_m3_blks a)) (finM Try.prog Try.f20 (.sc) [.arr] (L_markByteS_m3_dec a)) = L_markByteS_m3 k a.1 a.2 := by kernel_rfl
theorem L_markByteS_m3_ok (k : Nat) : MutOk Try.prog 20 (L_markByteS_m3_G k) :=
  mutOk_of_ev (E_L_markByteS_m3_ok k) Try.func20 (by kernel_rfl) (by kernel_rfl) L_markByteS_m3_args L_markByteS_m3_blks L_markByteS_m3_argD
    (fun l b a h => by unfold L_markByteS_m3_argD at h; split at h <;> first | (cases h; exact ⟨rfl, rfl⟩) | cases h) (fun a => rfl) (lpgood_of (l := [(0, b_L_markByteS_m3_0)]) (by kernel_rfl) ⟨L_markByteS_m3_g0_ok k, trivial⟩) (fun a r => rfl)
    (fun a o r h => by unfold L_markByteS_m3_dec at h; split at h <;> first | (skip; cases h; rfl) | cases h) (L_markByteS_m3_ev k)
def o_L_markByteS_m3 (k : Nat) : Orc := mutOrc [.keep, .keep] (L_markByteS_m3_G k)
theorem o_L_markByteS_m3_ok (k : Nat) : OrcOk Try.prog 20 (o_L_markByteS_m3 k) := mutOrc_ok (L_markByteS_m3_ok k)
/-! ### 45 loop.example/g00778/laws.markIntS -/
noncomputable def E_L_markIntS_m3 (k : Nat) : Env := { P := Try.prog, tt := tt, orc := fun g => noOrc }
theorem E_L_markIntS_m3_ok (k : Nat) : EnvOk (E_L_markIntS_m3 k) := fun g => (noOrc_ok _ _)
noncomputable def c_L_markIntS_m3 : Code := (Try.f45.body).getD .skip
noncomputable def b_L_markIntS_m3_0 : Code := ((loopsIn 0 c_L_markIntS_m3).getD 0 (0, .skip)).2
def L_markIntS_m3_g0_keep : List Nat := [0, 1, 5]
def L_markIntS_m3_g0_co : List (Where × Co) := []
def L_markIntS_m3_g0_kx : Ex → List Nat
  | .exit j => cond (Nat.beq j 0) [1] []
  | .ret => []
  | .normal => []
def L_markIntS_m3_g0_cx : Ex → List (Where × Co)
  | .exit j => cond (Nat.beq j 0) [] []
  | .ret => []
  | .normal => []
def L_markIntS_m3_g0_tm (pv : (Unit) × (Int × Int × List Int)) : St := { slots := [(0, .own 0), (1, .r [] (.int .i64 pv.2.1)), (5, .r [] (.int .i64 pv.2.2.1))], heap := [(0, .arr none (.int .i64) pv.2.2.2)], nid := 1, n := 19, gh := [some 0] }
def L_markIntS_m3_g0_dec (nf : NF) : Option ((Unit) × (Int × Int × List Int)) := match nf with
  | ([.own 0, .r [] (.int .i64 w0), .r [] (.int .i64 w1)], [.arr none (.int .i64) w2], [some 0]) => some ((), (w0, w1, w2))
  | _ => none
theorem L_markIntS_m3_g0_hd (nf : NF) (v : (Unit) × (Int × Int × List Int)) (h : L_markIntS_m3_g0_dec nf = some v) : denorm L_markIntS_m3_g0_keep 19 nf = L_markIntS_m3_g0_tm v := by
  unfold L_markIntS_m3_g0_dec at h
  split at h
  · cases h; rfl
  · cases h
def L_markIntS_m3_g0_x0 (p : Unit) (x : Int × List Int) : St := { slots := [(1, .r [] (.int .i64 x.1))], heap := [(0, .arr none (.int .i64) x.2)], nid := 1, n := 19, gh := [some 0] }
def LP_L_markIntS_m3 (ρ : Type) (k : Nat) : Nat → Ev ρ → Ev ρ := fun id f => cond (Nat.beq id 0) (loopOrc L_markIntS_m3_g0_keep L_markIntS_m3_g0_co (fun n nf => cond (Nat.beq n 19) (L_markIntS_m3_g0_dec nf) none) fun pv K => iter (fun v next => L_markIntS_m3_g0 k pv.1 v next (fun x => K (.exit 0) (L_markIntS_m3_g0_x0 pv.1 x))) k pv.2) ((fun _ _ _ _ => none) id f)
theorem L_markIntS_m3_g0_round {ρ : Type} (k : Nat) (p : Unit) (v : Int × Int × List Int) (K K1 : Ex → St → Option ρ) : ev (E_L_markIntS_m3 k) (LP_L_markIntS_m3 ρ k) 0 b_L_markIntS_m3_0 (L_markIntS_m3_g0_tm (p, v)) (fun e st' => match e with
    | .normal => (normC L_markIntS_m3_g0_keep L_markIntS_m3_g0_co st').bind fun nf => K1 .normal (denorm L_markIntS_m3_g0_keep st'.n nf)
    | e => (normC (L_markIntS_m3_g0_kx e) (L_markIntS_m3_g0_cx e) st').bind fun nf => K e (denorm (L_markIntS_m3_g0_kx e) st'.n nf)) = L_markIntS_m3_g0 k p v (fun v' => K1 .normal (L_markIntS_m3_g0_tm (p, v'))) (fun x => K (.exit 0) (L_markIntS_m3_g0_x0 p x)) := by kernel_rfl
theorem L_markIntS_m3_g0_ok {ρ : Type} (k : Nat) : Sound Try.prog (.loop b_L_markIntS_m3_0) (LP_L_markIntS_m3 ρ k 0 fun st K => ev (E_L_markIntS_m3 k) (LP_L_markIntS_m3 ρ k) 0 b_L_markIntS_m3_0 st K) :=
  loop_ok (ev_sound (E_L_markIntS_m3_ok k) b_L_markIntS_m3_0 0 (lpgood_none (by kernel_rfl))) L_markIntS_m3_g0_kx L_markIntS_m3_g0_cx k (g := fun p v next K => L_markIntS_m3_g0 k p v next (fun x => K (.exit 0) (L_markIntS_m3_g0_x0 p x))) (dec_at L_markIntS_m3_g0_hd) (fun p v K K1 => L_markIntS_m3_g0_round k p v K K1)
def L_markIntS_m3_args (a : List Int × Int) : List SV := [.own 0, .r [] (.int .i64 a.2)]
def L_markIntS_m3_blks (a : List Int × Int) : List Blk := [.arr none (.int .i64) a.1]
def L_markIntS_m3_argD (l : List SV) (b : List Blk) : Option (List Int × Int) := match l, b with
  | [.own 0, .r [] (.int .i64 w0)], [.arr none (.int .i64) w1] => some (w1, w0)
  | _, _ => none
def L_markIntS_m3_enc (a : List Int × Int) (r : Int × List Int) : MOut := ⟨.r [] (.int .i64 r.1), [some (.arr none (.int .i64) r.2)], []⟩
def L_markIntS_m3_dec (a : List Int × Int) (o : MOut) : Option (Int × List Int) := match o with
  | ⟨.r [] (.int .i64 z1), [some (.arr none (.int .i64) z2)], []⟩ => some (z1, z2)
  | _ => none
def L_markIntS_m3_G (k : Nat) : MG := fun _ l b K => (L_markIntS_m3_argD l b).bind fun a => (L_markIntS_m3 k a.1 a.2).bind fun r => K (L_markIntS_m3_enc a r)
theorem L_markIntS_m3_ev (k : Nat) (a : List Int × Int) : ev (E_L_markIntS_m3 k) (LP_L_markIntS_m3 (Int × List Int) k) 0 c_L_markIntS_m3 (st0M Try.f45 (L_markIntS_m3_args a) (L_markIntS_m3_blks a)) (finM Try.prog Try.f45 (.sc) [.arr] (L_markIntS_m3_dec a)) = L_markIntS_m3 k a.1 a.2 := by kernel_rfl
theorem L_markIntS_m3_ok (k : Nat) : MutOk Try.prog 45 (L_markIntS_m3_G k) :=
  mutOk_of_ev (E_L_markIntS_m3_ok k) Try.func45 (by kernel_rfl) (by kernel_rfl) L_markIntS_m3_args L_markIntS_m3_blks L_markIntS_m3_argD
    (fun l b a h => by unfold L_markIntS_m3_argD at h; split at h <;> first | (cases h; exact ⟨rfl, rfl⟩) | cases h) (fun a => rfl) (lpgood_of (l := [(0, b_L_markIntS_m3_0)]) (by kernel_rfl) ⟨L_markIntS_m3_g0_ok k, trivial⟩) (fun a r => rfl)
    (fun a o r h => by unfold L_markIntS_m3_dec at h; split at h <;> first | (skip; cases h; rfl) | cases h) (L_markIntS_m3_ev k)
def o_L_markIntS_m3 (k : Nat) : Orc := mutOrc [.keep, .keep] (L_markIntS_m3_G k)
theorem o_L_markIntS_m3_ok (k : Nat) : OrcOk Try.prog 45 (o_L_markIntS_m3 k) := mutOrc_ok (L_markIntS_m3_ok k)
/-! ### 26 loop.example/g00778/laws.markStepS -/
noncomputable def E_L_markStepS_m2 (k : Nat) : Env := { P := Try.prog, tt := tt, orc := fun g => cond (Nat.beq g 20) (innOrc (o_L_markByteS_m3 k)) (cond (Nat.beq g 45) (innOrc (o_L_markIntS_m3 k)) (noOrc)), wr := fun g => mem g [20, 45], wt := true, inn := true }
theorem E_L_markStepS_m2_ok (k : Nat) : EnvOk (E_L_markStepS_m2 k) := fun g => (orc_cond (innOrc_ok (o_L_markByteS_m3_ok k)) (orc_cond (innOrc_ok (o_L_markIntS_m3_ok k)) (noOrc_ok _ _)))
noncomputable def c_L_markStepS_m2 : Code := (Try.f26.body).getD .skip
noncomputable def b_L_markStepS_m2_0 : Code := ((loopsIn 0 c_L_markStepS_m2).getD 0 (0, .skip)).2
def L_markStepS_m2_g0_keep : List Nat := [0, 1, 5]
def L_markStepS_m2_g0_co : List (Where × Co) := []
def L_markStepS_m2_g0_kx : Ex → List Nat
  | .exit j => cond (Nat.beq j 0) [1] []
  | .ret => []
  | .normal => []
def L_markStepS_m2_g0_cx : Ex → List (Where × Co)
  | .exit j => cond (Nat.beq j 0) [] []
  | .ret => []
  | .normal => []
def L_markStepS_m2_g0_tm (pv : (Unit) × (Int × Int × List Step)) : St := { slots := [(0, .own 0), (1, .r [] (.int .i64 pv.2.1)), (5, .r [] (.int .i64 pv.2.2.1))], heap := [(0, .arr none (.st .step) pv.2.2.2)], nid := 1, n := 76, gh := [some 0] }
def L_markStepS_m2_g0_dec (nf : NF) : Option ((Unit) × (Int × Int × List Step)) := match nf with
  | ([.own 0, .r [] (.int .i64 w0), .r [] (.int .i64 w1)], [.arr none (.st .step) w2], [some 0]) => some ((), (w0, w1, w2))
  | _ => none
theorem L_markStepS_m2_g0_hd (nf : NF) (v : (Unit) × (Int × Int × List Step)) (h : L_markStepS_m2_g0_dec nf = some v) : denorm L_markStepS_m2_g0_keep 76 nf = L_markStepS_m2_g0_tm v := by
  unfold L_markStepS_m2_g0_dec at h
  split at h
  · cases h; rfl
  · cases h
def L_markStepS_m2_g0_x0 (p : Unit) (x : Int × List Step) : St := { slots := [(1, .r [] (.int .i64 x.1))], heap := [(0, .arr none (.st .step) x.2)], nid := 1, n := 76, gh := [some 0] }
def LP_L_markStepS_m2 (ρ : Type) (k : Nat) : Nat → Ev ρ → Ev ρ := fun id f => cond (Nat.beq id 0) (loopOrc L_markStepS_m2_g0_keep L_markStepS_m2_g0_co (fun n nf => cond (Nat.beq n 76) (L_markStepS_m2_g0_dec nf) none) fun pv K => iter (fun v next => L_markStepS_m2_g0 k pv.1 v next (fun x => K (.exit 0) (L_markStepS_m2_g0_x0 pv.1 x))) k pv.2) ((fun _ _ _ _ => none) id f)
theorem L_markStepS_m2_g0_round {ρ : Type} (k : Nat) (p : Unit) (v : Int × Int × List Step) (K K1 : Ex → St → Option ρ) : ev (E_L_markStepS_m2 k) (LP_L_markStepS_m2 ρ k) 0 b_L_markStepS_m2_0 (L_markStepS_m2_g0_tm (p, v)) (fun e st' => match e with
    | .normal => (normC L_markStepS_m2_g0_keep L_markStepS_m2_g0_co st').bind fun nf => K1 .normal (denorm L_markStepS_m2_g0_keep st'.n nf)
    | e => (normC (L_markStepS_m2_g0_kx e) (L_markStepS_m2_g0_cx e) st').bind fun nf => K e (denorm (L_markStepS_m2_g0_kx e) st'.n nf)) = L_markStepS_m2_g0 k p v (fun v' => K1 .normal (L_markStepS_m2_g0_tm (p, v'))) (fun x => K (.exit 0) (L_markStepS_m2_g0_x0 p x)) := by kernel_rfl
theorem L_markStepS_m2_g0_ok {ρ : Type} (k : Nat) : Sound Try.prog (.loop b_L_markStepS_m2_0) (LP_L_markStepS_m2 ρ k 0 fun st K => ev (E_L_markStepS_m2 k) (LP_L_markStepS_m2 ρ k) 0 b_L_markStepS_m2_0 st K) :=
  loop_ok (ev_sound (E_L_markStepS_m2_ok k) b_L_markStepS_m2_0 0 (lpgood_none (by kernel_rfl))) L_markStepS_m2_g0_kx L_markStepS_m2_g0_cx k (g := fun p v next K => L_markStepS_m2_g0 k p v next (fun x => K (.exit 0) (L_markStepS_m2_g0_x0 p x))) (dec_at L_markStepS_m2_g0_hd) (fun p v K K1 => L_markStepS_m2_g0_round k p v K K1)
def L_markStepS_m2_args (a : List Step × Int) : List SV := [.own 0, .r [] (.int .i64 a.2)]
def L_markStepS_m2_blks (a : List Step × Int) : List Blk := [.arr none (.st .step) a.1]
def L_markStepS_m2_argD (l : List SV) (b : List Blk) : Option (List Step × Int) := match l, b with
  | [.own 0, .r [] (.int .i64 w0)], [.arr none (.st .step) w1] => some (w1, w0)
  | _, _ => none
def L_markStepS_m2_enc (a : List Step × Int) (r : Int × List Step) : MOut := ⟨.r [] (.int .i64 r.1), [some (.arr none (.st .step) r.2)], []⟩
def L_markStepS_m2_dec (a : List Step × Int) (o : MOut) : Option (Int × List Step) := match o with
  | ⟨.r [] (.int .i64 z1), [some (.arr none (.st .step) z2)], []⟩ => some (z1, z2)
  | _ => none
def L_markStepS_m2_G (k : Nat) : MG := fun _ l b K => (L_markStepS_m2_argD l b).bind fun a => (L_markStepS_m2 k a.1 a.2).bind fun r => K (L_markStepS_m2_enc a r)
theorem L_markStepS_m2_ev (k : Nat) (a : List Step × Int) : ev (E_L_markStepS_m2 k) (LP_L_markStepS_m2 (Int × List Step) k) 0 c_L_markStepS_m2 (st0M Try.f26 (L_markStepS_m2_args a) (L_markStepS_m2_blks a)) (finM Try.prog Try.f26 (.sc) [.arr] (L_markStepS_m2_dec a)) = L_markStepS_m2 k a.1 a.2 := by kernel_rfl
theorem L_markStepS_m2_ok (k : Nat) : MutOk Try.prog 26 (L_markStepS_m2_G k) :=
  mutOk_of_ev (E_L_markStepS_m2_ok k) Try.func26 (by kernel_rfl) (by kernel_rfl) L_markStepS_m2_args L_markStepS_m2_blks L_markStepS_m2_argD
    (fun l b a h => by unfold L_markStepS_m2_argD at h; split at h <;> first | (cases h; exact ⟨rfl, rfl⟩) | cases h) (fun a => rfl) (lpgood_of (l := [(0, b_L_markStepS_m2_0)]) (by kernel_rfl) ⟨L_markStepS_m2_g0_ok k, trivial⟩) (fun a r => rfl)
    (fun a o r h => by unfold L_markStepS_m2_dec at h; split at h <;> first | (skip; cases h; rfl) | cases h) (L_markStepS_m2_ev k)
def o_L_markStepS_m2 (k : Nat) : Orc := mutOrc [.keep, .keep] (L_markStepS_m2_G k)
theorem o_L_markStepS_m2_ok (k : Nat) : OrcOk Try.prog 26 (o_L_markStepS_m2 k) := mutOrc_ok (L_markStepS_m2_ok k)
/-! ### 32 loop.example/g00778/laws.heldByteS -/
noncomputable def E_L_heldByteS (k : Nat) : Env := { P := Try.prog, tt := tt, orc := fun g => noOrc }
theorem E_L_heldByteS_ok (k : Nat) : EnvOk (E_L_heldByteS k) := fun g => (noOrc_ok _ _)
noncomputable def c_L_heldByteS : Code := (Try.f32.body).getD .skip
noncomputable def b_L_heldByteS_0 : Code := ((loopsIn 0 c_L_heldByteS).getD 0 (0, .skip)).2
def L_heldByteS_g0_keep : List Nat := [0, 1, 5]
def L_heldByteS_g0_co : List (Where × Co) := []
def L_heldByteS_g0_kx : Ex → List Nat
  | .exit j => cond (Nat.beq j 0) [1] []
  | .ret => [4]
  | .normal => []
def L_heldByteS_g0_cx : Ex → List (Where × Co)
  | .exit j => cond (Nat.beq j 0) [] []
  | .ret => []
  | .normal => []
def L_heldByteS_g0_tm (pv : (List Int) × (Int × Int)) : St := { slots := [(0, .r [] (.sl (.int .u8) pv.1)), (1, .r [] (.int .i64 pv.2.1)), (5, .r [] (.int .i64 pv.2.2))], heap := [], nid := 0, n := 22, gh := [] }
def L_heldByteS_g0_dec (nf : NF) : Option ((List Int) × (Int × Int)) := match nf with
  | ([.r [] (.sl (.int .u8) w0), .r [] (.int .i64 w1), .r [] (.int .i64 w2)], [], []) => some (w0, (w1, w2))
  | _ => none
theorem L_heldByteS_g0_hd (nf : NF) (v : (List Int) × (Int × Int)) (h : L_heldByteS_g0_dec nf = some v) : denorm L_heldByteS_g0_keep 22 nf = L_heldByteS_g0_tm v := by
  unfold L_heldByteS_g0_dec at h
  split at h
  · cases h; rfl
  · cases h
def L_heldByteS_g0_x0 (p : List Int) (x : Int) : St := { slots := [(1, .r [] (.int .i64 x))], heap := [], nid := 0, n := 22, gh := [] }
def L_heldByteS_g0_xret (p : List Int) (x : Int) : St := { slots := [(4, .r [] (.int .i64 x))], heap := [], nid := 0, n := 22, gh := [] }
def LP_L_heldByteS (ρ : Type) (k : Nat) : Nat → Ev ρ → Ev ρ := fun id f => cond (Nat.beq id 0) (loopOrc L_heldByteS_g0_keep L_heldByteS_g0_co (fun n nf => cond (Nat.beq n 22) (L_heldByteS_g0_dec nf) none) fun pv K => iter (fun v next => L_heldByteS_g0 k pv.1 v next (fun x => K (.exit 0) (L_heldByteS_g0_x0 pv.1 x)) (fun x => K .ret (L_heldByteS_g0_xret pv.1 x))) k pv.2) ((fun _ _ _ _ => none) id f)
theorem L_heldByteS_g0_round {ρ : Type} (k : Nat) (p : List Int) (v : Int × Int) (K K1 : Ex → St → Option ρ) : ev (E_L_heldByteS k) (LP_L_heldByteS ρ k) 0 b_L_heldByteS_0 (L_heldByteS_g0_tm (p, v)) (fun e st' => match e with
    | .normal => (normC L_heldByteS_g0_keep L_heldByteS_g0_co st').bind fun nf => K1 .normal (denorm L_heldByteS_g0_keep st'.n nf)
    | e => (normC (L_heldByteS_g0_kx e) (L_heldByteS_g0_cx e) st').bind fun nf => K e (denorm (L_heldByteS_g0_kx e) st'.n nf)) = L_heldByteS_g0 k p v (fun v' => K1 .normal (L_heldByteS_g0_tm (p, v'))) (fun x => K (.exit 0) (L_heldByteS_g0_x0 p x)) (fun x => K .ret (L_heldByteS_g0_xret p x)) := by kernel_rfl
theorem L_heldByteS_g0_ok {ρ : Type} (k : Nat) : Sound Try.prog (.loop b_L_heldByteS_0) (LP_L_heldByteS ρ k 0 fun st K => ev (E_L_heldByteS k) (LP_L_heldByteS ρ k) 0 b_L_heldByteS_0 st K) :=
  loop_ok (ev_sound (E_L_heldByteS_ok k) b_L_heldByteS_0 0 (lpgood_none (by kernel_rfl))) L_heldByteS_g0_kx L_heldByteS_g0_cx k (g := fun p v next K => L_heldByteS_g0 k p v next (fun x => K (.exit 0) (L_heldByteS_g0_x0 p x)) (fun x => K .ret (L_heldByteS_g0_xret p x))) (dec_at L_heldByteS_g0_hd) (fun p v K K1 => L_heldByteS_g0_round k p v K K1)
def L_heldByteS_args (a : List Int × Int) : List Arg := [.one (.sl (.int .u8) a.1), .one (.int .i64 a.2)]
def L_heldByteS_argD (l : List Arg) : Option (List Int × Int) := match l with
  | [.one (.sl (.int .u8) b0), .one (.int .i64 b1)] => some (b0, b1)
  | _ => none
def L_heldByteS_enc (r : Int) : Out := (.r [] (.int .i64 r), [])
def L_heldByteS_dec (o : Out) : Option (Int) := match o with
  | (.r [] (.int .i64 z1), []) => some z1
  | _ => none
def L_heldByteS_G (k : Nat) : PG := fun _ l K => (L_heldByteS_argD l).bind fun a => (L_heldByteS k a.1 a.2).bind fun r => K (L_heldByteS_enc r)
theorem L_heldByteS_ev (k : Nat) (a : List Int × Int) : ev (E_L_heldByteS k) (LP_L_heldByteS (Int) k) 0 c_L_heldByteS (st0 Try.f32 (L_heldByteS_args a)) (fin Try.prog Try.f32 (.sc) L_heldByteS_dec) = L_heldByteS k a.1 a.2 := by kernel_rfl
theorem L_heldByteS_ok (k : Nat) : PureOk Try.prog 32 (L_heldByteS_G k) :=
  pureOk_of_ev (E_L_heldByteS_ok k) Try.func32 (by kernel_rfl) (by kernel_rfl) L_heldByteS_args L_heldByteS_argD
    (fun l a h => by unfold L_heldByteS_argD at h; split at h <;> first | (cases h; rfl) | cases h) (fun a => rfl) (lpgood_of (l := [(0, b_L_heldByteS_0)]) (by kernel_rfl) ⟨L_heldByteS_g0_ok k, trivial⟩)
    (fun o r h => by unfold L_heldByteS_dec at h; split at h <;> first | (cases h; rfl) | cases h) (L_heldByteS_ev k)
def o_L_heldByteS (k : Nat) : Orc := pureOrc [.one (.sl (.int .u8)), .one (.int .i64)] (L_heldByteS_G k)
theorem o_L_heldByteS_ok (k : Nat) : OrcOk Try.prog 32 (o_L_heldByteS k) := pureOrc_ok (L_heldByteS_ok k)
/-! ### 57 loop.example/g00778/laws.heldIntS -/
noncomputable def E_L_heldIntS (k : Nat) : Env := { P := Try.prog, tt := tt, orc := fun g => noOrc }
theorem E_L_heldIntS_ok (k : Nat) : EnvOk (E_L_heldIntS k) := fun g => (noOrc_ok _ _)
noncomputable def c_L_heldIntS : Code := (Try.f57.body).getD .skip
noncomputable def b_L_heldIntS_0 : Code := ((loopsIn 0 c_L_heldIntS).getD 0 (0, .skip)).2
def L_heldIntS_g0_keep : List Nat := [0, 1, 5]
def L_heldIntS_g0_co : List (Where × Co) := []
def L_heldIntS_g0_kx : Ex → List Nat
  | .exit j => cond (Nat.beq j 0) [1] []
  | .ret => [4]
  | .normal => []
def L_heldIntS_g0_cx : Ex → List (Where × Co)
  | .exit j => cond (Nat.beq j 0) [] []
  | .ret => []
  | .normal => []
def L_heldIntS_g0_tm (pv : (List Int) × (Int × Int)) : St := { slots := [(0, .r [] (.sl (.int .i64) pv.1)), (1, .r [] (.int .i64 pv.2.1)), (5, .r [] (.int .i64 pv.2.2))], heap := [], nid := 0, n := 21, gh := [] }
def L_heldIntS_g0_dec (nf : NF) : Option ((List Int) × (Int × Int)) := match nf with
  | ([.r [] (.sl (.int .i64) w0), .r [] (.int .i64 w1), .r [] (.int .i64 w2)], [], []) => some (w0, (w1, w2))
  | _ => none
theorem L_heldIntS_g0_hd (nf : NF) (v : (List Int) × (Int × Int)) (h : L_heldIntS_g0_dec nf = some v) : denorm L_heldIntS_g0_keep 21 nf = L_heldIntS_g0_tm v := by
  unfold L_heldIntS_g0_dec at h
  split at h
  · cases h; rfl
  · cases h
def L_heldIntS_g0_x0 (p : List Int) (x : Int) : St := { slots := [(1, .r [] (.int .i64 x))], heap := [], nid := 0, n := 21, gh := [] }
def L_heldIntS_g0_xret (p : List Int) (x : Int) : St := { slots := [(4, .r [] (.int .i64 x))], heap := [], nid := 0, n := 21, gh := [] }
def LP_L_heldIntS (ρ : Type) (k : Nat) : Nat → Ev ρ → Ev ρ := fun id f => cond (Nat.beq id 0) (loopOrc L_heldIntS_g0_keep L_heldIntS_g0_co (fun n nf => cond (Nat.beq n 21) (L_heldIntS_g0_dec nf) none) fun pv K => iter (fun v next => L_heldIntS_g0 k pv.1 v next (fun x => K (.exit 0) (L_heldIntS_g0_x0 pv.1 x)) (fun x => K .ret (L_heldIntS_g0_xret pv.1 x))) k pv.2) ((fun _ _ _ _ => none) id f)
theorem L_heldIntS_g0_round {ρ : Type} (k : Nat) (p : List Int) (v : Int × Int) (K K1 : Ex → St → Option ρ) : ev (E_L_heldIntS k) (LP_L_heldIntS ρ k) 0 b_L_heldIntS_0 (L_heldIntS_g0_tm (p, v)) (fun e st' => match e with
    | .normal => (normC L_heldIntS_g0_keep L_heldIntS_g0_co st').bind fun nf => K1 .normal (denorm L_heldIntS_g0_keep st'.n nf)
    | e => (normC (L_heldIntS_g0_kx e) (L_heldIntS_g0_cx e) st').bind fun nf => K e (denorm (L_heldIntS_g0_kx e) st'.n nf)) = L_heldIntS_g0 k p v (fun v' => K1 .normal (L_heldIntS_g0_tm (p, v'))) (fun x => K (.exit 0) (L_heldIntS_g0_x0 p x)) (fun x => K .ret (L_heldIntS_g0_xret p x)) := by kernel_rfl
theorem L_heldIntS_g0_ok {ρ : Type} (k : Nat) : Sound Try.prog (.loop b_L_heldIntS_0) (LP_L_heldIntS ρ k 0 fun st K => ev (E_L_heldIntS k) (LP_L_heldIntS ρ k) 0 b_L_heldIntS_0 st K) :=
  loop_ok (ev_sound (E_L_heldIntS_ok k) b_L_heldIntS_0 0 (lpgood_none (by kernel_rfl))) L_heldIntS_g0_kx L_heldIntS_g0_cx k (g := fun p v next K => L_heldIntS_g0 k p v next (fun x => K (.exit 0) (L_heldIntS_g0_x0 p x)) (fun x => K .ret (L_heldIntS_g0_xret p x))) (dec_at L_heldIntS_g0_hd) (fun p v K K1 => L_heldIntS_g0_round k p v K K1)
def L_heldIntS_args (a : List Int × Int) : List Arg := [.one (.sl (.int .i64) a.1), .one (.int .i64 a.2)]
def L_heldIntS_argD (l : List Arg) : Option (List Int × Int) := match l with
  | [.one (.sl (.int .i64) b0), .one (.int .i64 b1)] => some (b0, b1)
  | _ => none
def L_heldIntS_enc (r : Int) : Out := (.r [] (.int .i64 r), [])
def L_heldIntS_dec (o : Out) : Option (Int) := match o with
  | (.r [] (.int .i64 z1), []) => some z1
  | _ => none
def L_heldIntS_G (k : Nat) : PG := fun _ l K => (L_heldIntS_argD l).bind fun a => (L_heldIntS k a.1 a.2).bind fun r => K (L_heldIntS_enc r)
theorem L_heldIntS_ev (k : Nat) (a : List Int × Int) : ev (E_L_heldIntS k) (LP_L_heldIntS (Int) k) 0 c_L_heldIntS (st0 Try.f57 (L_heldIntS_args a)) (fin Try.prog Try.f57 (.sc) L_heldIntS_dec) = L_heldIntS k a.1 a.2 := by kernel_rfl
theorem L_heldIntS_ok (k : Nat) : PureOk Try.prog 57 (L_heldIntS_G k) :=
  pureOk_of_ev (E_L_heldIntS_ok k) Try.func57 (by kernel_rfl) (by kernel_rfl) L_heldIntS_args L_heldIntS_argD
    (fun l a h => by unfold L_heldIntS_argD at h; split at h <;> first | (cases h; rfl) | cases h) (fun a => rfl) (lpgood_of (l := [(0, b_L_heldIntS_0)]) (by kernel_rfl) ⟨L_heldIntS_g0_ok k, trivial⟩)
    (fun o r h => by unfold L_heldIntS_dec at h; split at h <;> first | (cases h; rfl) | cases h) (L_heldIntS_ev k)
def o_L_heldIntS (k : Nat) : Orc := pureOrc [.one (.sl (.int .i64)), .one (.int .i64)] (L_heldIntS_G k)
theorem o_L_heldIntS_ok (k : Nat) : OrcOk Try.prog 57 (o_L_heldIntS k) := pureOrc_ok (L_heldIntS_ok k)
/-! ### 27 loop.example/g00778/laws.heldStepS -/
noncomputable def E_L_heldStepS (k : Nat) : Env := { P := Try.prog, tt := tt, orc := fun g => cond (Nat.beq g 32) (o_L_heldByteS k) (cond (Nat.beq g 57) (o_L_heldIntS k) (noOrc)) }
theorem E_L_heldStepS_ok (k : Nat) : EnvOk (E_L_heldStepS k) := fun g => (orc_cond (o_L_heldByteS_ok k) (orc_cond (o_L_heldIntS_ok k) (noOrc_ok _ _)))
noncomputable def c_L_heldStepS : Code := (Try.f27.body).getD .skip
noncomputable def b_L_heldStepS_0 : Code := ((loopsIn 0 c_L_heldStepS).getD 0 (0, .skip)).2
def L_heldStepS_g0_keep : List Nat := [0, 1, 5]
def L_heldStepS_g0_co : List (Where × Co) := []
def L_heldStepS_g0_kx : Ex → List Nat
  | .exit j => cond (Nat.beq j 0) [1] []
  | .ret => [4]
  | .normal => []
def L_heldStepS_g0_cx : Ex → List (Where × Co)
  | .exit j => cond (Nat.beq j 0) [] []
  | .ret => []
  | .normal => []
def L_heldStepS_g0_tm (pv : (List Step) × (Int × Int)) : St := { slots := [(0, .r [] (.sl (.st .step) pv.1)), (1, .r [] (.int .i64 pv.2.1)), (5, .r [] (.int .i64 pv.2.2))], heap := [], nid := 0, n := 92, gh := [] }
def L_heldStepS_g0_dec (nf : NF) : Option ((List Step) × (Int × Int)) := match nf with
  | ([.r [] (.sl (.st .step) w0), .r [] (.int .i64 w1), .r [] (.int .i64 w2)], [], []) => some (w0, (w1, w2))
  | _ => none
theorem L_heldStepS_g0_hd (nf : NF) (v : (List Step) × (Int × Int)) (h : L_heldStepS_g0_dec nf = some v) : denorm L_heldStepS_g0_keep 92 nf = L_heldStepS_g0_tm v := by
  unfold L_heldStepS_g0_dec at h
  split at h
  · cases h; rfl
  · cases h
def L_heldStepS_g0_x0 (p : List Step) (x : Int) : St := { slots := [(1, .r [] (.int .i64 x))], heap := [], nid := 0, n := 92, gh := [] }
def L_heldStepS_g0_xret (p : List Step) (x : Int) : St := { slots := [(4, .r [] (.int .i64 x))], heap := [], nid := 0, n := 92, gh := [] }
def LP_L_heldStepS (ρ : Type) (k : Nat) : Nat → Ev ρ → Ev ρ := fun id f => cond (Nat.beq id 0) (loopOrc L_heldStepS_g0_keep L_heldStepS_g0_co (fun n nf => cond (Nat.beq n 92) (L_heldStepS_g0_dec nf) none) fun pv K => iter (fun v next => L_heldStepS_g0 k pv.1 v next (fun x => K (.exit 0) (L_heldStepS_g0_x0 pv.1 x)) (fun x => K .ret (L_heldStepS_g0_xret pv.1 x))) k pv.2) ((fun _ _ _ _ => none) id f)
theorem L_heldStepS_g0_round {ρ : Type} (k : Nat) (p : List Step) (v : Int × Int) (K K1 : Ex → St → Option ρ) : ev (E_L_heldStepS k) (LP_L_heldStepS ρ k) 0 b_L_heldStepS_0 (L_heldStepS_g0_tm (p, v)) (fun e st' => match e with
    | .normal => (normC L_heldStepS_g0_keep L_heldStepS_g0_co st').bind fun nf => K1 .normal (denorm L_heldStepS_g0_keep st'.n nf)
    | e => (normC (L_heldStepS_g0_kx e) (L_heldStepS_g0_cx e) st').bind fun nf => K e (denorm (L_heldStepS_g0_kx e) st'.n nf)) = L_heldStepS_g0 k p v (fun v' => K1 .normal (L_heldStepS_g0_tm (p, v'))) (fun x => K (.exit 0) (L_heldStepS_g0_x0 p x)) (fun x => K .ret (L_heldStepS_g0_xret p x)) := by kernel_rfl
theorem L_heldStepS_g0_ok {ρ : Type} (k : Nat) : Sound Try.prog (.loop b_L_heldStepS_0) (LP_L_heldStepS ρ k 0 fun st K => ev (E_L_heldStepS k) (LP_L_heldStepS ρ k) 0 b_L_heldStepS_0 st K) :=
  loop_ok (ev_sound (E_L_heldStepS_ok k) b_L_heldStepS_0 0 (lpgood_none (by kernel_rfl))) L_heldStepS_g0_kx L_heldStepS_g0_cx k (g := fun p v next K => L_heldStepS_g0 k p v next (fun x => K (.exit 0) (L_heldStepS_g0_x0 p x)) (fun x => K .ret (L_heldStepS_g0_xret p x))) (dec_at L_heldStepS_g0_hd) (fun p v K K1 => L_heldStepS_g0_round k p v K K1)
def L_heldStepS_args (a : List Step × Int) : List Arg := [.one (.sl (.st .step) a.1), .one (.int .i64 a.2)]
def L_heldStepS_argD (l : List Arg) : Option (List Step × Int) := match l with
  | [.one (.sl (.st .step) b0), .one (.int .i64 b1)] => some (b0, b1)
  | _ => none
def L_heldStepS_enc (r : Int) : Out := (.r [] (.int .i64 r), [])
def L_heldStepS_dec (o : Out) : Option (Int) := match o with
  | (.r [] (.int .i64 z1), []) => some z1
  | _ => none
def L_heldStepS_G (k : Nat) : PG := fun _ l K => (L_heldStepS_argD l).bind fun a => (L_heldStepS k a.1 a.2).bind fun r => K (L_heldStepS_enc r)
theorem L_heldStepS_ev (k : Nat) (a : List Step × Int) : ev (E_L_heldStepS k) (LP_L_heldStepS (Int) k) 0 c_L_heldStepS (st0 Try.f27 (L_heldStepS_args a)) (fin Try.prog Try.f27 (.sc) L_heldStepS_dec) = L_heldStepS k a.1 a.2 := by kernel_rfl
theorem L_heldStepS_ok (k : Nat) : PureOk Try.prog 27 (L_heldStepS_G k) :=
  pureOk_of_ev (E_L_heldStepS_ok k) Try.func27 (by kernel_rfl) (by kernel_rfl) L_heldStepS_args L_heldStepS_argD
    (fun l a h => by unfold L_heldStepS_argD at h; split at h <;> first | (cases h; rfl) | cases h) (fun a => rfl) (lpgood_of (l := [(0, b_L_heldStepS_0)]) (by kernel_rfl) ⟨L_heldStepS_g0_ok k, trivial⟩)
    (fun o r h => by unfold L_heldStepS_dec at h; split at h <;> first | (cases h; rfl) | cases h) (L_heldStepS_ev k)
def o_L_heldStepS (k : Nat) : Orc := pureOrc [.one (.sl (.st .step)), .one (.int .i64)] (L_heldStepS_G k)
theorem o_L_heldStepS_ok (k : Nat) : OrcOk Try.prog 27 (o_L_heldStepS k) := pureOrc_ok (L_heldStepS_ok k)
/-! ### 4 loop.example/g00778/laws.FnExactReadTrace -/
noncomputable def E_L_FnExactReadTrace (k : Nat) : Env := { P := Try.prog, tt := tt, orc := fun g => cond (Nat.beq g 16) (o_L_toByteS k) (cond (Nat.beq g 19) (o_L_eqByteS k) (cond (Nat.beq g 20) (o_L_markByteS_m3 k) (cond (Nat.beq g 23) (o_S_ReadTrace k) (cond (Nat.beq g 24) (o_I_ReadTrace k) (cond (Nat.beq g 25) (o_L_eqStepS k) (cond (Nat.beq g 26) (o_L_markStepS_m2 k) (cond (Nat.beq g 27) (o_L_heldStepS k) (noOrc)))))))), wr := fun g => mem g [20, 26], wt := true }
theorem E_L_FnExactReadTrace_ok (k : Nat) : EnvOk (E_L_FnExactReadTrace k) := fun g => (orc_cond (o_L_toByteS_ok k) (orc_cond (o_L_eqByteS_ok k) (orc_cond (o_L_markByteS_m3_ok k) (orc_cond (o_S_ReadTrace_ok k) (orc_cond (o_I_ReadTrace_ok k) (orc_cond (o_L_eqStepS_ok k) (orc_cond (o_L_markStepS_m2_ok k) (orc_cond (o_L_heldStepS_ok k) (noOrc_ok _ _)))))))))
noncomputable def c_L_FnExactReadTrace : Code := (Try.f4.body).getD .skip
def LP_L_FnExactReadTrace (ρ : Type) (k : Nat) : Nat → Ev ρ → Ev ρ := fun _ _ _ _ => none
def L_FnExactReadTrace_args (a : List Int) : List Arg := [.one (.sl (.int .u8) a)]
def L_FnExactReadTrace_argD (l : List Arg) : Option (List Int) := match l with
  | [.one (.sl (.int .u8) b0)] => some b0
  | _ => none
def L_FnExactReadTrace_enc (r : Bool) : Out := (.r [] (.bool r), [])
def L_FnExactReadTrace_dec (o : Out) : Option (Bool) := match o with
  | (.r [] (.bool z1), []) => some z1
  | _ => none
def L_FnExactReadTrace_G (k : Nat) : PG := fun _ l K => (L_FnExactReadTrace_argD l).bind fun a => (L_FnExactReadTrace k a).bind fun r => K (L_FnExactReadTrace_enc r)
theorem L_FnExactReadTrace_ev (k : Nat) (a : List Int) : ev (E_L_FnExactReadTrace k) (LP_L_FnExactReadTrace (Bool) k) 0 c_L_FnExactReadTrace (st0 Try.f4 (L_FnExactReadTrace_args a)) (fin Try.prog Try.f4 (.sc) L_FnExactReadTrace_dec) = L_FnExactReadTrace k a := by kernel_rfl
theorem L_FnExactReadTrace_ok (k : Nat) : PureOk Try.prog 4 (L_FnExactReadTrace_G k) :=
  pureOk_of_ev (E_L_FnExactReadTrace_ok k) Try.func4 (by kernel_rfl) (by kernel_rfl) L_FnExactReadTrace_args L_FnExactReadTrace_argD
    (fun l a h => by unfold L_FnExactReadTrace_argD at h; split at h <;> first | (cases h; rfl) | cases h) (fun a => rfl) (lpgood_none (by kernel_rfl))
    (fun o r h => by unfold L_FnExactReadTrace_dec at h; split at h <;> first | (cases h; rfl) | cases h) (L_FnExactReadTrace_ev k)
def o_L_FnExactReadTrace (k : Nat) : Orc := pureOrc [.one (.sl (.int .u8))] (L_FnExactReadTrace_G k)
theorem o_L_FnExactReadTrace_ok (k : Nat) : OrcOk Try.prog 4 (o_L_FnExactReadTrace k) := pureOrc_ok (L_FnExactReadTrace_ok k)
end
end Go.Proofs.Ev
