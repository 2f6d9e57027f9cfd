/- Text of this claim. -/
import Derived.Test.YtcihopgmgpmadaaEvK5
import Derived.Test.YtcihopgmgpmadaaProg
import Derived.Test.YtcihopgmgpmadaaEvD1
import Derived.Test.YtcihopgmgpmadaaEvD3
import Derived.Test.YtcihopgmgpmadaaEvD4
set_option linter.unusedVariables false
set_option linter.unusedSimpArgs false
set_option linter.unusedVariables false
set_option linter.unusedSimpArgs false
set_option maxRecDepth 100000
namespace Go.Proofs.Ev
noncomputable section
def tt : TT := look [(2, (.int .i64)), (3, (.int .i64)), (4, .bool), (5, (.int .u8)), (6, (.int .u8)), (9, .str), (10, .str), (11, .str), (12, (.int .u64)), (21, (.int .i32)), (22, (.sl (.int .u8))), (24, (.st .shape)), (25, (.sl (.int .i64))), (27, (.st .tensor)), (29, (.st .step)), (38, (.sl (.st .step))), (44, (.st .shape)), (46, (.st .tensor)), (48, (.st .step)), (54, (.sl (.st .step))), (59, (.sl (.st .task))), (63, (.sl (.st .task))), (81, (.sl (.sl (.int .i64)))), (89, (.sl (.st .tensor))), (98, (.sl (.st .wish))), (102, (.sl (.st .wish))), (135, (.st .task)), (155, (.st .wish)), (157, (.st .wish)), (177, (.int .u64)), (180, (.st .task)), (216, (.int .u32)), (217, (.int .u8)), (218, (.int .u8)), (221, (.int .i32)), (222, (.int .i32))]
/-! ### 16 loop.example/g00778/laws.toByteS -/
noncomputable def E_L_toByteS (k : Nat) : Env := { P := Try.prog, tt := tt, orc := fun g => noOrc }
theorem E_L_toByteS_ok (k : Nat) : EnvOk (E_L_toByteS k) := fun g => (noOrc_ok _ _)
noncomputable def c_L_toByteS : Code := (Try.f16.body).getD .skip
noncomputable def b_L_toByteS_0 : Code := ((loopsIn 0 c_L_toByteS).getD 0 (0, .skip)).2
def L_toByteS_g0_keep : List Nat := [0, 3, 4]
def L_toByteS_g0_co : List (Where × Co) := []
def L_toByteS_g0_kx : Ex → List Nat
  | .exit j => cond (Nat.beq j 0) [3] []
  | .ret => []
  | .normal => []
def L_toByteS_g0_cx : Ex → List (Where × Co)
  | .exit j => cond (Nat.beq j 0) [] []
  | .ret => []
  | .normal => []
def L_toByteS_g0_tm (pv : (List Int) × (Int × List Int)) : St := { slots := [(0, .r [] (.sl (.int .u8) pv.1)), (3, .own 0), (4, .r [] (.int .i64 pv.2.1))], heap := [(0, .arr none (.int .u8) pv.2.2)], nid := 1, n := 22, gh := [] }
def L_toByteS_g0_dec (nf : NF) : Option ((List Int) × (Int × List Int)) := match nf with
  | ([.r [] (.sl (.int .u8) w0), .own 0, .r [] (.int .i64 w1)], [.arr none (.int .u8) w2], []) => some (w0, (w1, w2))
  | _ => none
theorem L_toByteS_g0_hd (nf : NF) (v : (List Int) × (Int × List Int)) (h : L_toByteS_g0_dec nf = some v) : denorm L_toByteS_g0_keep 22 nf = L_toByteS_g0_tm v := by
  unfold L_toByteS_g0_dec at h
  split at h
  · cases h; rfl
  · cases h
def L_toByteS_g0_x0 (p : List Int) (x : List Int) : St := { slots := [(3, .own 0)], heap := [(0, .arr none (.int .u8) x)], nid := 1, n := 22, gh := [] }
def LP_L_toByteS (ρ : Type) (k : Nat) : Nat → Ev ρ → Ev ρ := fun id f => cond (Nat.beq id 0) (loopOrc L_toByteS_g0_keep L_toByteS_g0_co (fun n nf => cond (Nat.beq n 22) (L_toByteS_g0_dec nf) none) fun pv K => iter (fun v next => L_toByteS_g0 k pv.1 v next (fun x => K (.exit 0) (L_toByteS_g0_x0 pv.1 x))) k pv.2) ((fun _ _ _ _ => none) id f)
theorem L_toByteS_g0_round {ρ : Type} (k : Nat) (p : List Int) (v : Int × List Int) (K K1 : Ex → St → Option ρ) : ev (E_L_toByteS k) (LP_L_toByteS ρ k) 0 b_L_toByteS_0 (L_toByteS_g0_tm (p, v)) (fun e st' => match e with
    | .normal => (normC L_toByteS_g0_keep L_toByteS_g0_co st').bind fun nf => K1 .normal (denorm L_toByteS_g0_keep st'.n nf)
    | e => (normC (L_toByteS_g0_kx e) (L_toByteS_g0_cx e) st').bind fun nf => K e (denorm (L_toByteS_g0_kx e) st'.n nf)) = L_toByteS_g0 k p v (fun v' => K1 .normal (L_toByteS_g0_tm (p, v'))) (fun x => K (.exit 0) (L_toByteS_g0_x0 p x)) := by kernel_rfl
theorem L_toByteS_g0_ok {ρ : Type} (k : Nat) : Sound Try.prog (.loop b_L_toByteS_0) (LP_L_toByteS ρ k 0 fun st K => ev (E_L_toByteS k) (LP_L_toByteS ρ k) 0 b_L_toByteS_0 st K) :=
  loop_ok (ev_sound (E_L_toByteS_ok k) b_L_toByteS_0 0 (lpgood_none (by kernel_rfl))) L_toByteS_g0_kx L_toByteS_g0_cx k (g := fun p v next K => L_toByteS_g0 k p v next (fun x => K (.exit 0) (L_toByteS_g0_x0 p x))) (dec_at L_toByteS_g0_hd) (fun p v K K1 => L_toByteS_g0_round k p v K K1)
def L_toByteS_args (a : List Int) : List Arg := [.one (.sl (.int .u8) a)]
def L_toByteS_argD (l : List Arg) : Option (List Int) := match l with
  | [.one (.sl (.int .u8) b0)] => some b0
  | _ => none
def L_toByteS_enc (r : List Int) : Out := (.own 0, [.arr none (.int .u8) r])
def L_toByteS_dec (o : Out) : Option (List Int) := match o with
  | (.own 0, [.arr none (.int .u8) z1]) => some z1
  | _ => none
def L_toByteS_G (k : Nat) : PG := fun _ l K => (L_toByteS_argD l).bind fun a => (L_toByteS k a).bind fun r => K (L_toByteS_enc r)
theorem L_toByteS_ev (k : Nat) (a : List Int) : ev (E_L_toByteS k) (LP_L_toByteS (List Int) k) 0 c_L_toByteS (st0 Try.f16 (L_toByteS_args a)) (fin Try.prog Try.f16 (.own (.int .u8)) L_toByteS_dec) = L_toByteS k a := by kernel_rfl
theorem L_toByteS_ok (k : Nat) : PureOk Try.prog 16 (L_toByteS_G k) :=
  pureOk_of_ev (E_L_toByteS_ok k) Try.func16 (by kernel_rfl) (by kernel_rfl) L_toByteS_args L_toByteS_argD
    (fun l a h => by unfold L_toByteS_argD at h; split at h <;> first | (cases h; rfl) | cases h) (fun a => rfl) (lpgood_of (l := [(0, b_L_toByteS_0)]) (by kernel_rfl) ⟨L_toByteS_g0_ok k, trivial⟩)
    (fun o r h => by unfold L_toByteS_dec at h; split at h <;> first | (cases h; rfl) | cases h) (L_toByteS_ev k)
def o_L_toByteS (k : Nat) : Orc := pureOrc [.one (.sl (.int .u8))] (L_toByteS_G k)
theorem o_L_toByteS_ok (k : Nat) : OrcOk Try.prog 16 (o_L_toByteS k) := pureOrc_ok (L_toByteS_ok k)
/-! ### 87 loop.example/g00778/spec.TakeWide -/
noncomputable def E_S_TakeWide (k : Nat) : Env := { P := Try.prog, tt := tt, orc := fun g => noOrc }
theorem E_S_TakeWide_ok (k : Nat) : EnvOk (E_S_TakeWide k) := fun g => (noOrc_ok _ _)
noncomputable def c_S_TakeWide : Code := (Try.f87.body).getD .skip
noncomputable def b_S_TakeWide_0 : Code := ((loopsIn 0 c_S_TakeWide).getD 0 (0, .skip)).2
def S_TakeWide_g0_keep : List Nat := [0, 1, 6, 7]
def S_TakeWide_g0_co : List (Where × Co) := []
def S_TakeWide_g0_kx : Ex → List Nat
  | .exit j => cond (Nat.beq j 0) [] []
  | .ret => [4, 5]
  | .normal => []
def S_TakeWide_g0_cx : Ex → List (Where × Co)
  | .exit j => cond (Nat.beq j 0) [] []
  | .ret => []
  | .normal => []
def S_TakeWide_g0_tm (pv : (List Int × Int) × (Int × Int)) : St := { slots := [(0, .r [] (.sl (.int .u8) pv.1.1)), (1, .r [] (.int .i64 pv.1.2)), (6, .r [] (.int .i64 pv.2.1)), (7, .r [] (.int .i64 pv.2.2))], heap := [], nid := 0, n := 65, gh := [] }
def S_TakeWide_g0_dec (nf : NF) : Option ((List Int × Int) × (Int × Int)) := match nf with
  | ([.r [] (.sl (.int .u8) w0), .r [] (.int .i64 w1), .r [] (.int .i64 w2), .r [] (.int .i64 w3)], [], []) => some ((w0, w1), (w2, w3))
  | _ => none
theorem S_TakeWide_g0_hd (nf : NF) (v : (List Int × Int) × (Int × Int)) (h : S_TakeWide_g0_dec nf = some v) : denorm S_TakeWide_g0_keep 65 nf = S_TakeWide_g0_tm v := by
  unfold S_TakeWide_g0_dec at h
  split at h
  · cases h; rfl
  · cases h
def S_TakeWide_g0_x0 (p : List Int × Int) (x : Unit) : St := { slots := [], heap := [], nid := 0, n := 65, gh := [] }
def S_TakeWide_g0_xret (p : List Int × Int) (x : Int × Int) : St := { slots := [(4, .r [] (.int .i64 x.1)), (5, .r [] (.int .i64 x.2))], heap := [], nid := 0, n := 65, gh := [] }
def LP_S_TakeWide (ρ : Type) (k : Nat) : Nat → Ev ρ → Ev ρ := fun id f => cond (Nat.beq id 0) (loopOrc S_TakeWide_g0_keep S_TakeWide_g0_co (fun n nf => cond (Nat.beq n 65) (S_TakeWide_g0_dec nf) none) fun pv K => iter (fun v next => S_TakeWide_g0 k pv.1 v next (fun x => K (.exit 0) (S_TakeWide_g0_x0 pv.1 x)) (fun x => K .ret (S_TakeWide_g0_xret pv.1 x))) k pv.2) ((fun _ _ _ _ => none) id f)
theorem S_TakeWide_g0_round {ρ : Type} (k : Nat) (p : List Int × Int) (v : Int × Int) (K K1 : Ex → St → Option ρ) : ev (E_S_TakeWide k) (LP_S_TakeWide ρ k) 0 b_S_TakeWide_0 (S_TakeWide_g0_tm (p, v)) (fun e st' => match e with
    | .normal => (normC S_TakeWide_g0_keep S_TakeWide_g0_co st').bind fun nf => K1 .normal (denorm S_TakeWide_g0_keep st'.n nf)
    | e => (normC (S_TakeWide_g0_kx e) (S_TakeWide_g0_cx e) st').bind fun nf => K e (denorm (S_TakeWide_g0_kx e) st'.n nf)) = S_TakeWide_g0 k p v (fun v' => K1 .normal (S_TakeWide_g0_tm (p, v'))) (fun x => K (.exit 0) (S_TakeWide_g0_x0 p x)) (fun x => K .ret (S_TakeWide_g0_xret p x)) := by kernel_rfl
theorem S_TakeWide_g0_ok {ρ : Type} (k : Nat) : Sound Try.prog (.loop b_S_TakeWide_0) (LP_S_TakeWide ρ k 0 fun st K => ev (E_S_TakeWide k) (LP_S_TakeWide ρ k) 0 b_S_TakeWide_0 st K) :=
  loop_ok (ev_sound (E_S_TakeWide_ok k) b_S_TakeWide_0 0 (lpgood_none (by kernel_rfl))) S_TakeWide_g0_kx S_TakeWide_g0_cx k (g := fun p v next K => S_TakeWide_g0 k p v next (fun x => K (.exit 0) (S_TakeWide_g0_x0 p x)) (fun x => K .ret (S_TakeWide_g0_xret p x))) (dec_at S_TakeWide_g0_hd) (fun p v K K1 => S_TakeWide_g0_round k p v K K1)
def S_TakeWide_args (a : List Int × Int) : List Arg := [.one (.sl (.int .u8) a.1), .one (.int .i64 a.2)]
def S_TakeWide_argD (l : List Arg) : Option (List Int × Int) := match l with
  | [.one (.sl (.int .u8) b0), .one (.int .i64 b1)] => some (b0, b1)
  | _ => none
def S_TakeWide_enc (r : Int × Int) : Out := (.tup [.r [] (.int .i64 r.1), .r [] (.int .i64 r.2)], [])
def S_TakeWide_dec (o : Out) : Option (Int × Int) := match o with
  | (.tup [.r [] (.int .i64 z1), .r [] (.int .i64 z2)], []) => some (z1, z2)
  | _ => none
def S_TakeWide_G (k : Nat) : PG := fun _ l K => (S_TakeWide_argD l).bind fun a => (S_TakeWide k a.1 a.2).bind fun r => K (S_TakeWide_enc r)
theorem S_TakeWide_ev (k : Nat) (a : List Int × Int) : ev (E_S_TakeWide k) (LP_S_TakeWide (Int × Int) k) 0 c_S_TakeWide (st0 Try.f87 (S_TakeWide_args a)) (fin Try.prog Try.f87 (.tup [.sc, .sc]) S_TakeWide_dec) = S_TakeWide k a.1 a.2 := by kernel_rfl
theorem S_TakeWide_ok (k : Nat) : PureOk Try.prog 87 (S_TakeWide_G k) :=
  pureOk_of_ev (E_S_TakeWide_ok k) Try.func87 (by kernel_rfl) (by kernel_rfl) S_TakeWide_args S_TakeWide_argD
    (fun l a h => by unfold S_TakeWide_argD at h; split at h <;> first | (cases h; rfl) | cases h) (fun a => rfl) (lpgood_of (l := [(0, b_S_TakeWide_0)]) (by kernel_rfl) ⟨S_TakeWide_g0_ok k, trivial⟩)
    (fun o r h => by unfold S_TakeWide_dec at h; split at h <;> first | (cases h; rfl) | cases h) (S_TakeWide_ev k)
def o_S_TakeWide (k : Nat) : Orc := pureOrc [.one (.sl (.int .u8)), .one (.int .i64)] (S_TakeWide_G k)
theorem o_S_TakeWide_ok (k : Nat) : OrcOk Try.prog 87 (o_S_TakeWide k) := pureOrc_ok (S_TakeWide_ok k)
/-! ### 81 loop.example/g00778/spec.l05Next -/
noncomputable def E_S_l05Next_m (k : Nat) : Env := { P := Try.prog, tt := tt, orc := fun g => cond (Nat.beq g 87) (o_S_TakeWide k) (noOrc) }
theorem E_S_l05Next_m_ok (k : Nat) : EnvOk (E_S_l05Next_m k) := fun g => (orc_cond (o_S_TakeWide_ok k) (noOrc_ok _ _))
noncomputable def c_S_l05Next_m : Code := (Try.f81.body).getD .skip
def LP_S_l05Next_m (ρ : Type) (k : Nat) : Nat → Ev ρ → Ev ρ := fun _ _ _ _ => none
def S_l05Next_m_args (a : List Int × Int × Bool) : List SV := [.ptr 0 0 0]
def S_l05Next_m_blks (a : List Int × Int × Bool) : List Blk := [.box [.r [] (.sl (.int .u8) a.1), .r [] (.int .i64 a.2.1), .r [] (.bool a.2.2)]]
def S_l05Next_m_argD (l : List SV) (b : List Blk) : Option (List Int × Int × Bool) := match l, b with
  | [.ptr 0 0 0], [.box [.r [] (.sl (.int .u8) w0), .r [] (.int .i64 w1), .r [] (.bool w2)]] => some (w0, w1, w2)
  | _, _ => none
def S_l05Next_m_enc (a : List Int × Int × Bool) (r : Int × Int × Bool) : MOut := ⟨.r [] (.int .i64 r.1), [some (.box [.r [] (.sl (.int .u8) a.1), .r [] (.int .i64 r.2.1), .r [] (.bool r.2.2)])], []⟩
def S_l05Next_m_dec (a : List Int × Int × Bool) (o : MOut) : Option (Int × Int × Bool) := match o with
  | ⟨.r [] (.int .i64 z1), [some (.box [.r [] (.sl (.int .u8) z2), .r [] (.int .i64 z3), .r [] (.bool z4)])], []⟩ => cond (@sameL (List Int) _ z2 a.1) (some (z1, z3, z4)) none
  | _ => none
def S_l05Next_m_G (k : Nat) : MG := fun _ l b K => (S_l05Next_m_argD l b).bind fun a => (S_l05Next_m k a.1 a.2.1 a.2.2).bind fun r => K (S_l05Next_m_enc a r)
theorem S_l05Next_m_ev (k : Nat) (a : List Int × Int × Bool) : ev (E_S_l05Next_m k) (LP_S_l05Next_m (Int × Int × Bool) k) 0 c_S_l05Next_m (st0M Try.f81 (S_l05Next_m_args a) (S_l05Next_m_blks a)) (finM Try.prog Try.f81 (.sc) [.box [.ro (.int .u8), .sc, .sc]] (S_l05Next_m_dec a)) = S_l05Next_m k a.1 a.2.1 a.2.2 := by kernel_rfl
theorem S_l05Next_m_ok (k : Nat) : MutOk Try.prog 81 (S_l05Next_m_G k) :=
  mutOk_of_ev (E_S_l05Next_m_ok k) Try.func81 (by kernel_rfl) (by kernel_rfl) S_l05Next_m_args S_l05Next_m_blks S_l05Next_m_argD
    (fun l b a h => by unfold S_l05Next_m_argD at h; split at h <;> first | (cases h; exact ⟨rfl, rfl⟩) | cases h) (fun a => rfl) (lpgood_none (by kernel_rfl)) (fun a r => rfl)
    (fun a o r h => by unfold S_l05Next_m_dec at h; split at h <;> first | (obtain ⟨e0, hq⟩ := dec_chk1 h; clear h; subst e0; have h := hq; clear hq; cases h; rfl) | cases h) (S_l05Next_m_ev k)
def o_S_l05Next_m (k : Nat) : Orc := mutOrc [.keep] (S_l05Next_m_G k)
theorem o_S_l05Next_m_ok (k : Nat) : OrcOk Try.prog 81 (o_S_l05Next_m k) := mutOrc_ok (S_l05Next_m_ok k)
/-! ### 82 loop.example/g00778/spec.l01In -/
noncomputable def E_S_l01In (k : Nat) : Env := { P := Try.prog, tt := tt, orc := fun g => noOrc }
theorem E_S_l01In_ok (k : Nat) : EnvOk (E_S_l01In k) := fun g => (noOrc_ok _ _)
noncomputable def c_S_l01In : Code := (Try.f82.body).getD .skip
def LP_S_l01In (ρ : Type) (k : Nat) : Nat → Ev ρ → Ev ρ := fun _ _ _ _ => none
def S_l01In_args (a : Int × Int × Int) : List Arg := [.one (.int .i64 a.1), .one (.int .i64 a.2.1), .one (.int .i64 a.2.2)]
def S_l01In_argD (l : List Arg) : Option (Int × Int × Int) := match l with
  | [.one (.int .i64 b0), .one (.int .i64 b1), .one (.int .i64 b2)] => some (b0, b1, b2)
  | _ => none
def S_l01In_enc (r : Bool) : Out := (.r [] (.bool r), [])
def S_l01In_dec (o : Out) : Option (Bool) := match o with
  | (.r [] (.bool z1), []) => some z1
  | _ => none
def S_l01In_G (k : Nat) : PG := fun _ l K => (S_l01In_argD l).bind fun a => (S_l01In k a.1 a.2.1 a.2.2).bind fun r => K (S_l01In_enc r)
theorem S_l01In_ev (k : Nat) (a : Int × Int × Int) : ev (E_S_l01In k) (LP_S_l01In (Bool) k) 0 c_S_l01In (st0 Try.f82 (S_l01In_args a)) (fin Try.prog Try.f82 (.sc) S_l01In_dec) = S_l01In k a.1 a.2.1 a.2.2 := by kernel_rfl
theorem S_l01In_ok (k : Nat) : PureOk Try.prog 82 (S_l01In_G k) :=
  pureOk_of_ev (E_S_l01In_ok k) Try.func82 (by kernel_rfl) (by kernel_rfl) S_l01In_args S_l01In_argD
    (fun l a h => by unfold S_l01In_argD at h; split at h <;> first | (cases h; rfl) | cases h) (fun a => rfl) (lpgood_none (by kernel_rfl))
    (fun o r h => by unfold S_l01In_dec at h; split at h <;> first | (cases h; rfl) | cases h) (S_l01In_ev k)
def o_S_l01In (k : Nat) : Orc := pureOrc [.one (.int .i64), .one (.int .i64), .one (.int .i64)] (S_l01In_G k)
theorem o_S_l01In_ok (k : Nat) : OrcOk Try.prog 82 (o_S_l01In k) := pureOrc_ok (S_l01In_ok k)
/-! ### 83 loop.example/g00778/spec.l01Bytes -/
noncomputable def E_S_l01Bytes (k : Nat) : Env := { P := Try.prog, tt := tt, orc := fun g => noOrc }
theorem E_S_l01Bytes_ok (k : Nat) : EnvOk (E_S_l01Bytes k) := fun g => (noOrc_ok _ _)
noncomputable def c_S_l01Bytes : Code := (Try.f83.body).getD .skip
noncomputable def b_S_l01Bytes_0 : Code := ((loopsIn 0 c_S_l01Bytes).getD 0 (0, .skip)).2
def S_l01Bytes_g0_keep : List Nat := [0, 3, 4]
def S_l01Bytes_g0_co : List (Where × Co) := []
def S_l01Bytes_g0_kx : Ex → List Nat
  | .exit j => cond (Nat.beq j 0) [3] []
  | .ret => []
  | .normal => []
def S_l01Bytes_g0_cx : Ex → List (Where × Co)
  | .exit j => cond (Nat.beq j 0) [] []
  | .ret => []
  | .normal => []
def S_l01Bytes_g0_tm (pv : (List Int) × (Int × List Int)) : St := { slots := [(0, .r [] (.sl (.int .u8) pv.1)), (3, .own 0), (4, .r [] (.int .i64 pv.2.1))], heap := [(0, .arr none (.int .u8) pv.2.2)], nid := 1, n := 20, gh := [] }
def S_l01Bytes_g0_dec (nf : NF) : Option ((List Int) × (Int × List Int)) := match nf with
  | ([.r [] (.sl (.int .u8) w0), .own 0, .r [] (.int .i64 w1)], [.arr none (.int .u8) w2], []) => some (w0, (w1, w2))
  | _ => none
theorem S_l01Bytes_g0_hd (nf : NF) (v : (List Int) × (Int × List Int)) (h : S_l01Bytes_g0_dec nf = some v) : denorm S_l01Bytes_g0_keep 20 nf = S_l01Bytes_g0_tm v := by
  unfold S_l01Bytes_g0_dec at h
  split at h
  · cases h; rfl
  · cases h
def S_l01Bytes_g0_x0 (p : List Int) (x : List Int) : St := { slots := [(3, .own 0)], heap := [(0, .arr none (.int .u8) x)], nid := 1, n := 20, gh := [] }
def LP_S_l01Bytes (ρ : Type) (k : Nat) : Nat → Ev ρ → Ev ρ := fun id f => cond (Nat.beq id 0) (loopOrc S_l01Bytes_g0_keep S_l01Bytes_g0_co (fun n nf => cond (Nat.beq n 20) (S_l01Bytes_g0_dec nf) none) fun pv K => iter (fun v next => S_l01Bytes_g0 k pv.1 v next (fun x => K (.exit 0) (S_l01Bytes_g0_x0 pv.1 x))) k pv.2) ((fun _ _ _ _ => none) id f)
theorem S_l01Bytes_g0_round {ρ : Type} (k : Nat) (p : List Int) (v : Int × List Int) (K K1 : Ex → St → Option ρ) : ev (E_S_l01Bytes k) (LP_S_l01Bytes ρ k) 0 b_S_l01Bytes_0 (S_l01Bytes_g0_tm (p, v)) (fun e st' => match e with
    | .normal => (normC S_l01Bytes_g0_keep S_l01Bytes_g0_co st').bind fun nf => K1 .normal (denorm S_l01Bytes_g0_keep st'.n nf)
    | e => (normC (S_l01Bytes_g0_kx e) (S_l01Bytes_g0_cx e) st').bind fun nf => K e (denorm (S_l01Bytes_g0_kx e) st'.n nf)) = S_l01Bytes_g0 k p v (fun v' => K1 .normal (S_l01Bytes_g0_tm (p, v'))) (fun x => K (.exit 0) (S_l01Bytes_g0_x0 p x)) := by kernel_rfl
theorem S_l01Bytes_g0_ok {ρ : Type} (k : Nat) : Sound Try.prog (.loop b_S_l01Bytes_0) (LP_S_l01Bytes ρ k 0 fun st K => ev (E_S_l01Bytes k) (LP_S_l01Bytes ρ k) 0 b_S_l01Bytes_0 st K) :=
  loop_ok (ev_sound (E_S_l01Bytes_ok k) b_S_l01Bytes_0 0 (lpgood_none (by kernel_rfl))) S_l01Bytes_g0_kx S_l01Bytes_g0_cx k (g := fun p v next K => S_l01Bytes_g0 k p v next (fun x => K (.exit 0) (S_l01Bytes_g0_x0 p x))) (dec_at S_l01Bytes_g0_hd) (fun p v K K1 => S_l01Bytes_g0_round k p v K K1)
def S_l01Bytes_args (a : List Int) : List Arg := [.one (.sl (.int .u8) a)]
def S_l01Bytes_argD (l : List Arg) : Option (List Int) := match l with
  | [.one (.sl (.int .u8) b0)] => some b0
  | _ => none
def S_l01Bytes_enc (r : List Int) : Out := (.own 0, [.arr none (.int .u8) r])
def S_l01Bytes_dec (o : Out) : Option (List Int) := match o with
  | (.own 0, [.arr none (.int .u8) z1]) => some z1
  | _ => none
def S_l01Bytes_G (k : Nat) : PG := fun _ l K => (S_l01Bytes_argD l).bind fun a => (S_l01Bytes k a).bind fun r => K (S_l01Bytes_enc r)
theorem S_l01Bytes_ev (k : Nat) (a : List Int) : ev (E_S_l01Bytes k) (LP_S_l01Bytes (List Int) k) 0 c_S_l01Bytes (st0 Try.f83 (S_l01Bytes_args a)) (fin Try.prog Try.f83 (.own (.int .u8)) S_l01Bytes_dec) = S_l01Bytes k a := by kernel_rfl
theorem S_l01Bytes_ok (k : Nat) : PureOk Try.prog 83 (S_l01Bytes_G k) :=
  pureOk_of_ev (E_S_l01Bytes_ok k) Try.func83 (by kernel_rfl) (by kernel_rfl) S_l01Bytes_args S_l01Bytes_argD
    (fun l a h => by unfold S_l01Bytes_argD at h; split at h <;> first | (cases h; rfl) | cases h) (fun a => rfl) (lpgood_of (l := [(0, b_S_l01Bytes_0)]) (by kernel_rfl) ⟨S_l01Bytes_g0_ok k, trivial⟩)
    (fun o r h => by unfold S_l01Bytes_dec at h; split at h <;> first | (cases h; rfl) | cases h) (S_l01Bytes_ev k)
def o_S_l01Bytes (k : Nat) : Orc := pureOrc [.one (.sl (.int .u8))] (S_l01Bytes_G k)
theorem o_S_l01Bytes_ok (k : Nat) : OrcOk Try.prog 83 (o_S_l01Bytes k) := pureOrc_ok (S_l01Bytes_ok k)
/-! ### 15 loop.example/g00778/spec.TakeStep -/
noncomputable def E_S_TakeStep (k : Nat) : Env := { P := Try.prog, tt := tt, orc := fun g => cond (Nat.beq g 81) (o_S_l05Next_m k) (cond (Nat.beq g 82) (o_S_l01In k) (cond (Nat.beq g 83) (o_S_l01Bytes k) (noOrc))), wr := fun g => mem g [81], wt := true }
theorem E_S_TakeStep_ok (k : Nat) : EnvOk (E_S_TakeStep k) := fun g => (orc_cond (o_S_l05Next_m_ok k) (orc_cond (o_S_l01In_ok k) (orc_cond (o_S_l01Bytes_ok k) (noOrc_ok _ _))))
noncomputable def c_S_TakeStep : Code := (Try.f15.body).getD .skip
noncomputable def b_S_TakeStep_0 : Code := ((loopsIn 0 c_S_TakeStep).getD 0 (0, .skip)).2
def S_TakeStep_g0_keep : List Nat := [4, 6, 7, 9, 10]
def S_TakeStep_g0_co : List (Where × Co) := [((.pbox 7 7), (.nilOwn false (.int .i64)))]
def S_TakeStep_g0_kx : Ex → List Nat
  | .exit j => cond (Nat.beq j 0) [4, 6, 7] []
  | .ret => []
  | .normal => []
def S_TakeStep_g0_cx : Ex → List (Where × Co)
  | .exit j => cond (Nat.beq j 0) [] []
  | .ret => []
  | .normal => []
def S_TakeStep_g0_tm (pv : (Int × Int × Int × Int × Int × Int × Int × List Int × Int × Int × Int × Int × Int × Int × List Int) × (Int × Int × Bool × List Int)) : St := { slots := [(4, .ptr 0 0 0), (6, .ptr 1 0 0), (7, .ptr 2 0 0), (9, .r [] (.int .i64 pv.1.1)), (10, .r [] (.int .i64 pv.2.1))], heap := [(0, .box [.r [] (.int .i64 pv.1.2.1), .r [] (.int .i64 pv.1.2.2.1), .r [] (.int .i64 pv.1.2.2.2.1), .nilS, .r [] (.int .i64 pv.1.2.2.2.2.1), .r [] (.int .i64 pv.1.2.2.2.2.2.1), .r [] (.int .i64 pv.1.2.2.2.2.2.2.1), .nilS]), (1, .box [.r [] (.sl (.int .u8) pv.1.2.2.2.2.2.2.2.1), .r [] (.int .i64 pv.2.2.1), .r [] (.bool pv.2.2.2.1)]), (2, .box [.r [] (.int .i64 pv.1.2.2.2.2.2.2.2.2.1), .r [] (.int .i64 pv.1.2.2.2.2.2.2.2.2.2.1), .r [] (.int .i64 pv.1.2.2.2.2.2.2.2.2.2.2.1), .own 3, .r [] (.int .i64 pv.1.2.2.2.2.2.2.2.2.2.2.2.1), .r [] (.int .i64 pv.1.2.2.2.2.2.2.2.2.2.2.2.2.1), .r [] (.int .i64 pv.1.2.2.2.2.2.2.2.2.2.2.2.2.2.1), .own 4]), (3, .arr none (.int .u8) pv.1.2.2.2.2.2.2.2.2.2.2.2.2.2.2), (4, .arr none (.int .i64) pv.2.2.2.2)], nid := 5, n := 93, gh := [] }
def S_TakeStep_g0_dec (nf : NF) : Option ((Int × Int × Int × Int × Int × Int × Int × List Int × Int × Int × Int × Int × Int × Int × List Int) × (Int × Int × Bool × List Int)) := match nf with
  | ([.ptr 0 0 0, .ptr 1 0 0, .ptr 2 0 0, .r [] (.int .i64 w0), .r [] (.int .i64 w1)], [.box [.r [] (.int .i64 w2), .r [] (.int .i64 w3), .r [] (.int .i64 w4), .nilS, .r [] (.int .i64 w5), .r [] (.int .i64 w6), .r [] (.int .i64 w7), .nilS], .box [.r [] (.sl (.int .u8) w8), .r [] (.int .i64 w9), .r [] (.bool w10)], .box [.r [] (.int .i64 w11), .r [] (.int .i64 w12), .r [] (.int .i64 w13), .own 3, .r [] (.int .i64 w14), .r [] (.int .i64 w15), .r [] (.int .i64 w16), .own 4], .arr none (.int .u8) w17, .arr none (.int .i64) w18], []) => some ((w0, w2, w3, w4, w5, w6, w7, w8, w11, w12, w13, w14, w15, w16, w17), (w1, w9, w10, w18))
  | _ => none
theorem S_TakeStep_g0_hd (nf : NF) (v : (Int × Int × Int × Int × Int × Int × Int × List Int × Int × Int × Int × Int × Int × Int × List Int) × (Int × Int × Bool × List Int)) (h : S_TakeStep_g0_dec nf = some v) : denorm S_TakeStep_g0_keep 93 nf = S_TakeStep_g0_tm v := by
  unfold S_TakeStep_g0_dec at h
  split at h
  · cases h; rfl
  · cases h
def S_TakeStep_g0_x0 (p : Int × Int × Int × Int × Int × Int × Int × List Int × Int × Int × Int × Int × Int × Int × List Int) (x : Int × Bool × List Int) : St := { slots := [(4, .ptr 0 0 0), (6, .ptr 1 0 0), (7, .ptr 2 0 0)], heap := [(0, .box [.r [] (.int .i64 p.2.1), .r [] (.int .i64 p.2.2.1), .r [] (.int .i64 p.2.2.2.1), .nilS, .r [] (.int .i64 p.2.2.2.2.1), .r [] (.int .i64 p.2.2.2.2.2.1), .r [] (.int .i64 p.2.2.2.2.2.2.1), .nilS]), (1, .box [.r [] (.sl (.int .u8) p.2.2.2.2.2.2.2.1), .r [] (.int .i64 x.1), .r [] (.bool x.2.1)]), (2, .box [.r [] (.int .i64 p.2.2.2.2.2.2.2.2.1), .r [] (.int .i64 p.2.2.2.2.2.2.2.2.2.1), .r [] (.int .i64 p.2.2.2.2.2.2.2.2.2.2.1), .own 3, .r [] (.int .i64 p.2.2.2.2.2.2.2.2.2.2.2.1), .r [] (.int .i64 p.2.2.2.2.2.2.2.2.2.2.2.2.1), .r [] (.int .i64 p.2.2.2.2.2.2.2.2.2.2.2.2.2.1), .own 4]), (3, .arr none (.int .u8) p.2.2.2.2.2.2.2.2.2.2.2.2.2.2), (4, .arr none (.int .i64) x.2.2)], nid := 5, n := 93, gh := [] }
def LP_S_TakeStep (ρ : Type) (k : Nat) : Nat → Ev ρ → Ev ρ := fun id f => cond (Nat.beq id 0) (loopOrc S_TakeStep_g0_keep S_TakeStep_g0_co (fun n nf => cond (Nat.beq n 93) (S_TakeStep_g0_dec nf) none) fun pv K => iter (fun v next => S_TakeStep_g0 k pv.1 v next (fun x => K (.exit 0) (S_TakeStep_g0_x0 pv.1 x))) k pv.2) ((fun _ _ _ _ => none) id f)
theorem S_TakeStep_g0_round {ρ : Type} (k : Nat) (p : Int × Int × Int × Int × Int × Int × Int × List Int × Int × Int × Int × Int × Int × Int × List Int) (v : Int × Int × Bool × List Int) (K K1 : Ex → St → Option ρ) : ev (E_S_TakeStep k) (LP_S_TakeStep ρ k) 0 b_S_TakeStep_0 (S_TakeStep_g0_tm (p, v)) (fun e st' => match e with
    | .normal => (normC S_TakeStep_g0_keep S_TakeStep_g0_co st').bind fun nf => K1 .normal (denorm S_TakeStep_g0_keep st'.n nf)
    | e => (normC (S_TakeStep_g0_kx e) (S_TakeStep_g0_cx e) st').bind fun nf => K e (denorm (S_TakeStep_g0_kx e) st'.n nf)) = S_TakeStep_g0 k p v (fun v' => K1 .normal (S_TakeStep_g0_tm (p, v'))) (fun x => K (.exit 0) (S_TakeStep_g0_x0 p x)) := by kernel_rfl
theorem S_TakeStep_g0_ok {ρ : Type} (k : Nat) : Sound Try.prog (.loop b_S_TakeStep_0) (LP_S_TakeStep ρ k 0 fun st K => ev (E_S_TakeStep k) (LP_S_TakeStep ρ k) 0 b_S_TakeStep_0 st K) :=
  loop_ok (ev_sound (E_S_TakeStep_ok k) b_S_TakeStep_0 0 (lpgood_none (by kernel_rfl))) S_TakeStep_g0_kx S_TakeStep_g0_cx k (g := fun p v next K => S_TakeStep_g0 k p v next (fun x => K (.exit 0) (S_TakeStep_g0_x0 p x))) (dec_at S_TakeStep_g0_hd) (fun p v K K1 => S_TakeStep_g0_round k p v K K1)
def S_TakeStep_args (a : List Int × Int) : List Arg := [.one (.sl (.int .u8) a.1), .one (.int .i64 a.2)]
def S_TakeStep_argD (l : List Arg) : Option (List Int × Int) := match l with
  | [.one (.sl (.int .u8) b0), .one (.int .i64 b1)] => some (b0, b1)
  | _ => none
def S_TakeStep_enc (r : Step × Int) : Out := (.tup [.agg [.r [] (.int .i64 r.1.kind), .r [] (.int .i64 r.1.a), .r [] (.int .i64 r.1.b), .own 0, .r [] (.int .i64 r.1.input.sh.h), .r [] (.int .i64 r.1.input.sh.w), .r [] (.int .i64 r.1.input.sh.c), .own 1], .r [] (.int .i64 r.2)], [.arr none (.int .u8) r.1.data, .arr none (.int .i64) r.1.input.data])
def S_TakeStep_dec (o : Out) : Option (Step × Int) := match o with
  | (.tup [.agg [.r [] (.int .i64 z1), .r [] (.int .i64 z2), .r [] (.int .i64 z3), .own 0, .r [] (.int .i64 z5), .r [] (.int .i64 z6), .r [] (.int .i64 z7), .own 1], .r [] (.int .i64 z9)], [.arr none (.int .u8) z4, .arr none (.int .i64) z8]) => some ((⟨z1, z2, z3, z4, (⟨(⟨z5, z6, z7⟩ : Shape), z8⟩ : Tensor)⟩ : Step), z9)
  | _ => none
def S_TakeStep_G (k : Nat) : PG := fun _ l K => (S_TakeStep_argD l).bind fun a => (S_TakeStep k a.1 a.2).bind fun r => K (S_TakeStep_enc r)
theorem S_TakeStep_ev (k : Nat) (a : List Int × Int) : ev (E_S_TakeStep k) (LP_S_TakeStep (Step × Int) k) 0 c_S_TakeStep (st0 Try.f15 (S_TakeStep_args a)) (fin Try.prog Try.f15 (.tup [.agg [.sc, .sc, .sc, .own (.int .u8), .sc, .sc, .sc, .own (.int .i64)], .sc]) S_TakeStep_dec) = S_TakeStep k a.1 a.2 := by kernel_rfl
theorem S_TakeStep_ok (k : Nat) : PureOk Try.prog 15 (S_TakeStep_G k) :=
  pureOk_of_ev (E_S_TakeStep_ok k) Try.func15 (by kernel_rfl) (by kernel_rfl) S_TakeStep_args S_TakeStep_argD
    (fun l a h => by unfold S_TakeStep_argD at h; split at h <;> first | (cases h; rfl) | cases h) (fun a => rfl) (lpgood_of (l := [(0, b_S_TakeStep_0)]) (by kernel_rfl) ⟨S_TakeStep_g0_ok k, trivial⟩)
    (fun o r h => by unfold S_TakeStep_dec at h; split at h <;> first | (cases h; rfl) | cases h) (S_TakeStep_ev k)
def o_S_TakeStep (k : Nat) : Orc := pureOrc [.one (.sl (.int .u8)), .one (.int .i64)] (S_TakeStep_G k)
theorem o_S_TakeStep_ok (k : Nat) : OrcOk Try.prog 15 (o_S_TakeStep k) := pureOrc_ok (S_TakeStep_ok k)
/-! ### 84 loop.example/g00778/impl.in -/
noncomputable def E_I_in (k : Nat) : Env := { P := Try.prog, tt := tt, orc := fun g => noOrc }
theorem E_I_in_ok (k : Nat) : EnvOk (E_I_in k) := fun g => (noOrc_ok _ _)
noncomputable def c_I_in : Code := (Try.f84.body).getD .skip
def LP_I_in (ρ : Type) (k : Nat) : Nat → Ev ρ → Ev ρ := fun _ _ _ _ => none
def I_in_args (a : Int × Int × Int) : List Arg := [.one (.int .i64 a.1), .one (.int .i64 a.2.1), .one (.int .i64 a.2.2)]
def I_in_argD (l : List Arg) : Option (Int × Int × Int) := match l with
  | [.one (.int .i64 b0), .one (.int .i64 b1), .one (.int .i64 b2)] => some (b0, b1, b2)
  | _ => none
def I_in_enc (r : Bool) : Out := (.r [] (.bool r), [])
def I_in_dec (o : Out) : Option (Bool) := match o with
  | (.r [] (.bool z1), []) => some z1
  | _ => none
def I_in_G (k : Nat) : PG := fun _ l K => (I_in_argD l).bind fun a => (I_in k a.1 a.2.1 a.2.2).bind fun r => K (I_in_enc r)
theorem I_in_ev (k : Nat) (a : Int × Int × Int) : ev (E_I_in k) (LP_I_in (Bool) k) 0 c_I_in (st0 Try.f84 (I_in_args a)) (fin Try.prog Try.f84 (.sc) I_in_dec) = I_in k a.1 a.2.1 a.2.2 := by kernel_rfl
theorem I_in_ok (k : Nat) : PureOk Try.prog 84 (I_in_G k) :=
  pureOk_of_ev (E_I_in_ok k) Try.func84 (by kernel_rfl) (by kernel_rfl) I_in_args I_in_argD
    (fun l a h => by unfold I_in_argD at h; split at h <;> first | (cases h; rfl) | cases h) (fun a => rfl) (lpgood_none (by kernel_rfl))
    (fun o r h => by unfold I_in_dec at h; split at h <;> first | (cases h; rfl) | cases h) (I_in_ev k)
def o_I_in (k : Nat) : Orc := pureOrc [.one (.int .i64), .one (.int .i64), .one (.int .i64)] (I_in_G k)
theorem o_I_in_ok (k : Nat) : OrcOk Try.prog 84 (o_I_in k) := pureOrc_ok (I_in_ok k)
/-! ### 98 loop.example/g00778/impl.isWide -/
noncomputable def E_I_isWide (k : Nat) : Env := { P := Try.prog, tt := tt, orc := fun g => cond (Nat.beq g 84) (o_I_in k) (noOrc) }
theorem E_I_isWide_ok (k : Nat) : EnvOk (E_I_isWide k) := fun g => (orc_cond (o_I_in_ok k) (noOrc_ok _ _))
noncomputable def c_I_isWide : Code := (Try.f98.body).getD .skip
def LP_I_isWide (ρ : Type) (k : Nat) : Nat → Ev ρ → Ev ρ := fun _ _ _ _ => none
def I_isWide_args (a : Int) : List Arg := [.one (.int .i64 a)]
def I_isWide_argD (l : List Arg) : Option (Int) := match l with
  | [.one (.int .i64 b0)] => some b0
  | _ => none
def I_isWide_enc (r : Bool) : Out := (.r [] (.bool r), [])
def I_isWide_dec (o : Out) : Option (Bool) := match o with
  | (.r [] (.bool z1), []) => some z1
  | _ => none
def I_isWide_G (k : Nat) : PG := fun _ l K => (I_isWide_argD l).bind fun a => (I_isWide k a).bind fun r => K (I_isWide_enc r)
theorem I_isWide_ev (k : Nat) (a : Int) : ev (E_I_isWide k) (LP_I_isWide (Bool) k) 0 c_I_isWide (st0 Try.f98 (I_isWide_args a)) (fin Try.prog Try.f98 (.sc) I_isWide_dec) = I_isWide k a := by kernel_rfl
theorem I_isWide_ok (k : Nat) : PureOk Try.prog 98 (I_isWide_G k) :=
  pureOk_of_ev (E_I_isWide_ok k) Try.func98 (by kernel_rfl) (by kernel_rfl) I_isWide_args I_isWide_argD
    (fun l a h => by unfold I_isWide_argD at h; split at h <;> first | (cases h; rfl) | cases h) (fun a => rfl) (lpgood_none (by kernel_rfl))
    (fun o r h => by unfold I_isWide_dec at h; split at h <;> first | (cases h; rfl) | cases h) (I_isWide_ev k)
def o_I_isWide (k : Nat) : Orc := pureOrc [.one (.int .i64)] (I_isWide_G k)
theorem o_I_isWide_ok (k : Nat) : OrcOk Try.prog 98 (o_I_isWide k) := pureOrc_ok (I_isWide_ok k)
/-! ### 154 loop.example/g00778/impl.TakeWide -/
noncomputable def E_I_TakeWide (k : Nat) : Env := { P := Try.prog, tt := tt, orc := fun g => cond (Nat.beq g 84) (o_I_in k) (cond (Nat.beq g 98) (o_I_isWide k) (noOrc)) }
theorem E_I_TakeWide_ok (k : Nat) : EnvOk (E_I_TakeWide k) := fun g => (orc_cond (o_I_in_ok k) (orc_cond (o_I_isWide_ok k) (noOrc_ok _ _)))
noncomputable def c_I_TakeWide : Code := (Try.f154.body).getD .skip
noncomputable def b_I_TakeWide_0 : Code := ((loopsIn 0 c_I_TakeWide).getD 0 (0, .skip)).2
def I_TakeWide_g0_keep : List Nat := [1, 6, 23, 24, 25]
def I_TakeWide_g0_co : List (Where × Co) := []
def I_TakeWide_g0_kx : Ex → List Nat
  | .exit j => cond (Nat.beq j 0) [] []
  | .ret => [4, 5]
  | .normal => []
def I_TakeWide_g0_cx : Ex → List (Where × Co)
  | .exit j => cond (Nat.beq j 0) [] []
  | .ret => []
  | .normal => []
def I_TakeWide_g0_tm (pv : (Int × List Int × Int) × (Int × Int)) : St := { slots := [(1, .r [] (.int .i64 pv.1.1)), (6, .r [] (.int .i64 pv.2.1)), (23, .r [] (.sl (.int .u8) pv.1.2.1)), (24, .r [] (.int .i64 pv.1.2.2)), (25, .r [] (.int .i64 pv.2.2))], heap := [], nid := 0, n := 65, gh := [] }
def I_TakeWide_g0_dec (nf : NF) : Option ((Int × List Int × Int) × (Int × Int)) := match nf with
  | ([.r [] (.int .i64 w0), .r [] (.int .i64 w1), .r [] (.sl (.int .u8) w2), .r [] (.int .i64 w3), .r [] (.int .i64 w4)], [], []) => some ((w0, w2, w3), (w1, w4))
  | _ => none
theorem I_TakeWide_g0_hd (nf : NF) (v : (Int × List Int × Int) × (Int × Int)) (h : I_TakeWide_g0_dec nf = some v) : denorm I_TakeWide_g0_keep 65 nf = I_TakeWide_g0_tm v := by
  unfold I_TakeWide_g0_dec at h
  split at h
  · cases h; rfl
  · cases h
def I_TakeWide_g0_x0 (p : Int × List Int × Int) (x : Unit) : St := { slots := [], heap := [], nid := 0, n := 65, gh := [] }
def I_TakeWide_g0_xret (p : Int × List Int × Int) (x : Int × Int) : St := { slots := [(4, .r [] (.int .i64 x.1)), (5, .r [] (.int .i64 x.2))], heap := [], nid := 0, n := 65, gh := [] }
def LP_I_TakeWide (ρ : Type) (k : Nat) : Nat → Ev ρ → Ev ρ := fun id f => cond (Nat.beq id 0) (loopOrc I_TakeWide_g0_keep I_TakeWide_g0_co (fun n nf => cond (Nat.beq n 65) (I_TakeWide_g0_dec nf) none) fun pv K => iter (fun v next => I_TakeWide_g0 k pv.1 v next (fun x => K (.exit 0) (I_TakeWide_g0_x0 pv.1 x)) (fun x => K .ret (I_TakeWide_g0_xret pv.1 x))) k pv.2) ((fun _ _ _ _ => none) id f)
theorem I_TakeWide_g0_round {ρ : Type} (k : Nat) (p : Int × List Int × Int) (v : Int × Int) (K K1 : Ex → St → Option ρ) : ev (E_I_TakeWide k) (LP_I_TakeWide ρ k) 0 b_I_TakeWide_0 (I_TakeWide_g0_tm (p, v)) (fun e st' => match e with
    | .normal => (normC I_TakeWide_g0_keep I_TakeWide_g0_co st').bind fun nf => K1 .normal (denorm I_TakeWide_g0_keep st'.n nf)
    | e => (normC (I_TakeWide_g0_kx e) (I_TakeWide_g0_cx e) st').bind fun nf => K e (denorm (I_TakeWide_g0_kx e) st'.n nf)) = I_TakeWide_g0 k p v (fun v' => K1 .normal (I_TakeWide_g0_tm (p, v'))) (fun x => K (.exit 0) (I_TakeWide_g0_x0 p x)) (fun x => K .ret (I_TakeWide_g0_xret p x)) := by kernel_rfl
theorem I_TakeWide_g0_ok {ρ : Type} (k : Nat) : Sound Try.prog (.loop b_I_TakeWide_0) (LP_I_TakeWide ρ k 0 fun st K => ev (E_I_TakeWide k) (LP_I_TakeWide ρ k) 0 b_I_TakeWide_0 st K) :=
  loop_ok (ev_sound (E_I_TakeWide_ok k) b_I_TakeWide_0 0 (lpgood_none (by kernel_rfl))) I_TakeWide_g0_kx I_TakeWide_g0_cx k (g := fun p v next K => I_TakeWide_g0 k p v next (fun x => K (.exit 0) (I_TakeWide_g0_x0 p x)) (fun x => K .ret (I_TakeWide_g0_xret p x))) (dec_at I_TakeWide_g0_hd) (fun p v K K1 => I_TakeWide_g0_round k p v K K1)
def I_TakeWide_args (a : List Int × Int) : List Arg := [.one (.sl (.int .u8) a.1), .one (.int .i64 a.2)]
def I_TakeWide_argD (l : List Arg) : Option (List Int × Int) := match l with
  | [.one (.sl (.int .u8) b0), .one (.int .i64 b1)] => some (b0, b1)
  | _ => none
def I_TakeWide_enc (r : Int × Int) : Out := (.tup [.r [] (.int .i64 r.1), .r [] (.int .i64 r.2)], [])
def I_TakeWide_dec (o : Out) : Option (Int × Int) := match o with
  | (.tup [.r [] (.int .i64 z1), .r [] (.int .i64 z2)], []) => some (z1, z2)
  | _ => none
def I_TakeWide_G (k : Nat) : PG := fun _ l K => (I_TakeWide_argD l).bind fun a => (I_TakeWide k a.1 a.2).bind fun r => K (I_TakeWide_enc r)
theorem I_TakeWide_ev (k : Nat) (a : List Int × Int) : ev (E_I_TakeWide k) (LP_I_TakeWide (Int × Int) k) 0 c_I_TakeWide (st0 Try.f154 (I_TakeWide_args a)) (fin Try.prog Try.f154 (.tup [.sc, .sc]) I_TakeWide_dec) = I_TakeWide k a.1 a.2 := by kernel_rfl
theorem I_TakeWide_ok (k : Nat) : PureOk Try.prog 154 (I_TakeWide_G k) :=
  pureOk_of_ev (E_I_TakeWide_ok k) Try.func154 (by kernel_rfl) (by kernel_rfl) I_TakeWide_args I_TakeWide_argD
    (fun l a h => by unfold I_TakeWide_argD at h; split at h <;> first | (cases h; rfl) | cases h) (fun a => rfl) (lpgood_of (l := [(0, b_I_TakeWide_0)]) (by kernel_rfl) ⟨I_TakeWide_g0_ok k, trivial⟩)
    (fun o r h => by unfold I_TakeWide_dec at h; split at h <;> first | (cases h; rfl) | cases h) (I_TakeWide_ev k)
def o_I_TakeWide (k : Nat) : Orc := pureOrc [.one (.sl (.int .u8)), .one (.int .i64)] (I_TakeWide_G k)
theorem o_I_TakeWide_ok (k : Nat) : OrcOk Try.prog 154 (o_I_TakeWide k) := pureOrc_ok (I_TakeWide_ok k)
/-! ### 91 (*loop.example/g00778/impl.wideReader).number -/
noncomputable def E_pI_wideReader_number_m (k : Nat) : Env := { P := Try.prog, tt := tt, orc := fun g => cond (Nat.beq g 154) (o_I_TakeWide k) (noOrc) }
theorem E_pI_wideReader_number_m_ok (k : Nat) : EnvOk (E_pI_wideReader_number_m k) := fun g => (orc_cond (o_I_TakeWide_ok k) (noOrc_ok _ _))
noncomputable def c_pI_wideReader_number_m : Code := (Try.f91.body).getD .skip
def LP_pI_wideReader_number_m (ρ : Type) (k : Nat) : Nat → Ev ρ → Ev ρ := fun _ _ _ _ => none
def pI_wideReader_number_m_args (a : Reader) : List SV := [.ptr 0 0 0]
def pI_wideReader_number_m_blks (a : Reader) : List Blk := [.box [.r [] (.sl (.int .u8) a.b), .r [] (.int .i64 a.at_), .r [] (.bool a.bad)]]
def pI_wideReader_number_m_argD (l : List SV) (b : List Blk) : Option (Reader) := match l, b with
  | [.ptr 0 0 0], [.box [.r [] (.sl (.int .u8) w0), .r [] (.int .i64 w1), .r [] (.bool w2)]] => some (⟨w0, w1, w2⟩ : Reader)
  | _, _ => none
def pI_wideReader_number_m_enc (a : Reader) (r : Int × Int × Bool) : MOut := ⟨.r [] (.int .i64 r.1), [some (.box [.r [] (.sl (.int .u8) a.b), .r [] (.int .i64 r.2.1), .r [] (.bool r.2.2)])], []⟩
def pI_wideReader_number_m_dec (a : Reader) (o : MOut) : Option (Int × Int × Bool) := match o with
  | ⟨.r [] (.int .i64 z1), [some (.box [.r [] (.sl (.int .u8) z2), .r [] (.int .i64 z3), .r [] (.bool z4)])], []⟩ => cond (@sameL (List Int) _ z2 a.b) (some (z1, z3, z4)) none
  | _ => none
def pI_wideReader_number_m_G (k : Nat) : MG := fun _ l b K => (pI_wideReader_number_m_argD l b).bind fun a => (pI_wideReader_number_m k a).bind fun r => K (pI_wideReader_number_m_enc a r)
theorem pI_wideReader_number_m_ev (k : Nat) (a : Reader) : ev (E_pI_wideReader_number_m k) (LP_pI_wideReader_number_m (Int × Int × Bool) k) 0 c_pI_wideReader_number_m (st0M Try.f91 (pI_wideReader_number_m_args a) (pI_wideReader_number_m_blks a)) (finM Try.prog Try.f91 (.sc) [.box [.ro (.int .u8), .sc, .sc]] (pI_wideReader_number_m_dec a)) = pI_wideReader_number_m k a := by kernel_rfl
theorem pI_wideReader_number_m_ok (k : Nat) : MutOk Try.prog 91 (pI_wideReader_number_m_G k) :=
  mutOk_of_ev (E_pI_wideReader_number_m_ok k) Try.func91 (by kernel_rfl) (by kernel_rfl) pI_wideReader_number_m_args pI_wideReader_number_m_blks pI_wideReader_number_m_argD
    (fun l b a h => by unfold pI_wideReader_number_m_argD at h; split at h <;> first | (cases h; exact ⟨rfl, rfl⟩) | cases h) (fun a => rfl) (lpgood_none (by kernel_rfl)) (fun a r => rfl)
    (fun a o r h => by unfold pI_wideReader_number_m_dec at h; split at h <;> first | (obtain ⟨e0, hq⟩ := dec_chk1 h; clear h; subst e0; have h := hq; clear hq; cases h; rfl) | cases h) (pI_wideReader_number_m_ev k)
def o_pI_wideReader_number_m (k : Nat) : Orc := mutOrc [.keep] (pI_wideReader_number_m_G k)
theorem o_pI_wideReader_number_m_ok (k : Nat) : OrcOk Try.prog 91 (o_pI_wideReader_number_m k) := mutOrc_ok (pI_wideReader_number_m_ok k)
/-! ### 90 (*loop.example/g00778/impl.wideReader).count -/
noncomputable def E_pI_wideReader_count_m (k : Nat) : Env := { P := Try.prog, tt := tt, orc := fun g => cond (Nat.beq g 84) (o_I_in k) (cond (Nat.beq g 91) (o_pI_wideReader_number_m k) (noOrc)), wr := fun g => mem g [91], wt := true }
theorem E_pI_wideReader_count_m_ok (k : Nat) : EnvOk (E_pI_wideReader_count_m k) := fun g => (orc_cond (o_I_in_ok k) (orc_cond (o_pI_wideReader_number_m_ok k) (noOrc_ok _ _)))
noncomputable def c_pI_wideReader_count_m : Code := (Try.f90.body).getD .skip
def LP_pI_wideReader_count_m (ρ : Type) (k : Nat) : Nat → Ev ρ → Ev ρ := fun _ _ _ _ => none
def pI_wideReader_count_m_args (a : Reader × Int) : List SV := [.ptr 0 0 0, .r [] (.int .i64 a.2)]
def pI_wideReader_count_m_blks (a : Reader × Int) : List Blk := [.box [.r [] (.sl (.int .u8) a.1.b), .r [] (.int .i64 a.1.at_), .r [] (.bool a.1.bad)]]
def pI_wideReader_count_m_argD (l : List SV) (b : List Blk) : Option (Reader × Int) := match l, b with
  | [.ptr 0 0 0, .r [] (.int .i64 w0)], [.box [.r [] (.sl (.int .u8) w1), .r [] (.int .i64 w2), .r [] (.bool w3)]] => some ((⟨w1, w2, w3⟩ : Reader), w0)
  | _, _ => none
def pI_wideReader_count_m_enc (a : Reader × Int) (r : Int × Int × Bool) : MOut := ⟨.r [] (.int .i64 r.1), [some (.box [.r [] (.sl (.int .u8) a.1.b), .r [] (.int .i64 r.2.1), .r [] (.bool r.2.2)])], []⟩
def pI_wideReader_count_m_dec (a : Reader × Int) (o : MOut) : Option (Int × Int × Bool) := match o with
  | ⟨.r [] (.int .i64 z1), [some (.box [.r [] (.sl (.int .u8) z2), .r [] (.int .i64 z3), .r [] (.bool z4)])], []⟩ => cond (@sameL (List Int) _ z2 a.1.b) (some (z1, z3, z4)) none
  | _ => none
def pI_wideReader_count_m_G (k : Nat) : MG := fun _ l b K => (pI_wideReader_count_m_argD l b).bind fun a => (pI_wideReader_count_m k a.1 a.2).bind fun r => K (pI_wideReader_count_m_enc a r)
theorem pI_wideReader_count_m_ev (k : Nat) (a : Reader × Int) : ev (E_pI_wideReader_count_m k) (LP_pI_wideReader_count_m (Int × Int × Bool) k) 0 c_pI_wideReader_count_m (st0M Try.f90 (pI_wideReader_count_m_args a) (pI_wideReader_count_m_blks a)) (finM Try.prog Try.f90 (.sc) [.box [.ro (.int .u8), .sc, .sc]] (pI_wideReader_count_m_dec a)) = pI_wideReader_count_m k a.1 a.2 := by kernel_rfl
theorem pI_wideReader_count_m_ok (k : Nat) : MutOk Try.prog 90 (pI_wideReader_count_m_G k) :=
  mutOk_of_ev (E_pI_wideReader_count_m_ok k) Try.func90 (by kernel_rfl) (by kernel_rfl) pI_wideReader_count_m_args pI_wideReader_count_m_blks pI_wideReader_count_m_argD
    (fun l b a h => by unfold pI_wideReader_count_m_argD at h; split at h <;> first | (cases h; exact ⟨rfl, rfl⟩) | cases h) (fun a => rfl) (lpgood_none (by kernel_rfl)) (fun a r => rfl)
    (fun a o r h => by unfold pI_wideReader_count_m_dec at h; split at h <;> first | (obtain ⟨e0, hq⟩ := dec_chk1 h; clear h; subst e0; have h := hq; clear hq; cases h; rfl) | cases h) (pI_wideReader_count_m_ev k)
def o_pI_wideReader_count_m (k : Nat) : Orc := mutOrc [.keep, .one (.int .i64)] (pI_wideReader_count_m_G k)
theorem o_pI_wideReader_count_m_ok (k : Nat) : OrcOk Try.prog 90 (o_pI_wideReader_count_m k) := mutOrc_ok (pI_wideReader_count_m_ok k)
/-! ### 188 slices.Clone[[]byte,byte] -/
noncomputable def E_slices_Clone_lbyte_byte (k : Nat) : Env := { P := Try.prog, tt := tt, orc := fun g => noOrc }
theorem E_slices_Clone_lbyte_byte_ok (k : Nat) : EnvOk (E_slices_Clone_lbyte_byte k) := fun g => (noOrc_ok _ _)
noncomputable def c_slices_Clone_lbyte_byte : Code := (Try.f188.body).getD .skip
def LP_slices_Clone_lbyte_byte (ρ : Type) (k : Nat) : Nat → Ev ρ → Ev ρ := fun _ _ _ _ => none
def slices_Clone_lbyte_byte_args (a : List Int) : List Arg := [.one (.sl (.int .u8) a)]
def slices_Clone_lbyte_byte_argD (l : List Arg) : Option (List Int) := match l with
  | [.one (.sl (.int .u8) b0)] => some b0
  | _ => none
def slices_Clone_lbyte_byte_enc (r : List Int) : Out := (.own 0, [.arr none (.int .u8) r])
def slices_Clone_lbyte_byte_dec (o : Out) : Option (List Int) := match o with
  | (.own 0, [.arr none (.int .u8) z1]) => some z1
  | _ => none
def slices_Clone_lbyte_byte_G (k : Nat) : PG := fun _ l K => (slices_Clone_lbyte_byte_argD l).bind fun a => (slices_Clone_lbyte_byte k a).bind fun r => K (slices_Clone_lbyte_byte_enc r)
theorem slices_Clone_lbyte_byte_ev (k : Nat) (a : List Int) : ev (E_slices_Clone_lbyte_byte k) (LP_slices_Clone_lbyte_byte (List Int) k) 0 c_slices_Clone_lbyte_byte (st0 Try.f188 (slices_Clone_lbyte_byte_args a)) (fin Try.prog Try.f188 (.own (.int .u8)) slices_Clone_lbyte_byte_dec) = slices_Clone_lbyte_byte k a := by kernel_rfl
theorem slices_Clone_lbyte_byte_ok (k : Nat) : PureOk Try.prog 188 (slices_Clone_lbyte_byte_G k) :=
  pureOk_of_ev (E_slices_Clone_lbyte_byte_ok k) Try.func188 (by kernel_rfl) (by kernel_rfl) slices_Clone_lbyte_byte_args slices_Clone_lbyte_byte_argD
    (fun l a h => by unfold slices_Clone_lbyte_byte_argD at h; split at h <;> first | (cases h; rfl) | cases h) (fun a => rfl) (lpgood_none (by kernel_rfl))
    (fun o r h => by unfold slices_Clone_lbyte_byte_dec at h; split at h <;> first | (cases h; rfl) | cases h) (slices_Clone_lbyte_byte_ev k)
def o_slices_Clone_lbyte_byte (k : Nat) : Orc := pureOrc [.one (.sl (.int .u8))] (slices_Clone_lbyte_byte_G k)
theorem o_slices_Clone_lbyte_byte_ok (k : Nat) : OrcOk Try.prog 188 (o_slices_Clone_lbyte_byte k) := pureOrc_ok (slices_Clone_lbyte_byte_ok k)
/-! ### 150 (*loop.example/g00778/impl.wideReader).bytes -/
noncomputable def E_pI_wideReader_bytes_m (k : Nat) : Env := { P := Try.prog, tt := tt, orc := fun g => cond (Nat.beq g 188) (o_slices_Clone_lbyte_byte k) (noOrc) }
theorem E_pI_wideReader_bytes_m_ok (k : Nat) : EnvOk (E_pI_wideReader_bytes_m k) := fun g => (orc_cond (o_slices_Clone_lbyte_byte_ok k) (noOrc_ok _ _))
noncomputable def c_pI_wideReader_bytes_m : Code := (Try.f150.body).getD .skip
def LP_pI_wideReader_bytes_m (ρ : Type) (k : Nat) : Nat → Ev ρ → Ev ρ := fun _ _ _ _ => none
def pI_wideReader_bytes_m_args (a : Reader × Int) : List SV := [.ptr 0 0 0, .r [] (.int .i64 a.2)]
def pI_wideReader_bytes_m_blks (a : Reader × Int) : List Blk := [.box [.r [] (.sl (.int .u8) a.1.b), .r [] (.int .i64 a.1.at_), .r [] (.bool a.1.bad)]]
def pI_wideReader_bytes_m_argD (l : List SV) (b : List Blk) : Option (Reader × Int) := match l, b with
  | [.ptr 0 0 0, .r [] (.int .i64 w0)], [.box [.r [] (.sl (.int .u8) w1), .r [] (.int .i64 w2), .r [] (.bool w3)]] => some ((⟨w1, w2, w3⟩ : Reader), w0)
  | _, _ => none
def pI_wideReader_bytes_m_enc (a : Reader × Int) (r : List Int × Int × Bool) : MOut := ⟨.own 1, [some (.box [.r [] (.sl (.int .u8) a.1.b), .r [] (.int .i64 r.2.1), .r [] (.bool r.2.2)])], [.arr none (.int .u8) r.1]⟩
def pI_wideReader_bytes_m_dec (a : Reader × Int) (o : MOut) : Option (List Int × Int × Bool) := match o with
  | ⟨.own 1, [some (.box [.r [] (.sl (.int .u8) z1), .r [] (.int .i64 z2), .r [] (.bool z3)])], [.arr none (.int .u8) z4]⟩ => cond (@sameL (List Int) _ z1 a.1.b) (some (z4, z2, z3)) none
  | _ => none
def pI_wideReader_bytes_m_G (k : Nat) : MG := fun _ l b K => (pI_wideReader_bytes_m_argD l b).bind fun a => (pI_wideReader_bytes_m k a.1 a.2).bind fun r => K (pI_wideReader_bytes_m_enc a r)
theorem pI_wideReader_bytes_m_ev (k : Nat) (a : Reader × Int) : ev (E_pI_wideReader_bytes_m k) (LP_pI_wideReader_bytes_m (List Int × Int × Bool) k) 0 c_pI_wideReader_bytes_m (st0M Try.f150 (pI_wideReader_bytes_m_args a) (pI_wideReader_bytes_m_blks a)) (finM Try.prog Try.f150 (.own (.int .u8)) [.box [.ro (.int .u8), .sc, .sc]] (pI_wideReader_bytes_m_dec a)) = pI_wideReader_bytes_m k a.1 a.2 := by kernel_rfl
theorem pI_wideReader_bytes_m_ok (k : Nat) : MutOk Try.prog 150 (pI_wideReader_bytes_m_G k) :=
  mutOk_of_ev (E_pI_wideReader_bytes_m_ok k) Try.func150 (by kernel_rfl) (by kernel_rfl) pI_wideReader_bytes_m_args pI_wideReader_bytes_m_blks pI_wideReader_bytes_m_argD
    (fun l b a h => by unfold pI_wideReader_bytes_m_argD at h; split at h <;> first | (cases h; exact ⟨rfl, rfl⟩) | cases h) (fun a => rfl) (lpgood_none (by kernel_rfl)) (fun a r => rfl)
    (fun a o r h => by unfold pI_wideReader_bytes_m_dec at h; split at h <;> first | (obtain ⟨e0, hq⟩ := dec_chk1 h; clear h; subst e0; have h := hq; clear hq; cases h; rfl) | cases h) (pI_wideReader_bytes_m_ev k)
def o_pI_wideReader_bytes_m (k : Nat) : Orc := mutOrc [.keep, .one (.int .i64)] (pI_wideReader_bytes_m_G k)
theorem o_pI_wideReader_bytes_m_ok (k : Nat) : OrcOk Try.prog 150 (o_pI_wideReader_bytes_m k) := mutOrc_ok (pI_wideReader_bytes_m_ok k)
/-! ### 151 (*loop.example/g00778/impl.wideReader).shape -/
noncomputable def E_pI_wideReader_shape_m (k : Nat) : Env := { P := Try.prog, tt := tt, orc := fun g => cond (Nat.beq g 91) (o_pI_wideReader_number_m k) (noOrc), wr := fun g => mem g [91], wt := true }
theorem E_pI_wideReader_shape_m_ok (k : Nat) : EnvOk (E_pI_wideReader_shape_m k) := fun g => (orc_cond (o_pI_wideReader_number_m_ok k) (noOrc_ok _ _))
noncomputable def c_pI_wideReader_shape_m : Code := (Try.f151.body).getD .skip
def LP_pI_wideReader_shape_m (ρ : Type) (k : Nat) : Nat → Ev ρ → Ev ρ := fun _ _ _ _ => none
def pI_wideReader_shape_m_args (a : Reader) : List SV := [.ptr 0 0 0]
def pI_wideReader_shape_m_blks (a : Reader) : List Blk := [.box [.r [] (.sl (.int .u8) a.b), .r [] (.int .i64 a.at_), .r [] (.bool a.bad)]]
def pI_wideReader_shape_m_argD (l : List SV) (b : List Blk) : Option (Reader) := match l, b with
  | [.ptr 0 0 0], [.box [.r [] (.sl (.int .u8) w0), .r [] (.int .i64 w1), .r [] (.bool w2)]] => some (⟨w0, w1, w2⟩ : Reader)
  | _, _ => none
def pI_wideReader_shape_m_enc (a : Reader) (r : Shape × Int × Bool) : MOut := ⟨.agg [.r [] (.int .i64 r.1.h), .r [] (.int .i64 r.1.w), .r [] (.int .i64 r.1.c)], [some (.box [.r [] (.sl (.int .u8) a.b), .r [] (.int .i64 r.2.1), .r [] (.bool r.2.2)])], []⟩
def pI_wideReader_shape_m_dec (a : Reader) (o : MOut) : Option (Shape × Int × Bool) := match o with
  | ⟨.agg [.r [] (.int .i64 z1), .r [] (.int .i64 z2), .r [] (.int .i64 z3)], [some (.box [.r [] (.sl (.int .u8) z4), .r [] (.int .i64 z5), .r [] (.bool z6)])], []⟩ => cond (@sameL (List Int) _ z4 a.b) (some ((⟨z1, z2, z3⟩ : Shape), z5, z6)) none
  | _ => none
def pI_wideReader_shape_m_G (k : Nat) : MG := fun _ l b K => (pI_wideReader_shape_m_argD l b).bind fun a => (pI_wideReader_shape_m k a).bind fun r => K (pI_wideReader_shape_m_enc a r)
theorem pI_wideReader_shape_m_ev (k : Nat) (a : Reader) : ev (E_pI_wideReader_shape_m k) (LP_pI_wideReader_shape_m (Shape × Int × Bool) k) 0 c_pI_wideReader_shape_m (st0M Try.f151 (pI_wideReader_shape_m_args a) (pI_wideReader_shape_m_blks a)) (finM Try.prog Try.f151 (.agg [.sc, .sc, .sc]) [.box [.ro (.int .u8), .sc, .sc]] (pI_wideReader_shape_m_dec a)) = pI_wideReader_shape_m k a := by kernel_rfl
theorem pI_wideReader_shape_m_ok (k : Nat) : MutOk Try.prog 151 (pI_wideReader_shape_m_G k) :=
  mutOk_of_ev (E_pI_wideReader_shape_m_ok k) Try.func151 (by kernel_rfl) (by kernel_rfl) pI_wideReader_shape_m_args pI_wideReader_shape_m_blks pI_wideReader_shape_m_argD
    (fun l b a h => by unfold pI_wideReader_shape_m_argD at h; split at h <;> first | (cases h; exact ⟨rfl, rfl⟩) | cases h) (fun a => rfl) (lpgood_none (by kernel_rfl)) (fun a r => rfl)
    (fun a o r h => by unfold pI_wideReader_shape_m_dec at h; split at h <;> first | (obtain ⟨e0, hq⟩ := dec_chk1 h; clear h; subst e0; have h := hq; clear hq; cases h; rfl) | cases h) (pI_wideReader_shape_m_ev k)
def o_pI_wideReader_shape_m (k : Nat) : Orc := mutOrc [.keep] (pI_wideReader_shape_m_G k)
theorem o_pI_wideReader_shape_m_ok (k : Nat) : OrcOk Try.prog 151 (o_pI_wideReader_shape_m k) := mutOrc_ok (pI_wideReader_shape_m_ok k)
/-! ### 152 (*loop.example/g00778/impl.wideReader).list -/
noncomputable def E_pI_wideReader_list_m (k : Nat) : Env := { P := Try.prog, tt := tt, orc := fun g => cond (Nat.beq g 90) (o_pI_wideReader_count_m k) (cond (Nat.beq g 91) (o_pI_wideReader_number_m k) (noOrc)), wr := fun g => mem g [90, 91], wt := true }
theorem E_pI_wideReader_list_m_ok (k : Nat) : EnvOk (E_pI_wideReader_list_m k) := fun g => (orc_cond (o_pI_wideReader_count_m_ok k) (orc_cond (o_pI_wideReader_number_m_ok k) (noOrc_ok _ _)))
noncomputable def c_pI_wideReader_list_m : Code := (Try.f152.body).getD .skip
noncomputable def b_pI_wideReader_list_m_0 : Code := ((loopsIn 0 c_pI_wideReader_list_m).getD 0 (0, .skip)).2
def pI_wideReader_list_m_g0_keep : List Nat := [0, 5, 6]
def pI_wideReader_list_m_g0_co : List (Where × Co) := []
def pI_wideReader_list_m_g0_kx : Ex → List Nat
  | .exit j => cond (Nat.beq j 0) [5] []
  | .ret => []
  | .normal => []
def pI_wideReader_list_m_g0_cx : Ex → List (Where × Co)
  | .exit j => cond (Nat.beq j 0) [] []
  | .ret => []
  | .normal => []
def pI_wideReader_list_m_g0_tm (pv : (List Int) × (Int × Int × Bool × List Int)) : St := { slots := [(0, .ptr 0 0 0), (5, .own 1), (6, .r [] (.int .i64 pv.2.1))], heap := [(0, .box [.r [] (.sl (.int .u8) pv.1), .r [] (.int .i64 pv.2.2.1), .r [] (.bool pv.2.2.2.1)]), (1, .arr none (.int .i64) pv.2.2.2.2)], nid := 2, n := 28, gh := [some 0] }
def pI_wideReader_list_m_g0_dec (nf : NF) : Option ((List Int) × (Int × Int × Bool × List Int)) := match nf with
  | ([.ptr 0 0 0, .own 1, .r [] (.int .i64 w0)], [.box [.r [] (.sl (.int .u8) w1), .r [] (.int .i64 w2), .r [] (.bool w3)], .arr none (.int .i64) w4], [some 0]) => some (w1, (w0, w2, w3, w4))
  | _ => none
theorem pI_wideReader_list_m_g0_hd (nf : NF) (v : (List Int) × (Int × Int × Bool × List Int)) (h : pI_wideReader_list_m_g0_dec nf = some v) : denorm pI_wideReader_list_m_g0_keep 28 nf = pI_wideReader_list_m_g0_tm v := by
  unfold pI_wideReader_list_m_g0_dec at h
  split at h
  · cases h; rfl
  · cases h
def pI_wideReader_list_m_g0_x0 (p : List Int) (x : List Int × Int × Bool) : St := { slots := [(5, .own 0)], heap := [(0, .arr none (.int .i64) x.1), (1, .box [.r [] (.sl (.int .u8) p), .r [] (.int .i64 x.2.1), .r [] (.bool x.2.2)])], nid := 2, n := 28, gh := [some 1] }
def LP_pI_wideReader_list_m (ρ : Type) (k : Nat) : Nat → Ev ρ → Ev ρ := fun id f => cond (Nat.beq id 0) (loopOrc pI_wideReader_list_m_g0_keep pI_wideReader_list_m_g0_co (fun n nf => cond (Nat.beq n 28) (pI_wideReader_list_m_g0_dec nf) none) fun pv K => iter (fun v next => pI_wideReader_list_m_g0 k pv.1 v next (fun x => K (.exit 0) (pI_wideReader_list_m_g0_x0 pv.1 x))) k pv.2) ((fun _ _ _ _ => none) id f)
theorem pI_wideReader_list_m_g0_round {ρ : Type} (k : Nat) (p : List Int) (v : Int × Int × Bool × List Int) (K K1 : Ex → St → Option ρ) : ev (E_pI_wideReader_list_m k) (LP_pI_wideReader_list_m ρ k) 0 b_pI_wideReader_list_m_0 (pI_wideReader_list_m_g0_tm (p, v)) (fun e st' => match e with
    | .normal => (normC pI_wideReader_list_m_g0_keep pI_wideReader_list_m_g0_co st').bind fun nf => K1 .normal (denorm pI_wideReader_list_m_g0_keep st'.n nf)
    | e => (normC (pI_wideReader_list_m_g0_kx e) (pI_wideReader_list_m_g0_cx e) st').bind fun nf => K e (denorm (pI_wideReader_list_m_g0_kx e) st'.n nf)) = pI_wideReader_list_m_g0 k p v (fun v' => K1 .normal (pI_wideReader_list_m_g0_tm (p, v'))) (fun x => K (.exit 0) (pI_wideReader_list_m_g0_x0 p x)) := by kernel_rfl
theorem pI_wideReader_list_m_g0_ok {ρ : Type} (k : Nat) : Sound Try.prog (.loop b_pI_wideReader_list_m_0) (LP_pI_wideReader_list_m ρ k 0 fun st K => ev (E_pI_wideReader_list_m k) (LP_pI_wideReader_list_m ρ k) 0 b_pI_wideReader_list_m_0 st K) :=
  loop_ok (ev_sound (E_pI_wideReader_list_m_ok k) b_pI_wideReader_list_m_0 0 (lpgood_none (by kernel_rfl))) pI_wideReader_list_m_g0_kx pI_wideReader_list_m_g0_cx k (g := fun p v next K => pI_wideReader_list_m_g0 k p v next (fun x => K (.exit 0) (pI_wideReader_list_m_g0_x0 p x))) (dec_at pI_wideReader_list_m_g0_hd) (fun p v K K1 => pI_wideReader_list_m_g0_round k p v K K1)
def pI_wideReader_list_m_args (a : Reader × Int) : List SV := [.ptr 0 0 0, .r [] (.int .i64 a.2)]
def pI_wideReader_list_m_blks (a : Reader × Int) : List Blk := [.box [.r [] (.sl (.int .u8) a.1.b), .r [] (.int .i64 a.1.at_), .r [] (.bool a.1.bad)]]
def pI_wideReader_list_m_argD (l : List SV) (b : List Blk) : Option (Reader × Int) := match l, b with
  | [.ptr 0 0 0, .r [] (.int .i64 w0)], [.box [.r [] (.sl (.int .u8) w1), .r [] (.int .i64 w2), .r [] (.bool w3)]] => some ((⟨w1, w2, w3⟩ : Reader), w0)
  | _, _ => none
def pI_wideReader_list_m_enc (a : Reader × Int) (r : List Int × Int × Bool) : MOut := ⟨.own 1, [some (.box [.r [] (.sl (.int .u8) a.1.b), .r [] (.int .i64 r.2.1), .r [] (.bool r.2.2)])], [.arr none (.int .i64) r.1]⟩
def pI_wideReader_list_m_dec (a : Reader × Int) (o : MOut) : Option (List Int × Int × Bool) := match o with
  | ⟨.own 1, [some (.box [.r [] (.sl (.int .u8) z1), .r [] (.int .i64 z2), .r [] (.bool z3)])], [.arr none (.int .i64) z4]⟩ => cond (@sameL (List Int) _ z1 a.1.b) (some (z4, z2, z3)) none
  | _ => none
def pI_wideReader_list_m_G (k : Nat) : MG := fun _ l b K => (pI_wideReader_list_m_argD l b).bind fun a => (pI_wideReader_list_m k a.1 a.2).bind fun r => K (pI_wideReader_list_m_enc a r)
theorem pI_wideReader_list_m_ev (k : Nat) (a : Reader × Int) : ev (E_pI_wideReader_list_m k) (LP_pI_wideReader_list_m (List Int × Int × Bool) k) 0 c_pI_wideReader_list_m (st0M Try.f152 (pI_wideReader_list_m_args a) (pI_wideReader_list_m_blks a)) (finM Try.prog Try.f152 (.own (.int .i64)) [.box [.ro (.int .u8), .sc, .sc]] (pI_wideReader_list_m_dec a)) = pI_wideReader_list_m k a.1 a.2 := by kernel_rfl
theorem pI_wideReader_list_m_ok (k : Nat) : MutOk Try.prog 152 (pI_wideReader_list_m_G k) :=
  mutOk_of_ev (E_pI_wideReader_list_m_ok k) Try.func152 (by kernel_rfl) (by kernel_rfl) pI_wideReader_list_m_args pI_wideReader_list_m_blks pI_wideReader_list_m_argD
    (fun l b a h => by unfold pI_wideReader_list_m_argD at h; split at h <;> first | (cases h; exact ⟨rfl, rfl⟩) | cases h) (fun a => rfl) (lpgood_of (l := [(0, b_pI_wideReader_list_m_0)]) (by kernel_rfl) ⟨pI_wideReader_list_m_g0_ok k, trivial⟩) (fun a r => rfl)
    (fun a o r h => by unfold pI_wideReader_list_m_dec at h; split at h <;> first | (obtain ⟨e0, hq⟩ := dec_chk1 h; clear h; subst e0; have h := hq; clear hq; cases h; rfl) | cases h) (pI_wideReader_list_m_ev k)
def o_pI_wideReader_list_m (k : Nat) : Orc := mutOrc [.keep, .one (.int .i64)] (pI_wideReader_list_m_G k)
theorem o_pI_wideReader_list_m_ok (k : Nat) : OrcOk Try.prog 152 (o_pI_wideReader_list_m k) := mutOrc_ok (pI_wideReader_list_m_ok k)
/-! ### 85 (*loop.example/g00778/impl.wideReader).step -/
noncomputable def E_pI_wideReader_step_m (k : Nat) : Env := { P := Try.prog, tt := tt, orc := fun g => cond (Nat.beq g 90) (o_pI_wideReader_count_m k) (cond (Nat.beq g 91) (o_pI_wideReader_number_m k) (cond (Nat.beq g 150) (o_pI_wideReader_bytes_m k) (cond (Nat.beq g 151) (o_pI_wideReader_shape_m k) (cond (Nat.beq g 152) (o_pI_wideReader_list_m k) (noOrc))))), wr := fun g => mem g [90, 91, 150, 151, 152], wt := true }
theorem E_pI_wideReader_step_m_ok (k : Nat) : EnvOk (E_pI_wideReader_step_m k) := fun g => (orc_cond (o_pI_wideReader_count_m_ok k) (orc_cond (o_pI_wideReader_number_m_ok k) (orc_cond (o_pI_wideReader_bytes_m_ok k) (orc_cond (o_pI_wideReader_shape_m_ok k) (orc_cond (o_pI_wideReader_list_m_ok k) (noOrc_ok _ _))))))
noncomputable def c_pI_wideReader_step_m : Code := (Try.f85.body).getD .skip
noncomputable def b_pI_wideReader_step_m_0 : Code := ((loopsIn 0 c_pI_wideReader_step_m).getD 0 (0, .skip)).2
def LP_pI_wideReader_step_m (ρ : Type) (k : Nat) : Nat → Ev ρ → Ev ρ := fun id f => cond (Nat.beq id 0) (loopN f 15) ((fun _ _ _ _ => none) id f)
theorem pI_wideReader_step_m_g0_ok {ρ : Type} (k : Nat) : Sound Try.prog (.loop b_pI_wideReader_step_m_0) (LP_pI_wideReader_step_m ρ k 0 fun st K => ev (E_pI_wideReader_step_m k) (LP_pI_wideReader_step_m ρ k) 0 b_pI_wideReader_step_m_0 st K) :=
  loop_sound (ev_sound (E_pI_wideReader_step_m_ok k) b_pI_wideReader_step_m_0 0 (lpgood_none (by kernel_rfl))) 15
def pI_wideReader_step_m_args (a : Reader) : List SV := [.ptr 0 0 0]
def pI_wideReader_step_m_blks (a : Reader) : List Blk := [.box [.r [] (.sl (.int .u8) a.b), .r [] (.int .i64 a.at_), .r [] (.bool a.bad)]]
def pI_wideReader_step_m_argD (l : List SV) (b : List Blk) : Option (Reader) := match l, b with
  | [.ptr 0 0 0], [.box [.r [] (.sl (.int .u8) w0), .r [] (.int .i64 w1), .r [] (.bool w2)]] => some (⟨w0, w1, w2⟩ : Reader)
  | _, _ => none
def pI_wideReader_step_m_enc (a : Reader) (r : Step × Int × Bool) : MOut := ⟨.agg [.r [] (.int .i64 r.1.kind), .r [] (.int .i64 r.1.a), .r [] (.int .i64 r.1.b), .own 1, .r [] (.int .i64 r.1.input.sh.h), .r [] (.int .i64 r.1.input.sh.w), .r [] (.int .i64 r.1.input.sh.c), .own 2], [some (.box [.r [] (.sl (.int .u8) a.b), .r [] (.int .i64 r.2.1), .r [] (.bool r.2.2)])], [.arr none (.int .u8) r.1.data, .arr none (.int .i64) r.1.input.data]⟩
def pI_wideReader_step_m_dec (a : Reader) (o : MOut) : Option (Step × Int × Bool) := match o with
  | ⟨.agg [.r [] (.int .i64 z1), .r [] (.int .i64 z2), .r [] (.int .i64 z3), .own 1, .r [] (.int .i64 z4), .r [] (.int .i64 z5), .r [] (.int .i64 z6), .own 2], [some (.box [.r [] (.sl (.int .u8) z7), .r [] (.int .i64 z8), .r [] (.bool z9)])], [.arr none (.int .u8) z10, .arr none (.int .i64) z11]⟩ => cond (@sameL (List Int) _ z7 a.b) (some ((⟨z1, z2, z3, z10, (⟨(⟨z4, z5, z6⟩ : Shape), z11⟩ : Tensor)⟩ : Step), z8, z9)) none
  | _ => none
def pI_wideReader_step_m_G (k : Nat) : MG := fun _ l b K => (pI_wideReader_step_m_argD l b).bind fun a => (pI_wideReader_step_m k a).bind fun r => K (pI_wideReader_step_m_enc a r)
theorem pI_wideReader_step_m_ev (k : Nat) (a : Reader) : ev (E_pI_wideReader_step_m k) (LP_pI_wideReader_step_m (Step × Int × Bool) k) 0 c_pI_wideReader_step_m (st0M Try.f85 (pI_wideReader_step_m_args a) (pI_wideReader_step_m_blks a)) (finM Try.prog Try.f85 (.agg [.sc, .sc, .sc, .own (.int .u8), .sc, .sc, .sc, .own (.int .i64)]) [.box [.ro (.int .u8), .sc, .sc]] (pI_wideReader_step_m_dec a)) = pI_wideReader_step_m k a := by kernel_rfl
theorem pI_wideReader_step_m_ok (k : Nat) : MutOk Try.prog 85 (pI_wideReader_step_m_G k) :=
  mutOk_of_ev (E_pI_wideReader_step_m_ok k) Try.func85 (by kernel_rfl) (by kernel_rfl) pI_wideReader_step_m_args pI_wideReader_step_m_blks pI_wideReader_step_m_argD
    (fun l b a h => by unfold pI_wideReader_step_m_argD at h; split at h <;> first | (cases h; exact ⟨rfl, rfl⟩) | cases h) (fun a => rfl) (lpgood_of (l := [(0, b_pI_wideReader_step_m_0)]) (by kernel_rfl) ⟨pI_wideReader_step_m_g0_ok k, trivial⟩) (fun a r => rfl)
    (fun a o r h => by unfold pI_wideReader_step_m_dec at h; split at h <;> first | (obtain ⟨e0, hq⟩ := dec_chk1 h; clear h; subst e0; have h := hq; clear hq; cases h; rfl) | cases h) (pI_wideReader_step_m_ev k)
def o_pI_wideReader_step_m (k : Nat) : Orc := mutOrc [.keep] (pI_wideReader_step_m_G k)
theorem o_pI_wideReader_step_m_ok (k : Nat) : OrcOk Try.prog 85 (o_pI_wideReader_step_m k) := mutOrc_ok (pI_wideReader_step_m_ok k)
/-! ### 17 loop.example/g00778/impl.TakeStep -/
noncomputable def E_I_TakeStep (k : Nat) : Env := { P := Try.prog, tt := tt, orc := fun g => cond (Nat.beq g 84) (o_I_in k) (cond (Nat.beq g 85) (o_pI_wideReader_step_m k) (noOrc)), wr := fun g => mem g [85], wt := true }
theorem E_I_TakeStep_ok (k : Nat) : EnvOk (E_I_TakeStep k) := fun g => (orc_cond (o_I_in_ok k) (orc_cond (o_pI_wideReader_step_m_ok k) (noOrc_ok _ _)))
noncomputable def c_I_TakeStep : Code := (Try.f17.body).getD .skip
def LP_I_TakeStep (ρ : Type) (k : Nat) : Nat → Ev ρ → Ev ρ := fun _ _ _ _ => none
def I_TakeStep_args (a : List Int × Int) : List Arg := [.one (.sl (.int .u8) a.1), .one (.int .i64 a.2)]
def I_TakeStep_argD (l : List Arg) : Option (List Int × Int) := match l with
  | [.one (.sl (.int .u8) b0), .one (.int .i64 b1)] => some (b0, b1)
  | _ => none
def I_TakeStep_enc (r : Step × Int) : Out := (.tup [.agg [.r [] (.int .i64 r.1.kind), .r [] (.int .i64 r.1.a), .r [] (.int .i64 r.1.b), .own 0, .r [] (.int .i64 r.1.input.sh.h), .r [] (.int .i64 r.1.input.sh.w), .r [] (.int .i64 r.1.input.sh.c), .own 1], .r [] (.int .i64 r.2)], [.arr none (.int .u8) r.1.data, .arr none (.int .i64) r.1.input.data])
def I_TakeStep_dec (o : Out) : Option (Step × Int) := match o with
  | (.tup [.agg [.r [] (.int .i64 z1), .r [] (.int .i64 z2), .r [] (.int .i64 z3), .own 0, .r [] (.int .i64 z5), .r [] (.int .i64 z6), .r [] (.int .i64 z7), .own 1], .r [] (.int .i64 z9)], [.arr none (.int .u8) z4, .arr none (.int .i64) z8]) => some ((⟨z1, z2, z3, z4, (⟨(⟨z5, z6, z7⟩ : Shape), z8⟩ : Tensor)⟩ : Step), z9)
  | _ => none
def I_TakeStep_G (k : Nat) : PG := fun _ l K => (I_TakeStep_argD l).bind fun a => (I_TakeStep k a.1 a.2).bind fun r => K (I_TakeStep_enc r)
theorem I_TakeStep_ev (k : Nat) (a : List Int × Int) : ev (E_I_TakeStep k) (LP_I_TakeStep (Step × Int) k) 0 c_I_TakeStep (st0 Try.f17 (I_TakeStep_args a)) (fin Try.prog Try.f17 (.tup [.agg [.sc, .sc, .sc, .own (.int .u8), .sc, .sc, .sc, .own (.int .i64)], .sc]) I_TakeStep_dec) = I_TakeStep k a.1 a.2 := by kernel_rfl
theorem I_TakeStep_ok (k : Nat) : PureOk Try.prog 17 (I_TakeStep_G k) :=
  pureOk_of_ev (E_I_TakeStep_ok k) Try.func17 (by kernel_rfl) (by kernel_rfl) I_TakeStep_args I_TakeStep_argD
    (fun l a h => by unfold I_TakeStep_argD at h; split at h <;> first | (cases h; rfl) | cases h) (fun a => rfl) (lpgood_none (by kernel_rfl))
    (fun o r h => by unfold I_TakeStep_dec at h; split at h <;> first | (cases h; rfl) | cases h) (I_TakeStep_ev k)
def o_I_TakeStep (k : Nat) : Orc := pureOrc [.one (.sl (.int .u8)), .one (.int .i64)] (I_TakeStep_G k)
theorem o_I_TakeStep_ok (k : Nat) : OrcOk Try.prog 17 (o_I_TakeStep k) := pureOrc_ok (I_TakeStep_ok k)
/-! ### 19 loop.example/g00778/laws.eqByteS -/
noncomputable def E_L_eqByteS (k : Nat) : Env := { P := Try.prog, tt := tt, orc := fun g => noOrc }
theorem E_L_eqByteS_ok (k : Nat) : EnvOk (E_L_eqByteS k) := fun g => (noOrc_ok _ _)
noncomputable def c_L_eqByteS : Code := (Try.f19.body).getD .skip
noncomputable def b_L_eqByteS_0 : Code := ((loopsIn 0 c_L_eqByteS).getD 0 (0, .skip)).2
def L_eqByteS_g0_keep : List Nat := [0, 1, 5]
def L_eqByteS_g0_co : List (Where × Co) := []
def L_eqByteS_g0_kx : Ex → List Nat
  | .exit j => cond (Nat.beq j 0) [] []
  | .ret => [4]
  | .normal => []
def L_eqByteS_g0_cx : Ex → List (Where × Co)
  | .exit j => cond (Nat.beq j 0) [] []
  | .ret => []
  | .normal => []
def L_eqByteS_g0_tm (pv : (List Int × List Int) × (Int)) : St := { slots := [(0, .r [] (.sl (.int .u8) pv.1.1)), (1, .r [] (.sl (.int .u8) pv.1.2)), (5, .r [] (.int .i64 pv.2))], heap := [], nid := 0, n := 26, gh := [] }
def L_eqByteS_g0_dec (nf : NF) : Option ((List Int × List Int) × (Int)) := match nf with
  | ([.r [] (.sl (.int .u8) w0), .r [] (.sl (.int .u8) w1), .r [] (.int .i64 w2)], [], []) => some ((w0, w1), w2)
  | _ => none
theorem L_eqByteS_g0_hd (nf : NF) (v : (List Int × List Int) × (Int)) (h : L_eqByteS_g0_dec nf = some v) : denorm L_eqByteS_g0_keep 26 nf = L_eqByteS_g0_tm v := by
  unfold L_eqByteS_g0_dec at h
  split at h
  · cases h; rfl
  · cases h
def L_eqByteS_g0_x0 (p : List Int × List Int) (x : Unit) : St := { slots := [], heap := [], nid := 0, n := 26, gh := [] }
def L_eqByteS_g0_xret (p : List Int × List Int) (x : Bool) : St := { slots := [(4, .r [] (.bool x))], heap := [], nid := 0, n := 26, gh := [] }
def LP_L_eqByteS (ρ : Type) (k : Nat) : Nat → Ev ρ → Ev ρ := fun id f => cond (Nat.beq id 0) (loopOrc L_eqByteS_g0_keep L_eqByteS_g0_co (fun n nf => cond (Nat.beq n 26) (L_eqByteS_g0_dec nf) none) fun pv K => iter (fun v next => L_eqByteS_g0 k pv.1 v next (fun x => K (.exit 0) (L_eqByteS_g0_x0 pv.1 x)) (fun x => K .ret (L_eqByteS_g0_xret pv.1 x))) k pv.2) ((fun _ _ _ _ => none) id f)
theorem L_eqByteS_g0_round {ρ : Type} (k : Nat) (p : List Int × List Int) (v : Int) (K K1 : Ex → St → Option ρ) : ev (E_L_eqByteS k) (LP_L_eqByteS ρ k) 0 b_L_eqByteS_0 (L_eqByteS_g0_tm (p, v)) (fun e st' => match e with
    | .normal => (normC L_eqByteS_g0_keep L_eqByteS_g0_co st').bind fun nf => K1 .normal (denorm L_eqByteS_g0_keep st'.n nf)
    | e => (normC (L_eqByteS_g0_kx e) (L_eqByteS_g0_cx e) st').bind fun nf => K e (denorm (L_eqByteS_g0_kx e) st'.n nf)) = L_eqByteS_g0 k p v (fun v' => K1 .normal (L_eqByteS_g0_tm (p, v'))) (fun x => K (.exit 0) (L_eqByteS_g0_x0 p x)) (fun x => K .ret (L_eqByteS_g0_xret p x)) := by kernel_rfl
theorem L_eqByteS_g0_ok {ρ : Type} (k : Nat) : Sound Try.prog (.loop b_L_eqByteS_0) (LP_L_eqByteS ρ k 0 fun st K => ev (E_L_eqByteS k) (LP_L_eqByteS ρ k) 0 b_L_eqByteS_0 st K) :=
  loop_ok (ev_sound (E_L_eqByteS_ok k) b_L_eqByteS_0 0 (lpgood_none (by kernel_rfl))) L_eqByteS_g0_kx L_eqByteS_g0_cx k (g := fun p v next K => L_eqByteS_g0 k p v next (fun x => K (.exit 0) (L_eqByteS_g0_x0 p x)) (fun x => K .ret (L_eqByteS_g0_xret p x))) (dec_at L_eqByteS_g0_hd) (fun p v K K1 => L_eqByteS_g0_round k p v K K1)
def L_eqByteS_args (a : List Int × List Int) : List Arg := [.one (.sl (.int .u8) a.1), .one (.sl (.int .u8) a.2)]
def L_eqByteS_argD (l : List Arg) : Option (List Int × List Int) := match l with
  | [.one (.sl (.int .u8) b0), .one (.sl (.int .u8) b1)] => some (b0, b1)
  | _ => none
def L_eqByteS_enc (r : Bool) : Out := (.r [] (.bool r), [])
def L_eqByteS_dec (o : Out) : Option (Bool) := match o with
  | (.r [] (.bool z1), []) => some z1
  | _ => none
def L_eqByteS_G (k : Nat) : PG := fun _ l K => (L_eqByteS_argD l).bind fun a => (L_eqByteS k a.1 a.2).bind fun r => K (L_eqByteS_enc r)
theorem L_eqByteS_ev (k : Nat) (a : List Int × List Int) : ev (E_L_eqByteS k) (LP_L_eqByteS (Bool) k) 0 c_L_eqByteS (st0 Try.f19 (L_eqByteS_args a)) (fin Try.prog Try.f19 (.sc) L_eqByteS_dec) = L_eqByteS k a.1 a.2 := by kernel_rfl
theorem L_eqByteS_ok (k : Nat) : PureOk Try.prog 19 (L_eqByteS_G k) :=
  pureOk_of_ev (E_L_eqByteS_ok k) Try.func19 (by kernel_rfl) (by kernel_rfl) L_eqByteS_args L_eqByteS_argD
    (fun l a h => by unfold L_eqByteS_argD at h; split at h <;> first | (cases h; rfl) | cases h) (fun a => rfl) (lpgood_of (l := [(0, b_L_eqByteS_0)]) (by kernel_rfl) ⟨L_eqByteS_g0_ok k, trivial⟩)
    (fun o r h => by unfold L_eqByteS_dec at h; split at h <;> first | (cases h; rfl) | cases h) (L_eqByteS_ev k)
def o_L_eqByteS (k : Nat) : Orc := pureOrc [.one (.sl (.int .u8)), .one (.sl (.int .u8))] (L_eqByteS_G k)
theorem o_L_eqByteS_ok (k : Nat) : OrcOk Try.prog 19 (o_L_eqByteS k) := pureOrc_ok (L_eqByteS_ok k)
/-! ### 128 loop.example/g00778/laws.eqShape -/
noncomputable def E_L_eqShape (k : Nat) : Env := { P := Try.prog, tt := tt, orc := fun g => noOrc }
theorem E_L_eqShape_ok (k : Nat) : EnvOk (E_L_eqShape k) := fun g => (noOrc_ok _ _)
noncomputable def c_L_eqShape : Code := (Try.f128.body).getD .skip
def LP_L_eqShape (ρ : Type) (k : Nat) : Nat → Ev ρ → Ev ρ := fun _ _ _ _ => none
def L_eqShape_args (a : Shape × Shape) : List Arg := [.agg [.int .i64 a.1.h, .int .i64 a.1.w, .int .i64 a.1.c], .agg [.int .i64 a.2.h, .int .i64 a.2.w, .int .i64 a.2.c]]
def L_eqShape_argD (l : List Arg) : Option (Shape × Shape) := match l with
  | [.agg [.int .i64 b0_0, .int .i64 b0_1, .int .i64 b0_2], .agg [.int .i64 b1_0, .int .i64 b1_1, .int .i64 b1_2]] => some ((⟨b0_0, b0_1, b0_2⟩ : Shape), (⟨b1_0, b1_1, b1_2⟩ : Shape))
  | _ => none
def L_eqShape_enc (r : Bool) : Out := (.r [] (.bool r), [])
def L_eqShape_dec (o : Out) : Option (Bool) := match o with
  | (.r [] (.bool z1), []) => some z1
  | _ => none
def L_eqShape_G (k : Nat) : PG := fun _ l K => (L_eqShape_argD l).bind fun a => (L_eqShape k a.1 a.2).bind fun r => K (L_eqShape_enc r)
theorem L_eqShape_ev (k : Nat) (a : Shape × Shape) : ev (E_L_eqShape k) (LP_L_eqShape (Bool) k) 0 c_L_eqShape (st0 Try.f128 (L_eqShape_args a)) (fin Try.prog Try.f128 (.sc) L_eqShape_dec) = L_eqShape k a.1 a.2 := by kernel_rfl
theorem L_eqShape_ok (k : Nat) : PureOk Try.prog 128 (L_eqShape_G k) :=
  pureOk_of_ev (E_L_eqShape_ok k) Try.func128 (by kernel_rfl) (by kernel_rfl) L_eqShape_args L_eqShape_argD
    (fun l a h => by unfold L_eqShape_argD at h; split at h <;> first | (cases h; rfl) | cases h) (fun a => rfl) (lpgood_none (by kernel_rfl))
    (fun o r h => by unfold L_eqShape_dec at h; split at h <;> first | (cases h; rfl) | cases h) (L_eqShape_ev k)
def o_L_eqShape (k : Nat) : Orc := pureOrc [.agg [(.int .i64), (.int .i64), (.int .i64)], .agg [(.int .i64), (.int .i64), (.int .i64)]] (L_eqShape_G k)
theorem o_L_eqShape_ok (k : Nat) : OrcOk Try.prog 128 (o_L_eqShape k) := pureOrc_ok (L_eqShape_ok k)
/-! ### 43 loop.example/g00778/laws.eqIntS -/
noncomputable def E_L_eqIntS (k : Nat) : Env := { P := Try.prog, tt := tt, orc := fun g => noOrc }
theorem E_L_eqIntS_ok (k : Nat) : EnvOk (E_L_eqIntS k) := fun g => (noOrc_ok _ _)
noncomputable def c_L_eqIntS : Code := (Try.f43.body).getD .skip
noncomputable def b_L_eqIntS_0 : Code := ((loopsIn 0 c_L_eqIntS).getD 0 (0, .skip)).2
def L_eqIntS_g0_keep : List Nat := [0, 1, 5]
def L_eqIntS_g0_co : List (Where × Co) := []
def L_eqIntS_g0_kx : Ex → List Nat
  | .exit j => cond (Nat.beq j 0) [] []
  | .ret => [4]
  | .normal => []
def L_eqIntS_g0_cx : Ex → List (Where × Co)
  | .exit j => cond (Nat.beq j 0) [] []
  | .ret => []
  | .normal => []
def L_eqIntS_g0_tm (pv : (List Int × List Int) × (Int)) : St := { slots := [(0, .r [] (.sl (.int .i64) pv.1.1)), (1, .r [] (.sl (.int .i64) pv.1.2)), (5, .r [] (.int .i64 pv.2))], heap := [], nid := 0, n := 26, gh := [] }
def L_eqIntS_g0_dec (nf : NF) : Option ((List Int × List Int) × (Int)) := match nf with
  | ([.r [] (.sl (.int .i64) w0), .r [] (.sl (.int .i64) w1), .r [] (.int .i64 w2)], [], []) => some ((w0, w1), w2)
  | _ => none
theorem L_eqIntS_g0_hd (nf : NF) (v : (List Int × List Int) × (Int)) (h : L_eqIntS_g0_dec nf = some v) : denorm L_eqIntS_g0_keep 26 nf = L_eqIntS_g0_tm v := by
  unfold L_eqIntS_g0_dec at h
  split at h
  · cases h; rfl
  · cases h
def L_eqIntS_g0_x0 (p : List Int × List Int) (x : Unit) : St := { slots := [], heap := [], nid := 0, n := 26, gh := [] }
def L_eqIntS_g0_xret (p : List Int × List Int) (x : Bool) : St := { slots := [(4, .r [] (.bool x))], heap := [], nid := 0, n := 26, gh := [] }
def LP_L_eqIntS (ρ : Type) (k : Nat) : Nat → Ev ρ → Ev ρ := fun id f => cond (Nat.beq id 0) (loopOrc L_eqIntS_g0_keep L_eqIntS_g0_co (fun n nf => cond (Nat.beq n 26) (L_eqIntS_g0_dec nf) none) fun pv K => iter (fun v next => L_eqIntS_g0 k pv.1 v next (fun x => K (.exit 0) (L_eqIntS_g0_x0 pv.1 x)) (fun x => K .ret (L_eqIntS_g0_xret pv.1 x))) k pv.2) ((fun _ _ _ _ => none) id f)
theorem L_eqIntS_g0_round {ρ : Type} (k : Nat) (p : List Int × List Int) (v : Int) (K K1 : Ex → St → Option ρ) : ev (E_L_eqIntS k) (LP_L_eqIntS ρ k) 0 b_L_eqIntS_0 (L_eqIntS_g0_tm (p, v)) (fun e st' => match e with
    | .normal => (normC L_eqIntS_g0_keep L_eqIntS_g0_co st').bind fun nf => K1 .normal (denorm L_eqIntS_g0_keep st'.n nf)
    | e => (normC (L_eqIntS_g0_kx e) (L_eqIntS_g0_cx e) st').bind fun nf => K e (denorm (L_eqIntS_g0_kx e) st'.n nf)) = L_eqIntS_g0 k p v (fun v' => K1 .normal (L_eqIntS_g0_tm (p, v'))) (fun x => K (.exit 0) (L_eqIntS_g0_x0 p x)) (fun x => K .ret (L_eqIntS_g0_xret p x)) := by kernel_rfl
theorem L_eqIntS_g0_ok {ρ : Type} (k : Nat) : Sound Try.prog (.loop b_L_eqIntS_0) (LP_L_eqIntS ρ k 0 fun st K => ev (E_L_eqIntS k) (LP_L_eqIntS ρ k) 0 b_L_eqIntS_0 st K) :=
  loop_ok (ev_sound (E_L_eqIntS_ok k) b_L_eqIntS_0 0 (lpgood_none (by kernel_rfl))) L_eqIntS_g0_kx L_eqIntS_g0_cx k (g := fun p v next K => L_eqIntS_g0 k p v next (fun x => K (.exit 0) (L_eqIntS_g0_x0 p x)) (fun x => K .ret (L_eqIntS_g0_xret p x))) (dec_at L_eqIntS_g0_hd) (fun p v K K1 => L_eqIntS_g0_round k p v K K1)
def L_eqIntS_args (a : List Int × List Int) : List Arg := [.one (.sl (.int .i64) a.1), .one (.sl (.int .i64) a.2)]
def L_eqIntS_argD (l : List Arg) : Option (List Int × List Int) := match l with
  | [.one (.sl (.int .i64) b0), .one (.sl (.int .i64) b1)] => some (b0, b1)
  | _ => none
def L_eqIntS_enc (r : Bool) : Out := (.r [] (.bool r), [])
def L_eqIntS_dec (o : Out) : Option (Bool) := match o with
  | (.r [] (.bool z1), []) => some z1
  | _ => none
def L_eqIntS_G (k : Nat) : PG := fun _ l K => (L_eqIntS_argD l).bind fun a => (L_eqIntS k a.1 a.2).bind fun r => K (L_eqIntS_enc r)
theorem L_eqIntS_ev (k : Nat) (a : List Int × List Int) : ev (E_L_eqIntS k) (LP_L_eqIntS (Bool) k) 0 c_L_eqIntS (st0 Try.f43 (L_eqIntS_args a)) (fin Try.prog Try.f43 (.sc) L_eqIntS_dec) = L_eqIntS k a.1 a.2 := by kernel_rfl
theorem L_eqIntS_ok (k : Nat) : PureOk Try.prog 43 (L_eqIntS_G k) :=
  pureOk_of_ev (E_L_eqIntS_ok k) Try.func43 (by kernel_rfl) (by kernel_rfl) L_eqIntS_args L_eqIntS_argD
    (fun l a h => by unfold L_eqIntS_argD at h; split at h <;> first | (cases h; rfl) | cases h) (fun a => rfl) (lpgood_of (l := [(0, b_L_eqIntS_0)]) (by kernel_rfl) ⟨L_eqIntS_g0_ok k, trivial⟩)
    (fun o r h => by unfold L_eqIntS_dec at h; split at h <;> first | (cases h; rfl) | cases h) (L_eqIntS_ev k)
def o_L_eqIntS (k : Nat) : Orc := pureOrc [.one (.sl (.int .i64)), .one (.sl (.int .i64))] (L_eqIntS_G k)
theorem o_L_eqIntS_ok (k : Nat) : OrcOk Try.prog 43 (o_L_eqIntS k) := pureOrc_ok (L_eqIntS_ok k)
/-! ### 63 loop.example/g00778/laws.eqTensor -/
noncomputable def E_L_eqTensor (k : Nat) : Env := { P := Try.prog, tt := tt, orc := fun g => cond (Nat.beq g 43) (o_L_eqIntS k) (cond (Nat.beq g 128) (o_L_eqShape k) (noOrc)) }
theorem E_L_eqTensor_ok (k : Nat) : EnvOk (E_L_eqTensor k) := fun g => (orc_cond (o_L_eqIntS_ok k) (orc_cond (o_L_eqShape_ok k) (noOrc_ok _ _)))
noncomputable def c_L_eqTensor : Code := (Try.f63.body).getD .skip
def LP_L_eqTensor (ρ : Type) (k : Nat) : Nat → Ev ρ → Ev ρ := fun _ _ _ _ => none
def L_eqTensor_args (a : Tensor × Tensor) : List Arg := [.agg [.int .i64 a.1.sh.h, .int .i64 a.1.sh.w, .int .i64 a.1.sh.c, .sl (.int .i64) a.1.data], .agg [.int .i64 a.2.sh.h, .int .i64 a.2.sh.w, .int .i64 a.2.sh.c, .sl (.int .i64) a.2.data]]
def L_eqTensor_argD (l : List Arg) : Option (Tensor × Tensor) := match l with
  | [.agg [.int .i64 b0_0, .int .i64 b0_1, .int .i64 b0_2, .sl (.int .i64) b0_3], .agg [.int .i64 b1_0, .int .i64 b1_1, .int .i64 b1_2, .sl (.int .i64) b1_3]] => some ((⟨(⟨b0_0, b0_1, b0_2⟩ : Shape), b0_3⟩ : Tensor), (⟨(⟨b1_0, b1_1, b1_2⟩ : Shape), b1_3⟩ : Tensor))
  | _ => none
def L_eqTensor_enc (r : Bool) : Out := (.r [] (.bool r), [])
def L_eqTensor_dec (o : Out) : Option (Bool) := match o with
  | (.r [] (.bool z1), []) => some z1
  | _ => none
def L_eqTensor_G (k : Nat) : PG := fun _ l K => (L_eqTensor_argD l).bind fun a => (L_eqTensor k a.1 a.2).bind fun r => K (L_eqTensor_enc r)
theorem L_eqTensor_ev (k : Nat) (a : Tensor × Tensor) : ev (E_L_eqTensor k) (LP_L_eqTensor (Bool) k) 0 c_L_eqTensor (st0 Try.f63 (L_eqTensor_args a)) (fin Try.prog Try.f63 (.sc) L_eqTensor_dec) = L_eqTensor k a.1 a.2 := by kernel_rfl
theorem L_eqTensor_ok (k : Nat) : PureOk Try.prog 63 (L_eqTensor_G k) :=
  pureOk_of_ev (E_L_eqTensor_ok k) Try.func63 (by kernel_rfl) (by kernel_rfl) L_eqTensor_args L_eqTensor_argD
    (fun l a h => by unfold L_eqTensor_argD at h; split at h <;> first | (cases h; rfl) | cases h) (fun a => rfl) (lpgood_none (by kernel_rfl))
    (fun o r h => by unfold L_eqTensor_dec at h; split at h <;> first | (cases h; rfl) | cases h) (L_eqTensor_ev k)
def o_L_eqTensor (k : Nat) : Orc := pureOrc [.agg [(.int .i64), (.int .i64), (.int .i64), (.sl (.int .i64))], .agg [(.int .i64), (.int .i64), (.int .i64), (.sl (.int .i64))]] (L_eqTensor_G k)
theorem o_L_eqTensor_ok (k : Nat) : OrcOk Try.prog 63 (o_L_eqTensor k) := pureOrc_ok (L_eqTensor_ok k)
/-! ### 18 loop.example/g00778/laws.eqStep -/
noncomputable def E_L_eqStep (k : Nat) : Env := { P := Try.prog, tt := tt, orc := fun g => cond (Nat.beq g 19) (o_L_eqByteS k) (cond (Nat.beq g 63) (o_L_eqTensor k) (noOrc)) }
theorem E_L_eqStep_ok (k : Nat) : EnvOk (E_L_eqStep k) := fun g => (orc_cond (o_L_eqByteS_ok k) (orc_cond (o_L_eqTensor_ok k) (noOrc_ok _ _)))
noncomputable def c_L_eqStep : Code := (Try.f18.body).getD .skip
def LP_L_eqStep (ρ : Type) (k : Nat) : Nat → Ev ρ → Ev ρ := fun _ _ _ _ => none
def L_eqStep_args (a : Step × Step) : List Arg := [.agg [.int .i64 a.1.kind, .int .i64 a.1.a, .int .i64 a.1.b, .sl (.int .u8) a.1.data, .int .i64 a.1.input.sh.h, .int .i64 a.1.input.sh.w, .int .i64 a.1.input.sh.c, .sl (.int .i64) a.1.input.data], .agg [.int .i64 a.2.kind, .int .i64 a.2.a, .int .i64 a.2.b, .sl (.int .u8) a.2.data, .int .i64 a.2.input.sh.h, .int .i64 a.2.input.sh.w, .int .i64 a.2.input.sh.c, .sl (.int .i64) a.2.input.data]]
def L_eqStep_argD (l : List Arg) : Option (Step × Step) := match l with
  | [.agg [.int .i64 b0_0, .int .i64 b0_1, .int .i64 b0_2, .sl (.int .u8) b0_3, .int .i64 b0_4, .int .i64 b0_5, .int .i64 b0_6, .sl (.int .i64) b0_7], .agg [.int .i64 b1_0, .int .i64 b1_1, .int .i64 b1_2, .sl (.int .u8) b1_3, .int .i64 b1_4, .int .i64 b1_5, .int .i64 b1_6, .sl (.int .i64) b1_7]] => some ((⟨b0_0, b0_1, b0_2, b0_3, (⟨(⟨b0_4, b0_5, b0_6⟩ : Shape), b0_7⟩ : Tensor)⟩ : Step), (⟨b1_0, b1_1, b1_2, b1_3, (⟨(⟨b1_4, b1_5, b1_6⟩ : Shape), b1_7⟩ : Tensor)⟩ : Step))
  | _ => none
def L_eqStep_enc (r : Bool) : Out := (.r [] (.bool r), [])
def L_eqStep_dec (o : Out) : Option (Bool) := match o with
  | (.r [] (.bool z1), []) => some z1
  | _ => none
def L_eqStep_G (k : Nat) : PG := fun _ l K => (L_eqStep_argD l).bind fun a => (L_eqStep k a.1 a.2).bind fun r => K (L_eqStep_enc r)
theorem L_eqStep_ev (k : Nat) (a : Step × Step) : ev (E_L_eqStep k) (LP_L_eqStep (Bool) k) 0 c_L_eqStep (st0 Try.f18 (L_eqStep_args a)) (fin Try.prog Try.f18 (.sc) L_eqStep_dec) = L_eqStep k a.1 a.2 := by kernel_rfl
theorem L_eqStep_ok (k : Nat) : PureOk Try.prog 18 (L_eqStep_G k) :=
  pureOk_of_ev (E_L_eqStep_ok k) Try.func18 (by kernel_rfl) (by kernel_rfl) L_eqStep_args L_eqStep_argD
    (fun l a h => by unfold L_eqStep_argD at h; split at h <;> first | (cases h; rfl) | cases h) (fun a => rfl) (lpgood_none (by kernel_rfl))
    (fun o r h => by unfold L_eqStep_dec at h; split at h <;> first | (cases h; rfl) | cases h) (L_eqStep_ev k)
def o_L_eqStep (k : Nat) : Orc := pureOrc [.agg [(.int .i64), (.int .i64), (.int .i64), (.sl (.int .u8)), (.int .i64), (.int .i64), (.int .i64), (.sl (.int .i64))], .agg [(.int .i64), (.int .i64), (.int .i64), (.sl (.int .u8)), (.int .i64), (.int .i64), (.int .i64), (.sl (.int .i64))]] (L_eqStep_G k)
theorem o_L_eqStep_ok (k : Nat) : OrcOk Try.prog 18 (o_L_eqStep k) := pureOrc_ok (L_eqStep_ok k)
/-! ### 20 loop.example/g00778/laws.markByteS -/
noncomputable def E_L_markByteS_m3 (k : Nat) : Env := { P := Try.prog, tt := tt, orc := fun g => noOrc }
theorem E_L_markByteS_m3_ok (k : Nat) : EnvOk (E_L_markByteS_m3 k) := fun g => (noOrc_ok _ _)
noncomputable def c_L_markByteS_m3 : Code := (Try.f20.body).getD .skip
noncomputable def b_L_markByteS_m3_0 : Code := ((loopsIn 0 c_L_markByteS_m3).getD 0 (0, .skip)).2
def L_markByteS_m3_g0_keep : List Nat := [0, 1, 5]
def L_markByteS_m3_g0_co : List (Where × Co) := []
def L_markByteS_m3_g0_kx : Ex → List Nat
  | .exit j => cond (Nat.beq j 0) [1] []
  | .ret => []
  | .normal => []
def L_markByteS_m3_g0_cx : Ex → List (Where × Co)
  | .exit j => cond (Nat.beq j 0) [] []
  | .ret => []
  | .normal => []
def L_markByteS_m3_g0_tm (pv : (Unit) × (Int × Int × List Int)) : St := { slots := [(0, .own 0), (1, .r [] (.int .i64 pv.2.1)), (5, .r [] (.int .i64 pv.2.2.1))], heap := [(0, .arr none (.int .u8) pv.2.2.2)], nid := 1, n := 20, gh := [some 0] }
def L_markByteS_m3_g0_dec (nf : NF) : Option ((Unit) × (Int × Int × List Int)) := match nf with
  | ([.own 0, .r [] (.int .i64 w0), .r [] (.int .i64 w1)], [.arr none (.int .u8) w2], [some 0]) => some ((), (w0, w1, w2))
  | _ => none
theorem L_markByteS_m3_g0_hd (nf : NF) (v : (Unit) × (Int × Int × List Int)) (h : L_markByteS_m3_g0_dec nf = some v) : denorm L_markByteS_m3_g0_keep 20 nf = L_markByteS_m3_g0_tm v := by
  unfold L_markByteS_m3_g0_dec at h
  split at h
  · cases h; rfl
  · cases h
def L_markByteS_m3_g0_x0 (p : Unit) (x : Int × List Int) : St := { slots := [(1, .r [] (.int .i64 x.1))], heap := [(0, .arr none (.int .u8) x.2)], nid := 1, n := 20, gh := [some 0] }
def LP_L_markByteS_m3 (ρ : Type) (k : Nat) : Nat → Ev ρ → Ev ρ := fun id f => cond (Nat.beq id 0) (loopOrc L_markByteS_m3_g0_keep L_markByteS_m3_g0_co (fun n nf => cond (Nat.beq n 20) (L_markByteS_m3_g0_dec nf) none) fun pv K => iter (fun v next => L_markByteS_m3_g0 k pv.1 v next (fun x => K (.exit 0) (L_markByteS_m3_g0_x0 pv.1 x))) k pv.2) ((fun _ _ _ _ => none) id f)
theorem L_markByteS_m3_g0_round {ρ : Type} (k : Nat) (p : Unit) (v : Int × Int × List Int) (K K1 : Ex → St → Option ρ) : ev (E_L_markByteS_m3 k) (LP_L_markByteS_m3 ρ k) 0 b_L_markByteS_m3_0 (L_markByteS_m3_g0_tm (p, v)) (fun e st' => match e with
    | .normal => (normC L_markByteS_m3_g0_keep L_markByteS_m3_g0_co st').bind fun nf => K1 .normal (denorm L_markByteS_m3_g0_keep st'.n nf)
    | e => (normC (L_markByteS_m3_g0_kx e) (L_markByteS_m3_g0_cx e) st').bind fun nf => K e (denorm (L_markByteS_m3_g0_kx e) st'.n nf)) = L_markByteS_m3_g0 k p v (fun v' => K1 .normal (L_markByteS_m3_g0_tm (p, v'))) (fun x => K (.exit 0) (L_markByteS_m3_g0_x0 p x)) := by kernel_rfl
theorem L_markByteS_m3_g0_ok {ρ : Type} (k : Nat) : Sound Try.prog (.loop b_L_markByteS_m3_0) (LP_L_markByteS_m3 ρ k 0 fun st K => ev (E_L_markByteS_m3 k) (LP_L_markByteS_m3 ρ k) 0 b_L_markByteS_m3_0 st K) :=
  loop_ok (ev_sound (E_L_markByteS_m3_ok k) b_L_markByteS_m3_0 0 (lpgood_none (by kernel_rfl))) L_markByteS_m3_g0_kx L_markByteS_m3_g0_cx k (g := fun p v next K => L_markByteS_m3_g0 k p v next (fun x => K (.exit 0) (L_markByteS_m3_g0_x0 p x))) (dec_at L_markByteS_m3_g0_hd) (fun p v K K1 => L_markByteS_m3_g0_round k p v K K1)
def L_markByteS_m3_args (a : List Int × Int) : List SV := [.own 0, .r [] (.int .i64 a.2)]
def L_markByteS_m3_blks (a : List Int × Int) : List Blk := [.arr none (.int .u8) a.1]
def L_markByteS_m3_argD (l : List SV) (b : List Blk) : Option (List Int × Int) := match l, b with
  | [.own 0, .r [] (.int .i64 w0)], [.arr none (.int .u8) w1] => some (w1, w0)
  | _, _ => none
def L_markByteS_m3_enc (a : List Int × Int) (r : Int × List Int) : MOut := ⟨.r [] (.int .i64 r.1), [some (.arr none (.int .u8) r.2)], []⟩
def L_markByteS_m3_dec (a : List Int × Int) (o : MOut) : Option (Int × List Int) := match o with
  | ⟨.r [] (.int .i64 z1), [some (.arr none (.int .u8) z2)], []⟩ => some (z1, z2)
  | _ => none
def L_markByteS_m3_G (k : Nat) : MG := fun _ l b K => (L_markByteS_m3_argD l b).bind fun a => (L_markByteS_m3 k a.1 a.2).bind fun r => K (L_markByteS_m3_enc a r)
theorem L_markByteS_m3_ev (k : Nat) (a : List Int × Int) : ev (E_L_markByteS_m3 k) (LP_L_markByteS_m3 (Int × List Int) k) 0 c_L_markByteS_m3 (st0M Try.f20 (L_markByteS_m3_args a) (L_markByteS_m3_blks a)) (finM Try.prog Try.f20 (.sc) [.arr] (L_markByteS_m3_dec a)) = L_markByteS_m3 k a.1 a.2 := by kernel_rfl
theorem L_markByteS_m3_ok (k : Nat) : MutOk Try.prog 20 (L_markByteS_m3_G k) :=
  mutOk_of_ev (E_L_markByteS_m3_ok k) Try.func20 (by kernel_rfl) (by kernel_rfl) L_markByteS_m3_args L_markByteS_m3_blks L_markByteS_m3_argD
    (fun l b a h => by unfold L_markByteS_m3_argD at h; split at h <;> first | (cases h; exact ⟨rfl, rfl⟩) | cases h) (fun a => rfl) (lpgood_of (l := [(0, b_L_markByteS_m3_0)]) (by kernel_rfl) ⟨L_markByteS_m3_g0_ok k, trivial⟩) (fun a r => rfl)
    (fun a o r h => by unfold L_markByteS_m3_dec at h; split at h <;> first | (skip; cases h; rfl) | cases h) (L_markByteS_m3_ev k)
def o_L_markByteS_m3 (k : Nat) : Orc := mutOrc [.keep, .keep] (L_markByteS_m3_G k)
theorem o_L_markByteS_m3_ok (k : Nat) : OrcOk Try.prog 20 (o_L_markByteS_m3 k) := mutOrc_ok (L_markByteS_m3_ok k)
/-! ### 45 loop.example/g00778/laws.markIntS -/
noncomputable def E_L_markIntS_m3 (k : Nat) : Env := { P := Try.prog, tt := tt, orc := fun g => noOrc }
theorem E_L_markIntS_m3_ok (k : Nat) : EnvOk (E_L_markIntS_m3 k) := fun g => (noOrc_ok _ _)
noncomputable def c_L_markIntS_m3 : Code := (Try.f45.body).getD .skip
noncomputable def b_L_markIntS_m3_0 : Code := ((loopsIn 0 c_L_markIntS_m3).getD 0 (0, .skip)).2
def L_markIntS_m3_g0_keep : List Nat := [0, 1, 5]
def L_markIntS_m3_g0_co : List (Where × Co) := []
def L_markIntS_m3_g0_kx : Ex → List Nat
  | .exit j => cond (Nat.beq j 0) [1] []
  | .ret => []
  | .normal => []
def L_markIntS_m3_g0_cx : Ex → List (Where × Co)
  | .exit j => cond (Nat.beq j 0) [] []
  | .ret => []
  | .normal => []
def L_markIntS_m3_g0_tm (pv : (Unit) × (Int × Int × List Int)) : St := { slots := [(0, .own 0), (1, .r [] (.int .i64 pv.2.1)), (5, .r [] (.int .i64 pv.2.2.1))], heap := [(0, .arr none (.int .i64) pv.2.2.2)], nid := 1, n := 19, gh := [some 0] }
def L_markIntS_m3_g0_dec (nf : NF) : Option ((Unit) × (Int × Int × List Int)) := match nf with
  | ([.own 0, .r [] (.int .i64 w0), .r [] (.int .i64 w1)], [.arr none (.int .i64) w2], [some 0]) => some ((), (w0, w1, w2))
  | _ => none
theorem L_markIntS_m3_g0_hd (nf : NF) (v : (Unit) × (Int × Int × List Int)) (h : L_markIntS_m3_g0_dec nf = some v) : denorm L_markIntS_m3_g0_keep 19 nf = L_markIntS_m3_g0_tm v := by
  unfold L_markIntS_m3_g0_dec at h
  split at h
  · cases h; rfl
  · cases h
def L_markIntS_m3_g0_x0 (p : Unit) (x : Int × List Int) : St := { slots := [(1, .r [] (.int .i64 x.1))], heap := [(0, .arr none (.int .i64) x.2)], nid := 1, n := 19, gh := [some 0] }
def LP_L_markIntS_m3 (ρ : Type) (k : Nat) : Nat → Ev ρ → Ev ρ := fun id f => cond (Nat.beq id 0) (loopOrc L_markIntS_m3_g0_keep L_markIntS_m3_g0_co (fun n nf => cond (Nat.beq n 19) (L_markIntS_m3_g0_dec nf) none) fun pv K => iter (fun v next => L_markIntS_m3_g0 k pv.1 v next (fun x => K (.exit 0) (L_markIntS_m3_g0_x0 pv.1 x))) k pv.2) ((fun _ _ _ _ => none) id f)
theorem L_markIntS_m3_g0_round {ρ : Type} (k : Nat) (p : Unit) (v : Int × Int × List Int) (K K1 : Ex → St → Option ρ) : ev (E_L_markIntS_m3 k) (LP_L_markIntS_m3 ρ k) 0 b_L_markIntS_m3_0 (L_markIntS_m3_g0_tm (p, v)) (fun e st' => match e with
    | .normal => (normC L_markIntS_m3_g0_keep L_markIntS_m3_g0_co st').bind fun nf => K1 .normal (denorm L_markIntS_m3_g0_keep st'.n nf)
    | e => (normC (L_markIntS_m3_g0_kx e) (L_markIntS_m3_g0_cx e) st').bind fun nf => K e (denorm (L_markIntS_m3_g0_kx e) st'.n nf)) = L_markIntS_m3_g0 k p v (fun v' => K1 .normal (L_markIntS_m3_g0_tm (p, v'))) (fun x => K (.exit 0) (L_markIntS_m3_g0_x0 p x)) := by kernel_rfl
theorem L_markIntS_m3_g0_ok {ρ : Type} (k : Nat) : Sound Try.prog (.loop b_L_markIntS_m3_0) (LP_L_markIntS_m3 ρ k 0 fun st K => ev (E_L_markIntS_m3 k) (LP_L_markIntS_m3 ρ k) 0 b_L_markIntS_m3_0 st K) :=
  loop_ok (ev_sound (E_L_markIntS_m3_ok k) b_L_markIntS_m3_0 0 (lpgood_none (by kernel_rfl))) L_markIntS_m3_g0_kx L_markIntS_m3_g0_cx k (g := fun p v next K => L_markIntS_m3_g0 k p v next (fun x => K (.exit 0) (L_markIntS_m3_g0_x0 p x))) (dec_at L_markIntS_m3_g0_hd) (fun p v K K1 => L_markIntS_m3_g0_round k p v K K1)
def L_markIntS_m3_args (a : List Int × Int) : List SV := [.own 0, .r [] (.int .i64 a.2)]
def L_markIntS_m3_blks (a : List Int × Int) : List Blk := [.arr none (.int .i64) a.1]
def L_markIntS_m3_argD (l : List SV) (b : List Blk) : Option (List Int × Int) := match l, b with
  | [.own 0, .r [] (.int .i64 w0)], [.arr none (.int .i64) w1] => some (w1, w0)
  | _, _ => none
def L_markIntS_m3_enc (a : List Int × Int) (r : Int × List Int) : MOut := ⟨.r [] (.int .i64 r.1), [some (.arr none (.int .i64) r.2)], []⟩
def L_markIntS_m3_dec (a : List Int × Int) (o : MOut) : Option (Int × List Int) := match o with
  | ⟨.r [] (.int .i64 z1), [some (.arr none (.int .i64) z2)], []⟩ => some (z1, z2)
  | _ => none
def L_markIntS_m3_G (k : Nat) : MG := fun _ l b K => (L_markIntS_m3_argD l b).bind fun a => (L_markIntS_m3 k a.1 a.2).bind fun r => K (L_markIntS_m3_enc a r)
theorem L_markIntS_m3_ev (k : Nat) (a : List Int × Int) : ev (E_L_markIntS_m3 k) (LP_L_markIntS_m3 (Int × List Int) k) 0 c_L_markIntS_m3 (st0M Try.f45 (L_markIntS_m3_args a) (L_markIntS_m3_blks a)) (finM Try.prog Try.f45 (.sc) [.arr] (L_markIntS_m3_dec a)) = L_markIntS_m3 k a.1 a.2 := by kernel_rfl
theorem L_markIntS_m3_ok (k : Nat) : MutOk Try.prog 45 (L_markIntS_m3_G k) :=
  mutOk_of_ev (E_L_markIntS_m3_ok k) Try.func45 (by kernel_rfl) (by kernel_rfl) L_markIntS_m3_args L_markIntS_m3_blks L_markIntS_m3_argD
    (fun l b a h => by unfold L_markIntS_m3_argD at h; split at h <;> first | (cases h; exact ⟨rfl, rfl⟩) | cases h) (fun a => rfl) (lpgood_of (l := [(0, b_L_markIntS_m3_0)]) (by kernel_rfl) ⟨L_markIntS_m3_g0_ok k, trivial⟩) (fun a r => rfl)
    (fun a o r h => by unfold L_markIntS_m3_dec at h; split at h <;> first | (skip; cases h; rfl) | cases h) (L_markIntS_m3_ev k)
def o_L_markIntS_m3 (k : Nat) : Orc := mutOrc [.keep, .keep] (L_markIntS_m3_G k)
theorem o_L_markIntS_m3_ok (k : Nat) : OrcOk Try.prog 45 (o_L_markIntS_m3 k) := mutOrc_ok (L_markIntS_m3_ok k)
/-! ### 64 loop.example/g00778/laws.markTensor -/
noncomputable def E_L_markTensor_m2 (k : Nat) : Env := { P := Try.prog, tt := tt, orc := fun g => cond (Nat.beq g 45) (o_L_markIntS_m3 k) (noOrc), wr := fun g => mem g [45], wt := true }
theorem E_L_markTensor_m2_ok (k : Nat) : EnvOk (E_L_markTensor_m2 k) := fun g => (orc_cond (o_L_markIntS_m3_ok k) (noOrc_ok _ _))
noncomputable def c_L_markTensor_m2 : Code := (Try.f64.body).getD .skip
def LP_L_markTensor_m2 (ρ : Type) (k : Nat) : Nat → Ev ρ → Ev ρ := fun _ _ _ _ => none
def L_markTensor_m2_args (a : Tensor × Int) : List SV := [.agg [.r [] (.int .i64 a.1.sh.h), .r [] (.int .i64 a.1.sh.w), .r [] (.int .i64 a.1.sh.c), .own 0], .r [] (.int .i64 a.2)]
def L_markTensor_m2_blks (a : Tensor × Int) : List Blk := [.arr none (.int .i64) a.1.data]
def L_markTensor_m2_argD (l : List SV) (b : List Blk) : Option (Tensor × Int) := match l, b with
  | [.agg [.r [] (.int .i64 w0), .r [] (.int .i64 w1), .r [] (.int .i64 w2), .own 0], .r [] (.int .i64 w3)], [.arr none (.int .i64) w4] => some ((⟨(⟨w0, w1, w2⟩ : Shape), w4⟩ : Tensor), w3)
  | _, _ => none
def L_markTensor_m2_enc (a : Tensor × Int) (r : Int × List Int) : MOut := ⟨.r [] (.int .i64 r.1), [some (.arr none (.int .i64) r.2)], []⟩
def L_markTensor_m2_dec (a : Tensor × Int) (o : MOut) : Option (Int × List Int) := match o with
  | ⟨.r [] (.int .i64 z1), [some (.arr none (.int .i64) z2)], []⟩ => some (z1, z2)
  | _ => none
def L_markTensor_m2_G (k : Nat) : MG := fun _ l b K => (L_markTensor_m2_argD l b).bind fun a => (L_markTensor_m2 k a.1 a.2).bind fun r => K (L_markTensor_m2_enc a r)
theorem L_markTensor_m2_ev (k : Nat) (a : Tensor × Int) : ev (E_L_markTensor_m2 k) (LP_L_markTensor_m2 (Int × List Int) k) 0 c_L_markTensor_m2 (st0M Try.f64 (L_markTensor_m2_args a) (L_markTensor_m2_blks a)) (finM Try.prog Try.f64 (.sc) [.arr] (L_markTensor_m2_dec a)) = L_markTensor_m2 k a.1 a.2 := by kernel_rfl
theorem L_markTensor_m2_ok (k : Nat) : MutOk Try.prog 64 (L_markTensor_m2_G k) :=
  mutOk_of_ev (E_L_markTensor_m2_ok k) Try.func64 (by kernel_rfl) (by kernel_rfl) L_markTensor_m2_args L_markTensor_m2_blks L_markTensor_m2_argD
    (fun l b a h => by unfold L_markTensor_m2_argD at h; split at h <;> first | (cases h; exact ⟨rfl, rfl⟩) | cases h) (fun a => rfl) (lpgood_none (by kernel_rfl)) (fun a r => rfl)
    (fun a o r h => by unfold L_markTensor_m2_dec at h; split at h <;> first | (skip; cases h; rfl) | cases h) (L_markTensor_m2_ev k)
def o_L_markTensor_m2 (k : Nat) : Orc := mutOrc [.keep, .keep] (L_markTensor_m2_G k)
theorem o_L_markTensor_m2_ok (k : Nat) : OrcOk Try.prog 64 (o_L_markTensor_m2 k) := mutOrc_ok (L_markTensor_m2_ok k)
/-! ### 21 loop.example/g00778/laws.markStep -/
noncomputable def E_L_markStep_m2 (k : Nat) : Env := { P := Try.prog, tt := tt, orc := fun g => cond (Nat.beq g 20) (o_L_markByteS_m3 k) (cond (Nat.beq g 64) (o_L_markTensor_m2 k) (noOrc)), wr := fun g => mem g [20, 64], wt := true }
theorem E_L_markStep_m2_ok (k : Nat) : EnvOk (E_L_markStep_m2 k) := fun g => (orc_cond (o_L_markByteS_m3_ok k) (orc_cond (o_L_markTensor_m2_ok k) (noOrc_ok _ _)))
noncomputable def c_L_markStep_m2 : Code := (Try.f21.body).getD .skip
def LP_L_markStep_m2 (ρ : Type) (k : Nat) : Nat → Ev ρ → Ev ρ := fun _ _ _ _ => none
def L_markStep_m2_args (a : Step × Int) : List SV := [.agg [.r [] (.int .i64 a.1.kind), .r [] (.int .i64 a.1.a), .r [] (.int .i64 a.1.b), .own 0, .r [] (.int .i64 a.1.input.sh.h), .r [] (.int .i64 a.1.input.sh.w), .r [] (.int .i64 a.1.input.sh.c), .own 1], .r [] (.int .i64 a.2)]
def L_markStep_m2_blks (a : Step × Int) : List Blk := [.arr none (.int .u8) a.1.data, .arr none (.int .i64) a.1.input.data]
def L_markStep_m2_argD (l : List SV) (b : List Blk) : Option (Step × Int) := match l, b with
  | [.agg [.r [] (.int .i64 w0), .r [] (.int .i64 w1), .r [] (.int .i64 w2), .own 0, .r [] (.int .i64 w3), .r [] (.int .i64 w4), .r [] (.int .i64 w5), .own 1], .r [] (.int .i64 w6)], [.arr none (.int .u8) w7, .arr none (.int .i64) w8] => some ((⟨w0, w1, w2, w7, (⟨(⟨w3, w4, w5⟩ : Shape), w8⟩ : Tensor)⟩ : Step), w6)
  | _, _ => none
def L_markStep_m2_enc (a : Step × Int) (r : Int × List Int × List Int) : MOut := ⟨.r [] (.int .i64 r.1), [some (.arr none (.int .u8) r.2.1), some (.arr none (.int .i64) r.2.2)], []⟩
def L_markStep_m2_dec (a : Step × Int) (o : MOut) : Option (Int × List Int × List Int) := match o with
  | ⟨.r [] (.int .i64 z1), [some (.arr none (.int .u8) z2), some (.arr none (.int .i64) z3)], []⟩ => some (z1, z2, z3)
  | _ => none
def L_markStep_m2_G (k : Nat) : MG := fun _ l b K => (L_markStep_m2_argD l b).bind fun a => (L_markStep_m2 k a.1 a.2).bind fun r => K (L_markStep_m2_enc a r)
theorem L_markStep_m2_ev (k : Nat) (a : Step × Int) : ev (E_L_markStep_m2 k) (LP_L_markStep_m2 (Int × List Int × List Int) k) 0 c_L_markStep_m2 (st0M Try.f21 (L_markStep_m2_args a) (L_markStep_m2_blks a)) (finM Try.prog Try.f21 (.sc) [.arr, .arr] (L_markStep_m2_dec a)) = L_markStep_m2 k a.1 a.2 := by kernel_rfl
theorem L_markStep_m2_ok (k : Nat) : MutOk Try.prog 21 (L_markStep_m2_G k) :=
  mutOk_of_ev (E_L_markStep_m2_ok k) Try.func21 (by kernel_rfl) (by kernel_rfl) L_markStep_m2_args L_markStep_m2_blks L_markStep_m2_argD
    (fun l b a h => by unfold L_markStep_m2_argD at h; split at h <;> first | (cases h; exact ⟨rfl, rfl⟩) | cases h) (fun a => rfl) (lpgood_none (by kernel_rfl)) (fun a r => rfl)
    (fun a o r h => by unfold L_markStep_m2_dec at h; split at h <;> first | (skip; cases h; rfl) | cases h) (L_markStep_m2_ev k)
def o_L_markStep_m2 (k : Nat) : Orc := mutOrc [.keep, .keep] (L_markStep_m2_G k)
theorem o_L_markStep_m2_ok (k : Nat) : OrcOk Try.prog 21 (o_L_markStep_m2 k) := mutOrc_ok (L_markStep_m2_ok k)
/-! ### 32 loop.example/g00778/laws.heldByteS -/
noncomputable def E_L_heldByteS (k : Nat) : Env := { P := Try.prog, tt := tt, orc := fun g => noOrc }
theorem E_L_heldByteS_ok (k : Nat) : EnvOk (E_L_heldByteS k) := fun g => (noOrc_ok _ _)
noncomputable def c_L_heldByteS : Code := (Try.f32.body).getD .skip
noncomputable def b_L_heldByteS_0 : Code := ((loopsIn 0 c_L_heldByteS).getD 0 (0, .skip)).2
def L_heldByteS_g0_keep : List Nat := [0, 1, 5]
def L_heldByteS_g0_co : List (Where × Co) := []
def L_heldByteS_g0_kx : Ex → List Nat
  | .exit j => cond (Nat.beq j 0) [1] []
  | .ret => [4]
  | .normal => []
def L_heldByteS_g0_cx : Ex → List (Where × Co)
  | .exit j => cond (Nat.beq j 0) [] []
  | .ret => []
  | .normal => []
def L_heldByteS_g0_tm (pv : (List Int) × (Int × Int)) : St := { slots := [(0, .r [] (.sl (.int .u8) pv.1)), (1, .r [] (.int .i64 pv.2.1)), (5, .r [] (.int .i64 pv.2.2))], heap := [], nid := 0, n := 22, gh := [] }
def L_heldByteS_g0_dec (nf : NF) : Option ((List Int) × (Int × Int)) := match nf with
  | ([.r [] (.sl (.int .u8) w0), .r [] (.int .i64 w1), .r [] (.int .i64 w2)], [], []) => some (w0, (w1, w2))
  | _ => none
theorem L_heldByteS_g0_hd (nf : NF) (v : (List Int) × (Int × Int)) (h : L_heldByteS_g0_dec nf = some v) : denorm L_heldByteS_g0_keep 22 nf = L_heldByteS_g0_tm v := by
  unfold L_heldByteS_g0_dec at h
  split at h
  · cases h; rfl
  · cases h
def L_heldByteS_g0_x0 (p : List Int) (x : Int) : St := { slots := [(1, .r [] (.int .i64 x))], heap := [], nid := 0, n := 22, gh := [] }
def L_heldByteS_g0_xret (p : List Int) (x : Int) : St := { slots := [(4, .r [] (.int .i64 x))], heap := [], nid := 0, n := 22, gh := [] }
def LP_L_heldByteS (ρ : Type) (k : Nat) : Nat → Ev ρ → Ev ρ := fun id f => cond (Nat.beq id 0) (loopOrc L_heldByteS_g0_keep L_heldByteS_g0_co (fun n nf => cond (Nat.beq n 22) (L_heldByteS_g0_dec nf) none) fun pv K => iter (fun v next => L_heldByteS_g0 k pv.1 v next (fun x => K (.exit 0) (L_heldByteS_g0_x0 pv.1 x)) (fun x => K .ret (L_heldByteS_g0_xret pv.1 x))) k pv.2) ((fun _ _ _ _ => none) id f)
theorem L_heldByteS_g0_round {ρ : Type} (k : Nat) (p : List Int) (v : Int × Int) (K K1 : Ex → St → Option ρ) : ev (E_L_heldByteS k) (LP_L_heldByteS ρ k) 0 b_L_heldByteS_0 (L_heldByteS_g0_tm (p, v)) (fun e st' => match e with
    | .normal => (normC L_heldByteS_g0_keep L_heldByteS_g0_co st').bind fun nf => K1 .normal (denorm L_heldByteS_g0_keep st'.n nf)
    | e => (normC (L_heldByteS_g0_kx e) (L_heldByteS_g0_cx e) st').bind fun nf => K e (denorm (L_heldByteS_g0_kx e) st'.n nf)) = L_heldByteS_g0 k p v (fun v' => K1 .normal (L_heldByteS_g0_tm (p, v'))) (fun x => K (.exit 0) (L_heldByteS_g0_x0 p x)) (fun x => K .ret (L_heldByteS_g0_xret p x)) := by kernel_rfl
theorem L_heldByteS_g0_ok {ρ : Type} (k : Nat) : Sound Try.prog (.loop b_L_heldByteS_0) (LP_L_heldByteS ρ k 0 fun st K => ev (E_L_heldByteS k) (LP_L_heldByteS ρ k) 0 b_L_heldByteS_0 st K) :=
  loop_ok (ev_sound (E_L_heldByteS_ok k) b_L_heldByteS_0 0 (lpgood_none (by kernel_rfl))) L_heldByteS_g0_kx L_heldByteS_g0_cx k (g := fun p v next K => L_heldByteS_g0 k p v next (fun x => K (.exit 0) (L_heldByteS_g0_x0 p x)) (fun x => K .ret (L_heldByteS_g0_xret p x))) (dec_at L_heldByteS_g0_hd) (fun p v K K1 => L_heldByteS_g0_round k p v K K1)
def L_heldByteS_args (a : List Int × Int) : List Arg := [.one (.sl (.int .u8) a.1), .one (.int .i64 a.2)]
def L_heldByteS_argD (l : List Arg) : Option (List Int × Int) := match l with
  | [.one (.sl (.int .u8) b0), .one (.int .i64 b1)] => some (b0, b1)
  | _ => none
def L_heldByteS_enc (r : Int) : Out := (.r [] (.int .i64 r), [])
def L_heldByteS_dec (o : Out) : Option (Int) := match o with
  | (.r [] (.int .i64 z1), []) => some z1
  | _ => none
def L_heldByteS_G (k : Nat) : PG := fun _ l K => (L_heldByteS_argD l).bind fun a => (L_heldByteS k a.1 a.2).bind fun r => K (L_heldByteS_enc r)
theorem L_heldByteS_ev (k : Nat) (a : List Int × Int) : ev (E_L_heldByteS k) (LP_L_heldByteS (Int) k) 0 c_L_heldByteS (st0 Try.f32 (L_heldByteS_args a)) (fin Try.prog Try.f32 (.sc) L_heldByteS_dec) = L_heldByteS k a.1 a.2 := by kernel_rfl
theorem L_heldByteS_ok (k : Nat) : PureOk Try.prog 32 (L_heldByteS_G k) :=
  pureOk_of_ev (E_L_heldByteS_ok k) Try.func32 (by kernel_rfl) (by kernel_rfl) L_heldByteS_args L_heldByteS_argD
    (fun l a h => by unfold L_heldByteS_argD at h; split at h <;> first | (cases h; rfl) | cases h) (fun a => rfl) (lpgood_of (l := [(0, b_L_heldByteS_0)]) (by kernel_rfl) ⟨L_heldByteS_g0_ok k, trivial⟩)
    (fun o r h => by unfold L_heldByteS_dec at h; split at h <;> first | (cases h; rfl) | cases h) (L_heldByteS_ev k)
def o_L_heldByteS (k : Nat) : Orc := pureOrc [.one (.sl (.int .u8)), .one (.int .i64)] (L_heldByteS_G k)
theorem o_L_heldByteS_ok (k : Nat) : OrcOk Try.prog 32 (o_L_heldByteS k) := pureOrc_ok (L_heldByteS_ok k)
/-! ### 57 loop.example/g00778/laws.heldIntS -/
noncomputable def E_L_heldIntS (k : Nat) : Env := { P := Try.prog, tt := tt, orc := fun g => noOrc }
theorem E_L_heldIntS_ok (k : Nat) : EnvOk (E_L_heldIntS k) := fun g => (noOrc_ok _ _)
noncomputable def c_L_heldIntS : Code := (Try.f57.body).getD .skip
noncomputable def b_L_heldIntS_0 : Code := ((loopsIn 0 c_L_heldIntS).getD 0 (0, .skip)).2
def L_heldIntS_g0_keep : List Nat := [0, 1, 5]
def L_heldIntS_g0_co : List (Where × Co) := []
def L_heldIntS_g0_kx : Ex → List Nat
  | .exit j => cond (Nat.beq j 0) [1] []
  | .ret => [4]
  | .normal => []
def L_heldIntS_g0_cx : Ex → List (Where × Co)
  | .exit j => cond (Nat.beq j 0) [] []
  | .ret => []
  | .normal => []
def L_heldIntS_g0_tm (pv : (List Int) × (Int × Int)) : St := { slots := [(0, .r [] (.sl (.int .i64) pv.1)), (1, .r [] (.int .i64 pv.2.1)), (5, .r [] (.int .i64 pv.2.2))], heap := [], nid := 0, n := 21, gh := [] }
def L_heldIntS_g0_dec (nf : NF) : Option ((List Int) × (Int × Int)) := match nf with
  | ([.r [] (.sl (.int .i64) w0), .r [] (.int .i64 w1), .r [] (.int .i64 w2)], [], []) => some (w0, (w1, w2))
  | _ => none
theorem L_heldIntS_g0_hd (nf : NF) (v : (List Int) × (Int × Int)) (h : L_heldIntS_g0_dec nf = some v) : denorm L_heldIntS_g0_keep 21 nf = L_heldIntS_g0_tm v := by
  unfold L_heldIntS_g0_dec at h
  split at h
  · cases h; rfl
  · cases h
def L_heldIntS_g0_x0 (p : List Int) (x : Int) : St := { slots := [(1, .r [] (.int .i64 x))], heap := [], nid := 0, n := 21, gh := [] }
def L_heldIntS_g0_xret (p : List Int) (x : Int) : St := { slots := [(4, .r [] (.int .i64 x))], heap := [], nid := 0, n := 21, gh := [] }
def LP_L_heldIntS (ρ : Type) (k : Nat) : Nat → Ev ρ → Ev ρ := fun id f => cond (Nat.beq id 0) (loopOrc L_heldIntS_g0_keep L_heldIntS_g0_co (fun n nf => cond (Nat.beq n 21) (L_heldIntS_g0_dec nf) none) fun pv K => iter (fun v next => L_heldIntS_g0 k pv.1 v next (fun x => K (.exit 0) (L_heldIntS_g0_x0 pv.1 x)) (fun x => K .ret (L_heldIntS_g0_xret pv.1 x))) k pv.2) ((fun _ _ _ _ => none) id f)
theorem L_heldIntS_g0_round {ρ : Type} (k : Nat) (p : List Int) (v : Int × Int) (K K1 : Ex → St → Option ρ) : ev (E_L_heldIntS k) (LP_L_heldIntS ρ k) 0 b_L_heldIntS_0 (L_heldIntS_g0_tm (p, v)) (fun e st' => match e with
    | .normal => (normC L_heldIntS_g0_keep L_heldIntS_g0_co st').bind fun nf => K1 .normal (denorm L_heldIntS_g0_keep st'.n nf)
    | e => (normC (L_heldIntS_g0_kx e) (L_heldIntS_g0_cx e) st').bind fun nf => K e (denorm (L_heldIntS_g0_kx e) st'.n nf)) = L_heldIntS_g0 k p v (fun v' => K1 .normal (L_heldIntS_g0_tm (p, v'))) (fun x => K (.exit 0) (L_heldIntS_g0_x0 p x)) (fun x => K .ret (L_heldIntS_g0_xret p x)) := by kernel_rfl
theorem L_heldIntS_g0_ok {ρ : Type} (k : Nat) : Sound Try.prog (.loop b_L_heldIntS_0) (LP_L_heldIntS ρ k 0 fun st K => ev (E_L_heldIntS k) (LP_L_heldIntS ρ k) 0 b_L_heldIntS_0 st K) :=
  loop_ok (ev_sound (E_L_heldIntS_ok k) b_L_heldIntS_0 0 (lpgood_none (by kernel_rfl))) L_heldIntS_g0_kx L_heldIntS_g0_cx k (g := fun p v next K => L_heldIntS_g0 k p v next (fun x => K (.exit 0) (L_heldIntS_g0_x0 p x)) (fun x => K .ret (L_heldIntS_g0_xret p x))) (dec_at L_heldIntS_g0_hd) (fun p v K K1 => L_heldIntS_g0_round k p v K K1)
def L_heldIntS_args (a : List Int × Int) : List Arg := [.one (.sl (.int .i64) a.1), .one (.int .i64 a.2)]
def L_heldIntS_argD (l : List Arg) : Option (List Int × Int) := match l with
  | [.one (.sl (.int .i64) b0), .one (.int .i64 b1)] => some (b0, b1)
  | _ => none
def L_heldIntS_enc (r : Int) : Out := (.r [] (.int .i64 r), [])
def L_heldIntS_dec (o : Out) : Option (Int) := match o with
  | (.r [] (.int .i64 z1), []) => some z1
  | _ => none
def L_heldIntS_G (k : Nat) : PG := fun _ l K => (L_heldIntS_argD l).bind fun a => (L_heldIntS k a.1 a.2).bind fun r => K (L_heldIntS_enc r)
theorem L_heldIntS_ev (k : Nat) (a : List Int × Int) : ev (E_L_heldIntS k) (LP_L_heldIntS (Int) k) 0 c_L_heldIntS (st0 Try.f57 (L_heldIntS_args a)) (fin Try.prog Try.f57 (.sc) L_heldIntS_dec) = L_heldIntS k a.1 a.2 := by kernel_rfl
theorem L_heldIntS_ok (k : Nat) : PureOk Try.prog 57 (L_heldIntS_G k) :=
  pureOk_of_ev (E_L_heldIntS_ok k) Try.func57 (by kernel_rfl) (by kernel_rfl) L_heldIntS_args L_heldIntS_argD
    (fun l a h => by unfold L_heldIntS_argD at h; split at h <;> first | (cases h; rfl) | cases h) (fun a => rfl) (lpgood_of (l := [(0, b_L_heldIntS_0)]) (by kernel_rfl) ⟨L_heldIntS_g0_ok k, trivial⟩)
    (fun o r h => by unfold L_heldIntS_dec at h; split at h <;> first | (cases h; rfl) | cases h) (L_heldIntS_ev k)
def o_L_heldIntS (k : Nat) : Orc := pureOrc [.one (.sl (.int .i64)), .one (.int .i64)] (L_heldIntS_G k)
theorem o_L_heldIntS_ok (k : Nat) : OrcOk Try.prog 57 (o_L_heldIntS k) := pureOrc_ok (L_heldIntS_ok k)
/-! ### 86 loop.example/g00778/laws.heldTensor -/
noncomputable def E_L_heldTensor (k : Nat) : Env := { P := Try.prog, tt := tt, orc := fun g => cond (Nat.beq g 57) (o_L_heldIntS k) (noOrc) }
theorem E_L_heldTensor_ok (k : Nat) : EnvOk (E_L_heldTensor k) := fun g => (orc_cond (o_L_heldIntS_ok k) (noOrc_ok _ _))
noncomputable def c_L_heldTensor : Code := (Try.f86.body).getD .skip
def LP_L_heldTensor (ρ : Type) (k : Nat) : Nat → Ev ρ → Ev ρ := fun _ _ _ _ => none
def L_heldTensor_args (a : Tensor × Int) : List Arg := [.agg [.int .i64 a.1.sh.h, .int .i64 a.1.sh.w, .int .i64 a.1.sh.c, .sl (.int .i64) a.1.data], .one (.int .i64 a.2)]
def L_heldTensor_argD (l : List Arg) : Option (Tensor × Int) := match l with
  | [.agg [.int .i64 b0_0, .int .i64 b0_1, .int .i64 b0_2, .sl (.int .i64) b0_3], .one (.int .i64 b1)] => some ((⟨(⟨b0_0, b0_1, b0_2⟩ : Shape), b0_3⟩ : Tensor), b1)
  | _ => none
def L_heldTensor_enc (r : Int) : Out := (.r [] (.int .i64 r), [])
def L_heldTensor_dec (o : Out) : Option (Int) := match o with
  | (.r [] (.int .i64 z1), []) => some z1
  | _ => none
def L_heldTensor_G (k : Nat) : PG := fun _ l K => (L_heldTensor_argD l).bind fun a => (L_heldTensor k a.1 a.2).bind fun r => K (L_heldTensor_enc r)
theorem L_heldTensor_ev (k : Nat) (a : Tensor × Int) : ev (E_L_heldTensor k) (LP_L_heldTensor (Int) k) 0 c_L_heldTensor (st0 Try.f86 (L_heldTensor_args a)) (fin Try.prog Try.f86 (.sc) L_heldTensor_dec) = L_heldTensor k a.1 a.2 := by kernel_rfl
theorem L_heldTensor_ok (k : Nat) : PureOk Try.prog 86 (L_heldTensor_G k) :=
  pureOk_of_ev (E_L_heldTensor_ok k) Try.func86 (by kernel_rfl) (by kernel_rfl) L_heldTensor_args L_heldTensor_argD
    (fun l a h => by unfold L_heldTensor_argD at h; split at h <;> first | (cases h; rfl) | cases h) (fun a => rfl) (lpgood_none (by kernel_rfl))
    (fun o r h => by unfold L_heldTensor_dec at h; split at h <;> first | (cases h; rfl) | cases h) (L_heldTensor_ev k)
def o_L_heldTensor (k : Nat) : Orc := pureOrc [.agg [(.int .i64), (.int .i64), (.int .i64), (.sl (.int .i64))], .one (.int .i64)] (L_heldTensor_G k)
theorem o_L_heldTensor_ok (k : Nat) : OrcOk Try.prog 86 (o_L_heldTensor k) := pureOrc_ok (L_heldTensor_ok k)
/-! ### 22 loop.example/g00778/laws.heldStep -/
noncomputable def E_L_heldStep (k : Nat) : Env := { P := Try.prog, tt := tt, orc := fun g => cond (Nat.beq g 32) (o_L_heldByteS k) (cond (Nat.beq g 86) (o_L_heldTensor k) (noOrc)) }
theorem E_L_heldStep_ok (k : Nat) : EnvOk (E_L_heldStep k) := fun g => (orc_cond (o_L_heldByteS_ok k) (orc_cond (o_L_heldTensor_ok k) (noOrc_ok _ _)))
noncomputable def c_L_heldStep : Code := (Try.f22.body).getD .skip
def LP_L_heldStep (ρ : Type) (k : Nat) : Nat → Ev ρ → Ev ρ := fun _ _ _ _ => none
def L_heldStep_args (a : Step × Int) : List Arg := [.agg [.int .i64 a.1.kind, .int .i64 a.1.a, .int .i64 a.1.b, .sl (.int .u8) a.1.data, .int .i64 a.1.input.sh.h, .int .i64 a.1.input.sh.w, .int .i64 a.1.input.sh.c, .sl (.int .i64) a.1.input.data], .one (.int .i64 a.2)]
def L_heldStep_argD (l : List Arg) : Option (Step × Int) := match l with
  | [.agg [.int .i64 b0_0, .int .i64 b0_1, .int .i64 b0_2, .sl (.int .u8) b0_3, .int .i64 b0_4, .int .i64 b0_5, .int .i64 b0_6, .sl (.int .i64) b0_7], .one (.int .i64 b1)] => some ((⟨b0_0, b0_1, b0_2, b0_3, (⟨(⟨b0_4, b0_5, b0_6⟩ : Shape), b0_7⟩ : Tensor)⟩ : Step), b1)
  | _ => none
def L_heldStep_enc (r : Int) : Out := (.r [] (.int .i64 r), [])
def L_heldStep_dec (o : Out) : Option (Int) := match o with
  | (.r [] (.int .i64 z1), []) => some z1
  | _ => none
def L_heldStep_G (k : Nat) : PG := fun _ l K => (L_heldStep_argD l).bind fun a => (L_heldStep k a.1 a.2).bind fun r => K (L_heldStep_enc r)
theorem L_heldStep_ev (k : Nat) (a : Step × Int) : ev (E_L_heldStep k) (LP_L_heldStep (Int) k) 0 c_L_heldStep (st0 Try.f22 (L_heldStep_args a)) (fin Try.prog Try.f22 (.sc) L_heldStep_dec) = L_heldStep k a.1 a.2 := by kernel_rfl
theorem L_heldStep_ok (k : Nat) : PureOk Try.prog 22 (L_heldStep_G k) :=
  pureOk_of_ev (E_L_heldStep_ok k) Try.func22 (by kernel_rfl) (by kernel_rfl) L_heldStep_args L_heldStep_argD
    (fun l a h => by unfold L_heldStep_argD at h; split at h <;> first | (cases h; rfl) | cases h) (fun a => rfl) (lpgood_none (by kernel_rfl))
    (fun o r h => by unfold L_heldStep_dec at h; split at h <;> first | (cases h; rfl) | cases h) (L_heldStep_ev k)
def o_L_heldStep (k : Nat) : Orc := pureOrc [.agg [(.int .i64), (.int .i64), (.int .i64), (.sl (.int .u8)), (.int .i64), (.int .i64), (.int .i64), (.sl (.int .i64))], .one (.int .i64)] (L_heldStep_G k)
theorem o_L_heldStep_ok (k : Nat) : OrcOk Try.prog 22 (o_L_heldStep k) := pureOrc_ok (L_heldStep_ok k)
/-! ### 3 loop.example/g00778/laws.FnExactTakeStep -/
noncomputable def E_L_FnExactTakeStep (k : Nat) : Env := { P := Try.prog, tt := tt, orc := fun g => cond (Nat.beq g 15) (o_S_TakeStep k) (cond (Nat.beq g 16) (o_L_toByteS k) (cond (Nat.beq g 17) (o_I_TakeStep k) (cond (Nat.beq g 18) (o_L_eqStep k) (cond (Nat.beq g 19) (o_L_eqByteS k) (cond (Nat.beq g 20) (o_L_markByteS_m3 k) (cond (Nat.beq g 21) (o_L_markStep_m2 k) (cond (Nat.beq g 22) (o_L_heldStep k) (noOrc)))))))), wr := fun g => mem g [20, 21], wt := true }
theorem E_L_FnExactTakeStep_ok (k : Nat) : EnvOk (E_L_FnExactTakeStep k) := fun g => (orc_cond (o_S_TakeStep_ok k) (orc_cond (o_L_toByteS_ok k) (orc_cond (o_I_TakeStep_ok k) (orc_cond (o_L_eqStep_ok k) (orc_cond (o_L_eqByteS_ok k) (orc_cond (o_L_markByteS_m3_ok k) (orc_cond (o_L_markStep_m2_ok k) (orc_cond (o_L_heldStep_ok k) (noOrc_ok _ _)))))))))
noncomputable def c_L_FnExactTakeStep : Code := (Try.f3.body).getD .skip
def LP_L_FnExactTakeStep (ρ : Type) (k : Nat) : Nat → Ev ρ → Ev ρ := fun _ _ _ _ => none
def L_FnExactTakeStep_args (a : List Int × Int) : List Arg := [.one (.sl (.int .u8) a.1), .one (.int .i64 a.2)]
def L_FnExactTakeStep_argD (l : List Arg) : Option (List Int × Int) := match l with
  | [.one (.sl (.int .u8) b0), .one (.int .i64 b1)] => some (b0, b1)
  | _ => none
def L_FnExactTakeStep_enc (r : Bool) : Out := (.r [] (.bool r), [])
def L_FnExactTakeStep_dec (o : Out) : Option (Bool) := match o with
  | (.r [] (.bool z1), []) => some z1
  | _ => none
def L_FnExactTakeStep_G (k : Nat) : PG := fun _ l K => (L_FnExactTakeStep_argD l).bind fun a => (L_FnExactTakeStep k a.1 a.2).bind fun r => K (L_FnExactTakeStep_enc r)
theorem L_FnExactTakeStep_ev (k : Nat) (a : List Int × Int) : ev (E_L_FnExactTakeStep k) (LP_L_FnExactTakeStep (Bool) k) 0 c_L_FnExactTakeStep (st0 Try.f3 (L_FnExactTakeStep_args a)) (fin Try.prog Try.f3 (.sc) L_FnExactTakeStep_dec) = L_FnExactTakeStep k a.1 a.2 := by kernel_rfl
theorem L_FnExactTakeStep_ok (k : Nat) : PureOk Try.prog 3 (L_FnExactTakeStep_G k) :=
  pureOk_of_ev (E_L_FnExactTakeStep_ok k) Try.func3 (by kernel_rfl) (by kernel_rfl) L_FnExactTakeStep_args L_FnExactTakeStep_argD
    (fun l a h => by unfold L_FnExactTakeStep_argD at h; split at h <;> first | (cases h; rfl) | cases h) (fun a => rfl) (lpgood_none (by kernel_rfl))
    (fun o r h => by unfold L_FnExactTakeStep_dec at h; split at h <;> first | (cases h; rfl) | cases h) (L_FnExactTakeStep_ev k)
def o_L_FnExactTakeStep (k : Nat) : Orc := pureOrc [.one (.sl (.int .u8)), .one (.int .i64)] (L_FnExactTakeStep_G k)
theorem o_L_FnExactTakeStep_ok (k : Nat) : OrcOk Try.prog 3 (o_L_FnExactTakeStep k) := pureOrc_ok (L_FnExactTakeStep_ok k)
end
end Go.Proofs.Ev
