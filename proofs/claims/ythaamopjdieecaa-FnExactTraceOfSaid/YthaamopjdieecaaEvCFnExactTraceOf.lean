/- Text of this claim. -/
import Derived.Test.YthaamopjdieecaaEvK6
import Derived.Test.YthaamopjdieecaaProg
import Derived.Test.YthaamopjdieecaaEvD1
import Derived.Test.YthaamopjdieecaaEvD12
import Derived.Test.YthaamopjdieecaaEvD3
import Derived.Test.YthaamopjdieecaaEvD4
set_option linter.unusedVariables false
set_option linter.unusedSimpArgs false
set_option linter.unusedVariables false
set_option linter.unusedSimpArgs false
set_option maxRecDepth 100000
set_option maxHeartbeats 4000000
namespace Go.Proofs.Ev
noncomputable section
variable [Tok]
set_option linter.unusedSectionVars false
def tt : TT := look [(2, (.int .i64)), (3, (.int .i64)), (4, .bool), (5, (.int .u8)), (6, (.int .u8)), (9, .str), (10, .str), (11, .str), (12, (.int .u64)), (21, (.int .i32)), (22, (.sl (.int .u8))), (24, (.st .shape)), (25, (.sl (.int .i64))), (27, (.st .tensor)), (29, (.st .step)), (33, (.st .shape)), (35, (.st .tensor)), (37, (.st .step)), (44, (.sl (.st .step))), (47, (.sl (.st .step))), (53, (.sl (.st .task))), (64, (.sl (.sl (.int .i64)))), (74, (.st .task)), (76, (.sl (.st .layer))), (78, (.st .model)), (80, (.sl (.st .layer))), (82, (.st .model)), (90, (.sl (.st .tensor))), (102, (.sl (.st .wish))), (106, (.sl (.st .wish))), (126, (.sl (.st .shape))), (163, (.st .layer)), (179, (.st .wish)), (181, (.st .wish)), (202, (.int .u64)), (214, (.st .layer)), (219, (.sl (.sl (.st .layer)))), (258, (.int .u32)), (259, (.int .u8)), (260, (.int .u8)), (263, (.int .i32)), (264, (.int .i32))]
noncomputable def ya (k : Nat) : Env := { P := Try.prog, tt := tt, orc := fun g => noOrc }
theorem yb (k : Nat) : EnvOk (ya k) := fun g => (noOrc_ok _ _)
noncomputable def yc : Code := (Try.f97.body).getD .skip
def yd (ρ : Type) (k : Nat) : Nat → Ev ρ → Ev ρ := fun _ _ _ _ => none
def ye (a : List Int × Int) : List Arg := [.one (.sl (.int .u8) a.1), .one (.int .i64 a.2)]
def yf (l : List Arg) : Option (List Int × Int) := match l with
  | [.one (.sl (.int .u8) b0), .one (.int .i64 b1)] => some (b0, b1)
  | _ => none
def yg (r : Int) : Out := (.r [] (.int .i64 r), [])
def yh (o : Out) : Option (Int) := match o with
  | (.r [] (.int .i64 z1), []) => some z1
  | _ => none
def yi (k : Nat) : PG := fun _ l K => (yf l).bind fun a => (L_szByteS k a.1 a.2).bind fun r => K (yg r)
theorem yj (k : Nat) (a : List Int × Int) : ev (ya k) (yd (Int) k) 0 yc (st0 Try.f97 (ye a)) (fin Try.prog Try.f97 (.sc) yh) = L_szByteS k a.1 a.2 := by kernel_rfl
theorem yk (k : Nat) : PureOk Try.prog 97 (yi k) :=
  pureOk_of_ev (yb k) Try.func97 (by kernel_rfl) (by kernel_rfl) ye yf
    (fun l a h => by unfold yf at h; split at h <;> first | (cases h; rfl) | cases h) (fun a => rfl) (lpgood_none (by kernel_rfl))
    (fun o r h => by unfold yh at h; split at h <;> first | (cases h; rfl) | cases h) (yj k)
def yl (k : Nat) : Orc := pureOrc [.one (.sl (.int .u8)), .one (.int .i64)] (yi k)
theorem ym (k : Nat) : OrcOk Try.prog 97 (yl k) := pureOrc_ok (yk k)
noncomputable def yn (k : Nat) : Env := { P := Try.prog, tt := tt, orc := fun g => noOrc }
theorem yo (k : Nat) : EnvOk (yn k) := fun g => (noOrc_ok _ _)
noncomputable def yp : Code := (Try.f155.body).getD .skip
def yq (ρ : Type) (k : Nat) : Nat → Ev ρ → Ev ρ := fun _ _ _ _ => none
def yr (a : List Int × Int) : List Arg := [.one (.sl (.int .i64) a.1), .one (.int .i64 a.2)]
def yt (l : List Arg) : Option (List Int × Int) := match l with
  | [.one (.sl (.int .i64) b0), .one (.int .i64 b1)] => some (b0, b1)
  | _ => none
def yu (r : Int) : Out := (.r [] (.int .i64 r), [])
def yv (o : Out) : Option (Int) := match o with
  | (.r [] (.int .i64 z1), []) => some z1
  | _ => none
def yw (k : Nat) : PG := fun _ l K => (yt l).bind fun a => (L_szIntS k a.1 a.2).bind fun r => K (yu r)
theorem yx (k : Nat) (a : List Int × Int) : ev (yn k) (yq (Int) k) 0 yp (st0 Try.f155 (yr a)) (fin Try.prog Try.f155 (.sc) yv) = L_szIntS k a.1 a.2 := by kernel_rfl
theorem yy (k : Nat) : PureOk Try.prog 155 (yw k) :=
  pureOk_of_ev (yo k) Try.func155 (by kernel_rfl) (by kernel_rfl) yr yt
    (fun l a h => by unfold yt at h; split at h <;> first | (cases h; rfl) | cases h) (fun a => rfl) (lpgood_none (by kernel_rfl))
    (fun o r h => by unfold yv at h; split at h <;> first | (cases h; rfl) | cases h) (yx k)
def yz (k : Nat) : Orc := pureOrc [.one (.sl (.int .i64)), .one (.int .i64)] (yw k)
theorem y10 (k : Nat) : OrcOk Try.prog 155 (yz k) := pureOrc_ok (yy k)
noncomputable def y13 (k : Nat) : Env := { P := Try.prog, tt := tt, orc := fun g => cond (Nat.beq g 155) (yz k) (noOrc) }
theorem y15 (k : Nat) : EnvOk (y13 k) := fun g => (orc_cond (y10 k) (noOrc_ok _ _))
noncomputable def y16 : Code := (Try.f54.body).getD .skip
def y17 (ρ : Type) (k : Nat) : Nat → Ev ρ → Ev ρ := fun _ _ _ _ => none
def y18 (a : Tensor × Int) : List Arg := [.agg [.int .i64 a.1.sh.h, .int .i64 a.1.sh.w, .int .i64 a.1.sh.c, .sl (.int .i64) a.1.data], .one (.int .i64 a.2)]
def y19 (l : List Arg) : Option (Tensor × Int) := match l with
  | [.agg [.int .i64 b0_0, .int .i64 b0_1, .int .i64 b0_2, .sl (.int .i64) b0_3], .one (.int .i64 b1)] => some ((⟨(⟨b0_0, b0_1, b0_2⟩ : Shape), b0_3⟩ : Tensor), b1)
  | _ => none
def y1a (r : Int) : Out := (.r [] (.int .i64 r), [])
def y1b (o : Out) : Option (Int) := match o with
  | (.r [] (.int .i64 z1), []) => some z1
  | _ => none
def y1c (k : Nat) : PG := fun _ l K => (y19 l).bind fun a => (L_szTensor k a.1 a.2).bind fun r => K (y1a r)
theorem y1d (k : Nat) (a : Tensor × Int) : ev (y13 k) (y17 (Int) k) 0 y16 (st0 Try.f54 (y18 a)) (fin Try.prog Try.f54 (.sc) y1b) = L_szTensor k a.1 a.2 := by kernel_rfl
theorem y1e (k : Nat) : PureOk Try.prog 54 (y1c k) :=
  pureOk_of_ev (y15 k) Try.func54 (by kernel_rfl) (by kernel_rfl) y18 y19
    (fun l a h => by unfold y19 at h; split at h <;> first | (cases h; rfl) | cases h) (fun a => rfl) (lpgood_none (by kernel_rfl))
    (fun o r h => by unfold y1b at h; split at h <;> first | (cases h; rfl) | cases h) (y1d k)
def y1f (k : Nat) : Orc := pureOrc [.agg [(.int .i64), (.int .i64), (.int .i64), (.sl (.int .i64))], .one (.int .i64)] (y1c k)
theorem y1g (k : Nat) : OrcOk Try.prog 54 (y1f k) := pureOrc_ok (y1e k)
noncomputable def y1h (k : Nat) : Env := { P := Try.prog, tt := tt, orc := fun g => cond (Nat.beq g 54) (y1f k) (cond (Nat.beq g 97) (yl k) (noOrc)) }
theorem y1i (k : Nat) : EnvOk (y1h k) := fun g => (orc_cond (y1g k) (orc_cond (ym k) (noOrc_ok _ _)))
noncomputable def y1j : Code := (Try.f14.body).getD .skip
def y1k (ρ : Type) (k : Nat) : Nat → Ev ρ → Ev ρ := fun _ _ _ _ => none
def y1l (a : Step × Int) : List Arg := [.agg [.int .i64 a.1.kind, .int .i64 a.1.a, .int .i64 a.1.b, .sl (.int .u8) a.1.data, .int .i64 a.1.input.sh.h, .int .i64 a.1.input.sh.w, .int .i64 a.1.input.sh.c, .sl (.int .i64) a.1.input.data], .one (.int .i64 a.2)]
def y1m (l : List Arg) : Option (Step × Int) := match l with
  | [.agg [.int .i64 b0_0, .int .i64 b0_1, .int .i64 b0_2, .sl (.int .u8) b0_3, .int .i64 b0_4, .int .i64 b0_5, .int .i64 b0_6, .sl (.int .i64) b0_7], .one (.int .i64 b1)] => some ((⟨b0_0, b0_1, b0_2, b0_3, (⟨(⟨b0_4, b0_5, b0_6⟩ : Shape), b0_7⟩ : Tensor)⟩ : Step), b1)
  | _ => none
def y1n (r : Int) : Out := (.r [] (.int .i64 r), [])
def y1o (o : Out) : Option (Int) := match o with
  | (.r [] (.int .i64 z1), []) => some z1
  | _ => none
def y1p (k : Nat) : PG := fun _ l K => (y1m l).bind fun a => (L_szStep k a.1 a.2).bind fun r => K (y1n r)
theorem y1q (k : Nat) (a : Step × Int) : ev (y1h k) (y1k (Int) k) 0 y1j (st0 Try.f14 (y1l a)) (fin Try.prog Try.f14 (.sc) y1o) = L_szStep k a.1 a.2 := by kernel_rfl
theorem y1r (k : Nat) : PureOk Try.prog 14 (y1p k) :=
  pureOk_of_ev (y1i k) Try.func14 (by kernel_rfl) (by kernel_rfl) y1l y1m
    (fun l a h => by unfold y1m at h; split at h <;> first | (cases h; rfl) | cases h) (fun a => rfl) (lpgood_none (by kernel_rfl))
    (fun o r h => by unfold y1o at h; split at h <;> first | (cases h; rfl) | cases h) (y1q k)
def y1s (k : Nat) : Orc := pureOrc [.agg [(.int .i64), (.int .i64), (.int .i64), (.sl (.int .u8)), (.int .i64), (.int .i64), (.int .i64), (.sl (.int .i64))], .one (.int .i64)] (y1p k)
theorem y1t (k : Nat) : OrcOk Try.prog 14 (y1s k) := pureOrc_ok (y1r k)
noncomputable def y1u (k : Nat) : Env := { P := Try.prog, tt := tt, orc := fun g => cond (Nat.beq g 14) (y1s k) (noOrc) }
theorem y1v (k : Nat) : EnvOk (y1u k) := fun g => (orc_cond (y1t k) (noOrc_ok _ _))
noncomputable def y1w : Code := (Try.f23.body).getD .skip
noncomputable def y1x : Code := ((loopsIn 0 y1w).getD 0 (0, .skip)).2
def y1y : List Nat := [0, 1, 5]
def y1z : List (Where × Co) := []
def y20 : Ex → List Nat
  | .exit j => cond (Nat.beq j 0) [1] []
  | .ret => [4]
  | .normal => []
def y21 : Ex → List (Where × Co)
  | .exit j => cond (Nat.beq j 0) [] []
  | .ret => []
  | .normal => []
def y22 (pv : (List Step) × (Int × Int)) : St := { slots := [(0, .r [] (.sl (.st .step) pv.1)), (1, .r [] (.int .i64 pv.2.1)), (5, .r [] (.int .i64 pv.2.2))], heap := [], nid := 0, n := 27, gh := [] }
def y23 (nf : NF) : Option ((List Step) × (Int × Int)) := match nf with
  | ([.r [] (.sl (.st .step) w0), .r [] (.int .i64 w1), .r [] (.int .i64 w2)], [], []) => some (w0, (w1, w2))
  | _ => none
theorem y24 (nf : NF) (v : (List Step) × (Int × Int)) (h : y23 nf = some v) : denorm y1y 27 nf = y22 v := by
  unfold y23 at h
  split at h
  · cases h; rfl
  · cases h
def y25 (p : List Step) (x : Int) : St := { slots := [(1, .r [] (.int .i64 x))], heap := [], nid := 0, n := 27, gh := [] }
def y26 (p : List Step) (x : Int) : St := { slots := [(4, .r [] (.int .i64 x))], heap := [], nid := 0, n := 27, gh := [] }
def y27 (ρ : Type) (k : Nat) : Nat → Ev ρ → Ev ρ := fun id f => cond (Nat.beq id 0) (loopOrc y1y y1z (fun n nf => cond (Nat.beq n 27) (y23 nf) none) fun pv K => iter (fun v next => L_szStepS_g0 k pv.1 v next (fun x => K (.exit 0) (y25 pv.1 x)) (fun x => K .ret (y26 pv.1 x))) k pv.2) ((fun _ _ _ _ => none) id f)
theorem y28 {ρ : Type} (k : Nat) (p : List Step) (v : Int × Int) (K K1 : Ex → St → Option ρ) : ev (y1u k) (y27 ρ k) 0 y1x (y22 (p, v)) (fun e st' => match e with
    | .normal => (normC y1y y1z st').bind fun nf => K1 .normal (denorm y1y st'.n nf)
    | e => (normC (y20 e) (y21 e) st').bind fun nf => K e (denorm (y20 e) st'.n nf)) = L_szStepS_g0 k p v (fun v' => K1 .normal (y22 (p, v'))) (fun x => K (.exit 0) (y25 p x)) (fun x => K .ret (y26 p x)) := by kernel_rfl
theorem y29 {ρ : Type} (k : Nat) : Sound Try.prog (.loop y1x) (y27 ρ k 0 fun st K => ev (y1u k) (y27 ρ k) 0 y1x st K) :=
  loop_ok (ev_sound (y1v k) y1x 0 (lpgood_none (by kernel_rfl))) y20 y21 k (g := fun p v next K => L_szStepS_g0 k p v next (fun x => K (.exit 0) (y25 p x)) (fun x => K .ret (y26 p x))) (dec_at y24) (fun p v K K1 => y28 k p v K K1)
def y2a (a : List Step × Int) : List Arg := [.one (.sl (.st .step) a.1), .one (.int .i64 a.2)]
def y2b (l : List Arg) : Option (List Step × Int) := match l with
  | [.one (.sl (.st .step) b0), .one (.int .i64 b1)] => some (b0, b1)
  | _ => none
def y2c (r : Int) : Out := (.r [] (.int .i64 r), [])
def y2d (o : Out) : Option (Int) := match o with
  | (.r [] (.int .i64 z1), []) => some z1
  | _ => none
def y2e (k : Nat) : PG := fun _ l K => (y2b l).bind fun a => (L_szStepS k a.1 a.2).bind fun r => K (y2c r)
theorem y2f (k : Nat) (a : List Step × Int) : ev (y1u k) (y27 (Int) k) 0 y1w (st0 Try.f23 (y2a a)) (fin Try.prog Try.f23 (.sc) y2d) = L_szStepS k a.1 a.2 := by kernel_rfl
theorem y2g (k : Nat) : PureOk Try.prog 23 (y2e k) :=
  pureOk_of_ev (y1v k) Try.func23 (by kernel_rfl) (by kernel_rfl) y2a y2b
    (fun l a h => by unfold y2b at h; split at h <;> first | (cases h; rfl) | cases h) (fun a => rfl) (lpgood_of (l := [(0, y1x)]) (by kernel_rfl) ⟨y29 k, trivial⟩)
    (fun o r h => by unfold y2d at h; split at h <;> first | (cases h; rfl) | cases h) (y2f k)
def y2h (k : Nat) : Orc := pureOrc [.one (.sl (.st .step)), .one (.int .i64)] (y2e k)
theorem y2i (k : Nat) : OrcOk Try.prog 23 (y2h k) := pureOrc_ok (y2g k)
noncomputable def y2j (k : Nat) : Env := { P := Try.prog, tt := tt, orc := fun g => noOrc }
theorem y2k (k : Nat) : EnvOk (y2j k) := fun g => (noOrc_ok _ _)
noncomputable def y2l : Code := (Try.f101.body).getD .skip
noncomputable def y2m : Code := ((loopsIn 0 y2l).getD 0 (0, .skip)).2
def y2n : List Nat := [0, 3, 4]
def y2o : List (Where × Co) := []
def y2p : Ex → List Nat
  | .exit j => cond (Nat.beq j 0) [3] []
  | .ret => []
  | .normal => []
def y2q : Ex → List (Where × Co)
  | .exit j => cond (Nat.beq j 0) [] []
  | .ret => []
  | .normal => []
def y2r (pv : (List Int) × (Int × List Int)) : St := { slots := [(0, .r [] (.sl (.int .u8) pv.1)), (3, .own 0), (4, .r [] (.int .i64 pv.2.1))], heap := [(0, .arr none (.int .u8) pv.2.2)], nid := 1, n := 22, gh := [] }
def y2s (nf : NF) : Option ((List Int) × (Int × List Int)) := match nf with
  | ([.r [] (.sl (.int .u8) w0), .own 0, .r [] (.int .i64 w1)], [.arr none (.int .u8) w2], []) => some (w0, (w1, w2))
  | _ => none
theorem y2t (nf : NF) (v : (List Int) × (Int × List Int)) (h : y2s nf = some v) : denorm y2n 22 nf = y2r v := by
  unfold y2s at h
  split at h
  · cases h; rfl
  · cases h
def y2u (p : List Int) (x : List Int) : St := { slots := [(3, .own 0)], heap := [(0, .arr none (.int .u8) x)], nid := 1, n := 22, gh := [] }
def y2v (ρ : Type) (k : Nat) : Nat → Ev ρ → Ev ρ := fun id f => cond (Nat.beq id 0) (loopOrc y2n y2o (fun n nf => cond (Nat.beq n 22) (y2s nf) none) fun pv K => iter (fun v next => L_toByteS_g0 k pv.1 v next (fun x => K (.exit 0) (y2u pv.1 x))) k pv.2) ((fun _ _ _ _ => none) id f)
theorem y2w {ρ : Type} (k : Nat) (p : List Int) (v : Int × List Int) (K K1 : Ex → St → Option ρ) : ev (y2j k) (y2v ρ k) 0 y2m (y2r (p, v)) (fun e st' => match e with
    | .normal => (normC y2n y2o st').bind fun nf => K1 .normal (denorm y2n st'.n nf)
    | e => (normC (y2p e) (y2q e) st').bind fun nf => K e (denorm (y2p e) st'.n nf)) = L_toByteS_g0 k p v (fun v' => K1 .normal (y2r (p, v'))) (fun x => K (.exit 0) (y2u p x)) := by kernel_rfl
theorem y2x {ρ : Type} (k : Nat) : Sound Try.prog (.loop y2m) (y2v ρ k 0 fun st K => ev (y2j k) (y2v ρ k) 0 y2m st K) :=
  loop_ok (ev_sound (y2k k) y2m 0 (lpgood_none (by kernel_rfl))) y2p y2q k (g := fun p v next K => L_toByteS_g0 k p v next (fun x => K (.exit 0) (y2u p x))) (dec_at y2t) (fun p v K K1 => y2w k p v K K1)
def y2y (a : List Int) : List Arg := [.one (.sl (.int .u8) a)]
def y2z (l : List Arg) : Option (List Int) := match l with
  | [.one (.sl (.int .u8) b0)] => some b0
  | _ => none
def y30 (r : List Int) : Out := (.own 0, [.arr none (.int .u8) r])
def y31 (o : Out) : Option (List Int) := match o with
  | (.own 0, [.arr none (.int .u8) z1]) => some z1
  | _ => none
def y32 (k : Nat) : PG := fun _ l K => (y2z l).bind fun a => (L_toByteS k a).bind fun r => K (y30 r)
theorem y33 (k : Nat) (a : List Int) : ev (y2j k) (y2v (List Int) k) 0 y2l (st0 Try.f101 (y2y a)) (fin Try.prog Try.f101 (.own (.int .u8)) y31) = L_toByteS k a := by kernel_rfl
theorem y34 (k : Nat) : PureOk Try.prog 101 (y32 k) :=
  pureOk_of_ev (y2k k) Try.func101 (by kernel_rfl) (by kernel_rfl) y2y y2z
    (fun l a h => by unfold y2z at h; split at h <;> first | (cases h; rfl) | cases h) (fun a => rfl) (lpgood_of (l := [(0, y2m)]) (by kernel_rfl) ⟨y2x k, trivial⟩)
    (fun o r h => by unfold y31 at h; split at h <;> first | (cases h; rfl) | cases h) (y33 k)
def y35 (k : Nat) : Orc := pureOrc [.one (.sl (.int .u8))] (y32 k)
theorem y36 (k : Nat) : OrcOk Try.prog 101 (y35 k) := pureOrc_ok (y34 k)
noncomputable def y37 (k : Nat) : Env := { P := Try.prog, tt := tt, orc := fun g => noOrc }
theorem y38 (k : Nat) : EnvOk (y37 k) := fun g => (noOrc_ok _ _)
noncomputable def y39 : Code := (Try.f147.body).getD .skip
def y3a (ρ : Type) (k : Nat) : Nat → Ev ρ → Ev ρ := fun _ _ _ _ => none
def y3b (a : Shape) : List Arg := [.agg [.int .i64 a.h, .int .i64 a.w, .int .i64 a.c]]
def y3c (l : List Arg) : Option (Shape) := match l with
  | [.agg [.int .i64 b0_0, .int .i64 b0_1, .int .i64 b0_2]] => some (⟨b0_0, b0_1, b0_2⟩ : Shape)
  | _ => none
def y3d (r : Shape) : Out := (.agg [.r [] (.int .i64 r.h), .r [] (.int .i64 r.w), .r [] (.int .i64 r.c)], [])
def y3e (o : Out) : Option (Shape) := match o with
  | (.agg [.r [] (.int .i64 z1), .r [] (.int .i64 z2), .r [] (.int .i64 z3)], []) => some (⟨z1, z2, z3⟩ : Shape)
  | _ => none
def y3f (k : Nat) : PG := fun _ l K => (y3c l).bind fun a => (L_toShape k a).bind fun r => K (y3d r)
theorem y3g (k : Nat) (a : Shape) : ev (y37 k) (y3a (Shape) k) 0 y39 (st0 Try.f147 (y3b a)) (fin Try.prog Try.f147 (.agg [.sc, .sc, .sc]) y3e) = L_toShape k a := by kernel_rfl
theorem y3h (k : Nat) : PureOk Try.prog 147 (y3f k) :=
  pureOk_of_ev (y38 k) Try.func147 (by kernel_rfl) (by kernel_rfl) y3b y3c
    (fun l a h => by unfold y3c at h; split at h <;> first | (cases h; rfl) | cases h) (fun a => rfl) (lpgood_none (by kernel_rfl))
    (fun o r h => by unfold y3e at h; split at h <;> first | (cases h; rfl) | cases h) (y3g k)
def y3i (k : Nat) : Orc := pureOrc [.agg [(.int .i64), (.int .i64), (.int .i64)]] (y3f k)
theorem y3j (k : Nat) : OrcOk Try.prog 147 (y3i k) := pureOrc_ok (y3h k)
noncomputable def y3k (k : Nat) : Env := { P := Try.prog, tt := tt, orc := fun g => noOrc }
theorem y3l (k : Nat) : EnvOk (y3k k) := fun g => (noOrc_ok _ _)
noncomputable def y3m : Code := (Try.f64.body).getD .skip
noncomputable def y3n : Code := ((loopsIn 0 y3m).getD 0 (0, .skip)).2
def y3o : List Nat := [0, 3, 4]
def y3p : List (Where × Co) := []
def y3q : Ex → List Nat
  | .exit j => cond (Nat.beq j 0) [3] []
  | .ret => []
  | .normal => []
def y3r : Ex → List (Where × Co)
  | .exit j => cond (Nat.beq j 0) [] []
  | .ret => []
  | .normal => []
def y3s (pv : (List Int) × (Int × List Int)) : St := { slots := [(0, .r [] (.sl (.int .i64) pv.1)), (3, .own 0), (4, .r [] (.int .i64 pv.2.1))], heap := [(0, .arr none (.int .i64) pv.2.2)], nid := 1, n := 22, gh := [] }
def y3t (nf : NF) : Option ((List Int) × (Int × List Int)) := match nf with
  | ([.r [] (.sl (.int .i64) w0), .own 0, .r [] (.int .i64 w1)], [.arr none (.int .i64) w2], []) => some (w0, (w1, w2))
  | _ => none
theorem y3u (nf : NF) (v : (List Int) × (Int × List Int)) (h : y3t nf = some v) : denorm y3o 22 nf = y3s v := by
  unfold y3t at h
  split at h
  · cases h; rfl
  · cases h
def y3v (p : List Int) (x : List Int) : St := { slots := [(3, .own 0)], heap := [(0, .arr none (.int .i64) x)], nid := 1, n := 22, gh := [] }
def y3w (ρ : Type) (k : Nat) : Nat → Ev ρ → Ev ρ := fun id f => cond (Nat.beq id 0) (loopOrc y3o y3p (fun n nf => cond (Nat.beq n 22) (y3t nf) none) fun pv K => iter (fun v next => L_toIntS_g0 k pv.1 v next (fun x => K (.exit 0) (y3v pv.1 x))) k pv.2) ((fun _ _ _ _ => none) id f)
theorem y3x {ρ : Type} (k : Nat) (p : List Int) (v : Int × List Int) (K K1 : Ex → St → Option ρ) : ev (y3k k) (y3w ρ k) 0 y3n (y3s (p, v)) (fun e st' => match e with
    | .normal => (normC y3o y3p st').bind fun nf => K1 .normal (denorm y3o st'.n nf)
    | e => (normC (y3q e) (y3r e) st').bind fun nf => K e (denorm (y3q e) st'.n nf)) = L_toIntS_g0 k p v (fun v' => K1 .normal (y3s (p, v'))) (fun x => K (.exit 0) (y3v p x)) := by kernel_rfl
theorem y3y {ρ : Type} (k : Nat) : Sound Try.prog (.loop y3n) (y3w ρ k 0 fun st K => ev (y3k k) (y3w ρ k) 0 y3n st K) :=
  loop_ok (ev_sound (y3l k) y3n 0 (lpgood_none (by kernel_rfl))) y3q y3r k (g := fun p v next K => L_toIntS_g0 k p v next (fun x => K (.exit 0) (y3v p x))) (dec_at y3u) (fun p v K K1 => y3x k p v K K1)
def y3z (a : List Int) : List Arg := [.one (.sl (.int .i64) a)]
def y40 (l : List Arg) : Option (List Int) := match l with
  | [.one (.sl (.int .i64) b0)] => some b0
  | _ => none
def y41 (r : List Int) : Out := (.own 0, [.arr none (.int .i64) r])
def y42 (o : Out) : Option (List Int) := match o with
  | (.own 0, [.arr none (.int .i64) z1]) => some z1
  | _ => none
def y43 (k : Nat) : PG := fun _ l K => (y40 l).bind fun a => (L_toIntS k a).bind fun r => K (y41 r)
theorem y44 (k : Nat) (a : List Int) : ev (y3k k) (y3w (List Int) k) 0 y3m (st0 Try.f64 (y3z a)) (fin Try.prog Try.f64 (.own (.int .i64)) y42) = L_toIntS k a := by kernel_rfl
theorem y45 (k : Nat) : PureOk Try.prog 64 (y43 k) :=
  pureOk_of_ev (y3l k) Try.func64 (by kernel_rfl) (by kernel_rfl) y3z y40
    (fun l a h => by unfold y40 at h; split at h <;> first | (cases h; rfl) | cases h) (fun a => rfl) (lpgood_of (l := [(0, y3n)]) (by kernel_rfl) ⟨y3y k, trivial⟩)
    (fun o r h => by unfold y42 at h; split at h <;> first | (cases h; rfl) | cases h) (y44 k)
def y46 (k : Nat) : Orc := pureOrc [.one (.sl (.int .i64))] (y43 k)
theorem y47 (k : Nat) : OrcOk Try.prog 64 (y46 k) := pureOrc_ok (y45 k)
noncomputable def y48 (k : Nat) : Env := { P := Try.prog, tt := tt, orc := fun g => cond (Nat.beq g 64) (y46 k) (cond (Nat.beq g 147) (y3i k) (noOrc)) }
theorem y49 (k : Nat) : EnvOk (y48 k) := fun g => (orc_cond (y47 k) (orc_cond (y3j k) (noOrc_ok _ _)))
noncomputable def y4a : Code := (Try.f56.body).getD .skip
def y4b (ρ : Type) (k : Nat) : Nat → Ev ρ → Ev ρ := fun _ _ _ _ => none
def y4c (a : Tensor) : List Arg := [.agg [.int .i64 a.sh.h, .int .i64 a.sh.w, .int .i64 a.sh.c, .sl (.int .i64) a.data]]
def y4d (l : List Arg) : Option (Tensor) := match l with
  | [.agg [.int .i64 b0_0, .int .i64 b0_1, .int .i64 b0_2, .sl (.int .i64) b0_3]] => some (⟨(⟨b0_0, b0_1, b0_2⟩ : Shape), b0_3⟩ : Tensor)
  | _ => none
def y4e (r : Tensor) : Out := (.agg [.r [] (.int .i64 r.sh.h), .r [] (.int .i64 r.sh.w), .r [] (.int .i64 r.sh.c), .own 0], [.arr none (.int .i64) r.data])
def y4f (o : Out) : Option (Tensor) := match o with
  | (.agg [.r [] (.int .i64 z1), .r [] (.int .i64 z2), .r [] (.int .i64 z3), .own 0], [.arr none (.int .i64) z4]) => some (⟨(⟨z1, z2, z3⟩ : Shape), z4⟩ : Tensor)
  | _ => none
def y4g (k : Nat) : PG := fun _ l K => (y4d l).bind fun a => (L_toTensor k a).bind fun r => K (y4e r)
theorem y4h (k : Nat) (a : Tensor) : ev (y48 k) (y4b (Tensor) k) 0 y4a (st0 Try.f56 (y4c a)) (fin Try.prog Try.f56 (.agg [.sc, .sc, .sc, .own (.int .i64)]) y4f) = L_toTensor k a := by kernel_rfl
theorem y4i (k : Nat) : PureOk Try.prog 56 (y4g k) :=
  pureOk_of_ev (y49 k) Try.func56 (by kernel_rfl) (by kernel_rfl) y4c y4d
    (fun l a h => by unfold y4d at h; split at h <;> first | (cases h; rfl) | cases h) (fun a => rfl) (lpgood_none (by kernel_rfl))
    (fun o r h => by unfold y4f at h; split at h <;> first | (cases h; rfl) | cases h) (y4h k)
def y4j (k : Nat) : Orc := pureOrc [.agg [(.int .i64), (.int .i64), (.int .i64), (.sl (.int .i64))]] (y4g k)
theorem y4k (k : Nat) : OrcOk Try.prog 56 (y4j k) := pureOrc_ok (y4i k)
noncomputable def y4l (k : Nat) : Env := { P := Try.prog, tt := tt, orc := fun g => cond (Nat.beq g 56) (y4j k) (cond (Nat.beq g 101) (y35 k) (noOrc)) }
theorem y4m (k : Nat) : EnvOk (y4l k) := fun g => (orc_cond (y4k k) (orc_cond (y36 k) (noOrc_ok _ _)))
noncomputable def y4n : Code := (Try.f16.body).getD .skip
def y4o (ρ : Type) (k : Nat) : Nat → Ev ρ → Ev ρ := fun _ _ _ _ => none
def y4p (a : Step) : List Arg := [.agg [.int .i64 a.kind, .int .i64 a.a, .int .i64 a.b, .sl (.int .u8) a.data, .int .i64 a.input.sh.h, .int .i64 a.input.sh.w, .int .i64 a.input.sh.c, .sl (.int .i64) a.input.data]]
def y4q (l : List Arg) : Option (Step) := match l with
  | [.agg [.int .i64 b0_0, .int .i64 b0_1, .int .i64 b0_2, .sl (.int .u8) b0_3, .int .i64 b0_4, .int .i64 b0_5, .int .i64 b0_6, .sl (.int .i64) b0_7]] => some (⟨b0_0, b0_1, b0_2, b0_3, (⟨(⟨b0_4, b0_5, b0_6⟩ : Shape), b0_7⟩ : Tensor)⟩ : Step)
  | _ => none
def y4r (r : Step) : Out := (.agg [.r [] (.int .i64 r.kind), .r [] (.int .i64 r.a), .r [] (.int .i64 r.b), .own 0, .r [] (.int .i64 r.input.sh.h), .r [] (.int .i64 r.input.sh.w), .r [] (.int .i64 r.input.sh.c), .own 1], [.arr none (.int .u8) r.data, .arr none (.int .i64) r.input.data])
def y4s (o : Out) : Option (Step) := match o with
  | (.agg [.r [] (.int .i64 z1), .r [] (.int .i64 z2), .r [] (.int .i64 z3), .own 0, .r [] (.int .i64 z5), .r [] (.int .i64 z6), .r [] (.int .i64 z7), .own 1], [.arr none (.int .u8) z4, .arr none (.int .i64) z8]) => some (⟨z1, z2, z3, z4, (⟨(⟨z5, z6, z7⟩ : Shape), z8⟩ : Tensor)⟩ : Step)
  | _ => none
def y4t (k : Nat) : PG := fun _ l K => (y4q l).bind fun a => (L_toStep k a).bind fun r => K (y4r r)
theorem y4u (k : Nat) (a : Step) : ev (y4l k) (y4o (Step) k) 0 y4n (st0 Try.f16 (y4p a)) (fin Try.prog Try.f16 (.agg [.sc, .sc, .sc, .own (.int .u8), .sc, .sc, .sc, .own (.int .i64)]) y4s) = L_toStep k a := by kernel_rfl
theorem y4v (k : Nat) : PureOk Try.prog 16 (y4t k) :=
  pureOk_of_ev (y4m k) Try.func16 (by kernel_rfl) (by kernel_rfl) y4p y4q
    (fun l a h => by unfold y4q at h; split at h <;> first | (cases h; rfl) | cases h) (fun a => rfl) (lpgood_none (by kernel_rfl))
    (fun o r h => by unfold y4s at h; split at h <;> first | (cases h; rfl) | cases h) (y4u k)
def y4w (k : Nat) : Orc := pureOrc [.agg [(.int .i64), (.int .i64), (.int .i64), (.sl (.int .u8)), (.int .i64), (.int .i64), (.int .i64), (.sl (.int .i64))]] (y4t k)
theorem y4x (k : Nat) : OrcOk Try.prog 16 (y4w k) := pureOrc_ok (y4v k)
noncomputable def y4y (k : Nat) : Env := { P := Try.prog, tt := tt, orc := fun g => cond (Nat.beq g 16) (y4w k) (noOrc) }
theorem y4z (k : Nat) : EnvOk (y4y k) := fun g => (orc_cond (y4x k) (noOrc_ok _ _))
noncomputable def y50 : Code := (Try.f25.body).getD .skip
noncomputable def y51 : Code := ((loopsIn 0 y50).getD 0 (0, .skip)).2
def y52 : List Nat := [0, 3, 4]
def y53 : List (Where × Co) := []
def y54 : Ex → List Nat
  | .exit j => cond (Nat.beq j 0) [3] []
  | .ret => []
  | .normal => []
def y55 : Ex → List (Where × Co)
  | .exit j => cond (Nat.beq j 0) [] []
  | .ret => []
  | .normal => []
def y56 (pv : (List Step) × (Int × List Step)) : St := { slots := [(0, .r [] (.sl (.st .step) pv.1)), (3, .own 0), (4, .r [] (.int .i64 pv.2.1))], heap := [(0, .arr none (.st .step) pv.2.2)], nid := 1, n := 23, gh := [] }
def y57 (nf : NF) : Option ((List Step) × (Int × List Step)) := match nf with
  | ([.r [] (.sl (.st .step) w0), .own 0, .r [] (.int .i64 w1)], [.arr none (.st .step) w2], []) => some (w0, (w1, w2))
  | _ => none
theorem y58 (nf : NF) (v : (List Step) × (Int × List Step)) (h : y57 nf = some v) : denorm y52 23 nf = y56 v := by
  unfold y57 at h
  split at h
  · cases h; rfl
  · cases h
def y59 (p : List Step) (x : List Step) : St := { slots := [(3, .own 0)], heap := [(0, .arr none (.st .step) x)], nid := 1, n := 23, gh := [] }
def y5a (ρ : Type) (k : Nat) : Nat → Ev ρ → Ev ρ := fun id f => cond (Nat.beq id 0) (loopOrc y52 y53 (fun n nf => cond (Nat.beq n 23) (y57 nf) none) fun pv K => iter (fun v next => L_toStepS_g0 k pv.1 v next (fun x => K (.exit 0) (y59 pv.1 x))) k pv.2) ((fun _ _ _ _ => none) id f)
theorem y5b {ρ : Type} (k : Nat) (p : List Step) (v : Int × List Step) (K K1 : Ex → St → Option ρ) : ev (y4y k) (y5a ρ k) 0 y51 (y56 (p, v)) (fun e st' => match e with
    | .normal => (normC y52 y53 st').bind fun nf => K1 .normal (denorm y52 st'.n nf)
    | e => (normC (y54 e) (y55 e) st').bind fun nf => K e (denorm (y54 e) st'.n nf)) = L_toStepS_g0 k p v (fun v' => K1 .normal (y56 (p, v'))) (fun x => K (.exit 0) (y59 p x)) := by kernel_rfl
theorem y5c {ρ : Type} (k : Nat) : Sound Try.prog (.loop y51) (y5a ρ k 0 fun st K => ev (y4y k) (y5a ρ k) 0 y51 st K) :=
  loop_ok (ev_sound (y4z k) y51 0 (lpgood_none (by kernel_rfl))) y54 y55 k (g := fun p v next K => L_toStepS_g0 k p v next (fun x => K (.exit 0) (y59 p x))) (dec_at y58) (fun p v K K1 => y5b k p v K K1)
def y5d (a : List Step) : List Arg := [.one (.sl (.st .step) a)]
def y5e (l : List Arg) : Option (List Step) := match l with
  | [.one (.sl (.st .step) b0)] => some b0
  | _ => none
def y5f (r : List Step) : Out := (.own 0, [.arr none (.st .step) r])
def y5g (o : Out) : Option (List Step) := match o with
  | (.own 0, [.arr none (.st .step) z1]) => some z1
  | _ => none
def y5h (k : Nat) : PG := fun _ l K => (y5e l).bind fun a => (L_toStepS k a).bind fun r => K (y5f r)
theorem y5i (k : Nat) (a : List Step) : ev (y4y k) (y5a (List Step) k) 0 y50 (st0 Try.f25 (y5d a)) (fin Try.prog Try.f25 (.own (.st .step)) y5g) = L_toStepS k a := by kernel_rfl
theorem y5j (k : Nat) : PureOk Try.prog 25 (y5h k) :=
  pureOk_of_ev (y4z k) Try.func25 (by kernel_rfl) (by kernel_rfl) y5d y5e
    (fun l a h => by unfold y5e at h; split at h <;> first | (cases h; rfl) | cases h) (fun a => rfl) (lpgood_of (l := [(0, y51)]) (by kernel_rfl) ⟨y5c k, trivial⟩)
    (fun o r h => by unfold y5g at h; split at h <;> first | (cases h; rfl) | cases h) (y5i k)
def y5k (k : Nat) : Orc := pureOrc [.one (.sl (.st .step))] (y5h k)
theorem y5l (k : Nat) : OrcOk Try.prog 25 (y5k k) := pureOrc_ok (y5j k)
noncomputable def y5m (k : Nat) : Env := { P := Try.prog, tt := tt, orc := fun g => noOrc }
theorem y5n (k : Nat) : EnvOk (y5m k) := fun g => (noOrc_ok _ _)
noncomputable def y5o : Code := (Try.f136.body).getD .skip
def y5p (ρ : Type) (k : Nat) : Nat → Ev ρ → Ev ρ := fun _ _ _ _ => none
def y5q (a : Int × Int × Int) : List Arg := [.one (.int .i64 a.1), .one (.int .i64 a.2.1), .one (.int .i64 a.2.2)]
def y5r (l : List Arg) : Option (Int × Int × Int) := match l with
  | [.one (.int .i64 b0), .one (.int .i64 b1), .one (.int .i64 b2)] => some (b0, b1, b2)
  | _ => none
def y5s (r : Bool) : Out := (.r [] (.bool r), [])
def y5t (o : Out) : Option (Bool) := match o with
  | (.r [] (.bool z1), []) => some z1
  | _ => none
def y5u (k : Nat) : PG := fun _ l K => (y5r l).bind fun a => (S_l01In k a.1 a.2.1 a.2.2).bind fun r => K (y5s r)
theorem y5v (k : Nat) (a : Int × Int × Int) : ev (y5m k) (y5p (Bool) k) 0 y5o (st0 Try.f136 (y5q a)) (fin Try.prog Try.f136 (.sc) y5t) = S_l01In k a.1 a.2.1 a.2.2 := by kernel_rfl
theorem y5w (k : Nat) : PureOk Try.prog 136 (y5u k) :=
  pureOk_of_ev (y5n k) Try.func136 (by kernel_rfl) (by kernel_rfl) y5q y5r
    (fun l a h => by unfold y5r at h; split at h <;> first | (cases h; rfl) | cases h) (fun a => rfl) (lpgood_none (by kernel_rfl))
    (fun o r h => by unfold y5t at h; split at h <;> first | (cases h; rfl) | cases h) (y5v k)
def y5x (k : Nat) : Orc := pureOrc [.one (.int .i64), .one (.int .i64), .one (.int .i64)] (y5u k)
theorem y5y (k : Nat) : OrcOk Try.prog 136 (y5x k) := pureOrc_ok (y5w k)
noncomputable def y5z (k : Nat) : Env := { P := Try.prog, tt := tt, orc := fun g => cond (Nat.beq g 136) (y5x k) (noOrc) }
theorem y60 (k : Nat) : EnvOk (y5z k) := fun g => (orc_cond (y5y k) (noOrc_ok _ _))
noncomputable def y61 : Code := (Try.f186.body).getD .skip
noncomputable def y62 : Code := ((loopsIn 0 y61).getD 0 (0, .skip)).2
def y63 : List Nat := [3, 4]
def y64 : List (Where × Co) := []
def y65 : Ex → List Nat
  | .exit j => cond (Nat.beq j 0) [3, 4] []
  | .ret => []
  | .normal => []
def y66 : Ex → List (Where × Co)
  | .exit j => cond (Nat.beq j 0) [] []
  | .ret => []
  | .normal => []
def y67 (pv : (Unit) × (Int × List Int)) : St := { slots := [(3, .own 0), (4, .r [] (.int .i64 pv.2.1))], heap := [(0, .arr none (.int .u8) pv.2.2)], nid := 1, n := 32, gh := [] }
def y68 (nf : NF) : Option ((Unit) × (Int × List Int)) := match nf with
  | ([.own 0, .r [] (.int .i64 w0)], [.arr none (.int .u8) w1], []) => some ((), (w0, w1))
  | _ => none
theorem y69 (nf : NF) (v : (Unit) × (Int × List Int)) (h : y68 nf = some v) : denorm y63 32 nf = y67 v := by
  unfold y68 at h
  split at h
  · cases h; rfl
  · cases h
def y6a (p : Unit) (x : Int × List Int) : St := { slots := [(3, .own 0), (4, .r [] (.int .i64 x.1))], heap := [(0, .arr none (.int .u8) x.2)], nid := 1, n := 32, gh := [] }
def y6b (ρ : Type) (k : Nat) : Nat → Ev ρ → Ev ρ := fun id f => cond (Nat.beq id 0) (loopOrc y63 y64 (fun n nf => cond (Nat.beq n 32) (y68 nf) none) fun pv K => iter (fun v next => S_PutWide_g0 k pv.1 v next (fun x => K (.exit 0) (y6a pv.1 x))) k pv.2) ((fun _ _ _ _ => none) id f)
theorem y6c {ρ : Type} (k : Nat) (p : Unit) (v : Int × List Int) (K K1 : Ex → St → Option ρ) : ev (y5z k) (y6b ρ k) 0 y62 (y67 (p, v)) (fun e st' => match e with
    | .normal => (normC y63 y64 st').bind fun nf => K1 .normal (denorm y63 st'.n nf)
    | e => (normC (y65 e) (y66 e) st').bind fun nf => K e (denorm (y65 e) st'.n nf)) = S_PutWide_g0 k p v (fun v' => K1 .normal (y67 (p, v'))) (fun x => K (.exit 0) (y6a p x)) := by kernel_rfl
theorem y6d {ρ : Type} (k : Nat) : Sound Try.prog (.loop y62) (y6b ρ k 0 fun st K => ev (y5z k) (y6b ρ k) 0 y62 st K) :=
  loop_ok (ev_sound (y60 k) y62 0 (lpgood_none (by kernel_rfl))) y65 y66 k (g := fun p v next K => S_PutWide_g0 k p v next (fun x => K (.exit 0) (y6a p x))) (dec_at y69) (fun p v K K1 => y6c k p v K K1)
def y6e (a : Int) : List Arg := [.one (.int .i64 a)]
def y6f (l : List Arg) : Option (Int) := match l with
  | [.one (.int .i64 b0)] => some b0
  | _ => none
def y6g (r : List Int) : Out := (.own 0, [.arr none (.int .u8) r])
def y6h (o : Out) : Option (List Int) := match o with
  | (.own 0, [.arr none (.int .u8) z1]) => some z1
  | _ => none
def y6i (k : Nat) : PG := fun _ l K => (y6f l).bind fun a => (S_PutWide k a).bind fun r => K (y6g r)
theorem y6j (k : Nat) (a : Int) : ev (y5z k) (y6b (List Int) k) 0 y61 (st0 Try.f186 (y6e a)) (fin Try.prog Try.f186 (.own (.int .u8)) y6h) = S_PutWide k a := by kernel_rfl
theorem y6k (k : Nat) : PureOk Try.prog 186 (y6i k) :=
  pureOk_of_ev (y60 k) Try.func186 (by kernel_rfl) (by kernel_rfl) y6e y6f
    (fun l a h => by unfold y6f at h; split at h <;> first | (cases h; rfl) | cases h) (fun a => rfl) (lpgood_of (l := [(0, y62)]) (by kernel_rfl) ⟨y6d k, trivial⟩)
    (fun o r h => by unfold y6h at h; split at h <;> first | (cases h; rfl) | cases h) (y6j k)
def y6l (k : Nat) : Orc := pureOrc [.one (.int .i64)] (y6i k)
theorem y6m (k : Nat) : OrcOk Try.prog 186 (y6l k) := pureOrc_ok (y6k k)
noncomputable def y6n (k : Nat) : Env := { P := Try.prog, tt := tt, orc := fun g => cond (Nat.beq g 186) (y6l k) (noOrc) }
theorem y6o (k : Nat) : EnvOk (y6n k) := fun g => (orc_cond (y6m k) (noOrc_ok _ _))
noncomputable def y6p : Code := (Try.f99.body).getD .skip
noncomputable def y6q : Code := ((loopsIn 0 y6p).getD 0 (0, .skip)).2
noncomputable def y6r : Code := ((loopsIn 0 y6q).getD 0 (0, .skip)).2
def y6s : List Nat := [0, 1, 5, 6, 7]
def y6t : List (Where × Co) := []
def y6u : Ex → List Nat
  | .exit j => cond (Nat.beq j 2) [0, 1, 5] []
  | .ret => []
  | .normal => []
def y6v : Ex → List (Where × Co)
  | .exit j => cond (Nat.beq j 2) [] []
  | .ret => []
  | .normal => []
def y6w (pv : (Int × List Int × List Int) × (Int × List Int)) : St := { slots := [(0, .own 0), (1, .own 1), (5, .r [] (.int .i64 pv.1.1)), (6, .own 2), (7, .r [] (.int .i64 pv.2.1))], heap := [(0, .arr none (.int .u8) pv.2.2), (1, .arr none (.int .i64) pv.1.2.1), (2, .arr none (.int .u8) pv.1.2.2)], nid := 3, n := 33, gh := [none, some 1] }
def y6x (nf : NF) : Option ((Int × List Int × List Int) × (Int × List Int)) := match nf with
  | ([.own 0, .own 1, .r [] (.int .i64 w0), .own 2, .r [] (.int .i64 w1)], [.arr none (.int .u8) w2, .arr none (.int .i64) w3, .arr none (.int .u8) w4], [none, some 1]) => some ((w0, w3, w4), (w1, w2))
  | _ => none
theorem y6y (nf : NF) (v : (Int × List Int × List Int) × (Int × List Int)) (h : y6x nf = some v) : denorm y6s 33 nf = y6w v := by
  unfold y6x at h
  split at h
  · cases h; rfl
  · cases h
def y6z (p : Int × List Int × List Int) (x : List Int) : St := { slots := [(0, .own 0), (1, .own 1), (5, .r [] (.int .i64 p.1))], heap := [(0, .arr none (.int .u8) x), (1, .arr none (.int .i64) p.2.1)], nid := 2, n := 33, gh := [none, some 1] }
def y70 : List Nat := [0, 1, 5]
def y71 : List (Where × Co) := [((.gh 0), .drop)]
def y72 : Ex → List Nat
  | .exit j => cond (Nat.beq j 0) [0] []
  | .ret => []
  | .normal => []
def y73 : Ex → List (Where × Co)
  | .exit j => cond (Nat.beq j 0) [] []
  | .ret => []
  | .normal => []
def y74 (pv : (List Int) × (Int × List Int)) : St := { slots := [(0, .own 0), (1, .own 1), (5, .r [] (.int .i64 pv.2.1))], heap := [(0, .arr none (.int .u8) pv.2.2), (1, .arr none (.int .i64) pv.1)], nid := 2, n := 33, gh := [none, some 1] }
def y75 (nf : NF) : Option ((List Int) × (Int × List Int)) := match nf with
  | ([.own 0, .own 1, .r [] (.int .i64 w0)], [.arr none (.int .u8) w1, .arr none (.int .i64) w2], [none, some 1]) => some (w2, (w0, w1))
  | _ => none
theorem y76 (nf : NF) (v : (List Int) × (Int × List Int)) (h : y75 nf = some v) : denorm y70 33 nf = y74 v := by
  unfold y75 at h
  split at h
  · cases h; rfl
  · cases h
def y77 (p : List Int) (x : List Int) : St := { slots := [(0, .own 0)], heap := [(0, .arr none (.int .u8) x), (1, .arr none (.int .i64) p)], nid := 2, n := 33, gh := [none, some 1] }
def y78 (ρ : Type) (k : Nat) : Nat → Ev ρ → Ev ρ := fun id f => cond (Nat.beq id 0) (loopOrc y70 y71 (fun n nf => cond (Nat.beq n 33) (y75 nf) none) fun pv K => iter (fun v next => S_l05Put_m3_g0 k pv.1 v next (fun x => K (.exit 0) (y77 pv.1 x))) k pv.2) ((fun id f => cond (Nat.beq id 2) (loopOrc y6s y6t (fun n nf => cond (Nat.beq n 33) (y6x nf) none) fun pv K => iter (fun v next => S_l05Put_m3_g1 k pv.1 v next (fun x => K (.exit 2) (y6z pv.1 x))) k pv.2) ((fun _ _ _ _ => none) id f)) id f)
theorem y79 {ρ : Type} (k : Nat) (p : Int × List Int × List Int) (v : Int × List Int) (K K1 : Ex → St → Option ρ) : ev (y6n k) (y78 ρ k) 2 y6r (y6w (p, v)) (fun e st' => match e with
    | .normal => (normC y6s y6t st').bind fun nf => K1 .normal (denorm y6s st'.n nf)
    | e => (normC (y6u e) (y6v e) st').bind fun nf => K e (denorm (y6u e) st'.n nf)) = S_l05Put_m3_g1 k p v (fun v' => K1 .normal (y6w (p, v'))) (fun x => K (.exit 2) (y6z p x)) := by kernel_rfl
theorem y7a {ρ : Type} (k : Nat) : Sound Try.prog (.loop y6r) (y78 ρ k 2 fun st K => ev (y6n k) (y78 ρ k) 2 y6r st K) :=
  loop_ok (ev_sound (y6o k) y6r 2 (lpgood_none (by kernel_rfl))) y6u y6v k (g := fun p v next K => S_l05Put_m3_g1 k p v next (fun x => K (.exit 2) (y6z p x))) (dec_at y6y) (fun p v K K1 => y79 k p v K K1)
theorem y7b {ρ : Type} (k : Nat) (p : List Int) (v : Int × List Int) (K K1 : Ex → St → Option ρ) : ev (y6n k) (y78 ρ k) 0 y6q (y74 (p, v)) (fun e st' => match e with
    | .normal => (normC y70 y71 st').bind fun nf => K1 .normal (denorm y70 st'.n nf)
    | e => (normC (y72 e) (y73 e) st').bind fun nf => K e (denorm (y72 e) st'.n nf)) = S_l05Put_m3_g0 k p v (fun v' => K1 .normal (y74 (p, v'))) (fun x => K (.exit 0) (y77 p x)) := by kernel_rfl
theorem y7c {ρ : Type} (k : Nat) : Sound Try.prog (.loop y6q) (y78 ρ k 0 fun st K => ev (y6n k) (y78 ρ k) 0 y6q st K) :=
  loop_ok (ev_sound (y6o k) y6q 0 (lpgood_of (l := [(2, y6r)]) (by kernel_rfl) ⟨y7a k, trivial⟩)) y72 y73 k (g := fun p v next K => S_l05Put_m3_g0 k p v next (fun x => K (.exit 0) (y77 p x))) (dec_at y76) (fun p v K K1 => y7b k p v K K1)
def y7d (a : List Int × List Int) : List SV := [.own 0, .own 1]
def y7e (a : List Int × List Int) : List Blk := [.arr none (.int .u8) a.1, .arr none (.int .i64) a.2]
def y7f (l : List SV) (b : List Blk) : Option (List Int × List Int) := match l, b with
  | [.own 0, .own 1], [.arr none (.int .u8) w0, .arr none (.int .i64) w1] => some (w0, w1)
  | _, _ => none
def y7g (a : List Int × List Int) (r : List Int) : MOut := ⟨.own 2, [none, some (.arr none (.int .i64) a.2)], [.arr none (.int .u8) r]⟩
def y7h (a : List Int × List Int) (o : MOut) : Option (List Int) := match o with
  | ⟨.own 2, [none, some (.arr none (.int .i64) z1)], [.arr none (.int .u8) z2]⟩ => cond (@sameL (List Int) _ z1 a.2) (some z2) none
  | _ => none
def y7i (k : Nat) : MG := fun _ l b K => (y7f l b).bind fun a => (S_l05Put_m3 k a.1 a.2).bind fun r => K (y7g a r)
theorem y7j (k : Nat) (a : List Int × List Int) : ev (y6n k) (y78 (List Int) k) 0 y6p (st0M Try.f99 (y7d a) (y7e a)) (finM Try.prog Try.f99 (.own (.int .u8)) [.gone, .arr] (y7h a)) = S_l05Put_m3 k a.1 a.2 := by kernel_rfl
theorem y7k (k : Nat) : MutOk Try.prog 99 (y7i k) :=
  mutOk_of_ev (y6o k) Try.func99 (by kernel_rfl) (by kernel_rfl) y7d y7e y7f
    (fun l b a h => by unfold y7f at h; split at h <;> first | (cases h; exact ⟨rfl, rfl⟩) | cases h) (fun a => rfl) (lpgood_of (l := [(0, y6q)]) (by kernel_rfl) ⟨y7c k, trivial⟩) (fun a r => rfl)
    (fun a o r h => by unfold y7h at h; split at h <;> first | (obtain ⟨e0, hq⟩ := dec_chk1 h; clear h; subst e0; have h := hq; clear hq; cases h; rfl) | cases h) (y7j k)
def y7l (k : Nat) : Orc := mutOrc [.keep, .keep] (y7i k)
theorem y7m (k : Nat) : OrcOk Try.prog 99 (y7l k) := mutOrc_ok (y7k k)
noncomputable def y7n (k : Nat) : Env := { P := Try.prog, tt := tt, orc := fun g => cond (Nat.beq g 136) (y5x k) (noOrc) }
theorem y7o (k : Nat) : EnvOk (y7n k) := fun g => (orc_cond (y5y k) (noOrc_ok _ _))
noncomputable def y7p : Code := (Try.f98.body).getD .skip
def y7q (ρ : Type) (k : Nat) : Nat → Ev ρ → Ev ρ := fun _ _ _ _ => none
def y7r (a : Int) : List Arg := [.one (.int .i64 a)]
def y7s (l : List Arg) : Option (Int) := match l with
  | [.one (.int .i64 b0)] => some b0
  | _ => none
def y7t (r : Bool) : Out := (.r [] (.bool r), [])
def y7u (o : Out) : Option (Bool) := match o with
  | (.r [] (.bool z1), []) => some z1
  | _ => none
def y7v (k : Nat) : PG := fun _ l K => (y7s l).bind fun a => (S_l14Wide k a).bind fun r => K (y7t r)
theorem y7w (k : Nat) (a : Int) : ev (y7n k) (y7q (Bool) k) 0 y7p (st0 Try.f98 (y7r a)) (fin Try.prog Try.f98 (.sc) y7u) = S_l14Wide k a := by kernel_rfl
theorem y7x (k : Nat) : PureOk Try.prog 98 (y7v k) :=
  pureOk_of_ev (y7o k) Try.func98 (by kernel_rfl) (by kernel_rfl) y7r y7s
    (fun l a h => by unfold y7s at h; split at h <;> first | (cases h; rfl) | cases h) (fun a => rfl) (lpgood_none (by kernel_rfl))
    (fun o r h => by unfold y7u at h; split at h <;> first | (cases h; rfl) | cases h) (y7w k)
def y7y (k : Nat) : Orc := pureOrc [.one (.int .i64)] (y7v k)
theorem y7z (k : Nat) : OrcOk Try.prog 98 (y7y k) := pureOrc_ok (y7x k)
noncomputable def y80 (k : Nat) : Env := { P := Try.prog, tt := tt, orc := fun g => cond (Nat.beq g 186) (y6l k) (noOrc) }
theorem y81 (k : Nat) : EnvOk (y80 k) := fun g => (orc_cond (y6m k) (noOrc_ok _ _))
noncomputable def y82 : Code := (Try.f99.body).getD .skip
noncomputable def y83 : Code := ((loopsIn 0 y82).getD 0 (0, .skip)).2
noncomputable def y84 : Code := ((loopsIn 0 y83).getD 0 (0, .skip)).2
def y85 : List Nat := [0, 1, 5, 6, 7]
def y86 : List (Where × Co) := []
def y87 : Ex → List Nat
  | .exit j => cond (Nat.beq j 2) [0, 1, 5] []
  | .ret => []
  | .normal => []
def y88 : Ex → List (Where × Co)
  | .exit j => cond (Nat.beq j 2) [] []
  | .ret => []
  | .normal => []
def y89 (pv : (Int × List Int × List Int) × (Int × List Int)) : St := { slots := [(0, .own 0), (1, .own 1), (5, .r [] (.int .i64 pv.1.1)), (6, .own 2), (7, .r [] (.int .i64 pv.2.1))], heap := [(0, .arr none (.int .u8) pv.2.2), (1, .arr none (.int .i64) pv.1.2.1), (2, .arr none (.int .u8) pv.1.2.2)], nid := 3, n := 33, gh := [none] }
def y8a (nf : NF) : Option ((Int × List Int × List Int) × (Int × List Int)) := match nf with
  | ([.own 0, .own 1, .r [] (.int .i64 w0), .own 2, .r [] (.int .i64 w1)], [.arr none (.int .u8) w2, .arr none (.int .i64) w3, .arr none (.int .u8) w4], [none]) => some ((w0, w3, w4), (w1, w2))
  | _ => none
theorem y8b (nf : NF) (v : (Int × List Int × List Int) × (Int × List Int)) (h : y8a nf = some v) : denorm y85 33 nf = y89 v := by
  unfold y8a at h
  split at h
  · cases h; rfl
  · cases h
def y8c (p : Int × List Int × List Int) (x : List Int) : St := { slots := [(0, .own 0), (1, .own 1), (5, .r [] (.int .i64 p.1))], heap := [(0, .arr none (.int .u8) x), (1, .arr none (.int .i64) p.2.1)], nid := 2, n := 33, gh := [none] }
def y8d : List Nat := [0, 1, 5]
def y8e : List (Where × Co) := [((.slot 0), (.nilOwn false (.int .u8))), ((.gh 0), .drop)]
def y8f : Ex → List Nat
  | .exit j => cond (Nat.beq j 0) [0] []
  | .ret => []
  | .normal => []
def y8g : Ex → List (Where × Co)
  | .exit j => cond (Nat.beq j 0) [] []
  | .ret => []
  | .normal => []
def y8h (pv : (List Int) × (Int × List Int)) : St := { slots := [(0, .own 0), (1, .own 1), (5, .r [] (.int .i64 pv.2.1))], heap := [(0, .arr none (.int .u8) pv.2.2), (1, .arr none (.int .i64) pv.1)], nid := 2, n := 33, gh := [none] }
def y8i (nf : NF) : Option ((List Int) × (Int × List Int)) := match nf with
  | ([.own 0, .own 1, .r [] (.int .i64 w0)], [.arr none (.int .u8) w1, .arr none (.int .i64) w2], [none]) => some (w2, (w0, w1))
  | _ => none
theorem y8j (nf : NF) (v : (List Int) × (Int × List Int)) (h : y8i nf = some v) : denorm y8d 33 nf = y8h v := by
  unfold y8i at h
  split at h
  · cases h; rfl
  · cases h
def y8k (p : List Int) (x : List Int) : St := { slots := [(0, .own 0)], heap := [(0, .arr none (.int .u8) x)], nid := 1, n := 33, gh := [none] }
def y8l (ρ : Type) (k : Nat) : Nat → Ev ρ → Ev ρ := fun id f => cond (Nat.beq id 0) (loopOrc y8d y8e (fun n nf => cond (Nat.beq n 33) (y8i nf) none) fun pv K => iter (fun v next => S_l05Put_m2_g0 k pv.1 v next (fun x => K (.exit 0) (y8k pv.1 x))) k pv.2) ((fun id f => cond (Nat.beq id 2) (loopOrc y85 y86 (fun n nf => cond (Nat.beq n 33) (y8a nf) none) fun pv K => iter (fun v next => S_l05Put_m2_g1 k pv.1 v next (fun x => K (.exit 2) (y8c pv.1 x))) k pv.2) ((fun _ _ _ _ => none) id f)) id f)
theorem y8m {ρ : Type} (k : Nat) (p : Int × List Int × List Int) (v : Int × List Int) (K K1 : Ex → St → Option ρ) : ev (y80 k) (y8l ρ k) 2 y84 (y89 (p, v)) (fun e st' => match e with
    | .normal => (normC y85 y86 st').bind fun nf => K1 .normal (denorm y85 st'.n nf)
    | e => (normC (y87 e) (y88 e) st').bind fun nf => K e (denorm (y87 e) st'.n nf)) = S_l05Put_m2_g1 k p v (fun v' => K1 .normal (y89 (p, v'))) (fun x => K (.exit 2) (y8c p x)) := by kernel_rfl
theorem y8n {ρ : Type} (k : Nat) : Sound Try.prog (.loop y84) (y8l ρ k 2 fun st K => ev (y80 k) (y8l ρ k) 2 y84 st K) :=
  loop_ok (ev_sound (y81 k) y84 2 (lpgood_none (by kernel_rfl))) y87 y88 k (g := fun p v next K => S_l05Put_m2_g1 k p v next (fun x => K (.exit 2) (y8c p x))) (dec_at y8b) (fun p v K K1 => y8m k p v K K1)
theorem y8o {ρ : Type} (k : Nat) (p : List Int) (v : Int × List Int) (K K1 : Ex → St → Option ρ) : ev (y80 k) (y8l ρ k) 0 y83 (y8h (p, v)) (fun e st' => match e with
    | .normal => (normC y8d y8e st').bind fun nf => K1 .normal (denorm y8d st'.n nf)
    | e => (normC (y8f e) (y8g e) st').bind fun nf => K e (denorm (y8f e) st'.n nf)) = S_l05Put_m2_g0 k p v (fun v' => K1 .normal (y8h (p, v'))) (fun x => K (.exit 0) (y8k p x)) := by kernel_rfl
theorem y8p {ρ : Type} (k : Nat) : Sound Try.prog (.loop y83) (y8l ρ k 0 fun st K => ev (y80 k) (y8l ρ k) 0 y83 st K) :=
  loop_ok (ev_sound (y81 k) y83 0 (lpgood_of (l := [(2, y84)]) (by kernel_rfl) ⟨y8n k, trivial⟩)) y8f y8g k (g := fun p v next K => S_l05Put_m2_g0 k p v next (fun x => K (.exit 0) (y8k p x))) (dec_at y8j) (fun p v K K1 => y8o k p v K K1)
def y8q (a : List Int) : List SV := [.nilS, .own 0]
def y8r (a : List Int) : List Blk := [.arr none (.int .i64) a]
def y8s (l : List SV) (b : List Blk) : Option (List Int) := match l, b with
  | [.nilS, .own 0], [.arr none (.int .i64) w0] => some w0
  | _, _ => none
def y8t (a : List Int) (r : List Int) : MOut := ⟨.own 1, [none], [.arr none (.int .u8) r]⟩
def y8u (a : List Int) (o : MOut) : Option (List Int) := match o with
  | ⟨.own 1, [none], [.arr none (.int .u8) z1]⟩ => some z1
  | _ => none
def y8v (k : Nat) : MG := fun _ l b K => (y8s l b).bind fun a => (S_l05Put_m2 k a).bind fun r => K (y8t a r)
theorem y8w (k : Nat) (a : List Int) : ev (y80 k) (y8l (List Int) k) 0 y82 (st0M Try.f99 (y8q a) (y8r a)) (finM Try.prog Try.f99 (.own (.int .u8)) [.gone] (y8u a)) = S_l05Put_m2 k a := by kernel_rfl
theorem y8x (k : Nat) : MutOk Try.prog 99 (y8v k) :=
  mutOk_of_ev (y81 k) Try.func99 (by kernel_rfl) (by kernel_rfl) y8q y8r y8s
    (fun l b a h => by unfold y8s at h; split at h <;> first | (cases h; exact ⟨rfl, rfl⟩) | cases h) (fun a => rfl) (lpgood_of (l := [(0, y83)]) (by kernel_rfl) ⟨y8p k, trivial⟩) (fun a r => rfl)
    (fun a o r h => by unfold y8u at h; split at h <;> first | (skip; cases h; rfl) | cases h) (y8w k)
def y8y (k : Nat) : Orc := mutOrc [.keep, .keep] (y8v k)
theorem y8z (k : Nat) : OrcOk Try.prog 99 (y8y k) := mutOrc_ok (y8x k)
noncomputable def y90 (k : Nat) : Env := { P := Try.prog, tt := tt, orc := fun g => noOrc }
theorem y91 (k : Nat) : EnvOk (y90 k) := fun g => (noOrc_ok _ _)
noncomputable def y92 : Code := (Try.f187.body).getD .skip
noncomputable def y93 : Code := ((loopsIn 0 y92).getD 0 (0, .skip)).2
def y94 : List Nat := [0, 3, 4]
def y95 : List (Where × Co) := []
def y96 : Ex → List Nat
  | .exit j => cond (Nat.beq j 0) [3] []
  | .ret => []
  | .normal => []
def y97 : Ex → List (Where × Co)
  | .exit j => cond (Nat.beq j 0) [] []
  | .ret => []
  | .normal => []
def y98 (pv : (List Int) × (Int × List Int)) : St := { slots := [(0, .r [] (.sl (.int .u8) pv.1)), (3, .own 0), (4, .r [] (.int .i64 pv.2.1))], heap := [(0, .arr none (.int .u8) pv.2.2)], nid := 1, n := 20, gh := [] }
def y99 (nf : NF) : Option ((List Int) × (Int × List Int)) := match nf with
  | ([.r [] (.sl (.int .u8) w0), .own 0, .r [] (.int .i64 w1)], [.arr none (.int .u8) w2], []) => some (w0, (w1, w2))
  | _ => none
theorem y9a (nf : NF) (v : (List Int) × (Int × List Int)) (h : y99 nf = some v) : denorm y94 20 nf = y98 v := by
  unfold y99 at h
  split at h
  · cases h; rfl
  · cases h
def y9b (p : List Int) (x : List Int) : St := { slots := [(3, .own 0)], heap := [(0, .arr none (.int .u8) x)], nid := 1, n := 20, gh := [] }
def y9c (ρ : Type) (k : Nat) : Nat → Ev ρ → Ev ρ := fun id f => cond (Nat.beq id 0) (loopOrc y94 y95 (fun n nf => cond (Nat.beq n 20) (y99 nf) none) fun pv K => iter (fun v next => S_l01Bytes_g0 k pv.1 v next (fun x => K (.exit 0) (y9b pv.1 x))) k pv.2) ((fun _ _ _ _ => none) id f)
theorem y9d {ρ : Type} (k : Nat) (p : List Int) (v : Int × List Int) (K K1 : Ex → St → Option ρ) : ev (y90 k) (y9c ρ k) 0 y93 (y98 (p, v)) (fun e st' => match e with
    | .normal => (normC y94 y95 st').bind fun nf => K1 .normal (denorm y94 st'.n nf)
    | e => (normC (y96 e) (y97 e) st').bind fun nf => K e (denorm (y96 e) st'.n nf)) = S_l01Bytes_g0 k p v (fun v' => K1 .normal (y98 (p, v'))) (fun x => K (.exit 0) (y9b p x)) := by kernel_rfl
theorem y9e {ρ : Type} (k : Nat) : Sound Try.prog (.loop y93) (y9c ρ k 0 fun st K => ev (y90 k) (y9c ρ k) 0 y93 st K) :=
  loop_ok (ev_sound (y91 k) y93 0 (lpgood_none (by kernel_rfl))) y96 y97 k (g := fun p v next K => S_l01Bytes_g0 k p v next (fun x => K (.exit 0) (y9b p x))) (dec_at y9a) (fun p v K K1 => y9d k p v K K1)
def y9f (a : List Int) : List Arg := [.one (.sl (.int .u8) a)]
def y9g (l : List Arg) : Option (List Int) := match l with
  | [.one (.sl (.int .u8) b0)] => some b0
  | _ => none
def y9h (r : List Int) : Out := (.own 0, [.arr none (.int .u8) r])
def y9i (o : Out) : Option (List Int) := match o with
  | (.own 0, [.arr none (.int .u8) z1]) => some z1
  | _ => none
def y9j (k : Nat) : PG := fun _ l K => (y9g l).bind fun a => (S_l01Bytes k a).bind fun r => K (y9h r)
theorem y9k (k : Nat) (a : List Int) : ev (y90 k) (y9c (List Int) k) 0 y92 (st0 Try.f187 (y9f a)) (fin Try.prog Try.f187 (.own (.int .u8)) y9i) = S_l01Bytes k a := by kernel_rfl
theorem y9l (k : Nat) : PureOk Try.prog 187 (y9j k) :=
  pureOk_of_ev (y91 k) Try.func187 (by kernel_rfl) (by kernel_rfl) y9f y9g
    (fun l a h => by unfold y9g at h; split at h <;> first | (cases h; rfl) | cases h) (fun a => rfl) (lpgood_of (l := [(0, y93)]) (by kernel_rfl) ⟨y9e k, trivial⟩)
    (fun o r h => by unfold y9i at h; split at h <;> first | (cases h; rfl) | cases h) (y9k k)
def y9m (k : Nat) : Orc := pureOrc [.one (.sl (.int .u8))] (y9j k)
theorem y9n (k : Nat) : OrcOk Try.prog 187 (y9m k) := pureOrc_ok (y9l k)
noncomputable def y9o (k : Nat) : Env := { P := Try.prog, tt := tt, orc := fun g => cond (Nat.beq g 187) (y9m k) (noOrc) }
theorem y9p (k : Nat) : EnvOk (y9o k) := fun g => (orc_cond (y9n k) (noOrc_ok _ _))
noncomputable def y9q : Code := (Try.f100.body).getD .skip
noncomputable def y9r : Code := ((loopsIn 0 y9q).getD 0 (0, .skip)).2
def y9s : List Nat := [1, 5, 6]
def y9t : List (Where × Co) := []
def y9u : Ex → List Nat
  | .exit j => cond (Nat.beq j 0) [5] []
  | .ret => []
  | .normal => []
def y9v : Ex → List (Where × Co)
  | .exit j => cond (Nat.beq j 0) [] []
  | .ret => []
  | .normal => []
def y9w (pv : (List Int) × (Int × List Int)) : St := { slots := [(1, .r [] (.sl (.int .u8) pv.1)), (5, .own 0), (6, .r [] (.int .i64 pv.2.1))], heap := [(0, .arr none (.int .u8) pv.2.2)], nid := 1, n := 23, gh := [] }
def y9x (nf : NF) : Option ((List Int) × (Int × List Int)) := match nf with
  | ([.r [] (.sl (.int .u8) w0), .own 0, .r [] (.int .i64 w1)], [.arr none (.int .u8) w2], []) => some (w0, (w1, w2))
  | _ => none
theorem y9y (nf : NF) (v : (List Int) × (Int × List Int)) (h : y9x nf = some v) : denorm y9s 23 nf = y9w v := by
  unfold y9x at h
  split at h
  · cases h; rfl
  · cases h
def y9z (p : List Int) (x : List Int) : St := { slots := [(5, .own 0)], heap := [(0, .arr none (.int .u8) x)], nid := 1, n := 23, gh := [] }
def ya0 (ρ : Type) (k : Nat) : Nat → Ev ρ → Ev ρ := fun id f => cond (Nat.beq id 0) (loopOrc y9s y9t (fun n nf => cond (Nat.beq n 23) (y9x nf) none) fun pv K => iter (fun v next => S_l01Join_g0 k pv.1 v next (fun x => K (.exit 0) (y9z pv.1 x))) k pv.2) ((fun _ _ _ _ => none) id f)
theorem ya1 {ρ : Type} (k : Nat) (p : List Int) (v : Int × List Int) (K K1 : Ex → St → Option ρ) : ev (y9o k) (ya0 ρ k) 0 y9r (y9w (p, v)) (fun e st' => match e with
    | .normal => (normC y9s y9t st').bind fun nf => K1 .normal (denorm y9s st'.n nf)
    | e => (normC (y9u e) (y9v e) st').bind fun nf => K e (denorm (y9u e) st'.n nf)) = S_l01Join_g0 k p v (fun v' => K1 .normal (y9w (p, v'))) (fun x => K (.exit 0) (y9z p x)) := by kernel_rfl
theorem ya2 {ρ : Type} (k : Nat) : Sound Try.prog (.loop y9r) (ya0 ρ k 0 fun st K => ev (y9o k) (ya0 ρ k) 0 y9r st K) :=
  loop_ok (ev_sound (y9p k) y9r 0 (lpgood_none (by kernel_rfl))) y9u y9v k (g := fun p v next K => S_l01Join_g0 k p v next (fun x => K (.exit 0) (y9z p x))) (dec_at y9y) (fun p v K K1 => ya1 k p v K K1)
def ya3 (a : List Int × List Int) : List Arg := [.one (.sl (.int .u8) a.1), .one (.sl (.int .u8) a.2)]
def ya4 (l : List Arg) : Option (List Int × List Int) := match l with
  | [.one (.sl (.int .u8) b0), .one (.sl (.int .u8) b1)] => some (b0, b1)
  | _ => none
def ya5 (r : List Int) : Out := (.own 0, [.arr none (.int .u8) r])
def ya6 (o : Out) : Option (List Int) := match o with
  | (.own 0, [.arr none (.int .u8) z1]) => some z1
  | _ => none
def ya7 (k : Nat) : PG := fun _ l K => (ya4 l).bind fun a => (S_l01Join k a.1 a.2).bind fun r => K (ya5 r)
theorem ya8 (k : Nat) (a : List Int × List Int) : ev (y9o k) (ya0 (List Int) k) 0 y9q (st0 Try.f100 (ya3 a)) (fin Try.prog Try.f100 (.own (.int .u8)) ya6) = S_l01Join k a.1 a.2 := by kernel_rfl
theorem ya9 (k : Nat) : PureOk Try.prog 100 (ya7 k) :=
  pureOk_of_ev (y9p k) Try.func100 (by kernel_rfl) (by kernel_rfl) ya3 ya4
    (fun l a h => by unfold ya4 at h; split at h <;> first | (cases h; rfl) | cases h) (fun a => rfl) (lpgood_of (l := [(0, y9r)]) (by kernel_rfl) ⟨ya2 k, trivial⟩)
    (fun o r h => by unfold ya6 at h; split at h <;> first | (cases h; rfl) | cases h) (ya8 k)
def yaa (k : Nat) : Orc := pureOrc [.one (.sl (.int .u8)), .one (.sl (.int .u8))] (ya7 k)
theorem yab (k : Nat) : OrcOk Try.prog 100 (yaa k) := pureOrc_ok (ya9 k)
noncomputable def yac (k : Nat) : Env := { P := Try.prog, tt := tt, orc := fun g => cond (Nat.beq g 186) (y6l k) (noOrc) }
theorem yad (k : Nat) : EnvOk (yac k) := fun g => (orc_cond (y6m k) (noOrc_ok _ _))
noncomputable def yae : Code := (Try.f99.body).getD .skip
noncomputable def yaf : Code := ((loopsIn 0 yae).getD 0 (0, .skip)).2
noncomputable def yag : Code := ((loopsIn 0 yaf).getD 0 (0, .skip)).2
def yah : List Nat := [0, 1, 5, 6, 7]
def yai : List (Where × Co) := []
def yaj : Ex → List Nat
  | .exit j => cond (Nat.beq j 2) [0, 1, 5] []
  | .ret => []
  | .normal => []
def yak : Ex → List (Where × Co)
  | .exit j => cond (Nat.beq j 2) [] []
  | .ret => []
  | .normal => []
def yal (pv : (List Int × Int × List Int) × (Int × List Int)) : St := { slots := [(0, .own 0), (1, .r [] (.sl (.int .i64) pv.1.1)), (5, .r [] (.int .i64 pv.1.2.1)), (6, .own 1), (7, .r [] (.int .i64 pv.2.1))], heap := [(0, .arr none (.int .u8) pv.2.2), (1, .arr none (.int .u8) pv.1.2.2)], nid := 2, n := 33, gh := [none] }
def yam (nf : NF) : Option ((List Int × Int × List Int) × (Int × List Int)) := match nf with
  | ([.own 0, .r [] (.sl (.int .i64) w0), .r [] (.int .i64 w1), .own 1, .r [] (.int .i64 w2)], [.arr none (.int .u8) w3, .arr none (.int .u8) w4], [none]) => some ((w0, w1, w4), (w2, w3))
  | _ => none
theorem yan (nf : NF) (v : (List Int × Int × List Int) × (Int × List Int)) (h : yam nf = some v) : denorm yah 33 nf = yal v := by
  unfold yam at h
  split at h
  · cases h; rfl
  · cases h
def yao (p : List Int × Int × List Int) (x : List Int) : St := { slots := [(0, .own 0), (1, .r [] (.sl (.int .i64) p.1)), (5, .r [] (.int .i64 p.2.1))], heap := [(0, .arr none (.int .u8) x)], nid := 1, n := 33, gh := [none] }
def yap : List Nat := [0, 1, 5]
def yaq : List (Where × Co) := [((.gh 0), .drop)]
def yar : Ex → List Nat
  | .exit j => cond (Nat.beq j 0) [0] []
  | .ret => []
  | .normal => []
def yas : Ex → List (Where × Co)
  | .exit j => cond (Nat.beq j 0) [] []
  | .ret => []
  | .normal => []
def yat (pv : (List Int) × (Int × List Int)) : St := { slots := [(0, .own 0), (1, .r [] (.sl (.int .i64) pv.1)), (5, .r [] (.int .i64 pv.2.1))], heap := [(0, .arr none (.int .u8) pv.2.2)], nid := 1, n := 33, gh := [none] }
def yau (nf : NF) : Option ((List Int) × (Int × List Int)) := match nf with
  | ([.own 0, .r [] (.sl (.int .i64) w0), .r [] (.int .i64 w1)], [.arr none (.int .u8) w2], [none]) => some (w0, (w1, w2))
  | _ => none
theorem yav (nf : NF) (v : (List Int) × (Int × List Int)) (h : yau nf = some v) : denorm yap 33 nf = yat v := by
  unfold yau at h
  split at h
  · cases h; rfl
  · cases h
def yaw (p : List Int) (x : List Int) : St := { slots := [(0, .own 0)], heap := [(0, .arr none (.int .u8) x)], nid := 1, n := 33, gh := [none] }
def yax (ρ : Type) (k : Nat) : Nat → Ev ρ → Ev ρ := fun id f => cond (Nat.beq id 0) (loopOrc yap yaq (fun n nf => cond (Nat.beq n 33) (yau nf) none) fun pv K => iter (fun v next => S_l05Put_m4_g0 k pv.1 v next (fun x => K (.exit 0) (yaw pv.1 x))) k pv.2) ((fun id f => cond (Nat.beq id 2) (loopOrc yah yai (fun n nf => cond (Nat.beq n 33) (yam nf) none) fun pv K => iter (fun v next => S_l05Put_m4_g1 k pv.1 v next (fun x => K (.exit 2) (yao pv.1 x))) k pv.2) ((fun _ _ _ _ => none) id f)) id f)
theorem yay {ρ : Type} (k : Nat) (p : List Int × Int × List Int) (v : Int × List Int) (K K1 : Ex → St → Option ρ) : ev (yac k) (yax ρ k) 2 yag (yal (p, v)) (fun e st' => match e with
    | .normal => (normC yah yai st').bind fun nf => K1 .normal (denorm yah st'.n nf)
    | e => (normC (yaj e) (yak e) st').bind fun nf => K e (denorm (yaj e) st'.n nf)) = S_l05Put_m4_g1 k p v (fun v' => K1 .normal (yal (p, v'))) (fun x => K (.exit 2) (yao p x)) := by kernel_rfl
theorem yaz {ρ : Type} (k : Nat) : Sound Try.prog (.loop yag) (yax ρ k 2 fun st K => ev (yac k) (yax ρ k) 2 yag st K) :=
  loop_ok (ev_sound (yad k) yag 2 (lpgood_none (by kernel_rfl))) yaj yak k (g := fun p v next K => S_l05Put_m4_g1 k p v next (fun x => K (.exit 2) (yao p x))) (dec_at yan) (fun p v K K1 => yay k p v K K1)
theorem yb0 {ρ : Type} (k : Nat) (p : List Int) (v : Int × List Int) (K K1 : Ex → St → Option ρ) : ev (yac k) (yax ρ k) 0 yaf (yat (p, v)) (fun e st' => match e with
    | .normal => (normC yap yaq st').bind fun nf => K1 .normal (denorm yap st'.n nf)
    | e => (normC (yar e) (yas e) st').bind fun nf => K e (denorm (yar e) st'.n nf)) = S_l05Put_m4_g0 k p v (fun v' => K1 .normal (yat (p, v'))) (fun x => K (.exit 0) (yaw p x)) := by kernel_rfl
theorem yb1 {ρ : Type} (k : Nat) : Sound Try.prog (.loop yaf) (yax ρ k 0 fun st K => ev (yac k) (yax ρ k) 0 yaf st K) :=
  loop_ok (ev_sound (yad k) yaf 0 (lpgood_of (l := [(2, yag)]) (by kernel_rfl) ⟨yaz k, trivial⟩)) yar yas k (g := fun p v next K => S_l05Put_m4_g0 k p v next (fun x => K (.exit 0) (yaw p x))) (dec_at yav) (fun p v K K1 => yb0 k p v K K1)
def yb2 (a : List Int × List Int) : List SV := [.own 0, .r [] (.sl (.int .i64) a.2)]
def yb3 (a : List Int × List Int) : List Blk := [.arr none (.int .u8) a.1]
def yb4 (l : List SV) (b : List Blk) : Option (List Int × List Int) := match l, b with
  | [.own 0, .r [] (.sl (.int .i64) w0)], [.arr none (.int .u8) w1] => some (w1, w0)
  | _, _ => none
def yb5 (a : List Int × List Int) (r : List Int) : MOut := ⟨.own 1, [none], [.arr none (.int .u8) r]⟩
def yb6 (a : List Int × List Int) (o : MOut) : Option (List Int) := match o with
  | ⟨.own 1, [none], [.arr none (.int .u8) z1]⟩ => some z1
  | _ => none
def yb7 (k : Nat) : MG := fun _ l b K => (yb4 l b).bind fun a => (S_l05Put_m4 k a.1 a.2).bind fun r => K (yb5 a r)
theorem yb8 (k : Nat) (a : List Int × List Int) : ev (yac k) (yax (List Int) k) 0 yae (st0M Try.f99 (yb2 a) (yb3 a)) (finM Try.prog Try.f99 (.own (.int .u8)) [.gone] (yb6 a)) = S_l05Put_m4 k a.1 a.2 := by kernel_rfl
theorem yb9 (k : Nat) : MutOk Try.prog 99 (yb7 k) :=
  mutOk_of_ev (yad k) Try.func99 (by kernel_rfl) (by kernel_rfl) yb2 yb3 yb4
    (fun l b a h => by unfold yb4 at h; split at h <;> first | (cases h; exact ⟨rfl, rfl⟩) | cases h) (fun a => rfl) (lpgood_of (l := [(0, yaf)]) (by kernel_rfl) ⟨yb1 k, trivial⟩) (fun a r => rfl)
    (fun a o r h => by unfold yb6 at h; split at h <;> first | (skip; cases h; rfl) | cases h) (yb8 k)
def yba (k : Nat) : Orc := mutOrc [.keep, .keep] (yb7 k)
theorem ybb (k : Nat) : OrcOk Try.prog 99 (yba k) := mutOrc_ok (yb9 k)
noncomputable def ybc (k : Nat) : Env := { P := Try.prog, tt := tt, orc := fun g => cond (Nat.beq g 98) (y7y k) (cond (Nat.beq g 99) (altB (mutT [.keep, .keep] yb4) (yba k) (altB (mutT [.keep, .keep] y7f) (y7l k) (y8y k))) (cond (Nat.beq g 100) (yaa k) (noOrc))), wr := fun g => mem g [99], wt := true }
theorem ybd (k : Nat) : EnvOk (ybc k) := fun g => (orc_cond (y7z k) (orc_cond (altB_ok (ybb k) (altB_ok (y7m k) (y8z k))) (orc_cond (yab k) (noOrc_ok _ _))))
noncomputable def ybe : Code := (Try.f15.body).getD .skip
noncomputable def ybf : Code := ((loopsIn 0 ybe).getD 0 (0, .skip)).2
def ybg : List Nat := [1, 4, 5]
def ybh : List (Where × Co) := []
def ybi : Ex → List Nat
  | .exit j => cond (Nat.beq j 0) [1, 4] []
  | .ret => [2, 3]
  | .normal => []
def ybj : Ex → List (Where × Co)
  | .exit j => cond (Nat.beq j 0) [] []
  | .ret => []
  | .normal => []
def ybk (pv : (Int × Int × Int × List Int × Int × Int × Int × List Int × Int × Int × Int × List Int) × (Int)) : St := { slots := [(1, .ptr 0 0 0), (4, .ptr 1 0 0), (5, .r [] (.int .i64 pv.2))], heap := [(0, .box [.r [] (.int .i64 pv.1.1), .r [] (.int .i64 pv.1.2.1), .r [] (.int .i64 pv.1.2.2.1), .r [] (.sl (.int .u8) pv.1.2.2.2.1), .r [] (.int .i64 pv.1.2.2.2.2.1), .r [] (.int .i64 pv.1.2.2.2.2.2.1), .r [] (.int .i64 pv.1.2.2.2.2.2.2.1), .r [] (.sl (.int .i64) pv.1.2.2.2.2.2.2.2.1)]), (1, .box [.r [] (.int .i64 pv.1.2.2.2.2.2.2.2.2.1), .r [] (.int .i64 pv.1.2.2.2.2.2.2.2.2.2.1), .r [] (.int .i64 pv.1.2.2.2.2.2.2.2.2.2.2.1), .r [] (.sl (.int .i64) pv.1.2.2.2.2.2.2.2.2.2.2.2)])], nid := 2, n := 106, gh := [] }
def ybl (nf : NF) : Option ((Int × Int × Int × List Int × Int × Int × Int × List Int × Int × Int × Int × List Int) × (Int)) := match nf with
  | ([.ptr 0 0 0, .ptr 1 0 0, .r [] (.int .i64 w0)], [.box [.r [] (.int .i64 w1), .r [] (.int .i64 w2), .r [] (.int .i64 w3), .r [] (.sl (.int .u8) w4), .r [] (.int .i64 w5), .r [] (.int .i64 w6), .r [] (.int .i64 w7), .r [] (.sl (.int .i64) w8)], .box [.r [] (.int .i64 w9), .r [] (.int .i64 w10), .r [] (.int .i64 w11), .r [] (.sl (.int .i64) w12)]], []) => some ((w1, w2, w3, w4, w5, w6, w7, w8, w9, w10, w11, w12), w0)
  | _ => none
theorem ybm (nf : NF) (v : (Int × Int × Int × List Int × Int × Int × Int × List Int × Int × Int × Int × List Int) × (Int)) (h : ybl nf = some v) : denorm ybg 106 nf = ybk v := by
  unfold ybl at h
  split at h
  · cases h; rfl
  · cases h
def ybn (p : Int × Int × Int × List Int × Int × Int × Int × List Int × Int × Int × Int × List Int) (x : Unit) : St := { slots := [(1, .ptr 0 0 0), (4, .ptr 1 0 0)], heap := [(0, .box [.r [] (.int .i64 p.1), .r [] (.int .i64 p.2.1), .r [] (.int .i64 p.2.2.1), .r [] (.sl (.int .u8) p.2.2.2.1), .r [] (.int .i64 p.2.2.2.2.1), .r [] (.int .i64 p.2.2.2.2.2.1), .r [] (.int .i64 p.2.2.2.2.2.2.1), .r [] (.sl (.int .i64) p.2.2.2.2.2.2.2.1)]), (1, .box [.r [] (.int .i64 p.2.2.2.2.2.2.2.2.1), .r [] (.int .i64 p.2.2.2.2.2.2.2.2.2.1), .r [] (.int .i64 p.2.2.2.2.2.2.2.2.2.2.1), .r [] (.sl (.int .i64) p.2.2.2.2.2.2.2.2.2.2.2)])], nid := 2, n := 106, gh := [] }
def ybo (p : Int × Int × Int × List Int × Int × Int × Int × List Int × Int × Int × Int × List Int) (x : Bool) : St := { slots := [(2, .nilS), (3, .r [] (.bool x))], heap := [], nid := 0, n := 106, gh := [] }
def ybp (ρ : Type) (k : Nat) : Nat → Ev ρ → Ev ρ := fun id f => cond (Nat.beq id 0) (loopOrc ybg ybh (fun n nf => cond (Nat.beq n 106) (ybl nf) none) fun pv K => iter (fun v next => S_PutStep_g0 k pv.1 v next (fun x => K (.exit 0) (ybn pv.1 x)) (fun x => K .ret (ybo pv.1 x))) k pv.2) ((fun _ _ _ _ => none) id f)
theorem ybq {ρ : Type} (k : Nat) (p : Int × Int × Int × List Int × Int × Int × Int × List Int × Int × Int × Int × List Int) (v : Int) (K K1 : Ex → St → Option ρ) : ev (ybc k) (ybp ρ k) 0 ybf (ybk (p, v)) (fun e st' => match e with
    | .normal => (normC ybg ybh st').bind fun nf => K1 .normal (denorm ybg st'.n nf)
    | e => (normC (ybi e) (ybj e) st').bind fun nf => K e (denorm (ybi e) st'.n nf)) = S_PutStep_g0 k p v (fun v' => K1 .normal (ybk (p, v'))) (fun x => K (.exit 0) (ybn p x)) (fun x => K .ret (ybo p x)) := by kernel_rfl
theorem ybr {ρ : Type} (k : Nat) : Sound Try.prog (.loop ybf) (ybp ρ k 0 fun st K => ev (ybc k) (ybp ρ k) 0 ybf st K) :=
  loop_ok (ev_sound (ybd k) ybf 0 (lpgood_none (by kernel_rfl))) ybi ybj k (g := fun p v next K => S_PutStep_g0 k p v next (fun x => K (.exit 0) (ybn p x)) (fun x => K .ret (ybo p x))) (dec_at ybm) (fun p v K K1 => ybq k p v K K1)
def ybs (a : Step) : List Arg := [.agg [.int .i64 a.kind, .int .i64 a.a, .int .i64 a.b, .sl (.int .u8) a.data, .int .i64 a.input.sh.h, .int .i64 a.input.sh.w, .int .i64 a.input.sh.c, .sl (.int .i64) a.input.data]]
def ybt (l : List Arg) : Option (Step) := match l with
  | [.agg [.int .i64 b0_0, .int .i64 b0_1, .int .i64 b0_2, .sl (.int .u8) b0_3, .int .i64 b0_4, .int .i64 b0_5, .int .i64 b0_6, .sl (.int .i64) b0_7]] => some (⟨b0_0, b0_1, b0_2, b0_3, (⟨(⟨b0_4, b0_5, b0_6⟩ : Shape), b0_7⟩ : Tensor)⟩ : Step)
  | _ => none
def ybu (r : List Int × Bool) : Out := (.tup [.own 0, .r [] (.bool r.2)], [.arr none (.int .u8) r.1])
def ybv (o : Out) : Option (List Int × Bool) := match o with
  | (.tup [.own 0, .r [] (.bool z2)], [.arr none (.int .u8) z1]) => some (z1, z2)
  | _ => none
def ybw (k : Nat) : PG := fun _ l K => (ybt l).bind fun a => (S_PutStep k a).bind fun r => K (ybu r)
theorem ybx (k : Nat) (a : Step) : ev (ybc k) (ybp (List Int × Bool) k) 0 ybe (st0 Try.f15 (ybs a)) (fin Try.prog Try.f15 (.tup [.own (.int .u8), .sc]) ybv) = S_PutStep k a := by kernel_rfl
theorem yby (k : Nat) : PureOk Try.prog 15 (ybw k) :=
  pureOk_of_ev (ybd k) Try.func15 (by kernel_rfl) (by kernel_rfl) ybs ybt
    (fun l a h => by unfold ybt at h; split at h <;> first | (cases h; rfl) | cases h) (fun a => rfl) (lpgood_of (l := [(0, ybf)]) (by kernel_rfl) ⟨ybr k, trivial⟩)
    (fun o r h => by unfold ybv at h; split at h <;> first | (cases h; rfl) | cases h) (ybx k)
def ybz (k : Nat) : Orc := pureOrc [.agg [(.int .i64), (.int .i64), (.int .i64), (.sl (.int .u8)), (.int .i64), (.int .i64), (.int .i64), (.sl (.int .i64))]] (ybw k)
theorem yc0 (k : Nat) : OrcOk Try.prog 15 (ybz k) := pureOrc_ok (yby k)
noncomputable def yc1 (k : Nat) : Env := { P := Try.prog, tt := tt, orc := fun g => noOrc }
theorem yc2 (k : Nat) : EnvOk (yc1 k) := fun g => (noOrc_ok _ _)
noncomputable def yc3 : Code := (Try.f106.body).getD .skip
noncomputable def yc4 : Code := ((loopsIn 0 yc3).getD 0 (0, .skip)).2
def yc5 : List Nat := [0, 3, 4]
def yc6 : List (Where × Co) := []
def yc7 : Ex → List Nat
  | .exit j => cond (Nat.beq j 0) [3] []
  | .ret => []
  | .normal => []
def yc8 : Ex → List (Where × Co)
  | .exit j => cond (Nat.beq j 0) [] []
  | .ret => []
  | .normal => []
def yc9 (pv : (List Int) × (Int × Int)) : St := { slots := [(0, .r [] (.sl (.int .u8) pv.1)), (3, .r [] (.int .i64 pv.2.1)), (4, .r [] (.int .i64 pv.2.2))], heap := [], nid := 0, n := 22, gh := [] }
def yca (nf : NF) : Option ((List Int) × (Int × Int)) := match nf with
  | ([.r [] (.sl (.int .u8) w0), .r [] (.int .i64 w1), .r [] (.int .i64 w2)], [], []) => some (w0, (w1, w2))
  | _ => none
theorem ycb (nf : NF) (v : (List Int) × (Int × Int)) (h : yca nf = some v) : denorm yc5 22 nf = yc9 v := by
  unfold yca at h
  split at h
  · cases h; rfl
  · cases h
def ycc (p : List Int) (x : Int) : St := { slots := [(3, .r [] (.int .i64 x))], heap := [], nid := 0, n := 22, gh := [] }
def ycd (ρ : Type) (k : Nat) : Nat → Ev ρ → Ev ρ := fun id f => cond (Nat.beq id 0) (loopOrc yc5 yc6 (fun n nf => cond (Nat.beq n 22) (yca nf) none) fun pv K => iter (fun v next => S_SumOf_g0 k pv.1 v next (fun x => K (.exit 0) (ycc pv.1 x))) k pv.2) ((fun _ _ _ _ => none) id f)
theorem yce {ρ : Type} (k : Nat) (p : List Int) (v : Int × Int) (K K1 : Ex → St → Option ρ) : ev (yc1 k) (ycd ρ k) 0 yc4 (yc9 (p, v)) (fun e st' => match e with
    | .normal => (normC yc5 yc6 st').bind fun nf => K1 .normal (denorm yc5 st'.n nf)
    | e => (normC (yc7 e) (yc8 e) st').bind fun nf => K e (denorm (yc7 e) st'.n nf)) = S_SumOf_g0 k p v (fun v' => K1 .normal (yc9 (p, v'))) (fun x => K (.exit 0) (ycc p x)) := by kernel_rfl
theorem ycf {ρ : Type} (k : Nat) : Sound Try.prog (.loop yc4) (ycd ρ k 0 fun st K => ev (yc1 k) (ycd ρ k) 0 yc4 st K) :=
  loop_ok (ev_sound (yc2 k) yc4 0 (lpgood_none (by kernel_rfl))) yc7 yc8 k (g := fun p v next K => S_SumOf_g0 k p v next (fun x => K (.exit 0) (ycc p x))) (dec_at ycb) (fun p v K K1 => yce k p v K K1)
def ycg (a : List Int) : List Arg := [.one (.sl (.int .u8) a)]
def ych (l : List Arg) : Option (List Int) := match l with
  | [.one (.sl (.int .u8) b0)] => some b0
  | _ => none
def yci (r : Int) : Out := (.r [] (.int .i64 r), [])
def ycj (o : Out) : Option (Int) := match o with
  | (.r [] (.int .i64 z1), []) => some z1
  | _ => none
def yck (k : Nat) : PG := fun _ l K => (ych l).bind fun a => (S_SumOf k a).bind fun r => K (yci r)
theorem ycl (k : Nat) (a : List Int) : ev (yc1 k) (ycd (Int) k) 0 yc3 (st0 Try.f106 (ycg a)) (fin Try.prog Try.f106 (.sc) ycj) = S_SumOf k a := by kernel_rfl
theorem ycm (k : Nat) : PureOk Try.prog 106 (yck k) :=
  pureOk_of_ev (yc2 k) Try.func106 (by kernel_rfl) (by kernel_rfl) ycg ych
    (fun l a h => by unfold ych at h; split at h <;> first | (cases h; rfl) | cases h) (fun a => rfl) (lpgood_of (l := [(0, yc4)]) (by kernel_rfl) ⟨ycf k, trivial⟩)
    (fun o r h => by unfold ycj at h; split at h <;> first | (cases h; rfl) | cases h) (ycl k)
def ycn (k : Nat) : Orc := pureOrc [.one (.sl (.int .u8))] (yck k)
theorem yco (k : Nat) : OrcOk Try.prog 106 (ycn k) := pureOrc_ok (ycm k)
noncomputable def ycp (k : Nat) : Env := { P := Try.prog, tt := tt, orc := fun g => cond (Nat.beq g 15) (ybz k) (cond (Nat.beq g 99) (y7l k) (cond (Nat.beq g 100) (yaa k) (cond (Nat.beq g 106) (ycn k) (noOrc)))), wr := fun g => mem g [99], wt := true }
theorem ycq (k : Nat) : EnvOk (ycp k) := fun g => (orc_cond (yc0 k) (orc_cond (y7m k) (orc_cond (yab k) (orc_cond (yco k) (noOrc_ok _ _)))))
noncomputable def ycr : Code := (Try.f24.body).getD .skip
noncomputable def ycs : Code := ((loopsIn 0 ycr).getD 0 (0, .skip)).2
def yct : List Nat := [0, 4, 5]
def ycu : List (Where × Co) := []
def ycv : Ex → List Nat
  | .exit j => cond (Nat.beq j 0) [4] []
  | .ret => [2, 3]
  | .normal => []
def ycw : Ex → List (Where × Co)
  | .exit j => cond (Nat.beq j 0) [] []
  | .ret => []
  | .normal => []
def ycx (pv : (List Step) × (Int × List Int)) : St := { slots := [(0, .r [] (.sl (.st .step) pv.1)), (4, .own 0), (5, .r [] (.int .i64 pv.2.1))], heap := [(0, .arr none (.int .u8) pv.2.2)], nid := 1, n := 50, gh := [] }
def ycy (nf : NF) : Option ((List Step) × (Int × List Int)) := match nf with
  | ([.r [] (.sl (.st .step) w0), .own 0, .r [] (.int .i64 w1)], [.arr none (.int .u8) w2], []) => some (w0, (w1, w2))
  | _ => none
theorem ycz (nf : NF) (v : (List Step) × (Int × List Int)) (h : ycy nf = some v) : denorm yct 50 nf = ycx v := by
  unfold ycy at h
  split at h
  · cases h; rfl
  · cases h
def yd0 (p : List Step) (x : List Int) : St := { slots := [(4, .own 0)], heap := [(0, .arr none (.int .u8) x)], nid := 1, n := 50, gh := [] }
def yd1 (p : List Step) (x : Bool) : St := { slots := [(2, .nilS), (3, .r [] (.bool x))], heap := [], nid := 0, n := 50, gh := [] }
def yd2 (ρ : Type) (k : Nat) : Nat → Ev ρ → Ev ρ := fun id f => cond (Nat.beq id 0) (loopOrc yct ycu (fun n nf => cond (Nat.beq n 50) (ycy nf) none) fun pv K => iter (fun v next => S_TraceOf_g0 k pv.1 v next (fun x => K (.exit 0) (yd0 pv.1 x)) (fun x => K .ret (yd1 pv.1 x))) k pv.2) ((fun _ _ _ _ => none) id f)
theorem yd3 {ρ : Type} (k : Nat) (p : List Step) (v : Int × List Int) (K K1 : Ex → St → Option ρ) : ev (ycp k) (yd2 ρ k) 0 ycs (ycx (p, v)) (fun e st' => match e with
    | .normal => (normC yct ycu st').bind fun nf => K1 .normal (denorm yct st'.n nf)
    | e => (normC (ycv e) (ycw e) st').bind fun nf => K e (denorm (ycv e) st'.n nf)) = S_TraceOf_g0 k p v (fun v' => K1 .normal (ycx (p, v'))) (fun x => K (.exit 0) (yd0 p x)) (fun x => K .ret (yd1 p x)) := by kernel_rfl
theorem yd4 {ρ : Type} (k : Nat) : Sound Try.prog (.loop ycs) (yd2 ρ k 0 fun st K => ev (ycp k) (yd2 ρ k) 0 ycs st K) :=
  loop_ok (ev_sound (ycq k) ycs 0 (lpgood_none (by kernel_rfl))) ycv ycw k (g := fun p v next K => S_TraceOf_g0 k p v next (fun x => K (.exit 0) (yd0 p x)) (fun x => K .ret (yd1 p x))) (dec_at ycz) (fun p v K K1 => yd3 k p v K K1)
def yd5 (a : List Step) : List Arg := [.one (.sl (.st .step) a)]
def yd6 (l : List Arg) : Option (List Step) := match l with
  | [.one (.sl (.st .step) b0)] => some b0
  | _ => none
def yd7 (r : List Int × Bool) : Out := (.tup [.own 0, .r [] (.bool r.2)], [.arr none (.int .u8) r.1])
def yd8 (o : Out) : Option (List Int × Bool) := match o with
  | (.tup [.own 0, .r [] (.bool z2)], [.arr none (.int .u8) z1]) => some (z1, z2)
  | _ => none
def yd9 (k : Nat) : PG := fun _ l K => (yd6 l).bind fun a => (S_TraceOf k a).bind fun r => K (yd7 r)
theorem yda (k : Nat) (a : List Step) : ev (ycp k) (yd2 (List Int × Bool) k) 0 ycr (st0 Try.f24 (yd5 a)) (fin Try.prog Try.f24 (.tup [.own (.int .u8), .sc]) yd8) = S_TraceOf k a := by kernel_rfl
theorem ydb (k : Nat) : PureOk Try.prog 24 (yd9 k) :=
  pureOk_of_ev (ycq k) Try.func24 (by kernel_rfl) (by kernel_rfl) yd5 yd6
    (fun l a h => by unfold yd6 at h; split at h <;> first | (cases h; rfl) | cases h) (fun a => rfl) (lpgood_of (l := [(0, ycs)]) (by kernel_rfl) ⟨yd4 k, trivial⟩)
    (fun o r h => by unfold yd8 at h; split at h <;> first | (cases h; rfl) | cases h) (yda k)
def ydc (k : Nat) : Orc := pureOrc [.one (.sl (.st .step))] (yd9 k)
theorem ydd (k : Nat) : OrcOk Try.prog 24 (ydc k) := pureOrc_ok (ydb k)
noncomputable def yde (k : Nat) : Env := { P := Try.prog, tt := tt, orc := fun g => noOrc }
theorem ydf (k : Nat) : EnvOk (yde k) := fun g => (noOrc_ok _ _)
noncomputable def ydg : Code := (Try.f105.body).getD .skip
noncomputable def ydh : Code := ((loopsIn 0 ydg).getD 0 (0, .skip)).2
noncomputable def ydi : Code := ((loopsIn 0 ydh).getD 0 (0, .skip)).2
def ydj : List Nat := [0, 7, 8, 9, 10]
def ydk : List (Where × Co) := []
def ydl : Ex → List Nat
  | .exit j => cond (Nat.beq j 2) [0, 7, 8, 9, 10] []
  | .ret => []
  | .normal => []
def ydm : Ex → List (Where × Co)
  | .exit j => cond (Nat.beq j 2) [] []
  | .ret => []
  | .normal => []
def ydn (pv : (List Int × Int × Int) × (Int × List Int)) : St := { slots := [(0, .own 0), (7, .r [] (.int .i64 pv.2.1)), (8, .r [] (.sl (.int .i64) pv.1.1)), (9, .r [] (.int .i64 pv.1.2.1)), (10, .r [] (.int .i64 pv.1.2.2))], heap := [(0, .arr none (.int .u8) pv.2.2)], nid := 1, n := 38, gh := [none] }
def ydo (nf : NF) : Option ((List Int × Int × Int) × (Int × List Int)) := match nf with
  | ([.own 0, .r [] (.int .i64 w0), .r [] (.sl (.int .i64) w1), .r [] (.int .i64 w2), .r [] (.int .i64 w3)], [.arr none (.int .u8) w4], [none]) => some ((w1, w2, w3), (w0, w4))
  | _ => none
theorem ydp (nf : NF) (v : (List Int × Int × Int) × (Int × List Int)) (h : ydo nf = some v) : denorm ydj 38 nf = ydn v := by
  unfold ydo at h
  split at h
  · cases h; rfl
  · cases h
def ydq (p : List Int × Int × Int) (x : Int × List Int) : St := { slots := [(0, .own 0), (7, .r [] (.int .i64 x.1)), (8, .r [] (.sl (.int .i64) p.1)), (9, .r [] (.int .i64 p.2.1)), (10, .r [] (.int .i64 p.2.2))], heap := [(0, .arr none (.int .u8) x.2)], nid := 1, n := 38, gh := [none] }
def ydr : List Nat := [0, 8, 9, 10]
def yds : List (Where × Co) := [((.gh 0), .drop)]
def ydt : Ex → List Nat
  | .exit j => cond (Nat.beq j 0) [0] []
  | .ret => []
  | .normal => []
def ydu : Ex → List (Where × Co)
  | .exit j => cond (Nat.beq j 0) [] []
  | .ret => []
  | .normal => []
def ydv (pv : (List Int × Int) × (Int × List Int)) : St := { slots := [(0, .own 0), (8, .r [] (.sl (.int .i64) pv.1.1)), (9, .r [] (.int .i64 pv.1.2)), (10, .r [] (.int .i64 pv.2.1))], heap := [(0, .arr none (.int .u8) pv.2.2)], nid := 1, n := 38, gh := [none] }
def ydw (nf : NF) : Option ((List Int × Int) × (Int × List Int)) := match nf with
  | ([.own 0, .r [] (.sl (.int .i64) w0), .r [] (.int .i64 w1), .r [] (.int .i64 w2)], [.arr none (.int .u8) w3], [none]) => some ((w0, w1), (w2, w3))
  | _ => none
theorem ydx (nf : NF) (v : (List Int × Int) × (Int × List Int)) (h : ydw nf = some v) : denorm ydr 38 nf = ydv v := by
  unfold ydw at h
  split at h
  · cases h; rfl
  · cases h
def ydy (p : List Int × Int) (x : List Int) : St := { slots := [(0, .own 0)], heap := [(0, .arr none (.int .u8) x)], nid := 1, n := 38, gh := [none] }
def ydz (ρ : Type) (k : Nat) : Nat → Ev ρ → Ev ρ := fun id f => cond (Nat.beq id 0) (loopOrc ydr yds (fun n nf => cond (Nat.beq n 38) (ydw nf) none) fun pv K => iter (fun v next => I_putWide_m5_g0 k pv.1 v next (fun x => K (.exit 0) (ydy pv.1 x))) k pv.2) ((fun id f => cond (Nat.beq id 2) (loopOrc ydj ydk (fun n nf => cond (Nat.beq n 38) (ydo nf) none) fun pv K => iter (fun v next => I_putWide_m5_g1 k pv.1 v next (fun x => K (.exit 2) (ydq pv.1 x))) k pv.2) ((fun _ _ _ _ => none) id f)) id f)
theorem ye0 {ρ : Type} (k : Nat) (p : List Int × Int × Int) (v : Int × List Int) (K K1 : Ex → St → Option ρ) : ev (yde k) (ydz ρ k) 2 ydi (ydn (p, v)) (fun e st' => match e with
    | .normal => (normC ydj ydk st').bind fun nf => K1 .normal (denorm ydj st'.n nf)
    | e => (normC (ydl e) (ydm e) st').bind fun nf => K e (denorm (ydl e) st'.n nf)) = I_putWide_m5_g1 k p v (fun v' => K1 .normal (ydn (p, v'))) (fun x => K (.exit 2) (ydq p x)) := by kernel_rfl
theorem ye1 {ρ : Type} (k : Nat) : Sound Try.prog (.loop ydi) (ydz ρ k 2 fun st K => ev (yde k) (ydz ρ k) 2 ydi st K) :=
  loop_ok (ev_sound (ydf k) ydi 2 (lpgood_none (by kernel_rfl))) ydl ydm k (g := fun p v next K => I_putWide_m5_g1 k p v next (fun x => K (.exit 2) (ydq p x))) (dec_at ydp) (fun p v K K1 => ye0 k p v K K1)
theorem ye2 {ρ : Type} (k : Nat) (p : List Int × Int) (v : Int × List Int) (K K1 : Ex → St → Option ρ) : ev (yde k) (ydz ρ k) 0 ydh (ydv (p, v)) (fun e st' => match e with
    | .normal => (normC ydr yds st').bind fun nf => K1 .normal (denorm ydr st'.n nf)
    | e => (normC (ydt e) (ydu e) st').bind fun nf => K e (denorm (ydt e) st'.n nf)) = I_putWide_m5_g0 k p v (fun v' => K1 .normal (ydv (p, v'))) (fun x => K (.exit 0) (ydy p x)) := by kernel_rfl
theorem ye3 {ρ : Type} (k : Nat) : Sound Try.prog (.loop ydh) (ydz ρ k 0 fun st K => ev (yde k) (ydz ρ k) 0 ydh st K) :=
  loop_ok (ev_sound (ydf k) ydh 0 (lpgood_of (l := [(2, ydi)]) (by kernel_rfl) ⟨ye1 k, trivial⟩)) ydt ydu k (g := fun p v next K => I_putWide_m5_g0 k p v next (fun x => K (.exit 0) (ydy p x))) (dec_at ydx) (fun p v K K1 => ye2 k p v K K1)
def ye4 (a : List Int × List Int) : List SV := [.own 0, .r [] (.sl (.int .i64) a.2)]
def ye5 (a : List Int × List Int) : List Blk := [.arr none (.int .u8) a.1]
def ye6 (l : List SV) (b : List Blk) : Option (List Int × List Int) := match l, b with
  | [.own 0, .r [] (.sl (.int .i64) w0)], [.arr none (.int .u8) w1] => some (w1, w0)
  | _, _ => none
def ye7 (a : List Int × List Int) (r : List Int) : MOut := ⟨.own 1, [none], [.arr none (.int .u8) r]⟩
def ye8 (a : List Int × List Int) (o : MOut) : Option (List Int) := match o with
  | ⟨.own 1, [none], [.arr none (.int .u8) z1]⟩ => some z1
  | _ => none
def ye9 (k : Nat) : MG := fun _ l b K => (ye6 l b).bind fun a => (I_putWide_m5 k a.1 a.2).bind fun r => K (ye7 a r)
theorem yea (k : Nat) (a : List Int × List Int) : ev (yde k) (ydz (List Int) k) 0 ydg (st0M Try.f105 (ye4 a) (ye5 a)) (finM Try.prog Try.f105 (.own (.int .u8)) [.gone] (ye8 a)) = I_putWide_m5 k a.1 a.2 := by kernel_rfl
theorem yeb (k : Nat) : MutOk Try.prog 105 (ye9 k) :=
  mutOk_of_ev (ydf k) Try.func105 (by kernel_rfl) (by kernel_rfl) ye4 ye5 ye6
    (fun l b a h => by unfold ye6 at h; split at h <;> first | (cases h; exact ⟨rfl, rfl⟩) | cases h) (fun a => rfl) (lpgood_of (l := [(0, ydh)]) (by kernel_rfl) ⟨ye3 k, trivial⟩) (fun a r => rfl)
    (fun a o r h => by unfold ye8 at h; split at h <;> first | (skip; cases h; rfl) | cases h) (yea k)
def yec (k : Nat) : Orc := mutOrc [.keep, .one (.sl (.int .i64))] (ye9 k)
theorem yed (k : Nat) : OrcOk Try.prog 105 (yec k) := mutOrc_ok (yeb k)
noncomputable def E_I_in (k : Nat) : Env := { P := Try.prog, tt := tt, orc := fun g => noOrc }
theorem yee (k : Nat) : EnvOk (E_I_in k) := fun g => (noOrc_ok _ _)
noncomputable def c_I_in : Code := (Try.f132.body).getD .skip
def yef (ρ : Type) (k : Nat) : Nat → Ev ρ → Ev ρ := fun _ _ _ _ => none
def yeg (a : Int × Int × Int) : List Arg := [.one (.int .i64 a.1), .one (.int .i64 a.2.1), .one (.int .i64 a.2.2)]
def yeh (l : List Arg) : Option (Int × Int × Int) := match l with
  | [.one (.int .i64 b0), .one (.int .i64 b1), .one (.int .i64 b2)] => some (b0, b1, b2)
  | _ => none
def yei (r : Bool) : Out := (.r [] (.bool r), [])
def yej (o : Out) : Option (Bool) := match o with
  | (.r [] (.bool z1), []) => some z1
  | _ => none
def I_in_G (k : Nat) : PG := fun _ l K => (yeh l).bind fun a => (I_in k a.1 a.2.1 a.2.2).bind fun r => K (yei r)
theorem yek (k : Nat) (a : Int × Int × Int) : ev (E_I_in k) (yef (Bool) k) 0 c_I_in (st0 Try.f132 (yeg a)) (fin Try.prog Try.f132 (.sc) yej) = I_in k a.1 a.2.1 a.2.2 := by kernel_rfl
theorem yel (k : Nat) : PureOk Try.prog 132 (I_in_G k) :=
  pureOk_of_ev (yee k) Try.func132 (by kernel_rfl) (by kernel_rfl) yeg yeh
    (fun l a h => by unfold yeh at h; split at h <;> first | (cases h; rfl) | cases h) (fun a => rfl) (lpgood_none (by kernel_rfl))
    (fun o r h => by unfold yej at h; split at h <;> first | (cases h; rfl) | cases h) (yek k)
def o_I_in (k : Nat) : Orc := pureOrc [.one (.int .i64), .one (.int .i64), .one (.int .i64)] (I_in_G k)
theorem yem (k : Nat) : OrcOk Try.prog 132 (o_I_in k) := pureOrc_ok (yel k)
noncomputable def yen (k : Nat) : Env := { P := Try.prog, tt := tt, orc := fun g => cond (Nat.beq g 132) (o_I_in k) (noOrc) }
theorem yeo (k : Nat) : EnvOk (yen k) := fun g => (orc_cond (yem k) (noOrc_ok _ _))
noncomputable def yep : Code := (Try.f103.body).getD .skip
def yeq (ρ : Type) (k : Nat) : Nat → Ev ρ → Ev ρ := fun _ _ _ _ => none
def yer (a : Int) : List Arg := [.one (.int .i64 a)]
def yet (l : List Arg) : Option (Int) := match l with
  | [.one (.int .i64 b0)] => some b0
  | _ => none
def yeu (r : Bool) : Out := (.r [] (.bool r), [])
def yev (o : Out) : Option (Bool) := match o with
  | (.r [] (.bool z1), []) => some z1
  | _ => none
def yew (k : Nat) : PG := fun _ l K => (yet l).bind fun a => (I_isWide k a).bind fun r => K (yeu r)
theorem yex (k : Nat) (a : Int) : ev (yen k) (yeq (Bool) k) 0 yep (st0 Try.f103 (yer a)) (fin Try.prog Try.f103 (.sc) yev) = I_isWide k a := by kernel_rfl
theorem yey (k : Nat) : PureOk Try.prog 103 (yew k) :=
  pureOk_of_ev (yeo k) Try.func103 (by kernel_rfl) (by kernel_rfl) yer yet
    (fun l a h => by unfold yet at h; split at h <;> first | (cases h; rfl) | cases h) (fun a => rfl) (lpgood_none (by kernel_rfl))
    (fun o r h => by unfold yev at h; split at h <;> first | (cases h; rfl) | cases h) (yex k)
def yez (k : Nat) : Orc := pureOrc [.one (.int .i64)] (yew k)
theorem yf0 (k : Nat) : OrcOk Try.prog 103 (yez k) := pureOrc_ok (yey k)
noncomputable def yf1 (k : Nat) : Env := { P := Try.prog, tt := tt, orc := fun g => cond (Nat.beq g 103) (yez k) (noOrc) }
theorem yf2 (k : Nat) : EnvOk (yf1 k) := fun g => (orc_cond (yf0 k) (noOrc_ok _ _))
noncomputable def yf3 : Code := (Try.f102.body).getD .skip
def yf4 (ρ : Type) (k : Nat) : Nat → Ev ρ → Ev ρ := fun _ _ _ _ => none
def yf5 (a : Int) : List Arg := [.one (.int .i64 a)]
def yf6 (l : List Arg) : Option (Int) := match l with
  | [.one (.int .i64 b0)] => some b0
  | _ => none
def yf7 (r : Bool) : Out := (.r [] (.bool r), [])
def yf8 (o : Out) : Option (Bool) := match o with
  | (.r [] (.bool z1), []) => some z1
  | _ => none
def yf9 (k : Nat) : PG := fun _ l K => (yf6 l).bind fun a => (I_PutStep_c1 k a).bind fun r => K (yf7 r)
theorem yfa (k : Nat) (a : Int) : ev (yf1 k) (yf4 (Bool) k) 0 yf3 (st0 Try.f102 (yf5 a)) (fin Try.prog Try.f102 (.sc) yf8) = I_PutStep_c1 k a := by kernel_rfl
theorem yfb (k : Nat) : PureOk Try.prog 102 (yf9 k) :=
  pureOk_of_ev (yf2 k) Try.func102 (by kernel_rfl) (by kernel_rfl) yf5 yf6
    (fun l a h => by unfold yf6 at h; split at h <;> first | (cases h; rfl) | cases h) (fun a => rfl) (lpgood_none (by kernel_rfl))
    (fun o r h => by unfold yf8 at h; split at h <;> first | (cases h; rfl) | cases h) (yfa k)
def yfc (k : Nat) : Orc := pureOrc [.one (.int .i64)] (yf9 k)
theorem yfd (k : Nat) : OrcOk Try.prog 102 (yfc k) := pureOrc_ok (yfb k)
noncomputable def yfe (k : Nat) : Env := { P := Try.prog, tt := tt, orc := fun g => cond (Nat.beq g 102) (yfc k) (noOrc) }
theorem yff (k : Nat) : EnvOk (yfe k) := fun g => (orc_cond (yfd k) (noOrc_ok _ _))
noncomputable def yfg : Code := (Try.f188.body).getD .skip
noncomputable def yfh : Code := ((loopsIn 0 yfg).getD 0 (0, .skip)).2
def yfi : List Nat := [0, 1, 7, 8]
def yfj : List (Where × Co) := []
def yfk : Ex → List Nat
  | .exit j => cond (Nat.beq j 0) [] []
  | .ret => [4]
  | .normal => []
def yfl : Ex → List (Where × Co)
  | .exit j => cond (Nat.beq j 0) [] []
  | .ret => []
  | .normal => []
def yfm (pv : (List Int × Int) × (Int)) : St := { slots := [(0, .r [] (.sl (.int .i64) pv.1.1)), (1, .fn (.func 102) [] []), (7, .r [] (.int .i64 pv.1.2)), (8, .r [] (.int .i64 pv.2))], heap := [], nid := 0, n := 19, gh := [] }
def yfn (nf : NF) : Option ((List Int × Int) × (Int)) := match nf with
  | ([.r [] (.sl (.int .i64) w0), .fn (.func 102) [] [], .r [] (.int .i64 w1), .r [] (.int .i64 w2)], [], []) => some ((w0, w1), w2)
  | _ => none
theorem yfo (nf : NF) (v : (List Int × Int) × (Int)) (h : yfn nf = some v) : denorm yfi 19 nf = yfm v := by
  unfold yfn at h
  split at h
  · cases h; rfl
  · cases h
def yfp (p : List Int × Int) (x : Unit) : St := { slots := [], heap := [], nid := 0, n := 19, gh := [] }
def yfq (p : List Int × Int) (x : Int) : St := { slots := [(4, .r [] (.int .i64 x))], heap := [], nid := 0, n := 19, gh := [] }
def yfr (ρ : Type) (k : Nat) : Nat → Ev ρ → Ev ρ := fun id f => cond (Nat.beq id 0) (loopOrc yfi yfj (fun n nf => cond (Nat.beq n 19) (yfn nf) none) fun pv K => iter (fun v next => slices_IndexFunc_lint_int__I_PutStep_c1_g0 k pv.1 v next (fun x => K (.exit 0) (yfp pv.1 x)) (fun x => K .ret (yfq pv.1 x))) k pv.2) ((fun _ _ _ _ => none) id f)
theorem yfs {ρ : Type} (k : Nat) (p : List Int × Int) (v : Int) (K K1 : Ex → St → Option ρ) : ev (yfe k) (yfr ρ k) 0 yfh (yfm (p, v)) (fun e st' => match e with
    | .normal => (normC yfi yfj st').bind fun nf => K1 .normal (denorm yfi st'.n nf)
    | e => (normC (yfk e) (yfl e) st').bind fun nf => K e (denorm (yfk e) st'.n nf)) = slices_IndexFunc_lint_int__I_PutStep_c1_g0 k p v (fun v' => K1 .normal (yfm (p, v'))) (fun x => K (.exit 0) (yfp p x)) (fun x => K .ret (yfq p x)) := by kernel_rfl
theorem yft {ρ : Type} (k : Nat) : Sound Try.prog (.loop yfh) (yfr ρ k 0 fun st K => ev (yfe k) (yfr ρ k) 0 yfh st K) :=
  loop_ok (ev_sound (yff k) yfh 0 (lpgood_none (by kernel_rfl))) yfk yfl k (g := fun p v next K => slices_IndexFunc_lint_int__I_PutStep_c1_g0 k p v next (fun x => K (.exit 0) (yfp p x)) (fun x => K .ret (yfq p x))) (dec_at yfo) (fun p v K K1 => yfs k p v K K1)
def yfu (a : List Int) : List Arg := [.one (.sl (.int .i64) a), .fn (.func 102) [] []]
def yfv (l : List Arg) : Option (List Int) := match l with
  | [.one (.sl (.int .i64) b0), .fn (.func 102) [] []] => some b0
  | _ => none
def yfw (r : Int) : Out := (.r [] (.int .i64 r), [])
def yfx (o : Out) : Option (Int) := match o with
  | (.r [] (.int .i64 z1), []) => some z1
  | _ => none
def yfy (k : Nat) : PG := fun _ l K => (yfv l).bind fun a => (slices_IndexFunc_lint_int__I_PutStep_c1 k a).bind fun r => K (yfw r)
theorem yfz (k : Nat) (a : List Int) : ev (yfe k) (yfr (Int) k) 0 yfg (st0 Try.f188 (yfu a)) (fin Try.prog Try.f188 (.sc) yfx) = slices_IndexFunc_lint_int__I_PutStep_c1 k a := by kernel_rfl
theorem yg0 (k : Nat) : PureOk Try.prog 188 (yfy k) :=
  pureOk_of_ev (yff k) Try.func188 (by kernel_rfl) (by kernel_rfl) yfu yfv
    (fun l a h => by unfold yfv at h; split at h <;> first | (cases h; rfl) | cases h) (fun a => rfl) (lpgood_of (l := [(0, yfh)]) (by kernel_rfl) ⟨yft k, trivial⟩)
    (fun o r h => by unfold yfx at h; split at h <;> first | (cases h; rfl) | cases h) (yfz k)
def yg1 (k : Nat) : Orc := pureOrc [.one (.sl (.int .i64)), .fn] (yfy k)
theorem yg2 (k : Nat) : OrcOk Try.prog 188 (yg1 k) := pureOrc_ok (yg0 k)
noncomputable def yg3 (k : Nat) : Env := { P := Try.prog, tt := tt, orc := fun g => cond (Nat.beq g 188) (yg1 k) (noOrc) }
theorem yg4 (k : Nat) : EnvOk (yg3 k) := fun g => (orc_cond (yg2 k) (noOrc_ok _ _))
noncomputable def yg5 : Code := (Try.f104.body).getD .skip
def yg6 (ρ : Type) (k : Nat) : Nat → Ev ρ → Ev ρ := fun _ _ _ _ => none
def yg7 (a : List Int) : List Arg := [.one (.sl (.int .i64) a), .fn (.func 102) [] []]
def yg8 (l : List Arg) : Option (List Int) := match l with
  | [.one (.sl (.int .i64) b0), .fn (.func 102) [] []] => some b0
  | _ => none
def yg9 (r : Bool) : Out := (.r [] (.bool r), [])
def yga (o : Out) : Option (Bool) := match o with
  | (.r [] (.bool z1), []) => some z1
  | _ => none
def ygb (k : Nat) : PG := fun _ l K => (yg8 l).bind fun a => (slices_ContainsFunc_lint_int__I_PutStep_c1 k a).bind fun r => K (yg9 r)
theorem ygc (k : Nat) (a : List Int) : ev (yg3 k) (yg6 (Bool) k) 0 yg5 (st0 Try.f104 (yg7 a)) (fin Try.prog Try.f104 (.sc) yga) = slices_ContainsFunc_lint_int__I_PutStep_c1 k a := by kernel_rfl
theorem ygd (k : Nat) : PureOk Try.prog 104 (ygb k) :=
  pureOk_of_ev (yg4 k) Try.func104 (by kernel_rfl) (by kernel_rfl) yg7 yg8
    (fun l a h => by unfold yg8 at h; split at h <;> first | (cases h; rfl) | cases h) (fun a => rfl) (lpgood_none (by kernel_rfl))
    (fun o r h => by unfold yga at h; split at h <;> first | (cases h; rfl) | cases h) (ygc k)
def yge (k : Nat) : Orc := pureOrc [.one (.sl (.int .i64)), .fn] (ygb k)
theorem ygf (k : Nat) : OrcOk Try.prog 104 (yge k) := pureOrc_ok (ygd k)
noncomputable def ygg (k : Nat) : Env := { P := Try.prog, tt := tt, orc := fun g => noOrc }
theorem ygh (k : Nat) : EnvOk (ygg k) := fun g => (noOrc_ok _ _)
noncomputable def ygi : Code := (Try.f105.body).getD .skip
noncomputable def ygj : Code := ((loopsIn 0 ygi).getD 0 (0, .skip)).2
noncomputable def ygk : Code := ((loopsIn 0 ygj).getD 0 (0, .skip)).2
def ygl : List Nat := [0, 7, 8, 9, 10]
def ygm : List (Where × Co) := []
def ygn : Ex → List Nat
  | .exit j => cond (Nat.beq j 2) [0, 7, 8, 9, 10] []
  | .ret => []
  | .normal => []
def ygo : Ex → List (Where × Co)
  | .exit j => cond (Nat.beq j 2) [] []
  | .ret => []
  | .normal => []
def ygp (pv : (List Int × Int × Int) × (Int × List Int)) : St := { slots := [(0, .own 0), (7, .r [] (.int .i64 pv.2.1)), (8, .r [] (.sl (.int .i64) pv.1.1)), (9, .r [] (.int .i64 pv.1.2.1)), (10, .r [] (.int .i64 pv.1.2.2))], heap := [(0, .arr none (.int .u8) pv.2.2)], nid := 1, n := 38, gh := [] }
def ygq (nf : NF) : Option ((List Int × Int × Int) × (Int × List Int)) := match nf with
  | ([.own 0, .r [] (.int .i64 w0), .r [] (.sl (.int .i64) w1), .r [] (.int .i64 w2), .r [] (.int .i64 w3)], [.arr none (.int .u8) w4], []) => some ((w1, w2, w3), (w0, w4))
  | _ => none
theorem ygr (nf : NF) (v : (List Int × Int × Int) × (Int × List Int)) (h : ygq nf = some v) : denorm ygl 38 nf = ygp v := by
  unfold ygq at h
  split at h
  · cases h; rfl
  · cases h
def ygs (p : List Int × Int × Int) (x : Int × List Int) : St := { slots := [(0, .own 0), (7, .r [] (.int .i64 x.1)), (8, .r [] (.sl (.int .i64) p.1)), (9, .r [] (.int .i64 p.2.1)), (10, .r [] (.int .i64 p.2.2))], heap := [(0, .arr none (.int .u8) x.2)], nid := 1, n := 38, gh := [] }
def ygt : List Nat := [0, 8, 9, 10]
def ygu : List (Where × Co) := [((.slot 0), (.nilOwn false (.int .u8)))]
def ygv : Ex → List Nat
  | .exit j => cond (Nat.beq j 0) [0] []
  | .ret => []
  | .normal => []
def ygw : Ex → List (Where × Co)
  | .exit j => cond (Nat.beq j 0) [] []
  | .ret => []
  | .normal => []
def ygx (pv : (List Int × Int) × (Int × List Int)) : St := { slots := [(0, .own 0), (8, .r [] (.sl (.int .i64) pv.1.1)), (9, .r [] (.int .i64 pv.1.2)), (10, .r [] (.int .i64 pv.2.1))], heap := [(0, .arr none (.int .u8) pv.2.2)], nid := 1, n := 38, gh := [] }
def ygy (nf : NF) : Option ((List Int × Int) × (Int × List Int)) := match nf with
  | ([.own 0, .r [] (.sl (.int .i64) w0), .r [] (.int .i64 w1), .r [] (.int .i64 w2)], [.arr none (.int .u8) w3], []) => some ((w0, w1), (w2, w3))
  | _ => none
theorem ygz (nf : NF) (v : (List Int × Int) × (Int × List Int)) (h : ygy nf = some v) : denorm ygt 38 nf = ygx v := by
  unfold ygy at h
  split at h
  · cases h; rfl
  · cases h
def yh0 (p : List Int × Int) (x : List Int) : St := { slots := [(0, .own 0)], heap := [(0, .arr none (.int .u8) x)], nid := 1, n := 38, gh := [] }
def yh1 (ρ : Type) (k : Nat) : Nat → Ev ρ → Ev ρ := fun id f => cond (Nat.beq id 0) (loopOrc ygt ygu (fun n nf => cond (Nat.beq n 38) (ygy nf) none) fun pv K => iter (fun v next => I_putWide_m4_g0 k pv.1 v next (fun x => K (.exit 0) (yh0 pv.1 x))) k pv.2) ((fun id f => cond (Nat.beq id 2) (loopOrc ygl ygm (fun n nf => cond (Nat.beq n 38) (ygq nf) none) fun pv K => iter (fun v next => I_putWide_m4_g1 k pv.1 v next (fun x => K (.exit 2) (ygs pv.1 x))) k pv.2) ((fun _ _ _ _ => none) id f)) id f)
theorem yh2 {ρ : Type} (k : Nat) (p : List Int × Int × Int) (v : Int × List Int) (K K1 : Ex → St → Option ρ) : ev (ygg k) (yh1 ρ k) 2 ygk (ygp (p, v)) (fun e st' => match e with
    | .normal => (normC ygl ygm st').bind fun nf => K1 .normal (denorm ygl st'.n nf)
    | e => (normC (ygn e) (ygo e) st').bind fun nf => K e (denorm (ygn e) st'.n nf)) = I_putWide_m4_g1 k p v (fun v' => K1 .normal (ygp (p, v'))) (fun x => K (.exit 2) (ygs p x)) := by kernel_rfl
theorem yh3 {ρ : Type} (k : Nat) : Sound Try.prog (.loop ygk) (yh1 ρ k 2 fun st K => ev (ygg k) (yh1 ρ k) 2 ygk st K) :=
  loop_ok (ev_sound (ygh k) ygk 2 (lpgood_none (by kernel_rfl))) ygn ygo k (g := fun p v next K => I_putWide_m4_g1 k p v next (fun x => K (.exit 2) (ygs p x))) (dec_at ygr) (fun p v K K1 => yh2 k p v K K1)
theorem yh4 {ρ : Type} (k : Nat) (p : List Int × Int) (v : Int × List Int) (K K1 : Ex → St → Option ρ) : ev (ygg k) (yh1 ρ k) 0 ygj (ygx (p, v)) (fun e st' => match e with
    | .normal => (normC ygt ygu st').bind fun nf => K1 .normal (denorm ygt st'.n nf)
    | e => (normC (ygv e) (ygw e) st').bind fun nf => K e (denorm (ygv e) st'.n nf)) = I_putWide_m4_g0 k p v (fun v' => K1 .normal (ygx (p, v'))) (fun x => K (.exit 0) (yh0 p x)) := by kernel_rfl
theorem yh5 {ρ : Type} (k : Nat) : Sound Try.prog (.loop ygj) (yh1 ρ k 0 fun st K => ev (ygg k) (yh1 ρ k) 0 ygj st K) :=
  loop_ok (ev_sound (ygh k) ygj 0 (lpgood_of (l := [(2, ygk)]) (by kernel_rfl) ⟨yh3 k, trivial⟩)) ygv ygw k (g := fun p v next K => I_putWide_m4_g0 k p v next (fun x => K (.exit 0) (yh0 p x))) (dec_at ygz) (fun p v K K1 => yh4 k p v K K1)
def yh6 (a : List Int) : List SV := [.nilS, .r [] (.sl (.int .i64) a)]
def yh7 (a : List Int) : List Blk := []
def yh8 (l : List SV) (b : List Blk) : Option (List Int) := match l, b with
  | [.nilS, .r [] (.sl (.int .i64) w0)], [] => some w0
  | _, _ => none
def yh9 (a : List Int) (r : List Int) : MOut := ⟨.own 0, [], [.arr none (.int .u8) r]⟩
def yha (a : List Int) (o : MOut) : Option (List Int) := match o with
  | ⟨.own 0, [], [.arr none (.int .u8) z1]⟩ => some z1
  | _ => none
def yhb (k : Nat) : MG := fun _ l b K => (yh8 l b).bind fun a => (I_putWide_m4 k a).bind fun r => K (yh9 a r)
theorem yhc (k : Nat) (a : List Int) : ev (ygg k) (yh1 (List Int) k) 0 ygi (st0M Try.f105 (yh6 a) (yh7 a)) (finM Try.prog Try.f105 (.own (.int .u8)) [] (yha a)) = I_putWide_m4 k a := by kernel_rfl
theorem yhd (k : Nat) : MutOk Try.prog 105 (yhb k) :=
  mutOk_of_ev (ygh k) Try.func105 (by kernel_rfl) (by kernel_rfl) yh6 yh7 yh8
    (fun l b a h => by unfold yh8 at h; split at h <;> first | (cases h; exact ⟨rfl, rfl⟩) | cases h) (fun a => rfl) (lpgood_of (l := [(0, ygj)]) (by kernel_rfl) ⟨yh5 k, trivial⟩) (fun a r => rfl)
    (fun a o r h => by unfold yha at h; split at h <;> first | (skip; cases h; rfl) | cases h) (yhc k)
def yhe (k : Nat) : Orc := mutOrc [.keep, .one (.sl (.int .i64))] (yhb k)
theorem yhf (k : Nat) : OrcOk Try.prog 105 (yhe k) := mutOrc_ok (yhd k)
noncomputable def yhg (k : Nat) : Env := { P := Try.prog, tt := tt, orc := fun g => cond (Nat.beq g 104) (yge k) (cond (Nat.beq g 105) (altB (mutT [.keep, .one (.sl (.int .i64))] ye6) (yec k) (yhe k)) (noOrc)), wr := fun g => mem g [105], wt := true }
theorem yhh (k : Nat) : EnvOk (yhg k) := fun g => (orc_cond (ygf k) (orc_cond (altB_ok (yed k) (yhf k)) (noOrc_ok _ _)))
noncomputable def yhi : Code := (Try.f17.body).getD .skip
def yhj (ρ : Type) (k : Nat) : Nat → Ev ρ → Ev ρ := fun _ _ _ _ => none
def yhk (a : Step) : List Arg := [.agg [.int .i64 a.kind, .int .i64 a.a, .int .i64 a.b, .sl (.int .u8) a.data, .int .i64 a.input.sh.h, .int .i64 a.input.sh.w, .int .i64 a.input.sh.c, .sl (.int .i64) a.input.data]]
def yhl (l : List Arg) : Option (Step) := match l with
  | [.agg [.int .i64 b0_0, .int .i64 b0_1, .int .i64 b0_2, .sl (.int .u8) b0_3, .int .i64 b0_4, .int .i64 b0_5, .int .i64 b0_6, .sl (.int .i64) b0_7]] => some (⟨b0_0, b0_1, b0_2, b0_3, (⟨(⟨b0_4, b0_5, b0_6⟩ : Shape), b0_7⟩ : Tensor)⟩ : Step)
  | _ => none
def yhm (r : List Int × Bool) : Out := (.tup [.own 0, .r [] (.bool r.2)], [.arr none (.int .u8) r.1])
def yhn (o : Out) : Option (List Int × Bool) := match o with
  | (.tup [.own 0, .r [] (.bool z2)], [.arr none (.int .u8) z1]) => some (z1, z2)
  | _ => none
def yho (k : Nat) : PG := fun _ l K => (yhl l).bind fun a => (I_PutStep k a).bind fun r => K (yhm r)
theorem yhp (k : Nat) (a : Step) : ev (yhg k) (yhj (List Int × Bool) k) 0 yhi (st0 Try.f17 (yhk a)) (fin Try.prog Try.f17 (.tup [.own (.int .u8), .sc]) yhn) = I_PutStep k a := by kernel_rfl
theorem yhq (k : Nat) : PureOk Try.prog 17 (yho k) :=
  pureOk_of_ev (yhh k) Try.func17 (by kernel_rfl) (by kernel_rfl) yhk yhl
    (fun l a h => by unfold yhl at h; split at h <;> first | (cases h; rfl) | cases h) (fun a => rfl) (lpgood_none (by kernel_rfl))
    (fun o r h => by unfold yhn at h; split at h <;> first | (cases h; rfl) | cases h) (yhp k)
def yhr (k : Nat) : Orc := pureOrc [.agg [(.int .i64), (.int .i64), (.int .i64), (.sl (.int .u8)), (.int .i64), (.int .i64), (.int .i64), (.sl (.int .i64))]] (yho k)
theorem yhs (k : Nat) : OrcOk Try.prog 17 (yhr k) := pureOrc_ok (yhq k)
noncomputable def yht (k : Nat) : Env := { P := Try.prog, tt := tt, orc := fun g => noOrc }
theorem yhu (k : Nat) : EnvOk (yht k) := fun g => (noOrc_ok _ _)
noncomputable def yhv : Code := (Try.f107.body).getD .skip
noncomputable def yhw : Code := ((loopsIn 0 yhv).getD 0 (0, .skip)).2
def yhx : List Nat := [3, 6, 7, 8]
def yhy : List (Where × Co) := []
def yhz : Ex → List Nat
  | .exit j => cond (Nat.beq j 0) [3] []
  | .ret => []
  | .normal => []
def yi0 : Ex → List (Where × Co)
  | .exit j => cond (Nat.beq j 0) [] []
  | .ret => []
  | .normal => []
def yi1 (pv : (List Int × Int) × (Int × Int)) : St := { slots := [(3, .r [] (.int .i64 pv.2.1)), (6, .r [] (.sl (.int .u8) pv.1.1)), (7, .r [] (.int .i64 pv.1.2)), (8, .r [] (.int .i64 pv.2.2))], heap := [], nid := 0, n := 21, gh := [] }
def yi2 (nf : NF) : Option ((List Int × Int) × (Int × Int)) := match nf with
  | ([.r [] (.int .i64 w0), .r [] (.sl (.int .u8) w1), .r [] (.int .i64 w2), .r [] (.int .i64 w3)], [], []) => some ((w1, w2), (w0, w3))
  | _ => none
theorem yi3 (nf : NF) (v : (List Int × Int) × (Int × Int)) (h : yi2 nf = some v) : denorm yhx 21 nf = yi1 v := by
  unfold yi2 at h
  split at h
  · cases h; rfl
  · cases h
def yi4 (p : List Int × Int) (x : Int) : St := { slots := [(3, .r [] (.int .i64 x))], heap := [], nid := 0, n := 21, gh := [] }
def yi5 (ρ : Type) (k : Nat) : Nat → Ev ρ → Ev ρ := fun id f => cond (Nat.beq id 0) (loopOrc yhx yhy (fun n nf => cond (Nat.beq n 21) (yi2 nf) none) fun pv K => iter (fun v next => I_SumOf_g0 k pv.1 v next (fun x => K (.exit 0) (yi4 pv.1 x))) k pv.2) ((fun _ _ _ _ => none) id f)
theorem yi6 {ρ : Type} (k : Nat) (p : List Int × Int) (v : Int × Int) (K K1 : Ex → St → Option ρ) : ev (yht k) (yi5 ρ k) 0 yhw (yi1 (p, v)) (fun e st' => match e with
    | .normal => (normC yhx yhy st').bind fun nf => K1 .normal (denorm yhx st'.n nf)
    | e => (normC (yhz e) (yi0 e) st').bind fun nf => K e (denorm (yhz e) st'.n nf)) = I_SumOf_g0 k p v (fun v' => K1 .normal (yi1 (p, v'))) (fun x => K (.exit 0) (yi4 p x)) := by kernel_rfl
theorem yi7 {ρ : Type} (k : Nat) : Sound Try.prog (.loop yhw) (yi5 ρ k 0 fun st K => ev (yht k) (yi5 ρ k) 0 yhw st K) :=
  loop_ok (ev_sound (yhu k) yhw 0 (lpgood_none (by kernel_rfl))) yhz yi0 k (g := fun p v next K => I_SumOf_g0 k p v next (fun x => K (.exit 0) (yi4 p x))) (dec_at yi3) (fun p v K K1 => yi6 k p v K K1)
def yi8 (a : List Int) : List Arg := [.one (.sl (.int .u8) a)]
def yi9 (l : List Arg) : Option (List Int) := match l with
  | [.one (.sl (.int .u8) b0)] => some b0
  | _ => none
def yia (r : Int) : Out := (.r [] (.int .i64 r), [])
def yib (o : Out) : Option (Int) := match o with
  | (.r [] (.int .i64 z1), []) => some z1
  | _ => none
def yic (k : Nat) : PG := fun _ l K => (yi9 l).bind fun a => (I_SumOf k a).bind fun r => K (yia r)
theorem yid (k : Nat) (a : List Int) : ev (yht k) (yi5 (Int) k) 0 yhv (st0 Try.f107 (yi8 a)) (fin Try.prog Try.f107 (.sc) yib) = I_SumOf k a := by kernel_rfl
theorem yie (k : Nat) : PureOk Try.prog 107 (yic k) :=
  pureOk_of_ev (yhu k) Try.func107 (by kernel_rfl) (by kernel_rfl) yi8 yi9
    (fun l a h => by unfold yi9 at h; split at h <;> first | (cases h; rfl) | cases h) (fun a => rfl) (lpgood_of (l := [(0, yhw)]) (by kernel_rfl) ⟨yi7 k, trivial⟩)
    (fun o r h => by unfold yib at h; split at h <;> first | (cases h; rfl) | cases h) (yid k)
def yif (k : Nat) : Orc := pureOrc [.one (.sl (.int .u8))] (yic k)
theorem yig (k : Nat) : OrcOk Try.prog 107 (yif k) := pureOrc_ok (yie k)
noncomputable def yih (k : Nat) : Env := { P := Try.prog, tt := tt, orc := fun g => cond (Nat.beq g 17) (yhr k) (cond (Nat.beq g 105) (yec k) (cond (Nat.beq g 107) (yif k) (noOrc))), wr := fun g => mem g [105], wt := true }
theorem yii (k : Nat) : EnvOk (yih k) := fun g => (orc_cond (yhs k) (orc_cond (yed k) (orc_cond (yig k) (noOrc_ok _ _))))
noncomputable def yij : Code := (Try.f26.body).getD .skip
noncomputable def yik : Code := ((loopsIn 0 yij).getD 0 (0, .skip)).2
def yil : List Nat := [4, 18, 19, 20]
def yim : List (Where × Co) := []
def yin : Ex → List Nat
  | .exit j => cond (Nat.beq j 0) [4] []
  | .ret => [2, 3]
  | .normal => []
def yio : Ex → List (Where × Co)
  | .exit j => cond (Nat.beq j 0) [] []
  | .ret => []
  | .normal => []
def yip (pv : (List Step × Int) × (Int × List Int)) : St := { slots := [(4, .own 0), (18, .r [] (.sl (.st .step) pv.1.1)), (19, .r [] (.int .i64 pv.1.2)), (20, .r [] (.int .i64 pv.2.1))], heap := [(0, .arr none (.int .u8) pv.2.2)], nid := 1, n := 44, gh := [] }
def yiq (nf : NF) : Option ((List Step × Int) × (Int × List Int)) := match nf with
  | ([.own 0, .r [] (.sl (.st .step) w0), .r [] (.int .i64 w1), .r [] (.int .i64 w2)], [.arr none (.int .u8) w3], []) => some ((w0, w1), (w2, w3))
  | _ => none
theorem yir (nf : NF) (v : (List Step × Int) × (Int × List Int)) (h : yiq nf = some v) : denorm yil 44 nf = yip v := by
  unfold yiq at h
  split at h
  · cases h; rfl
  · cases h
def yis (p : List Step × Int) (x : List Int) : St := { slots := [(4, .own 0)], heap := [(0, .arr none (.int .u8) x)], nid := 1, n := 44, gh := [] }
def yit (p : List Step × Int) (x : Bool) : St := { slots := [(2, .nilS), (3, .r [] (.bool x))], heap := [], nid := 0, n := 44, gh := [] }
def yiu (ρ : Type) (k : Nat) : Nat → Ev ρ → Ev ρ := fun id f => cond (Nat.beq id 0) (loopOrc yil yim (fun n nf => cond (Nat.beq n 44) (yiq nf) none) fun pv K => iter (fun v next => I_TraceOf_g0 k pv.1 v next (fun x => K (.exit 0) (yis pv.1 x)) (fun x => K .ret (yit pv.1 x))) k pv.2) ((fun _ _ _ _ => none) id f)
theorem yiv {ρ : Type} (k : Nat) (p : List Step × Int) (v : Int × List Int) (K K1 : Ex → St → Option ρ) : ev (yih k) (yiu ρ k) 0 yik (yip (p, v)) (fun e st' => match e with
    | .normal => (normC yil yim st').bind fun nf => K1 .normal (denorm yil st'.n nf)
    | e => (normC (yin e) (yio e) st').bind fun nf => K e (denorm (yin e) st'.n nf)) = I_TraceOf_g0 k p v (fun v' => K1 .normal (yip (p, v'))) (fun x => K (.exit 0) (yis p x)) (fun x => K .ret (yit p x)) := by kernel_rfl
theorem yiw {ρ : Type} (k : Nat) : Sound Try.prog (.loop yik) (yiu ρ k 0 fun st K => ev (yih k) (yiu ρ k) 0 yik st K) :=
  loop_ok (ev_sound (yii k) yik 0 (lpgood_none (by kernel_rfl))) yin yio k (g := fun p v next K => I_TraceOf_g0 k p v next (fun x => K (.exit 0) (yis p x)) (fun x => K .ret (yit p x))) (dec_at yir) (fun p v K K1 => yiv k p v K K1)
def yix (a : List Step) : List Arg := [.one (.sl (.st .step) a)]
def yiy (l : List Arg) : Option (List Step) := match l with
  | [.one (.sl (.st .step) b0)] => some b0
  | _ => none
def yiz (r : List Int × Bool) : Out := (.tup [.own 0, .r [] (.bool r.2)], [.arr none (.int .u8) r.1])
def yj0 (o : Out) : Option (List Int × Bool) := match o with
  | (.tup [.own 0, .r [] (.bool z2)], [.arr none (.int .u8) z1]) => some (z1, z2)
  | _ => none
def yj1 (k : Nat) : PG := fun _ l K => (yiy l).bind fun a => (I_TraceOf k a).bind fun r => K (yiz r)
theorem yj2 (k : Nat) (a : List Step) : ev (yih k) (yiu (List Int × Bool) k) 0 yij (st0 Try.f26 (yix a)) (fin Try.prog Try.f26 (.tup [.own (.int .u8), .sc]) yj0) = I_TraceOf k a := by kernel_rfl
theorem yj3 (k : Nat) : PureOk Try.prog 26 (yj1 k) :=
  pureOk_of_ev (yii k) Try.func26 (by kernel_rfl) (by kernel_rfl) yix yiy
    (fun l a h => by unfold yiy at h; split at h <;> first | (cases h; rfl) | cases h) (fun a => rfl) (lpgood_of (l := [(0, yik)]) (by kernel_rfl) ⟨yiw k, trivial⟩)
    (fun o r h => by unfold yj0 at h; split at h <;> first | (cases h; rfl) | cases h) (yj2 k)
def yj4 (k : Nat) : Orc := pureOrc [.one (.sl (.st .step))] (yj1 k)
theorem yj5 (k : Nat) : OrcOk Try.prog 26 (yj4 k) := pureOrc_ok (yj3 k)
noncomputable def yj6 (k : Nat) : Env := { P := Try.prog, tt := tt, orc := fun g => noOrc }
theorem yj7 (k : Nat) : EnvOk (yj6 k) := fun g => (noOrc_ok _ _)
noncomputable def yj8 : Code := (Try.f18.body).getD .skip
noncomputable def yj9 : Code := ((loopsIn 0 yj8).getD 0 (0, .skip)).2
def yja : List Nat := [0, 1, 5]
def yjb : List (Where × Co) := []
def yjc : Ex → List Nat
  | .exit j => cond (Nat.beq j 0) [] []
  | .ret => [4]
  | .normal => []
def yjd : Ex → List (Where × Co)
  | .exit j => cond (Nat.beq j 0) [] []
  | .ret => []
  | .normal => []
def yje (pv : (List Int × List Int) × (Int)) : St := { slots := [(0, .r [] (.sl (.int .u8) pv.1.1)), (1, .r [] (.sl (.int .u8) pv.1.2)), (5, .r [] (.int .i64 pv.2))], heap := [], nid := 0, n := 26, gh := [] }
def yjf (nf : NF) : Option ((List Int × List Int) × (Int)) := match nf with
  | ([.r [] (.sl (.int .u8) w0), .r [] (.sl (.int .u8) w1), .r [] (.int .i64 w2)], [], []) => some ((w0, w1), w2)
  | _ => none
theorem yjg (nf : NF) (v : (List Int × List Int) × (Int)) (h : yjf nf = some v) : denorm yja 26 nf = yje v := by
  unfold yjf at h
  split at h
  · cases h; rfl
  · cases h
def yjh (p : List Int × List Int) (x : Unit) : St := { slots := [], heap := [], nid := 0, n := 26, gh := [] }
def yji (p : List Int × List Int) (x : Bool) : St := { slots := [(4, .r [] (.bool x))], heap := [], nid := 0, n := 26, gh := [] }
def yjj (ρ : Type) (k : Nat) : Nat → Ev ρ → Ev ρ := fun id f => cond (Nat.beq id 0) (loopOrc yja yjb (fun n nf => cond (Nat.beq n 26) (yjf nf) none) fun pv K => iter (fun v next => L_eqByteS_g0 k pv.1 v next (fun x => K (.exit 0) (yjh pv.1 x)) (fun x => K .ret (yji pv.1 x))) k pv.2) ((fun _ _ _ _ => none) id f)
theorem yjk {ρ : Type} (k : Nat) (p : List Int × List Int) (v : Int) (K K1 : Ex → St → Option ρ) : ev (yj6 k) (yjj ρ k) 0 yj9 (yje (p, v)) (fun e st' => match e with
    | .normal => (normC yja yjb st').bind fun nf => K1 .normal (denorm yja st'.n nf)
    | e => (normC (yjc e) (yjd e) st').bind fun nf => K e (denorm (yjc e) st'.n nf)) = L_eqByteS_g0 k p v (fun v' => K1 .normal (yje (p, v'))) (fun x => K (.exit 0) (yjh p x)) (fun x => K .ret (yji p x)) := by kernel_rfl
theorem yjl {ρ : Type} (k : Nat) : Sound Try.prog (.loop yj9) (yjj ρ k 0 fun st K => ev (yj6 k) (yjj ρ k) 0 yj9 st K) :=
  loop_ok (ev_sound (yj7 k) yj9 0 (lpgood_none (by kernel_rfl))) yjc yjd k (g := fun p v next K => L_eqByteS_g0 k p v next (fun x => K (.exit 0) (yjh p x)) (fun x => K .ret (yji p x))) (dec_at yjg) (fun p v K K1 => yjk k p v K K1)
def yjm (a : List Int × List Int) : List Arg := [.one (.sl (.int .u8) a.1), .one (.sl (.int .u8) a.2)]
def yjn (l : List Arg) : Option (List Int × List Int) := match l with
  | [.one (.sl (.int .u8) b0), .one (.sl (.int .u8) b1)] => some (b0, b1)
  | _ => none
def yjo (r : Bool) : Out := (.r [] (.bool r), [])
def yjp (o : Out) : Option (Bool) := match o with
  | (.r [] (.bool z1), []) => some z1
  | _ => none
def yjq (k : Nat) : PG := fun _ l K => (yjn l).bind fun a => (L_eqByteS k a.1 a.2).bind fun r => K (yjo r)
theorem yjr (k : Nat) (a : List Int × List Int) : ev (yj6 k) (yjj (Bool) k) 0 yj8 (st0 Try.f18 (yjm a)) (fin Try.prog Try.f18 (.sc) yjp) = L_eqByteS k a.1 a.2 := by kernel_rfl
theorem yjs (k : Nat) : PureOk Try.prog 18 (yjq k) :=
  pureOk_of_ev (yj7 k) Try.func18 (by kernel_rfl) (by kernel_rfl) yjm yjn
    (fun l a h => by unfold yjn at h; split at h <;> first | (cases h; rfl) | cases h) (fun a => rfl) (lpgood_of (l := [(0, yj9)]) (by kernel_rfl) ⟨yjl k, trivial⟩)
    (fun o r h => by unfold yjp at h; split at h <;> first | (cases h; rfl) | cases h) (yjr k)
def yjt (k : Nat) : Orc := pureOrc [.one (.sl (.int .u8)), .one (.sl (.int .u8))] (yjq k)
theorem yju (k : Nat) : OrcOk Try.prog 18 (yjt k) := pureOrc_ok (yjs k)
noncomputable def yjv (k : Nat) : Env := { P := Try.prog, tt := tt, orc := fun g => noOrc }
theorem yjw (k : Nat) : EnvOk (yjv k) := fun g => (noOrc_ok _ _)
noncomputable def yjx : Code := (Try.f151.body).getD .skip
def yjy (ρ : Type) (k : Nat) : Nat → Ev ρ → Ev ρ := fun _ _ _ _ => none
def yjz (a : Shape × Shape) : List Arg := [.agg [.int .i64 a.1.h, .int .i64 a.1.w, .int .i64 a.1.c], .agg [.int .i64 a.2.h, .int .i64 a.2.w, .int .i64 a.2.c]]
def yk0 (l : List Arg) : Option (Shape × Shape) := match l with
  | [.agg [.int .i64 b0_0, .int .i64 b0_1, .int .i64 b0_2], .agg [.int .i64 b1_0, .int .i64 b1_1, .int .i64 b1_2]] => some ((⟨b0_0, b0_1, b0_2⟩ : Shape), (⟨b1_0, b1_1, b1_2⟩ : Shape))
  | _ => none
def yk1 (r : Bool) : Out := (.r [] (.bool r), [])
def yk2 (o : Out) : Option (Bool) := match o with
  | (.r [] (.bool z1), []) => some z1
  | _ => none
def yk3 (k : Nat) : PG := fun _ l K => (yk0 l).bind fun a => (L_eqShape k a.1 a.2).bind fun r => K (yk1 r)
theorem yk4 (k : Nat) (a : Shape × Shape) : ev (yjv k) (yjy (Bool) k) 0 yjx (st0 Try.f151 (yjz a)) (fin Try.prog Try.f151 (.sc) yk2) = L_eqShape k a.1 a.2 := by kernel_rfl
theorem yk5 (k : Nat) : PureOk Try.prog 151 (yk3 k) :=
  pureOk_of_ev (yjw k) Try.func151 (by kernel_rfl) (by kernel_rfl) yjz yk0
    (fun l a h => by unfold yk0 at h; split at h <;> first | (cases h; rfl) | cases h) (fun a => rfl) (lpgood_none (by kernel_rfl))
    (fun o r h => by unfold yk2 at h; split at h <;> first | (cases h; rfl) | cases h) (yk4 k)
def yk6 (k : Nat) : Orc := pureOrc [.agg [(.int .i64), (.int .i64), (.int .i64)], .agg [(.int .i64), (.int .i64), (.int .i64)]] (yk3 k)
theorem yk7 (k : Nat) : OrcOk Try.prog 151 (yk6 k) := pureOrc_ok (yk5 k)
noncomputable def yk8 (k : Nat) : Env := { P := Try.prog, tt := tt, orc := fun g => noOrc }
theorem yk9 (k : Nat) : EnvOk (yk8 k) := fun g => (noOrc_ok _ _)
noncomputable def yka : Code := (Try.f66.body).getD .skip
noncomputable def ykb : Code := ((loopsIn 0 yka).getD 0 (0, .skip)).2
def ykc : List Nat := [0, 1, 5]
def ykd : List (Where × Co) := []
def yke : Ex → List Nat
  | .exit j => cond (Nat.beq j 0) [] []
  | .ret => [4]
  | .normal => []
def ykf : Ex → List (Where × Co)
  | .exit j => cond (Nat.beq j 0) [] []
  | .ret => []
  | .normal => []
def ykg (pv : (List Int × List Int) × (Int)) : St := { slots := [(0, .r [] (.sl (.int .i64) pv.1.1)), (1, .r [] (.sl (.int .i64) pv.1.2)), (5, .r [] (.int .i64 pv.2))], heap := [], nid := 0, n := 26, gh := [] }
def ykh (nf : NF) : Option ((List Int × List Int) × (Int)) := match nf with
  | ([.r [] (.sl (.int .i64) w0), .r [] (.sl (.int .i64) w1), .r [] (.int .i64 w2)], [], []) => some ((w0, w1), w2)
  | _ => none
theorem yki (nf : NF) (v : (List Int × List Int) × (Int)) (h : ykh nf = some v) : denorm ykc 26 nf = ykg v := by
  unfold ykh at h
  split at h
  · cases h; rfl
  · cases h
def ykj (p : List Int × List Int) (x : Unit) : St := { slots := [], heap := [], nid := 0, n := 26, gh := [] }
def ykk (p : List Int × List Int) (x : Bool) : St := { slots := [(4, .r [] (.bool x))], heap := [], nid := 0, n := 26, gh := [] }
def ykl (ρ : Type) (k : Nat) : Nat → Ev ρ → Ev ρ := fun id f => cond (Nat.beq id 0) (loopOrc ykc ykd (fun n nf => cond (Nat.beq n 26) (ykh nf) none) fun pv K => iter (fun v next => L_eqIntS_g0 k pv.1 v next (fun x => K (.exit 0) (ykj pv.1 x)) (fun x => K .ret (ykk pv.1 x))) k pv.2) ((fun _ _ _ _ => none) id f)
theorem ykm {ρ : Type} (k : Nat) (p : List Int × List Int) (v : Int) (K K1 : Ex → St → Option ρ) : ev (yk8 k) (ykl ρ k) 0 ykb (ykg (p, v)) (fun e st' => match e with
    | .normal => (normC ykc ykd st').bind fun nf => K1 .normal (denorm ykc st'.n nf)
    | e => (normC (yke e) (ykf e) st').bind fun nf => K e (denorm (yke e) st'.n nf)) = L_eqIntS_g0 k p v (fun v' => K1 .normal (ykg (p, v'))) (fun x => K (.exit 0) (ykj p x)) (fun x => K .ret (ykk p x)) := by kernel_rfl
theorem ykn {ρ : Type} (k : Nat) : Sound Try.prog (.loop ykb) (ykl ρ k 0 fun st K => ev (yk8 k) (ykl ρ k) 0 ykb st K) :=
  loop_ok (ev_sound (yk9 k) ykb 0 (lpgood_none (by kernel_rfl))) yke ykf k (g := fun p v next K => L_eqIntS_g0 k p v next (fun x => K (.exit 0) (ykj p x)) (fun x => K .ret (ykk p x))) (dec_at yki) (fun p v K K1 => ykm k p v K K1)
def yko (a : List Int × List Int) : List Arg := [.one (.sl (.int .i64) a.1), .one (.sl (.int .i64) a.2)]
def ykp (l : List Arg) : Option (List Int × List Int) := match l with
  | [.one (.sl (.int .i64) b0), .one (.sl (.int .i64) b1)] => some (b0, b1)
  | _ => none
def ykq (r : Bool) : Out := (.r [] (.bool r), [])
def ykr (o : Out) : Option (Bool) := match o with
  | (.r [] (.bool z1), []) => some z1
  | _ => none
def yks (k : Nat) : PG := fun _ l K => (ykp l).bind fun a => (L_eqIntS k a.1 a.2).bind fun r => K (ykq r)
theorem ykt (k : Nat) (a : List Int × List Int) : ev (yk8 k) (ykl (Bool) k) 0 yka (st0 Try.f66 (yko a)) (fin Try.prog Try.f66 (.sc) ykr) = L_eqIntS k a.1 a.2 := by kernel_rfl
theorem yku (k : Nat) : PureOk Try.prog 66 (yks k) :=
  pureOk_of_ev (yk9 k) Try.func66 (by kernel_rfl) (by kernel_rfl) yko ykp
    (fun l a h => by unfold ykp at h; split at h <;> first | (cases h; rfl) | cases h) (fun a => rfl) (lpgood_of (l := [(0, ykb)]) (by kernel_rfl) ⟨ykn k, trivial⟩)
    (fun o r h => by unfold ykr at h; split at h <;> first | (cases h; rfl) | cases h) (ykt k)
def ykv (k : Nat) : Orc := pureOrc [.one (.sl (.int .i64)), .one (.sl (.int .i64))] (yks k)
theorem ykw (k : Nat) : OrcOk Try.prog 66 (ykv k) := pureOrc_ok (yku k)
noncomputable def ykx (k : Nat) : Env := { P := Try.prog, tt := tt, orc := fun g => cond (Nat.beq g 66) (ykv k) (cond (Nat.beq g 151) (yk6 k) (noOrc)) }
theorem yky (k : Nat) : EnvOk (ykx k) := fun g => (orc_cond (ykw k) (orc_cond (yk7 k) (noOrc_ok _ _)))
noncomputable def ykz : Code := (Try.f59.body).getD .skip
def yl0 (ρ : Type) (k : Nat) : Nat → Ev ρ → Ev ρ := fun _ _ _ _ => none
def yl1 (a : Tensor × Tensor) : List Arg := [.agg [.int .i64 a.1.sh.h, .int .i64 a.1.sh.w, .int .i64 a.1.sh.c, .sl (.int .i64) a.1.data], .agg [.int .i64 a.2.sh.h, .int .i64 a.2.sh.w, .int .i64 a.2.sh.c, .sl (.int .i64) a.2.data]]
def yl2 (l : List Arg) : Option (Tensor × Tensor) := match l with
  | [.agg [.int .i64 b0_0, .int .i64 b0_1, .int .i64 b0_2, .sl (.int .i64) b0_3], .agg [.int .i64 b1_0, .int .i64 b1_1, .int .i64 b1_2, .sl (.int .i64) b1_3]] => some ((⟨(⟨b0_0, b0_1, b0_2⟩ : Shape), b0_3⟩ : Tensor), (⟨(⟨b1_0, b1_1, b1_2⟩ : Shape), b1_3⟩ : Tensor))
  | _ => none
def yl3 (r : Bool) : Out := (.r [] (.bool r), [])
def yl4 (o : Out) : Option (Bool) := match o with
  | (.r [] (.bool z1), []) => some z1
  | _ => none
def yl5 (k : Nat) : PG := fun _ l K => (yl2 l).bind fun a => (L_eqTensor k a.1 a.2).bind fun r => K (yl3 r)
theorem yl6 (k : Nat) (a : Tensor × Tensor) : ev (ykx k) (yl0 (Bool) k) 0 ykz (st0 Try.f59 (yl1 a)) (fin Try.prog Try.f59 (.sc) yl4) = L_eqTensor k a.1 a.2 := by kernel_rfl
theorem yl7 (k : Nat) : PureOk Try.prog 59 (yl5 k) :=
  pureOk_of_ev (yky k) Try.func59 (by kernel_rfl) (by kernel_rfl) yl1 yl2
    (fun l a h => by unfold yl2 at h; split at h <;> first | (cases h; rfl) | cases h) (fun a => rfl) (lpgood_none (by kernel_rfl))
    (fun o r h => by unfold yl4 at h; split at h <;> first | (cases h; rfl) | cases h) (yl6 k)
def yl8 (k : Nat) : Orc := pureOrc [.agg [(.int .i64), (.int .i64), (.int .i64), (.sl (.int .i64))], .agg [(.int .i64), (.int .i64), (.int .i64), (.sl (.int .i64))]] (yl5 k)
theorem yl9 (k : Nat) : OrcOk Try.prog 59 (yl8 k) := pureOrc_ok (yl7 k)
noncomputable def yla (k : Nat) : Env := { P := Try.prog, tt := tt, orc := fun g => cond (Nat.beq g 18) (yjt k) (cond (Nat.beq g 59) (yl8 k) (noOrc)) }
theorem ylb (k : Nat) : EnvOk (yla k) := fun g => (orc_cond (yju k) (orc_cond (yl9 k) (noOrc_ok _ _)))
noncomputable def ylc : Code := (Try.f19.body).getD .skip
def yld (ρ : Type) (k : Nat) : Nat → Ev ρ → Ev ρ := fun _ _ _ _ => none
def yle (a : Step × Step) : List Arg := [.agg [.int .i64 a.1.kind, .int .i64 a.1.a, .int .i64 a.1.b, .sl (.int .u8) a.1.data, .int .i64 a.1.input.sh.h, .int .i64 a.1.input.sh.w, .int .i64 a.1.input.sh.c, .sl (.int .i64) a.1.input.data], .agg [.int .i64 a.2.kind, .int .i64 a.2.a, .int .i64 a.2.b, .sl (.int .u8) a.2.data, .int .i64 a.2.input.sh.h, .int .i64 a.2.input.sh.w, .int .i64 a.2.input.sh.c, .sl (.int .i64) a.2.input.data]]
def ylf (l : List Arg) : Option (Step × Step) := match l with
  | [.agg [.int .i64 b0_0, .int .i64 b0_1, .int .i64 b0_2, .sl (.int .u8) b0_3, .int .i64 b0_4, .int .i64 b0_5, .int .i64 b0_6, .sl (.int .i64) b0_7], .agg [.int .i64 b1_0, .int .i64 b1_1, .int .i64 b1_2, .sl (.int .u8) b1_3, .int .i64 b1_4, .int .i64 b1_5, .int .i64 b1_6, .sl (.int .i64) b1_7]] => some ((⟨b0_0, b0_1, b0_2, b0_3, (⟨(⟨b0_4, b0_5, b0_6⟩ : Shape), b0_7⟩ : Tensor)⟩ : Step), (⟨b1_0, b1_1, b1_2, b1_3, (⟨(⟨b1_4, b1_5, b1_6⟩ : Shape), b1_7⟩ : Tensor)⟩ : Step))
  | _ => none
def ylg (r : Bool) : Out := (.r [] (.bool r), [])
def ylh (o : Out) : Option (Bool) := match o with
  | (.r [] (.bool z1), []) => some z1
  | _ => none
def yli (k : Nat) : PG := fun _ l K => (ylf l).bind fun a => (L_eqStep k a.1 a.2).bind fun r => K (ylg r)
theorem ylj (k : Nat) (a : Step × Step) : ev (yla k) (yld (Bool) k) 0 ylc (st0 Try.f19 (yle a)) (fin Try.prog Try.f19 (.sc) ylh) = L_eqStep k a.1 a.2 := by kernel_rfl
theorem ylk (k : Nat) : PureOk Try.prog 19 (yli k) :=
  pureOk_of_ev (ylb k) Try.func19 (by kernel_rfl) (by kernel_rfl) yle ylf
    (fun l a h => by unfold ylf at h; split at h <;> first | (cases h; rfl) | cases h) (fun a => rfl) (lpgood_none (by kernel_rfl))
    (fun o r h => by unfold ylh at h; split at h <;> first | (cases h; rfl) | cases h) (ylj k)
def yll (k : Nat) : Orc := pureOrc [.agg [(.int .i64), (.int .i64), (.int .i64), (.sl (.int .u8)), (.int .i64), (.int .i64), (.int .i64), (.sl (.int .i64))], .agg [(.int .i64), (.int .i64), (.int .i64), (.sl (.int .u8)), (.int .i64), (.int .i64), (.int .i64), (.sl (.int .i64))]] (yli k)
theorem ylm (k : Nat) : OrcOk Try.prog 19 (yll k) := pureOrc_ok (ylk k)
noncomputable def yln (k : Nat) : Env := { P := Try.prog, tt := tt, orc := fun g => cond (Nat.beq g 19) (yll k) (noOrc) }
theorem ylo (k : Nat) : EnvOk (yln k) := fun g => (orc_cond (ylm k) (noOrc_ok _ _))
noncomputable def ylp : Code := (Try.f27.body).getD .skip
noncomputable def ylq : Code := ((loopsIn 0 ylp).getD 0 (0, .skip)).2
def ylr : List Nat := [0, 1, 5]
def yls : List (Where × Co) := []
def ylt : Ex → List Nat
  | .exit j => cond (Nat.beq j 0) [] []
  | .ret => [4]
  | .normal => []
def ylu : Ex → List (Where × Co)
  | .exit j => cond (Nat.beq j 0) [] []
  | .ret => []
  | .normal => []
def ylv (pv : (List Step × List Step) × (Int)) : St := { slots := [(0, .r [] (.sl (.st .step) pv.1.1)), (1, .r [] (.sl (.st .step) pv.1.2)), (5, .r [] (.int .i64 pv.2))], heap := [], nid := 0, n := 27, gh := [] }
def ylw (nf : NF) : Option ((List Step × List Step) × (Int)) := match nf with
  | ([.r [] (.sl (.st .step) w0), .r [] (.sl (.st .step) w1), .r [] (.int .i64 w2)], [], []) => some ((w0, w1), w2)
  | _ => none
theorem ylx (nf : NF) (v : (List Step × List Step) × (Int)) (h : ylw nf = some v) : denorm ylr 27 nf = ylv v := by
  unfold ylw at h
  split at h
  · cases h; rfl
  · cases h
def yly (p : List Step × List Step) (x : Unit) : St := { slots := [], heap := [], nid := 0, n := 27, gh := [] }
def ylz (p : List Step × List Step) (x : Bool) : St := { slots := [(4, .r [] (.bool x))], heap := [], nid := 0, n := 27, gh := [] }
def ym0 (ρ : Type) (k : Nat) : Nat → Ev ρ → Ev ρ := fun id f => cond (Nat.beq id 0) (loopOrc ylr yls (fun n nf => cond (Nat.beq n 27) (ylw nf) none) fun pv K => iter (fun v next => L_eqStepS_g0 k pv.1 v next (fun x => K (.exit 0) (yly pv.1 x)) (fun x => K .ret (ylz pv.1 x))) k pv.2) ((fun _ _ _ _ => none) id f)
theorem ym1 {ρ : Type} (k : Nat) (p : List Step × List Step) (v : Int) (K K1 : Ex → St → Option ρ) : ev (yln k) (ym0 ρ k) 0 ylq (ylv (p, v)) (fun e st' => match e with
    | .normal => (normC ylr yls st').bind fun nf => K1 .normal (denorm ylr st'.n nf)
    | e => (normC (ylt e) (ylu e) st').bind fun nf => K e (denorm (ylt e) st'.n nf)) = L_eqStepS_g0 k p v (fun v' => K1 .normal (ylv (p, v'))) (fun x => K (.exit 0) (yly p x)) (fun x => K .ret (ylz p x)) := by kernel_rfl
theorem ym2 {ρ : Type} (k : Nat) : Sound Try.prog (.loop ylq) (ym0 ρ k 0 fun st K => ev (yln k) (ym0 ρ k) 0 ylq st K) :=
  loop_ok (ev_sound (ylo k) ylq 0 (lpgood_none (by kernel_rfl))) ylt ylu k (g := fun p v next K => L_eqStepS_g0 k p v next (fun x => K (.exit 0) (yly p x)) (fun x => K .ret (ylz p x))) (dec_at ylx) (fun p v K K1 => ym1 k p v K K1)
def ym3 (a : List Step × List Step) : List Arg := [.one (.sl (.st .step) a.1), .one (.sl (.st .step) a.2)]
def ym4 (l : List Arg) : Option (List Step × List Step) := match l with
  | [.one (.sl (.st .step) b0), .one (.sl (.st .step) b1)] => some (b0, b1)
  | _ => none
def ym5 (r : Bool) : Out := (.r [] (.bool r), [])
def ym6 (o : Out) : Option (Bool) := match o with
  | (.r [] (.bool z1), []) => some z1
  | _ => none
def ym7 (k : Nat) : PG := fun _ l K => (ym4 l).bind fun a => (L_eqStepS k a.1 a.2).bind fun r => K (ym5 r)
theorem ym8 (k : Nat) (a : List Step × List Step) : ev (yln k) (ym0 (Bool) k) 0 ylp (st0 Try.f27 (ym3 a)) (fin Try.prog Try.f27 (.sc) ym6) = L_eqStepS k a.1 a.2 := by kernel_rfl
theorem ym9 (k : Nat) : PureOk Try.prog 27 (ym7 k) :=
  pureOk_of_ev (ylo k) Try.func27 (by kernel_rfl) (by kernel_rfl) ym3 ym4
    (fun l a h => by unfold ym4 at h; split at h <;> first | (cases h; rfl) | cases h) (fun a => rfl) (lpgood_of (l := [(0, ylq)]) (by kernel_rfl) ⟨ym2 k, trivial⟩)
    (fun o r h => by unfold ym6 at h; split at h <;> first | (cases h; rfl) | cases h) (ym8 k)
def yma (k : Nat) : Orc := pureOrc [.one (.sl (.st .step)), .one (.sl (.st .step))] (ym7 k)
theorem ymb (k : Nat) : OrcOk Try.prog 27 (yma k) := pureOrc_ok (ym9 k)
noncomputable def ymc (k : Nat) : Env := { P := Try.prog, tt := tt, orc := fun g => noOrc }
theorem ymd (k : Nat) : EnvOk (ymc k) := fun g => (noOrc_ok _ _)
noncomputable def yme : Code := (Try.f21.body).getD .skip
noncomputable def ymf : Code := ((loopsIn 0 yme).getD 0 (0, .skip)).2
def ymg : List Nat := [0, 1, 5]
def ymh : List (Where × Co) := []
def ymi : Ex → List Nat
  | .exit j => cond (Nat.beq j 0) [1] []
  | .ret => []
  | .normal => []
def ymj : Ex → List (Where × Co)
  | .exit j => cond (Nat.beq j 0) [] []
  | .ret => []
  | .normal => []
def ymk (pv : (Unit) × (Int × Int × List Int)) : St := { slots := [(0, .own 0), (1, .r [] (.int .i64 pv.2.1)), (5, .r [] (.int .i64 pv.2.2.1))], heap := [(0, .arr none (.int .u8) pv.2.2.2)], nid := 1, n := 20, gh := [some 0] }
def yml (nf : NF) : Option ((Unit) × (Int × Int × List Int)) := match nf with
  | ([.own 0, .r [] (.int .i64 w0), .r [] (.int .i64 w1)], [.arr none (.int .u8) w2], [some 0]) => some ((), (w0, w1, w2))
  | _ => none
theorem ymm (nf : NF) (v : (Unit) × (Int × Int × List Int)) (h : yml nf = some v) : denorm ymg 20 nf = ymk v := by
  unfold yml at h
  split at h
  · cases h; rfl
  · cases h
def ymn (p : Unit) (x : Int × List Int) : St := { slots := [(1, .r [] (.int .i64 x.1))], heap := [(0, .arr none (.int .u8) x.2)], nid := 1, n := 20, gh := [some 0] }
def ymo (ρ : Type) (k : Nat) : Nat → Ev ρ → Ev ρ := fun id f => cond (Nat.beq id 0) (loopOrc ymg ymh (fun n nf => cond (Nat.beq n 20) (yml nf) none) fun pv K => iter (fun v next => L_markByteS_m3_g0 k pv.1 v next (fun x => K (.exit 0) (ymn pv.1 x))) k pv.2) ((fun _ _ _ _ => none) id f)
theorem ymp {ρ : Type} (k : Nat) (p : Unit) (v : Int × Int × List Int) (K K1 : Ex → St → Option ρ) : ev (ymc k) (ymo ρ k) 0 ymf (ymk (p, v)) (fun e st' => match e with
    | .normal => (normC ymg ymh st').bind fun nf => K1 .normal (denorm ymg st'.n nf)
    | e => (normC (ymi e) (ymj e) st').bind fun nf => K e (denorm (ymi e) st'.n nf)) = L_markByteS_m3_g0 k p v (fun v' => K1 .normal (ymk (p, v'))) (fun x => K (.exit 0) (ymn p x)) := by kernel_rfl
theorem ymq {ρ : Type} (k : Nat) : Sound Try.prog (.loop ymf) (ymo ρ k 0 fun st K => ev (ymc k) (ymo ρ k) 0 ymf st K) :=
  loop_ok (ev_sound (ymd k) ymf 0 (lpgood_none (by kernel_rfl))) ymi ymj k (g := fun p v next K => L_markByteS_m3_g0 k p v next (fun x => K (.exit 0) (ymn p x))) (dec_at ymm) (fun p v K K1 => ymp k p v K K1)
def ymr (a : List Int × Int) : List SV := [.own 0, .r [] (.int .i64 a.2)]
def yms (a : List Int × Int) : List Blk := [.arr none (.int .u8) a.1]
def ymt (l : List SV) (b : List Blk) : Option (List Int × Int) := match l, b with
  | [.own 0, .r [] (.int .i64 w0)], [.arr none (.int .u8) w1] => some (w1, w0)
  | _, _ => none
def ymu (a : List Int × Int) (r : Int × List Int) : MOut := ⟨.r [] (.int .i64 r.1), [some (.arr none (.int .u8) r.2)], []⟩
def ymv (a : List Int × Int) (o : MOut) : Option (Int × List Int) := match o with
  | ⟨.r [] (.int .i64 z1), [some (.arr none (.int .u8) z2)], []⟩ => some (z1, z2)
  | _ => none
def ymw (k : Nat) : MG := fun _ l b K => (ymt l b).bind fun a => (L_markByteS_m3 k a.1 a.2).bind fun r => K (ymu a r)
theorem ymx (k : Nat) (a : List Int × Int) : ev (ymc k) (ymo (Int × List Int) k) 0 yme (st0M Try.f21 (ymr a) (yms a)) (finM Try.prog Try.f21 (.sc) [.arr] (ymv a)) = L_markByteS_m3 k a.1 a.2 := by kernel_rfl
theorem ymy (k : Nat) : MutOk Try.prog 21 (ymw k) :=
  mutOk_of_ev (ymd k) Try.func21 (by kernel_rfl) (by kernel_rfl) ymr yms ymt
    (fun l b a h => by unfold ymt at h; split at h <;> first | (cases h; exact ⟨rfl, rfl⟩) | cases h) (fun a => rfl) (lpgood_of (l := [(0, ymf)]) (by kernel_rfl) ⟨ymq k, trivial⟩) (fun a r => rfl)
    (fun a o r h => by unfold ymv at h; split at h <;> first | (skip; cases h; rfl) | cases h) (ymx k)
def ymz (k : Nat) : Orc := mutOrc [.keep, .keep] (ymw k)
theorem yn0 (k : Nat) : OrcOk Try.prog 21 (ymz k) := mutOrc_ok (ymy k)
noncomputable def yn1 (k : Nat) : Env := { P := Try.prog, tt := tt, orc := fun g => noOrc }
theorem yn2 (k : Nat) : EnvOk (yn1 k) := fun g => (noOrc_ok _ _)
noncomputable def yn3 : Code := (Try.f67.body).getD .skip
noncomputable def yn4 : Code := ((loopsIn 0 yn3).getD 0 (0, .skip)).2
def yn5 : List Nat := [0, 1, 5]
def yn6 : List (Where × Co) := []
def yn7 : Ex → List Nat
  | .exit j => cond (Nat.beq j 0) [1] []
  | .ret => []
  | .normal => []
def yn8 : Ex → List (Where × Co)
  | .exit j => cond (Nat.beq j 0) [] []
  | .ret => []
  | .normal => []
def yn9 (pv : (Unit) × (Int × Int × List Int)) : St := { slots := [(0, .own 0), (1, .r [] (.int .i64 pv.2.1)), (5, .r [] (.int .i64 pv.2.2.1))], heap := [(0, .arr none (.int .i64) pv.2.2.2)], nid := 1, n := 19, gh := [some 0] }
def yna (nf : NF) : Option ((Unit) × (Int × Int × List Int)) := match nf with
  | ([.own 0, .r [] (.int .i64 w0), .r [] (.int .i64 w1)], [.arr none (.int .i64) w2], [some 0]) => some ((), (w0, w1, w2))
  | _ => none
theorem ynb (nf : NF) (v : (Unit) × (Int × Int × List Int)) (h : yna nf = some v) : denorm yn5 19 nf = yn9 v := by
  unfold yna at h
  split at h
  · cases h; rfl
  · cases h
def ync (p : Unit) (x : Int × List Int) : St := { slots := [(1, .r [] (.int .i64 x.1))], heap := [(0, .arr none (.int .i64) x.2)], nid := 1, n := 19, gh := [some 0] }
def ynd (ρ : Type) (k : Nat) : Nat → Ev ρ → Ev ρ := fun id f => cond (Nat.beq id 0) (loopOrc yn5 yn6 (fun n nf => cond (Nat.beq n 19) (yna nf) none) fun pv K => iter (fun v next => L_markIntS_m3_g0 k pv.1 v next (fun x => K (.exit 0) (ync pv.1 x))) k pv.2) ((fun _ _ _ _ => none) id f)
theorem yne {ρ : Type} (k : Nat) (p : Unit) (v : Int × Int × List Int) (K K1 : Ex → St → Option ρ) : ev (yn1 k) (ynd ρ k) 0 yn4 (yn9 (p, v)) (fun e st' => match e with
    | .normal => (normC yn5 yn6 st').bind fun nf => K1 .normal (denorm yn5 st'.n nf)
    | e => (normC (yn7 e) (yn8 e) st').bind fun nf => K e (denorm (yn7 e) st'.n nf)) = L_markIntS_m3_g0 k p v (fun v' => K1 .normal (yn9 (p, v'))) (fun x => K (.exit 0) (ync p x)) := by kernel_rfl
theorem ynf {ρ : Type} (k : Nat) : Sound Try.prog (.loop yn4) (ynd ρ k 0 fun st K => ev (yn1 k) (ynd ρ k) 0 yn4 st K) :=
  loop_ok (ev_sound (yn2 k) yn4 0 (lpgood_none (by kernel_rfl))) yn7 yn8 k (g := fun p v next K => L_markIntS_m3_g0 k p v next (fun x => K (.exit 0) (ync p x))) (dec_at ynb) (fun p v K K1 => yne k p v K K1)
def yng (a : List Int × Int) : List SV := [.own 0, .r [] (.int .i64 a.2)]
def ynh (a : List Int × Int) : List Blk := [.arr none (.int .i64) a.1]
def yni (l : List SV) (b : List Blk) : Option (List Int × Int) := match l, b with
  | [.own 0, .r [] (.int .i64 w0)], [.arr none (.int .i64) w1] => some (w1, w0)
  | _, _ => none
def ynj (a : List Int × Int) (r : Int × List Int) : MOut := ⟨.r [] (.int .i64 r.1), [some (.arr none (.int .i64) r.2)], []⟩
def ynk (a : List Int × Int) (o : MOut) : Option (Int × List Int) := match o with
  | ⟨.r [] (.int .i64 z1), [some (.arr none (.int .i64) z2)], []⟩ => some (z1, z2)
  | _ => none
def ynl (k : Nat) : MG := fun _ l b K => (yni l b).bind fun a => (L_markIntS_m3 k a.1 a.2).bind fun r => K (ynj a r)
theorem ynm (k : Nat) (a : List Int × Int) : ev (yn1 k) (ynd (Int × List Int) k) 0 yn3 (st0M Try.f67 (yng a) (ynh a)) (finM Try.prog Try.f67 (.sc) [.arr] (ynk a)) = L_markIntS_m3 k a.1 a.2 := by kernel_rfl
theorem ynn (k : Nat) : MutOk Try.prog 67 (ynl k) :=
  mutOk_of_ev (yn2 k) Try.func67 (by kernel_rfl) (by kernel_rfl) yng ynh yni
    (fun l b a h => by unfold yni at h; split at h <;> first | (cases h; exact ⟨rfl, rfl⟩) | cases h) (fun a => rfl) (lpgood_of (l := [(0, yn4)]) (by kernel_rfl) ⟨ynf k, trivial⟩) (fun a r => rfl)
    (fun a o r h => by unfold ynk at h; split at h <;> first | (skip; cases h; rfl) | cases h) (ynm k)
def yno (k : Nat) : Orc := mutOrc [.keep, .keep] (ynl k)
theorem ynp (k : Nat) : OrcOk Try.prog 67 (yno k) := mutOrc_ok (ynn k)
noncomputable def ynq (k : Nat) : Env := { P := Try.prog, tt := tt, orc := fun g => cond (Nat.beq g 21) (innOrc (ymz k)) (cond (Nat.beq g 67) (innOrc (yno k)) (noOrc)), wr := fun g => mem g [21, 67], wt := true, inn := true }
theorem ynr (k : Nat) : EnvOk (ynq k) := fun g => (orc_cond (innOrc_ok (yn0 k)) (orc_cond (innOrc_ok (ynp k)) (noOrc_ok _ _)))
noncomputable def yns : Code := (Try.f28.body).getD .skip
noncomputable def ynt : Code := ((loopsIn 0 yns).getD 0 (0, .skip)).2
def ynu : List Nat := [0, 1, 5]
def ynv : List (Where × Co) := []
def ynw : Ex → List Nat
  | .exit j => cond (Nat.beq j 0) [1] []
  | .ret => []
  | .normal => []
def ynx : Ex → List (Where × Co)
  | .exit j => cond (Nat.beq j 0) [] []
  | .ret => []
  | .normal => []
def yny (pv : (Unit) × (Int × Int × List Step)) : St := { slots := [(0, .own 0), (1, .r [] (.int .i64 pv.2.1)), (5, .r [] (.int .i64 pv.2.2.1))], heap := [(0, .arr none (.st .step) pv.2.2.2)], nid := 1, n := 76, gh := [some 0] }
def ynz (nf : NF) : Option ((Unit) × (Int × Int × List Step)) := match nf with
  | ([.own 0, .r [] (.int .i64 w0), .r [] (.int .i64 w1)], [.arr none (.st .step) w2], [some 0]) => some ((), (w0, w1, w2))
  | _ => none
theorem yo0 (nf : NF) (v : (Unit) × (Int × Int × List Step)) (h : ynz nf = some v) : denorm ynu 76 nf = yny v := by
  unfold ynz at h
  split at h
  · cases h; rfl
  · cases h
def yo1 (p : Unit) (x : Int × List Step) : St := { slots := [(1, .r [] (.int .i64 x.1))], heap := [(0, .arr none (.st .step) x.2)], nid := 1, n := 76, gh := [some 0] }
def yo2 (ρ : Type) (k : Nat) : Nat → Ev ρ → Ev ρ := fun id f => cond (Nat.beq id 0) (loopOrc ynu ynv (fun n nf => cond (Nat.beq n 76) (ynz nf) none) fun pv K => iter (fun v next => L_markStepS_m2_g0 k pv.1 v next (fun x => K (.exit 0) (yo1 pv.1 x))) k pv.2) ((fun _ _ _ _ => none) id f)
theorem yo3 {ρ : Type} (k : Nat) (p : Unit) (v : Int × Int × List Step) (K K1 : Ex → St → Option ρ) : ev (ynq k) (yo2 ρ k) 0 ynt (yny (p, v)) (fun e st' => match e with
    | .normal => (normC ynu ynv st').bind fun nf => K1 .normal (denorm ynu st'.n nf)
    | e => (normC (ynw e) (ynx e) st').bind fun nf => K e (denorm (ynw e) st'.n nf)) = L_markStepS_m2_g0 k p v (fun v' => K1 .normal (yny (p, v'))) (fun x => K (.exit 0) (yo1 p x)) := by kernel_rfl
theorem yo4 {ρ : Type} (k : Nat) : Sound Try.prog (.loop ynt) (yo2 ρ k 0 fun st K => ev (ynq k) (yo2 ρ k) 0 ynt st K) :=
  loop_ok (ev_sound (ynr k) ynt 0 (lpgood_none (by kernel_rfl))) ynw ynx k (g := fun p v next K => L_markStepS_m2_g0 k p v next (fun x => K (.exit 0) (yo1 p x))) (dec_at yo0) (fun p v K K1 => yo3 k p v K K1)
def yo5 (a : List Step × Int) : List SV := [.own 0, .r [] (.int .i64 a.2)]
def yo6 (a : List Step × Int) : List Blk := [.arr none (.st .step) a.1]
def yo7 (l : List SV) (b : List Blk) : Option (List Step × Int) := match l, b with
  | [.own 0, .r [] (.int .i64 w0)], [.arr none (.st .step) w1] => some (w1, w0)
  | _, _ => none
def yo8 (a : List Step × Int) (r : Int × List Step) : MOut := ⟨.r [] (.int .i64 r.1), [some (.arr none (.st .step) r.2)], []⟩
def yo9 (a : List Step × Int) (o : MOut) : Option (Int × List Step) := match o with
  | ⟨.r [] (.int .i64 z1), [some (.arr none (.st .step) z2)], []⟩ => some (z1, z2)
  | _ => none
def yoa (k : Nat) : MG := fun _ l b K => (yo7 l b).bind fun a => (L_markStepS_m2 k a.1 a.2).bind fun r => K (yo8 a r)
theorem yob (k : Nat) (a : List Step × Int) : ev (ynq k) (yo2 (Int × List Step) k) 0 yns (st0M Try.f28 (yo5 a) (yo6 a)) (finM Try.prog Try.f28 (.sc) [.arr] (yo9 a)) = L_markStepS_m2 k a.1 a.2 := by kernel_rfl
theorem yoc (k : Nat) : MutOk Try.prog 28 (yoa k) :=
  mutOk_of_ev (ynr k) Try.func28 (by kernel_rfl) (by kernel_rfl) yo5 yo6 yo7
    (fun l b a h => by unfold yo7 at h; split at h <;> first | (cases h; exact ⟨rfl, rfl⟩) | cases h) (fun a => rfl) (lpgood_of (l := [(0, ynt)]) (by kernel_rfl) ⟨yo4 k, trivial⟩) (fun a r => rfl)
    (fun a o r h => by unfold yo9 at h; split at h <;> first | (skip; cases h; rfl) | cases h) (yob k)
def yod (k : Nat) : Orc := mutOrc [.keep, .keep] (yoa k)
theorem yoe (k : Nat) : OrcOk Try.prog 28 (yod k) := mutOrc_ok (yoc k)
noncomputable def yof (k : Nat) : Env := { P := Try.prog, tt := tt, orc := fun g => noOrc }
theorem yog (k : Nat) : EnvOk (yof k) := fun g => (noOrc_ok _ _)
noncomputable def yoh : Code := (Try.f22.body).getD .skip
noncomputable def yoi : Code := ((loopsIn 0 yoh).getD 0 (0, .skip)).2
def yoj : List Nat := [0, 1, 5]
def yok : List (Where × Co) := []
def yol : Ex → List Nat
  | .exit j => cond (Nat.beq j 0) [1] []
  | .ret => [4]
  | .normal => []
def yom : Ex → List (Where × Co)
  | .exit j => cond (Nat.beq j 0) [] []
  | .ret => []
  | .normal => []
def yon (pv : (List Int) × (Int × Int)) : St := { slots := [(0, .r [] (.sl (.int .u8) pv.1)), (1, .r [] (.int .i64 pv.2.1)), (5, .r [] (.int .i64 pv.2.2))], heap := [], nid := 0, n := 22, gh := [] }
def yoo (nf : NF) : Option ((List Int) × (Int × Int)) := match nf with
  | ([.r [] (.sl (.int .u8) w0), .r [] (.int .i64 w1), .r [] (.int .i64 w2)], [], []) => some (w0, (w1, w2))
  | _ => none
theorem yop (nf : NF) (v : (List Int) × (Int × Int)) (h : yoo nf = some v) : denorm yoj 22 nf = yon v := by
  unfold yoo at h
  split at h
  · cases h; rfl
  · cases h
def yoq (p : List Int) (x : Int) : St := { slots := [(1, .r [] (.int .i64 x))], heap := [], nid := 0, n := 22, gh := [] }
def yor (p : List Int) (x : Int) : St := { slots := [(4, .r [] (.int .i64 x))], heap := [], nid := 0, n := 22, gh := [] }
def yos (ρ : Type) (k : Nat) : Nat → Ev ρ → Ev ρ := fun id f => cond (Nat.beq id 0) (loopOrc yoj yok (fun n nf => cond (Nat.beq n 22) (yoo nf) none) fun pv K => iter (fun v next => L_heldByteS_g0 k pv.1 v next (fun x => K (.exit 0) (yoq pv.1 x)) (fun x => K .ret (yor pv.1 x))) k pv.2) ((fun _ _ _ _ => none) id f)
theorem yot {ρ : Type} (k : Nat) (p : List Int) (v : Int × Int) (K K1 : Ex → St → Option ρ) : ev (yof k) (yos ρ k) 0 yoi (yon (p, v)) (fun e st' => match e with
    | .normal => (normC yoj yok st').bind fun nf => K1 .normal (denorm yoj st'.n nf)
    | e => (normC (yol e) (yom e) st').bind fun nf => K e (denorm (yol e) st'.n nf)) = L_heldByteS_g0 k p v (fun v' => K1 .normal (yon (p, v'))) (fun x => K (.exit 0) (yoq p x)) (fun x => K .ret (yor p x)) := by kernel_rfl
theorem you {ρ : Type} (k : Nat) : Sound Try.prog (.loop yoi) (yos ρ k 0 fun st K => ev (yof k) (yos ρ k) 0 yoi st K) :=
  loop_ok (ev_sound (yog k) yoi 0 (lpgood_none (by kernel_rfl))) yol yom k (g := fun p v next K => L_heldByteS_g0 k p v next (fun x => K (.exit 0) (yoq p x)) (fun x => K .ret (yor p x))) (dec_at yop) (fun p v K K1 => yot k p v K K1)
def yov (a : List Int × Int) : List Arg := [.one (.sl (.int .u8) a.1), .one (.int .i64 a.2)]
def yow (l : List Arg) : Option (List Int × Int) := match l with
  | [.one (.sl (.int .u8) b0), .one (.int .i64 b1)] => some (b0, b1)
  | _ => none
def yox (r : Int) : Out := (.r [] (.int .i64 r), [])
def yoy (o : Out) : Option (Int) := match o with
  | (.r [] (.int .i64 z1), []) => some z1
  | _ => none
def yoz (k : Nat) : PG := fun _ l K => (yow l).bind fun a => (L_heldByteS k a.1 a.2).bind fun r => K (yox r)
theorem yp0 (k : Nat) (a : List Int × Int) : ev (yof k) (yos (Int) k) 0 yoh (st0 Try.f22 (yov a)) (fin Try.prog Try.f22 (.sc) yoy) = L_heldByteS k a.1 a.2 := by kernel_rfl
theorem yp1 (k : Nat) : PureOk Try.prog 22 (yoz k) :=
  pureOk_of_ev (yog k) Try.func22 (by kernel_rfl) (by kernel_rfl) yov yow
    (fun l a h => by unfold yow at h; split at h <;> first | (cases h; rfl) | cases h) (fun a => rfl) (lpgood_of (l := [(0, yoi)]) (by kernel_rfl) ⟨you k, trivial⟩)
    (fun o r h => by unfold yoy at h; split at h <;> first | (cases h; rfl) | cases h) (yp0 k)
def yp2 (k : Nat) : Orc := pureOrc [.one (.sl (.int .u8)), .one (.int .i64)] (yoz k)
theorem yp3 (k : Nat) : OrcOk Try.prog 22 (yp2 k) := pureOrc_ok (yp1 k)
noncomputable def yp4 (k : Nat) : Env := { P := Try.prog, tt := tt, orc := fun g => cond (Nat.beq g 18) (yjt k) (cond (Nat.beq g 21) (ymz k) (cond (Nat.beq g 22) (yp2 k) (cond (Nat.beq g 23) (y2h k) (cond (Nat.beq g 24) (ydc k) (cond (Nat.beq g 25) (y5k k) (cond (Nat.beq g 26) (yj4 k) (cond (Nat.beq g 27) (yma k) (cond (Nat.beq g 28) (yod k) (noOrc))))))))), wr := fun g => mem g [21, 28], wt := true }
theorem yp5 (k : Nat) : EnvOk (yp4 k) := fun g => (orc_cond (yju k) (orc_cond (yn0 k) (orc_cond (yp3 k) (orc_cond (y2i k) (orc_cond (ydd k) (orc_cond (y5l k) (orc_cond (yj5 k) (orc_cond (ymb k) (orc_cond (yoe k) (noOrc_ok _ _))))))))))
noncomputable def yp6 : Code := (Try.f4.body).getD .skip
def yp7 (ρ : Type) (k : Nat) : Nat → Ev ρ → Ev ρ := fun _ _ _ _ => none
def yp8 (a : List Step) : List Arg := [.one (.sl (.st .step) a)]
def yp9 (l : List Arg) : Option (List Step) := match l with
  | [.one (.sl (.st .step) b0)] => some b0
  | _ => none
def ypa (r : Bool) : Out := (.r [] (.bool r), [])
def ypb (o : Out) : Option (Bool) := match o with
  | (.r [] (.bool z1), []) => some z1
  | _ => none
def ypc (k : Nat) : PG := fun _ l K => (yp9 l).bind fun a => (L_FnExactTraceOf k a).bind fun r => K (ypa r)
theorem ypd (k : Nat) (a : List Step) : ev (yp4 k) (yp7 (Bool) k) 0 yp6 (st0 Try.f4 (yp8 a)) (fin Try.prog Try.f4 (.sc) ypb) = L_FnExactTraceOf k a := by kernel_rfl
theorem ype (k : Nat) : PureOk Try.prog 4 (ypc k) :=
  pureOk_of_ev (yp5 k) Try.func4 (by kernel_rfl) (by kernel_rfl) yp8 yp9
    (fun l a h => by unfold yp9 at h; split at h <;> first | (cases h; rfl) | cases h) (fun a => rfl) (lpgood_none (by kernel_rfl))
    (fun o r h => by unfold ypb at h; split at h <;> first | (cases h; rfl) | cases h) (ypd k)
end
end Go.Proofs.Ev
